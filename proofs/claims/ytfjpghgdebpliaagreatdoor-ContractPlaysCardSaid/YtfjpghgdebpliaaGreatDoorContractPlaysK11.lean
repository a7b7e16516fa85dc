/- Lemmas. -/
import Derived.Lib.Bytealg
import Derived.WalkMore
import Derived.Test.YtfjpghgdebpliaaGreatDoorContractPlaysK20
set_option linter.unusedSimpArgs false
set_option linter.unusedVariables false
set_option maxRecDepth 100000
set_option maxHeartbeats 16000000
namespace Go.Proofs.YtfjpghgdebpliaaGreatDoor
attribute [local irreducible] wpG
open Go.Proofs.Tryz
open Go.RowKit Oct
def IA (s:q):q:=if s.getLast?=some 10 then s.dropLast else s
theorem rowsV_keys (j:Jb):∀ (L:LQ_) (ag:LP_),oR (ee j ag L).1=oR ag++L.map hk1∨(ee j ag L).1=[]
 | [],ag=>.inl (by simp[ee])
 | g::L,ag=>by
  rw[ee]
  split
  ·exact .inr rfl
  ·rcases rowsV_keys j L (ag++[(hk1 g,(valuesJ j (g.map (·.2))).1)]) with h|h
   ·refine .inl ?_
    rw[h];simp[oR]
   ·exact .inr h
theorem yC (j:Jb)(ac:LQ_):GB (dg j ac).1=true:=by
 unfold dg
 split
 ·rcases rowsV_keys j (grp (srt ac.flatten)) [] with h|h
  ·have h1:=(iC (srt ac.flatten).length (srt ac.flatten) (I6 _) (dW _)).2
   unfold GB;rw[h];have e:oR []++(grp (srt ac.flatten)).map hk1=(grp (srt ac.flatten)).map hk1:=rfl;rw[e,pV];intro k hk;rw[Js]at hk;rw[List.getElem_map,List.getElem_map];exact h1 k hk
  ·rw[h];rfl
 ·rfl
abbrev Wr:Type:=Nat×Nat×Nat×q

theorem qi {j:Jb}(h:bK j=true):(cR j).length≤10000:=by
 obtain⟨m1,m2,m3⟩:=qw h;have l1:=ey m1;have l2:=ey m2;have l3:=ey m3;have b1:=gY m1;have b2:=gY m2;have b3:=gY m3;unfold cR iB;simp only[Jh,Jq,aZ];omega
theorem Fj (t1 c1 t2 c2 t3 c3:V_)(j:Jb)(w:Z)(h:dD w t1 c1 t2 c2 t3 c3 j)(hm:bK j=true):R_ 34 #[bM t1 c1 t2 c2 t3 c3 j] w (.tuple #[s_ (cU (cR j)),F 0]):=by
 have HP:=O (fun w' (hB:Bw_ w w')=>by
  have ap:=wE t1 c1 t2 c2 t3 c3 j w' (h.below hB);rw[show vM j=.tuple #[s_ (cR j),F 0] from if_pos hm]at ap;exact ap)
 have HS:=O (qi hm);obtain⟨b,a⟩:=H (cR j);rw[←a]at HP HS⊢;clear a;obtain⟨ta,tc,ca,cc,aV,bd,be,bf,bg,bh,bi,bk,rfl,rfl,rfl,rfl,rfl,rfl⟩:=jo_ h.a.t h.a.c h.b.t h.b.c h.c.t h.c.c;unfold bM at HP⊢;obtain⟨W1,aA⟩:=H (w.alloc (.cells #[.slice ta j.mt.length tc,.slice ca j.mc.length cc,.slice aV j.jt.length bd,.slice be j.jc.length bf,.slice bg j.tt.length bh,.slice bi j.tc.length bk,F j.parts,F j.fuel] 27));have a8:=ba_ aA;obtain⟨J,hJ⟩:=H w.heap.size;have hx:=bn_ hJ aA;obtain⟨x0,x1,x2,x3,x4,x5,x6,x7⟩:=cl8 hx;have a_:=O a8;go_enter func34,ntmps34;go_upto_region 1 with fail;rw[←aA,←hJ];clear aA hJ a8 hx h;go_wp2_with (first|(go_at_call 55;refine mB_ (HP.o _ a_.o) a_ fun w2 a9=>?_)|(go_at_call 37;refine mB_ (uv b w2 (Jc HS.o d_)) a9 fun w3 aW=>?_));go_ret2;exact⟨rfl,aW.o⟩
section
attribute [local go_sem] Oper.semAt_some
end
theorem RR.oneI {w:Z}{u:V_}{p:LP_}(h:RP w u p):RR (w.alloc (.cells #[u] 29)) (.slice (some ⟨w.heap.size,0,none⟩) 1 1) [p]:=by
 refine⟨_,1,rfl,I6 _,(fun ap=>by cases ap),fun k hk=>?_⟩;have e:k=0:=by simp at hk;omega
 subst e;exact⟨_,0,u,rfl,by simp[World.cell?_alloc_new],h.below (af _ _)⟩
section
attribute [local go_sem] Oper.semAt_some
end