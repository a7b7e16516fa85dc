/- Lemmas. -/
import Derived.Test.YtfjpghgdebpliaaGreatDoorContractPlaysK18
import Derived.Test.YtfjpghgdebpliaaGreatDoorContractPlaysK21
set_option linter.unusedSimpArgs false
set_option linter.unusedVariables false
set_option maxRecDepth 100000
set_option maxHeartbeats 16000000
namespace Go.Proofs.YtfjpghgdebpliaaGreatDoor
attribute [local irreducible] wpG
open Go.Proofs.Tryz
open Go.RowKit Oct
def em (j:Jb):q→LL_→q×Nat
 | s,[]=>(s,0)
 | s,v::r=>if (vmV j.jt j.jc 2 [s,v] j.fuel).1≠0 then ([],(vmV j.jt j.jc 2 [s,v] j.fuel).1) else em j (vmV j.jt j.jc 2 [s,v] j.fuel).2.2 r
def valuesJ (j:Jb)(l:LL_):q×Nat:=if bK j=true∧0<l.length then em j (l.headD []) l.tail else ([],2)
theorem sO {j:Jb}{s v:q}{r:LL_}(h:(vmV j.jt j.jc 2 [s,v] j.fuel).1≠0):em j s (v::r)=([],(vmV j.jt j.jc 2 [s,v] j.fuel).1):=by rw[em,if_pos h]
theorem wP {j:Jb}{s v:q}{r:LL_}(h:(vmV j.jt j.jc 2 [s,v] j.fuel).1=0):em j s (v::r)=em j (vmV j.jt j.jc 2 [s,v] j.fuel).2.2 r:=by rw[em,if_neg (fun ap=>ap h)]
theorem sN (j:Jb)(n:Nat)(hn:1024≤n):∀ (r:LL_) (s:q),s.length≤n→(em j s r).1.length≤n
 | [],s,h=>h
 | v::r,s,h=>by
  rw[em]
  split
  ·simp
  ·exact sN j n hn r _ (Jc (pE _ _ _ _ _) hn)
def ee (j:Jb):LP_→LQ_→LP_×q×Nat
 | ag,[]=>(ag,[],0)
 | ag,g::L=>if (valuesJ j (g.map (·.2))).2≠0 then ([],hk1 g,(valuesJ j (g.map (·.2))).2) else ee j (ag++[(hk1 g,(valuesJ j (g.map (·.2))).1)]) L
def dg (j:Jb)(ac:LQ_):LP_×q×Nat:=if bK j=true then ee j [] (grp (srt ac.flatten)) else ([],[],2)
theorem A9 {j:Jb}{ag:LP_}{g:LP_}{L:LQ_}(h:(valuesJ j (g.map (·.2))).2≠0):ee j ag (g::L)=([],hk1 g,(valuesJ j (g.map (·.2))).2):=by rw[ee,if_pos h]
theorem Dh {j:Jb}{ag:LP_}{g:LP_}{L:LQ_}(h:(valuesJ j (g.map (·.2))).2=0):ee j ag (g::L)=ee j (ag++[(hk1 g,(valuesJ j (g.map (·.2))).1)]) L:=by rw[ee,if_neg (fun ap=>ap h)]
def ofR (ac:LQ_)(k:q):LL_:=(db k ac.flatten).map (·.2)
def fY (j:Jb)(ac:LQ_):LP_→LL_→LP_×q×Nat
 | ag,[]=>(ag,[],0)
 | ag,k::o=>if (valuesJ j (ofR ac k)).2≠0 then ([],k,(valuesJ j (ofR ac k)).2) else fY j ac (ag++[(k,(valuesJ j (ofR ac k)).1)]) o
theorem BM {j:Jb}{ac:LQ_}{ag:LP_}{k:q}{o:LL_}(h:(valuesJ j (ofR ac k)).2≠0):fY j ac ag (k::o)=([],k,(valuesJ j (ofR ac k)).2):=by rw[fY,if_pos h]
theorem DV {j:Jb}{ac:LQ_}{ag:LP_}{k:q}{o:LL_}(h:(valuesJ j (ofR ac k)).2=0):fY j ac ag (k::o)=fY j ac (ag++[(k,(valuesJ j (ofR ac k)).1)]) o:=by rw[fY,if_neg (fun ap=>ap h)]
theorem mY (j:Jb)(ac:LQ_):∀ (L:LQ_) (ag:LP_),(∀ g∈L,g=db (hk1 g) ac.flatten)→fY j ac ag (L.map hk1)=ee j ag L
 | [],ag,_=>rfl
 | g::L,ag,h=>by
  have hg:ofR ac (hk1 g)=g.map (·.2):=by unfold ofR;rw[←h g (Jn ..)]
  rw[List.map_cons,fY,ee,hg]
  split
  ·rfl
  ·exact mY j ac L _ (fun x hx=>h x (Jo _ hx))
theorem yQ (j:Jb)(ac:LQ_):fY j ac [] ((grp (srt ac.flatten)).map hk1)=ee j [] (grp (srt ac.flatten)):=by
 refine mY j ac _ _ (fun g hg=>?_);have h:=((iC (srt ac.flatten).length (srt ac.flatten) (I6 _) (dW _)).1 g hg).1;rw[nP]at h;exact h
theorem zh {j:Jb}{x:q}{r:LL_}(h:bK j=true):valuesJ j (x::r)=em j x r:=if_pos ⟨h,Nat.succ_pos _⟩
theorem LF {T:Prop} (h:T:=by
 go_wp2_with (go_at_call 15;refine mB_ (E.o _ a_.o) a_ fun w2 a9=>?_);go_ret2;rw[HR.o];exact⟨rfl,a9.o⟩
):T:=h
theorem rC (t1 c1 t2 c2 t3 c3 v:V_)(j:Jb)(l:LL_)(w:Z)(h:dD w t1 c1 t2 c2 t3 c3 j)(hv:aP.Row w v l)(hl:l.length≤140737488355328)(hb:∀ s∈l,s.length≤140737488355328):R_ 111 #[bM t1 c1 t2 c2 t3 c3 j,v] w (.tuple #[s_ (valuesJ j l).1,F ((valuesJ j l).2:Int)]):=by
 have E:=O (fun w' (hB:Bw_ w w')=>jM t1 c1 t2 c2 t3 c3 j w' (h.below hB));have i:=O (fun (s u:q) (h1:s.length≤140737488355328) (h2:u.length≤140737488355328) w' (hB:Bw_ w w')=>vJ t1 c1 t2 c2 t3 c3 j s u w' (h.below hB) h1 h2);obtain⟨ta,tc,ca,cc,aV,bd,be,bf,bg,bh,bi,bk,rfl,rfl,rfl,rfl,rfl,rfl⟩:=jo_ h.a.t h.a.c h.b.t h.b.c h.c.t h.c.c;obtain⟨av,cv,rfl,_,hc⟩:=au hv;unfold bM at E i⊢;have bz:=O hc;have K:=O hb;obtain⟨W1,aA⟩:=H (w.alloc (.cells #[.slice ta j.mt.length tc,.slice ca j.mc.length cc,.slice aV j.jt.length bd,.slice be j.jc.length bf,.slice bg j.tt.length bh,.slice bi j.tc.length bk,F j.parts,F j.fuel] 27));have a8:=ba_ aA;obtain⟨J,hJ⟩:=H w.heap.size;have hx:=bn_ hJ aA;obtain⟨x0,x1,x2,x3,x4,x5,x6,x7⟩:=cl8 hx;have a_:=O a8;have HX:=O hx;go_enter func111,ntmps111;go_upto_region 1 with fail;rw[←aA,←hJ];clear aA hJ a8 hx h hv hc hb
 by_cases hm:bK j=true
 ·rw[hm]at E
  cases l with
  | nil =>
   have HR:=O (show valuesJ j []=([],2) from if_neg (fun ap=>absurd ap.2 (Nat.lt_irrefl 0)));clear hm;exact LF
  | cons p0 r =>
   have HR:=O (zh (x:=p0) (r:=r) hm);clear hm;obtain⟨L,hL⟩:=H (p0::r);have c:=O (show L.drop 1=r by rw[hL];rfl);have cG:1≤L.length:=by rw[hL];simp
   obtain⟨o,o0,aE,d0⟩:=bz.o 0 i_;subst aE;have aB:=O (show w.cell? ⟨o,o0,none⟩=some (s_ p0) from d0);have cJ:=O (K.o p0 (Jn ..));clear d0;rw[←hL]at bz K hl;rw[←hL];have z0:0<(L.length:Int):=Y;have z1:((L.length:Int)==0)=false:=by rw[beq_eq_false_iff_ne];omega
   clear hL;go_upto_region 4 with(go_at_call 15;refine(E.o _ a_.o).mono ?_;rintro e w2⟨rfl,ax⟩;have aR:=O (HX.o.below ax);have d1:=IF (bt a_.o ax) aB.o;have a9:=O (bt a_.o ax);clear ax x0 x1 x2 x3 x4 x5 x6 x7);clear d1;go_wp2_with fail
   go_loopw [6,7] (fun a b wr=>∃ (k:Nat) (s:q),1≤k∧k≤L.length∧a=s_ s∧b=F k∧Hid (em j s (L.drop k)=em j p0 r)∧Hid (s.length≤140737488355328)∧Hid (Bw_ w2 wr)) (fun _ b _=>L.length-(intOf b).toNat)
   case atStart=>exact⟨1,p0,by omega,cG,rfl,rfl,(by show em j p0 (L.drop 1)=em j p0 r;rw[c.o]),cJ.o,Ja _ _⟩
   case round =>
    obtain⟨k,s,hk1,hk,rfl,rfl,n,aU,m⟩:=hrel
    by_cases h0:k<L.length
    ·obtain⟨b,aL,hA,e1⟩:=bz.o k h0
     cases hA
     have bo:=K.o _ (Jz h0);have aJ:L.drop k=L[k]::L.drop (k+1):=JP h0;obtain⟨v,I⟩:=H (L[k]);rw[←I]at e1 bo aJ;have HD:=O aJ;have aF:=bt a9.o m.o;replace e1:=IF aF e1;have f:=aR.o.below m.o;have HG:=O (i.o s v aU.o bo wr.drew (bt aF (b_drew _)));have ad:=pE j.jt j.jc 2 [s,v] j.fuel;have i0:=nn_ k;have i1:(k:Int)<L.length:=Y;obtain⟨R,hR⟩:=H (vmV j.jt j.jc 2 [s,v] j.fuel);rw[←hR]at HG ad;obtain⟨N,ag,aw,t⟩:=zH4 hR ad h0 hk1;obtain⟨x0,x1,x2,x3,x4,x5,x6,x7⟩:=cl8 f;clear hR aJ I aF bo ad h0 f hk1
     by_cases hz:R.1=0
     ·have t1:((R.1:Int) != 0)=false:=by rw[hz];rfl
      have HQ:=O (show em j s (v::L.drop (k+1))=em j R.2.2 (L.drop (k+1)) by rw[N.o];exact wP (by rw[←N.o];exact hz));clear hz;go_wp2_with fail;go_region_law (refine aN rfl 147 #[.agg #[.slice ta j.mt.length tc,.slice ca j.mc.length cc,.slice aV j.jt.length bd,.slice be j.jc.length bf,.slice bg j.tt.length bh,.slice bi j.tc.length bk,F j.parts,F j.fuel],s_ s,s_ v] yzc HG.o ?_;rintro e w7⟨rfl,aH⟩;have aK:=O (bt m.o (bt (b_drew wr) aH));clear aH)
      all_goals
       go_wp2_with fail;go_roundw
       case rel=>exact⟨k+1,R.2.2,by omega,aw.o,rfl,by go_num,by rw[←HQ.o,←HD.o];exact n.o,Jc ag.o d_,aK.o⟩
       case measure=>have:=aw.o;simp[intOf];omega
     ·have t1:((R.1:Int) != 0)=true:=by rw[bne_iff_ne];omega
      have HQ:=O (show em j s (v::L.drop (k+1))=([],R.1) by rw[N.o];exact sO (by rw[←N.o];exact hz));clear hz;go_wp2_with fail;go_region_law (refine aN rfl 147 #[.agg #[.slice ta j.mt.length tc,.slice ca j.mc.length cc,.slice aV j.jt.length bd,.slice be j.jc.length bf,.slice bg j.tt.length bh,.slice bi j.tc.length bk,F j.parts,F j.fuel],s_ s,s_ v] yzc HG.o ?_;rintro e w7⟨rfl,aH⟩;have aK:=O (bt m.o (bt (b_drew wr) aH));clear aH)
      all_goals
       go_wp2_with fail;go_ret2;rw[HR.o,←n.o,HD.o,HQ.o];exact⟨rfl,bt a9.o aK.o⟩
    ·have i1:¬(k:Int)<L.length:=Y
     have HE:=O (show em j p0 r=(s,0) by rw[←n.o,List.drop_eq_nil_of_le Y];rfl);clear h0;go_wp2_with fail;go_ret2;rw[HR.o,HE.o];exact⟨rfl,bt a9.o m.o⟩
 ·have a0:bK j=false:=by cases ap:bK j with
   | false=>rfl
   | true=>exact absurd ap hm
  rw[a0]at E;have HR:=O (show valuesJ j l=([],2) from if_neg (fun ap=>hm ap.1));clear hm a0;exact LF
def du (z:q)(l:LP_):LL_:=(db z l).map (·.2)
theorem rT (z:q)(a b:LP_):du z (a++b)=du z a++du z b:=by unfold du;rw[g6,Jf]
theorem rS (z:q)(l:LP_):(du z l).length≤l.length:=by unfold du db;rw[Js];exact List.length_filter_le _ _
theorem AN (z:q)(p:PR):du z [p]=if p.1=z then [p.2] else []:=by
 unfold du db
 by_cases h:p.1=z
 ·rw[if_pos h];simp[h]
 ·rw[if_neg h];simp[h]
theorem FT {α:Type}(l:List α)(k:Nat)(h:k<l.length):l.take (k+1)=l.take k++[l[k]]:=JB h
theorem bdF (z:q)(ac:LQ_)(i:Nat)(h:i<ac.length)(hf:ac.flatten.length≤1000000):(du z (ac.take i).flatten).length+ac[i].length≤1000000:=by
 have h1:=rS z (ac.take i).flatten;have h2:=ui ac (i+1);rw[lz ac i h,Jh]at h2;omega
theorem Bm (v:V_)(z:q)(ac:LQ_)(w:Z)(hr:RR w v ac)(hl:ac.length≤140737488355328)(hf:ac.flatten.length≤1000000)(hm:∀ r∈ac,r.length≤1000000):C_ 112 #[v,s_ z] w fun e w'=>(∃ u,e=.returned u∧aP.Own w' w.heap.size u (du z ac.flatten))∧Bw_ w w':=by
 obtain⟨a,ah,rfl,_,_,hc⟩:=hr;obtain⟨HC,HM,HF⟩:=zH3 hc hm hf;clear hc hm hf;go_enter func112,ntmps112;go_wp2
 go_loopw [5,6] (fun u t wr=>∃ i:Nat,i≤ac.length∧t=F i∧Hid (aP.Own wr w.heap.size u (du z (ac.take i).flatten))∧Hid (Bw_ w wr)) (fun _ t _=>ac.length-(intOf t).toNat)
 case atStart=>exact⟨0,by omega,rfl,Rec.Own.nil _ _,Ja _ _⟩
 case round =>
  obtain⟨i,hi,rfl,HO,HB⟩:=hrel;obtain⟨ao,co,rfl⟩:=ay HO.o
  by_cases h0:i<ac.length
  ·obtain⟨b1,o1,u,rfl,d1,B⟩:=HC.o i h0
   obtain⟨a2,c2,rfl,-,aZ⟩:=B.open;have L:=O aZ;have HD:=O d1;have ad:=HM.o ac[i] (Jz h0);have D:=bdF z ac i h0 HF.o;have HT:=O (show du z (ac.take (i+1)).flatten=du z (ac.take i).flatten++du z ac[i] by rw[lz ac i h0,rT]);obtain⟨r,hr⟩:=H (ac[i]);rw[←hr]at L HD ad D HT;obtain⟨d,hO⟩:=H (du z (ac.take i).flatten);rw[←hO]at HO D HT;have A:=congrArg List.length hO;obtain⟨Wr,bp⟩:=H wr;subst bp;have ar:=nn_ i;have a5:(i:Int)<ac.length:=Y;have HI:=O h0;have bo:=O D;rw[←A];clear aZ hr d1 hO A h0 D B;go_wp2
   go_loopw [5,7] (fun u t wx=>∃ (k:Nat) (I:LL_),k≤r.length∧I.length≤k∧t=F k∧Hid (aP.Own wx w.heap.size u (d++I))∧Hid (I=du z (r.take k))∧Hid (Bw_ w wx)) (fun _ t _=>r.length-(intOf t).toNat)
   case atStart=>exact⟨0,[],by omega,I6 _,rfl,by rw[Jy];exact HO.o,rfl,HB.o⟩
   case round =>
    obtain⟨k,I,hk,n,rfl,f,j,a9⟩:=hrel;obtain⟨ai,ci,rfl⟩:=ay f.o;have s:=IF a9.o HD.o;have l:=nn_ k
    by_cases h3:k<r.length
    ·obtain⟨b3,o3,rfl,e1,e2⟩:=L.o k h3
     have b:=O (show du z (r.take (k+1))=du z (r.take k)++(if r[k].1=z then [r[k].2] else []) by rw[FT r k h3,rT,AN]);obtain⟨p,hp⟩:=H (r[k]);rw[←hp]at e1 e2 b;replace e1:=IF a9.o e1;replace e2:=IF a9.o e2;have c:(k:Int)<r.length:=Y;have ak:=O (show((d++I).length+1)*16≤140737488355328 by rw[Jh];have:=bo.o;omega);have H3:=O h3;have o:=n;clear hp h3
     by_cases he:p.1=z
     ·have t1:(p.1==z)=true:=by simp[he]
      rw[if_pos he]at b;clear he;go_wp2_with (at_builtin;go_must (refine aP.append1 wr p.2 rfl _ _ 22 rfl underlying22 w.heap.size _ (d++I) f.o rfl _ rfl _ rfl _ rfl ak.o a9.o.size ?_);intro g ah w8 m aG;have aO:=O m;have aU:=O aG;clear m aG);go_roundw
      case rel=>exact⟨k+1,I++[p.2],H3.o,by rw[Jh];simp;omega,by go_num,by have ap:=aO.o;rw[Jh,Jg]at ap;exact ap,(show I++[p.2]=du z (r.take (k+1)) by rw[b.o,←j.o]),a9.o.trans aU.o⟩
      case measure=>have:=H3.o;simp[intOf];omega
     ·have t1:(p.1==z)=false:=by simp[he]
      rw[if_neg he,Jy]at b;clear he;go_wp2_with fail;go_roundw
      case rel=>exact⟨k+1,I,H3.o,by omega,by go_num,f.o,(show I=du z (r.take (k+1)) by rw[b.o];exact j.o),a9.o⟩
      case measure=>have:=H3.o;simp[intOf];omega
    ·have c:¬(k:Int)<r.length:=Y
     have X:=O (show I=du z r by rw[j.o,I5 Y]);clear h3;go_wp2_with fail;go_roundw
     case rel=>exact⟨i+1,HI.o,by go_num,by rw[HT.o,←X.o];exact f.o,a9.o⟩
     case measure=>have:=HI.o;simp[intOf];omega
  ·have a5:¬(i:Int)<ac.length:=Y
   have HE:=O (show du z (ac.take i).flatten=du z ac.flatten by rw[I5 Y]);clear h0;go_wp2_with fail;go_ret;exact⟨⟨_,rfl,by rw[←HE.o];exact HO.o⟩,HB.o⟩

theorem AO {z:q}{l:LP_}(hm:∀ p∈l,p.2.length≤140737488355328):∀ s∈du z l,s.length≤140737488355328:=by
 intro s hs;obtain⟨p,hp,rfl⟩:=List.mem_map.1 hs;exact hm p (List.mem_filter.1 hp).1
theorem Ih {a b:Nat}(h:a≤b)(hb:b≤1000000):(a+1)*32≤140737488355328:=Y
theorem D9 (l:LP_):((grp (srt l)).map hk1).length≤l.length:=by
 rw[Js];have h1:=dI (srt l).length (srt l) (I6 _);rw[cy]at h1;exact h1
theorem vG (t1 c1 t2 c2 t3 c3 v:V_)(j:Jb)(ac:LQ_)(w:Z)(h:dD w t1 c1 t2 c2 t3 c3 j)(hr:RR w v ac)(hl:ac.length≤1000000)(hf:ac.flatten.length≤1000000)(hm:∀ r∈ac,r.length≤1000000)(hp:∀ p∈ac.flatten,p.2.length≤140737488355328):C_ 76 #[bM t1 c1 t2 c2 t3 c3 j,v] w fun e w'=>(∃ pv,e=.returned (.tuple #[pv,s_ (dg j ac).2.1,F ((dg j ac).2.2:Int)])∧recKv.Own w' w.heap.size pv (dg j ac).1)∧Bw_ w w':=by
 have E:=O (fun w' (hB:Bw_ w w')=>jM t1 c1 t2 c2 t3 c3 j w' (h.below hB));have af:=O (fun (u:V_) (l:LL_) w' (hB:Bw_ w w') hv h1 h2=>rC t1 c1 t2 c2 t3 c3 u j l w' (h.below hB) hv h1 h2);have aC:=O (fun (k:q) w' (hB:Bw_ w w')=>Bm v k ac w' (hr.below hB) (Jc hl d_) hf hm);obtain⟨ta,tc,ca,cc,aV,bd,be,bf,bg,bh,bi,bk,rfl,rfl,rfl,rfl,rfl,rfl⟩:=jo_ h.a.t h.a.c h.b.t h.b.c h.c.t h.c.c;obtain⟨av,cv,rfl,_,_,hc⟩:=hr;unfold bM at E af⊢;obtain⟨bz,HF,HP,HM⟩:=zH4 hc hf hp hm;obtain⟨W1,aA⟩:=H (w.alloc (.cells #[.slice ta j.mt.length tc,.slice ca j.mc.length cc,.slice aV j.jt.length bd,.slice be j.jc.length bf,.slice bg j.tt.length bh,.slice bi j.tc.length bk,F j.parts,F j.fuel] 27));have a8:=ba_ aA;obtain⟨J,hJ⟩:=H w.heap.size;have hx:=bn_ hJ aA;obtain⟨x0,x1,x2,x3,x4,x5,x6,x7⟩:=cl8 hx;have a_:=O a8;have HX:=O hx;go_enter func76,ntmps76;go_upto_region 1 with fail;rw[←aA,←hJ];clear aA hJ a8 hx h hc hf hp hm
 by_cases V:bK j=true
 ·rw[V]at E
  have HR:=O (show dg j ac=fY j ac [] ((grp (srt ac.flatten)).map hk1) from(if_pos V).trans (yQ j ac).symm);clear V;go_upto_region 5 with(go_at_call 15;refine(E.o _ a_.o).mono ?_;rintro e w2⟨rfl,ax⟩;have aR:=O (HX.o.below ax);have a9:=O (bt a_.o ax);clear ax x0 x1 x2 x3 x4 x5 x6 x7)
  go_loopw [7,8] (fun u t wr=>∃ i:Nat,i≤ac.length∧t=F i∧Hid (OP wr w2.heap.size u (ac.take i).flatten)∧Hid (Bw_ w2 wr)) (fun _ t _=>ac.length-(intOf t).toNat)
  case atStart=>exact⟨0,by omega,rfl,OP.nil _ _,Ja _ _⟩
  case round =>
   obtain⟨i,hi,rfl,HO,HB⟩:=hrel;obtain⟨ao,co,rfl⟩:=ay HO.o
   by_cases h0:i<ac.length
   ·obtain⟨b1,o1,u,rfl,d1,B⟩:=bz.o i h0
    have bS:=ui ac (i+1);have b9:=lz ac i h0;have U:=B.below (bt a9.o HB.o);obtain⟨a2,c2,rfl,-,-⟩:=B.open;have d2:=IF (bt a9.o HB.o) d1;have HU:=O U;have ar:=nn_ i;have a5:(i:Int)<ac.length:=Y;rw[b9,Jh]at bS;have ak:=O (show((ac.take i).flatten.length+ac[i].length)*32≤140737488355328 by have:=HF.o;omega);have a6:=O b9;have HI:=O h0;obtain⟨d,hO⟩:=H ((ac.take i).flatten);rw[←hO]at HO ak a6;obtain⟨r,hr⟩:=H (ac[i]'h0);rw[←hr]at ak;rw[←hr]at a6;rw[←hr]at d2;rw[←hr]at HU;have A:=congrArg List.length hO;have aI:=congrArg List.length hr;rw[←A];clear bS b9 B U d1 hO hr A aI h0;go_wp2_with (at_builtin;go_must (refine ed wr rfl _ _ 29 rfl underlying29 w2.heap.size _ d rfl HO.o _ r rfl HU.o ak.o HB.o.size ?_);intro v8 w8 m aG;have aO:=O m;have aU:=O aG;clear m aG);go_roundw
    case rel=>exact⟨i+1,HI.o,by go_num,by rw[a6.o];exact aO.o,HB.o.trans aU.o⟩
    case measure=>have:=HI.o;simp[intOf];omega
   ·have a5:¬(i:Int)<ac.length:=Y
    have HE:=O (show(ac.take i).flatten=ac.flatten by rw[I5 Y]);rw[HE.o]at HO;obtain⟨b,I⟩:=H ac.flatten;have W:=O I;rw[HE.o,←I];rw[←I]at HO HR;have aF:b.length≤1000000:=by rw[I];exact HF.o
    have HK:=O (Bn _ b wr (OP.reads HO.o) aF);obtain⟨n,X⟩:=H ((grp (srt b)).map hk1);have bq:n.length≤1000000:=by rw[X];exact Jc (D9 b) aF
    rw[←X]at HK HR;clear I h0 X;go_upto_region 11 with(go_at_call 110;refine HK.o.mono ?_;rintro e w3⟨⟨ku,rfl,M⟩,al⟩;obtain⟨ka,kc,rfl⟩:=ay M;have az:=O M;have aW:=O (bt HB.o al);clear M al);have bF:=O (show aP.Own w3 wr.heap.size (.slice ka n.length kc) n by unfold Rec.Own;rw[iP];exact az.o);obtain⟨_,_,bV,_,aa⟩:=au bF.o.row;injection bV with q1 _ q3
    subst q1 q3;obtain⟨aj,a4,a7⟩:=zH3 aa (aR.o.below aW.o) (bt a9.o aW.o);clear aa az HO aF HK
    go_loopw [10,11] (fun u t wx=>∃ (k:Nat) (ag:LP_),k≤n.length∧ag.length≤k∧t=F k∧Hid (recKv.Own wx w3.heap.size u ag)∧Hid (fY j ac ag (n.drop k)=fY j ac [] n)∧Hid (Bw_ w3 wx)) (fun _ t _=>n.length-(intOf t).toNat)
    case atStart=>exact⟨0,[],by omega,I6 _,rfl,Rec.Own.nil _ _,rfl,Ja _ _⟩
    case round =>
     obtain⟨k,ag,hk,b4,rfl,HO,b8,ba⟩:=hrel;obtain⟨ao,co,rfl⟩:=ay HO.o
     by_cases h0:k<n.length
     ·obtain⟨kb,ko,hA,e1⟩:=aj.o k h0
      subst hA;have aJ:n.drop k=n[k]::n.drop (k+1):=JP h0;obtain⟨z,D⟩:=H (n[k]'h0);rw[←D]at e1;rw[←D]at aJ;have HD:=O aJ;have aN:=IF ba.o e1;have ai:=a4.o.below ba.o;have an:=O ai;have aZ:=bt a7.o ba.o;have bN:=O aZ;have ab:(du z b).length≤1000000:=Jc (rS z b) (by rw[W.o];exact HF.o);have ae:=O ab
      have br:=O (fun w' (hB:Bw_ w w')=>show C_ 112 _ w' fun e bc=>(∃ u,e=.returned u∧aP.Own bc w'.heap.size u (du z b))∧Bw_ w' bc by
       have ap:=aC.o z w' hB;rw[←W.o]at ap;exact ap)
      have b6:=O (fun (u:V_) w' (hB:Bw_ w w') hv=>af.o u (du z b) w' hB hv (Jc ae.o d_) (AO (by rw[W.o];exact HP.o)));have s:=O (show ofR ac z=du z b by rw[W.o];rfl);obtain⟨VL,aB⟩:=H (du z b);obtain⟨R,hR⟩:=H (valuesJ j VL);rw[←aB]at br b6 s;rw[←hR]at b6;have N:=O hR;have i0:=nn_ k;have i1:(k:Int)<n.length:=Y;have aw:=O h0;have ak:=O (Ih b4 (Jc hk bq));clear aJ D e1 aZ ab aB hR h0 ai;go_upto_region 13 with fail;refine rk_ [(0,.exact _ (.agg #[.slice ta j.mt.length tc,.slice ca j.mc.length cc,.slice aV j.jt.length bd,.slice be j.jc.length bf,.slice bg j.tt.length bh,.slice bi j.tc.length bk,F j.parts,F j.fuel])),(5,.exact _ (s_ z)),(6,wC aP 0 VL),(7,.exact _ (.tuple #[s_ R.1,F R.2]))] ?_;refine cG ?_;refine gj_ (fun w' G hB hS hG=>?_) ?_
      ·have hx:=an.o.below hB
       obtain⟨y0,y1,y2,y3,y4,y5,y6,y7⟩:=cl8 hx;go_simp;exact hG _ (Bel.refl _)
      refine gj_ (fun w' G hB hS hG=>?_) ?_
      ·have y:=IF hB aN
       go_simp;exact hG _ (Bel.refl _)
      refine gk_ (wC aP 0 VL) (fun w' G hB hS hG=>?_) (fun x K hK=>?_)
      ·go_simp
       refine(br.o w' (bt bN.o hB)).mono ?_;rintro e bc⟨⟨u,rfl,ho⟩,ax⟩;obtain⟨ua,uc,rfl⟩:=ay ho;exact⟨_,rfl,hG (ua,uc) bc ax (fun φ h=>by cases h;exact ho.mono (Jl _))⟩
      obtain⟨ad,c⟩:=x;refine cO ?_;clear hK K;refine gj_ (fun w' G hB hS hG=>?_) ?_
      ·have f:aP.Own w' 0 (.slice ad VL.length c) VL:=at0 hS q_
       have hu:=b6.o _ w' (bt bN.o hB) f.row;go_simp;exact aT hG hu
      refine eQ ?_;intro w7 aH bp;obtain⟨aK,bI,bl⟩:=zH3 (bt ba.o aH) (HO.o.below aH) (show w3.heap.size≤w7.heap.size from Jc ba.o.size aH.size);have e7:=IF aH aN;clear bp aH aN
      by_cases hz:R.2=0
      ·have t1:((R.2:Int) != 0)=false:=by rw[hz];rfl
       have HQ:=O (show fY j ac ag (z::n.drop (k+1))=fY j ac (ag++[(z,R.1)]) (n.drop (k+1)) by rw[N.o,←s.o];exact DV (by rw[s.o,←N.o];exact hz));clear hz;go_wp2_with (at_builtin;go_must (refine recKv.append1 w7 (z,R.1) rfl _ _ 29 rfl underlying29 w3.heap.size _ ag bI.o rfl _ rfl _ rfl _ rfl ak.o bl.o ?_);intro g ah w8 m aG;have aO:=O m;have aU:=O aG;clear m aG);go_roundw
       case rel=>exact⟨_,_,_,_,_,⟨k+1,aw.o,ag++[(z,R.1)],by rw[Jh];simp;omega,by go_num,by first|exact aO.o|(rw[Jh];exact aO.o),(show fY j ac (ag++[(z,R.1)]) (n.drop (k+1))=fY j ac [] n by rw[←HQ.o,←HD.o];exact b8.o),aK.o.trans aU.o⟩,rfl,rfl,rfl,rfl,rfl⟩
       case measure=>have:=aw.o;simp[intOf];omega
      ·have t1:((R.2:Int) != 0)=true:=by rw[bne_iff_ne];omega
       have HQ:=O (show fY j ac ag (z::n.drop (k+1))=([],z,R.2) by rw[N.o,←s.o];exact BM (by rw[s.o,←N.o];exact hz));clear hz;go_wp2_with fail;go_quiet (fail);go_wp2_with fail;go_ret3;rw[HR.o,←b8.o,HD.o,HQ.o];exact⟨⟨_,rfl,Rec.Own.nil _ _⟩,bt a7.o (bt aK.o (II _ _))⟩
     ·have i1:¬(k:Int)<n.length:=Y
      have HE:=O (show fY j ac [] n=(ag,[],0) by rw[←b8.o,List.drop_eq_nil_of_le Y];rfl);clear h0;go_wp2_with fail;go_ret3;rw[HR.o,HE.o];exact⟨⟨_,rfl,HO.o.mono a7.o.size⟩,bt a7.o ba.o⟩
 ·have a0:bK j=false:=by cases ap:bK j with
   | false=>rfl
   | true=>exact absurd ap V
  rw[a0]at E;have HR:=O (show dg j ac=([],[],2) from if_neg V);clear V a0;go_wp2_with (go_at_call 15;refine mB_ (E.o _ a_.o) a_ fun w2 a9=>?_);go_ret3;rw[HR.o];exact⟨⟨_,rfl,Rec.Own.nil _ _⟩,a9.o⟩
section
attribute [local go_sem] Oper.semAt_some
def mF (U:Z)(Q:Nat):Option Nat:=(U.cell? ⟨Q,0,none⟩).bind Value.ownBlock
def YrF (Q D:Nat)(U U':Z):Prop:=U.heap.size≤U'.heap.size∧(∀ k,k<U.heap.size→k≠Q→k≠D→k≠D+1→mF U Q≠some k→U'.heap[k]?=U.heap[k]?)∧∀ k,mF U' Q=some k→mF U Q=some k∨U.heap.size≤k
theorem nK {Q:Nat}{U U':Z}(h:U'.heap[Q]?=U.heap[Q]?):mF U' Q=mF U Q:=by unfold mF;rw[World.cell?_of_block (w:=U) (a:=⟨Q,0,none⟩) h]
theorem YrF.comp {Q D:Nat}(hQ:Q<D)(a b c d:Z)(hs:Q<a.heap.size)(h1:Chg (fun k=>k=D∨k=D+1) a b)(h:YrF Q D b c)(h2:Chg (fun k=>k=D∨k=D+1) c d):YrF Q D a d:=by
 have e1:mF b Q=mF a Q:=nK (h1.block Q hs Y);have q:=h1.size;have s2:=h.1;have s3:=h2.size;have e2:mF d Q=mF c Q:=nK (h2.block Q Y Y);refine⟨by omega,fun k hk k1 k2 k3 k4=>?_,fun k hk=>?_⟩
 ·exact((h2.block k Y Y).trans (h.2.1 k Y k1 k2 k3 (by rw[e1];exact k4))).trans (h1.block k hk Y)
 ·rw[e2]at hk
  rcases h.2.2 k hk with ap|ap
  ·exact .inl (by rw[←e1];exact ap)
  ·exact .inr Y
def ElF (D:Nat)(x:LP_)(vs:AV_)(U:Z):Prop:=∃ A C,vs=#[.string (bs (hk1 x)),.slice A x.length C]∧aP.Own U (D+2) (.slice A x.length C) (x.map (·.2))
def IvF (Q D:Nat)(W0 U:Z):Prop:=W0.heap.size≤U.heap.size∧(∀ k,k<W0.heap.size→k≠Q→k≠D→k≠D+1→U.heap[k]?=W0.heap[k]?)∧∀ k,mF U Q=some k→W0.heap.size≤k
theorem IvF.below {Q D:Nat}{W0 U U':Z}(hQ:Q<W0.heap.size)(h:IvF Q D W0 U)(hB:Bw_ U U'):IvF Q D W0 U':=by
 have K:=h.1;have q:=hB.size;refine⟨by omega,fun k hk k1 k2 k3=>(hB.block k Y).trans (h.2.1 k hk k1 k2 k3),fun k hk=>h.2.2 k ?_⟩;rw[←nK (hB.block Q Y)];exact hk
theorem IvF.yr {Q D:Nat}{W0 U U':Z}(h:IvF Q D W0 U)(hY:YrF Q D U U'):IvF Q D W0 U':=by
 have K:=h.1;have q:=hY.1;refine⟨by omega,fun k hk k1 k2 k3=>(hY.2.1 k Y k1 k2 k3 (fun ap=>by have:=h.2.2 k ap;omega)).trans (h.2.1 k hk k1 k2 k3),fun k hk=>?_⟩;rcases hY.2.2 k hk with ap|ap
 ·exact h.2.2 k ap
 ·omega
theorem IvF.cell {Q D:Nat}{W0 U:Z}(h:IvF Q D W0 U)(hQ:∀ o u,W0.cell? ⟨Q,o,none⟩=some u→u=e_)(hD:∀ o,W0.cell? ⟨D,o,none⟩=none)(s:∀ o,W0.cell? ⟨D+1,o,none⟩=none){b o:Nat}{u:V_}(hu:W0.cell? ⟨b,o,none⟩=some u)(aI:u≠e_):U.cell? ⟨b,o,none⟩=some u:=by
 rw[World.cell?_of_block (w:=W0) (a:=⟨b,o,none⟩) (h.2.1 b (aG hu) (fun ap=>aI (hQ o u (by rw[←ap];exact hu))) (fun ap=>by subst ap;rw[hD]at hu;cases hu) (fun ap=>by subst ap;rw[s]at hu;cases hu))];exact hu
theorem qX {b:Nat}{w w':Z}(h:w'.heap[b]?=w.heap[b]?)(o:Nat):w'.cell? ⟨b,o,none⟩=w.cell? ⟨b,o,none⟩:=World.cell?_of_block (w:=w) (a:=⟨b,o,none⟩) h
theorem Fm {W0 U:Z}{Q D:Nat}{a:OA_}{ah:Nat}{L:LQ_}(h:IvF Q D W0 U)(hQ:∀ o u,W0.cell? ⟨Q,o,none⟩=some u→u=e_)(hD:∀ o,W0.cell? ⟨D,o,none⟩=none)(s:∀ o,W0.cell? ⟨D+1,o,none⟩=none)(hr:RR W0 (.slice a L.length ah) L)(aI:∀ g∈L,0<g.length)(i:Nat)(hi:i<L.length):∃ b1 o1 a2 c2,a=some ⟨b1,o1,none⟩∧U.cell? ⟨b1,o1+i,none⟩=some (.slice a2 L[i].length c2)∧∀ k (hk:k<L[i].length),∃ b3 o3,a2=some ⟨b3,o3,none⟩∧U.cell? ⟨b3,o3+k*2,none⟩=some (s_ L[i][k].1)∧U.cell? ⟨b3,o3+k*2+1,none⟩=some (s_ L[i][k].2):=by
 obtain⟨a',aK,hv,-,-,hc⟩:=hr;injection hv with q1 _ _
 subst q1;obtain⟨b1,o1,u,h1,h2,h3⟩:=hc i hi;obtain⟨a2,c2,rfl,-,bm⟩:=h3.open;have ab:=aI L[i] (Jz hi);refine⟨b1,o1,a2,c2,h1,h.cell hQ hD s h2 (fun ap=>by injection ap with _ q2 _;omega),fun k hk=>?_⟩;obtain⟨b3,o3,r1,r2,r3⟩:=bm k hk;exact⟨b3,o3,r1,h.cell hQ hD s r2 (fun ap=>by cases ap),h.cell hQ hD s r3 (fun ap=>by cases ap)⟩
end
section
attribute [local go_sem] Oper.semAt_some
theorem Ik {a c:Nat}(h:a≤1000000)(hc:c<a):(c+1)*16≤140737488355328:=Y
theorem Mo {T:Prop} (h:T:=by
 have h1:=(iC (srt ac.flatten).length (srt ac.flatten) (I6 _) (dW _)).1 g hg;have h2:g.length≤(srt ac.flatten).length:=by rw[h1.1];unfold db;exact List.length_filter_le _ _
 rw[cy]at h2;exact Jc h2 hf
):T:=h
theorem M3 {T:Prop} (h:T:=by
 have h1:=dI (srt ac.flatten).length (srt ac.flatten) (I6 _);rw[cy]at h1;exact Jc h1 hf
):T:=h
theorem uh (n X Q D:Nat)(v:V_)(ac:LQ_)(W:Z)(hX:Blk W X 32 [v])(hr:RR W v ac)(hl:ac.length≤1000000)(hf:ac.flatten.length≤1000000)(hQ:Blk W Q 29 [e_])(bq:Q<D)(hD:D+2≤W.heap.size)(az:∀ o,W.cell? ⟨D,o,none⟩=none)(s:∀ o,W.cell? ⟨D+1,o,none⟩=none):tb Fence.wide n prog 103 #[p_ X] (fun U U'=>Bw_ U U') (fun U U'=>Q<U.heap.size→YrF Q D U U') (fun _=>True) (ElF D) (grp (srt ac.flatten)) W:=by
 intro l J Jx hJ ag hY aj;refine callsIn_wide.2 ?_;obtain⟨HJ,aE,HY⟩:=zH3 hJ ag hY;have HM:=O (Cl v ac W hr (Jc hl d_) (Jc (JO 32 hf) d_));have HG:=O (fun (u:V_) (w':Z) (h:OP w' W.heap.size u (srt ac.flatten))=>zD u (srt ac.flatten) w' (OP.reads h) (by rw[cy];exact Jc (JO 32 hf) d_));have aI:∀ g∈grp (srt ac.flatten),0<g.length:=yZ _ _ (I6 _)
 have am:∀ g∈grp (srt ac.flatten),g.length≤1000000:=fun g hg=>by
  exact Mo
 have al:(grp (srt ac.flatten)).length≤1000000:=by
  exact M3
 have c0:=hX.c 0;rw[ER]at HG;obtain⟨L,aw⟩:=H (grp (srt ac.flatten));rw[←aw]at HG HY aI am al⊢;obtain⟨a1,ce,HQ,aB,bC,w⟩:=zH6 aI am hQ az s aj;obtain⟨av,cv,rfl,-,-,-⟩:=hr;clear hJ ag hY aj hX aI am hQ az s aw;go_enter func103,ntmps103;go_wp2_with (first|(go_at_call 105;refine HM.o.mono ?_;rintro e w1⟨mv,rfl,aH,aF⟩;obtain⟨G,I,rfl⟩:=ay aH;have B:=O (HG.o _ _ aH);have a_:=O aF;clear aH aF c0)|(go_at_call 104;refine B.o.mono ?_;rintro e w2⟨a,bZ,cells,rfl,f,c,-,ax⟩;obtain⟨M,gc,rfl⟩:=ay f;have aD:=O (dB.rr f c);have a9:=O (bt a_.o ax);clear f c ax))
 have C:=O (show ∀ o u,w2.cell? ⟨Q,o,none⟩=some u→u=e_ from fun o u hu=>by
  have hq:w2.heap[Q]?=some (.cells #[e_] 29 (0,0)):=HQ.o.below a9.o
  cases o with
  | zero=>have:=cell_of_one hq;rw[this]at hu;injection hu with hu;exact hu.symm
  | succ o=>simp[World.cell?,hq]at hu)
 have cf:=O (show ∀ o,w2.cell? ⟨D,o,none⟩=none from fun o=>by rw[qX (a9.o.block D Y)];exact aB.o o);have dn:=O (show ∀ o,w2.cell? ⟨D+1,o,none⟩=none from fun o=>by rw[qX (a9.o.block (D+1) Y)];exact bC.o o)
 have y:=O (show IvF Q D w2 w2 from⟨I6 _,fun _ _ _ _ _=>rfl,fun k hk=>by
  have hq:w2.heap[Q]?=some (.cells #[e_] 29 (0,0)):=HQ.o.below a9.o;unfold mF at hk;rw[cell_of_one hq]at hk;simp[Value.ownBlock]at hk⟩)
 have a4:=O (HJ.o _ _ _ w.o a9.o);have ar:=a9.o.size;have x:Q<w2.heap.size:=Y;clear HQ aB bC B HG HM w hl hf
 go_loopw [12] (fun t wr=>∃ i:Nat,i≤L.length∧t=F i∧Hid (IvF Q D w2 wr)∧Hid (J (L.take i) wr)) (fun t _=>L.length-(intOf t).toNat)
 case atStart=>exact⟨0,by omega,rfl,y.o,a4.o⟩
 case round =>
  clear y a4;obtain⟨i,hi,rfl,HI,j⟩:=hrel;have i0:=nn_ i
  by_cases h0:i<L.length
  ·obtain⟨b1,o1,a2,c2,rfl,d1,bm⟩:=Fm HI.o C.o cf.o dn.o aD.o a1.o i h0
   have ab:=a1.o L[i] (Jz h0);have q:=ce.o L[i] (Jz h0);have HT:=O (show L.take (i+1)=L.take i++[L[i]] from JB h0);have r:=O (show L.take i++[L[i]] <+: L from⟨L.drop (i+1),by rw[←JB h0];exact List.take_append_drop _ _⟩);obtain⟨g,hg⟩:=H (L[i]'h0);rw[←hg]at d1 bm ab q HT r;have bz:=O bm;have HH:=O h0;have i1:(i:Int)<L.length:=Y;obtain⟨Wr,bp⟩:=H wr;subst bp;clear bm hg h0;go_wp2
   go_loopw [5,18] (fun u t wx=>∃ k:Nat,k≤g.length∧t=F k∧Hid (aP.Own wx Wr.heap.size u ((g.take k).map (·.2)))∧Hid (Bw_ Wr wx)) (fun _ t _=>g.length-(intOf t).toNat)
   case atStart=>exact⟨0,by omega,rfl,Rec.Own.nil _ _,Ja _ _⟩
   case round =>
    obtain⟨k,hk,rfl,HO,HB⟩:=hrel;obtain⟨ao,co,rfl⟩:=ay HO.o;have k0:=nn_ k
    by_cases h3:k<g.length
    ·obtain⟨b3,o3,rfl,e1,e2⟩:=bz.o k h3
     have b:=O (show(g.take (k+1)).map (·.2)=(g.take k).map (·.2)++[g[k].2] by rw[FT g k h3,Jf];rfl);have b4:((g.take k).map (·.2)).length=k:=by rw[Js,JH];omega
     obtain⟨p,hp⟩:=H (g[k]'h3);rw[←hp]at e1 e2 b;obtain⟨d,hO⟩:=H ((g.take k).map (·.2));rw[←hO]at HO b b4;have A:=congrArg List.length hO;rw[←A];replace e1:=IF HB.o e1;replace e2:=IF HB.o e2;have k1:(k:Int)<g.length:=Y;have ak:=O (show(d.length+1)*16≤140737488355328 by rw[b4];exact Ik q h3);have H3:=O h3;have a3:=O b4;clear hp hO A h3 b4;have bw:=O (bt HB.o (af wr (.cells #[s_ p.1,s_ p.2] 64)));go_wp2_with (at_builtin;go_must (refine aP.append1 (wr.alloc (.cells #[s_ p.1,s_ p.2] 64)) p.2 rfl _ _ 22 rfl underlying22 Wr.heap.size _ d (HO.o.below (af _ _)) rfl _ (by rw[bP];rfl) _ rfl _ rfl ak.o bw.o.size ?_);intro g8 ah w8 m aG;have aO:=O m;have aU:=O (bw.o.trans aG);clear m aG);go_roundw
     case rel=>exact⟨k+1,H3.o,by go_num,by rw[b.o];exact aO.o,aU.o⟩
     case measure=>have:=H3.o;simp[intOf];omega
    ·have k1:¬(k:Int)<g.length:=Y
     obtain rfl:k=g.length:=Y;obtain⟨b3,o3,rfl,e1,-⟩:=bz.o 0 ab;replace e1:=IF HB.o e1;rw[GL g ab,Nat.zero_mul,Nat.add_zero]at e1
     have S:=O (show aP.Own wr (D+2) (.slice ao g.length co) (g.map (·.2)) by
      have ap:=HO.o;have a0:((g.take g.length).map (·.2)).length=g.length:=by rw[I5 (I6 _),Js]
      rw[a0,I5 (I6 _)]at ap;exact ap.mono (by have:=HI.o.1;omega))
     have a0:((g.take g.length).map (·.2)).length=g.length:=by rw[I5 (I6 _),Js]
     rw[a0];have bG:=O HB.o;have p1:0<(g.length:Int):=Y;have E:=O (HJ.o _ _ _ j.o HB.o);have z:=O (HI.o.below x HB.o);clear HO a0 j HB h3;go_upto_region 9 with fail;refine(wpIn_wide (n:=n)).1 ?_;obtain⟨fn,tm,aA,aC,hy,an⟩:=HY.o (L.take i) g #[s_ (hk1 g),.slice ao g.length co] wr E.o ⟨ao,co,rfl,S.o⟩ r.o;gi_wp2;refine⟨fun h=>(by cases h),?_⟩;refine an.mono ?_;rintro e W7 (⟨rfl,aq,ai⟩|⟨rfl,K⟩)
     ·gi_wp2
      go_wp2;exact⟨⟨i+1,HH.o,by go_num,z.o.yr (ai (Jr x z.o.1)),by rw[HT.o];exact aq⟩,by have:=HH.o;simp[intOf];omega⟩
     ·gi_wp2
      go_wp2;refine bodyPost_ret (results_none rfl _ _ _) rfl ?_;exact⟨⟨_,rfl⟩,.inr ⟨_,r.o,K⟩⟩
  ·have i1:¬(i:Int)<L.length:=Y
   have HE:=O (show L.take i=L from I5 Y);clear h0;go_wp2;go_end0;exact⟨⟨_,rfl⟩,.inl (by rw[←HE.o];exact j.o)⟩
end
section
attribute [local go_sem] Oper.semAt_some
section
variable {α:Type}
theorem Rec.append1G {am:Fence}{k:Nat}{aM:Array Oper}{rest:LO_}{o:Oper}{a:Act}{Q:Exit→Act→Z→Prop}(R:Rec α)(w:Z)(p:α)(av:o.guard=none)(s x:Operand)(t:T_)(ho:o.op=.call { callee:=.builtin .append,args:=#[s,x],argTypes:=#[t,t] })(ht:prog.underlying t=some (.slice R.e))(bZ:Nat)(v:V_)(xs:List α)(aw:R.Own w bZ v xs)(hs:a.eval s=v)(c:Nat)(hx:a.eval x=.slice (some ⟨w.heap.size,0,none⟩) 1 c)(cs:AV_)(aR:cs=(R.cell p).toArray)(e:T_)(he:e=R.e)(d:(xs.length+1)*R.bytes≤140737488355328)(aB:bZ≤w.heap.size)(h:∀ g ah w',R.Own w' bZ (.slice (some ⟨g,0,none⟩) (xs.length+1) ah) (xs++[p])→Chg (fun k=>v.ownBlock=some k) w w'→(v.ownBlock=some g∨w.heap.size≤g)→wpListIn am k prog aM Q rest (a.put o.dst (.slice (some ⟨g,0,none⟩) (xs.length+1) ah)) w'):wpListIn am k prog aM Q (o::rest) a (w.alloc (.cells cs e)):=by
 subst aR he;obtain⟨i,hi,hz,ao,aG⟩:=info_parts R.info;have hn:xs.length+1≤(xs.length+1)*R.bytes:=Nat.le_mul_of_pos_right _ R.bpos
 obtain⟨g,ah,w',aO,r1,r2,r3,-⟩:=run_append_lies (P:=prog) (w.alloc (.cells (R.cell p).toArray R.e)) t o.type bZ R.e i R.z R.n R.bytes ht hi hz ao aG R.zs R.pos v xs.length (R.cells xs) (World.ownsRow.alloc aw _) ⟨w.heap.size,0,none⟩ 1 c (R.cell p) (by simpa using R.len p)
  (fun j u hj=>by
   have:j<(R.cell p).length:=by
    exact Mw
   rw[Addr.add_lit,I9,World.cell?_alloc_new];simpa using hj) (R.one p) d_ yzb d yza _ rfl
 refine wpListIn_plain av fun K l=>?_;have hB:B_ bZ w w':=((Ja bZ w).alloc aB _).grown r2 yza (fun k hk=>(Rec.Own.ltV aw k hk).1);unfold Oper.wpIn;refine⟨?_,?_⟩
 ·simp[Oper.about,ho,resolve,Target.leads,Sem.run_pure]
 ·rw[Oper.semAt_plain am _ _ (by rw[ho];intro c m;cases m)]
  simp[execOp,ho,resolve,invoke,builtin,hs,hx,aO,Result.andThen];refine l _ _ (h g ah w' ?_ ⟨hB.os,hB.tape,hB.output,hB.size,fun j hj aI=>?_⟩ ?_)
  ·unfold Rec.Own;rw[R.cells_append,Jh,Rec.cells,Rec.cells,Jy];exact r1
  ·rw[r2.block j yza (fun e=>aI e.symm)]
   exact Below.heap_alloc _ _ _ hj
  ·rcases r3 with r3|r3
   ·exact .inl r3
   ·exact .inr (by simp at r3;omega)
end
theorem jb {P:Program}{fn:Func}{p ap r:Tmp}{ty a tr:T_}{aE:AV_}{w:Z}{v u x:V_}{b c d:Nat}(hr:fn.results=#[.cell p ty,.cell ap a,.cell r tr])(hp:aE.getD p undef=p_ b)(hq:aE.getD ap undef=p_ c)(e:aE.getD r undef=p_ d)(hl:(loadVar ty ⟨b,0,none⟩).run P w=.ok v w)(a0:(loadVar a ⟨c,0,none⟩).run P w=.ok u w)(a4:(loadVar tr ⟨d,0,none⟩).run P w=.ok x w):(results fn aE).run P w=.ok (.tuple #[v,u,x]) w:=by
 simp only[Array.getD_eq_getD_getElem?]at hp hq e⊢;simp[results,hr,Sem.run_bind,Result.andThen,hp,hq,e,asAddr,hl,a0,a4]
theorem tO {U:Z}{Q:Nat}{t:T_}{v:V_}(h:Blk U Q t [v]):mF U Q=v.ownBlock:=by
 unfold mF;rw[h.c 0]
 rfl
theorem zg {Q D g n ah:Nat}{v:V_}{t:T_}{U2 w3 w8:Z}(hQ:Q<D)(hb:Blk U2 Q t [v])(hB:Bw_ U2 w3)(hc:Chg (fun k=>v.ownBlock=some k) w3 w8)(hg:v.ownBlock=some g∨w3.heap.size≤g)(aC:∀ k,v.ownBlock=some k→D+2≤k):eX D U2 (w8.setCell ⟨Q,0,none⟩ (.slice (some ⟨g,0,none⟩) n ah))∧YrF Q D U2 (w8.setCell ⟨Q,0,none⟩ (.slice (some ⟨g,0,none⟩) n ah)):=by
 have hl:=hb.lt;have q:=hB.size;have s2:=hc.size
 have hx:Chg (fun k=>k=Q∨v.ownBlock=some k) U2 (w8.setCell ⟨Q,0,none⟩ (.slice (some ⟨g,0,none⟩) n ah)) :=
  ((IG hB).trans (hc.mono fun k hk=>.inr hk)).trans (Chg.setCell w8 ⟨Q,0,none⟩ _ (.inl rfl))
 have K:Blk w8 Q t [v]:=(hb.below hB).chg hc (fun ap=>by have:=aC Q ap;omega);have ab:=K.set 0 (.slice (some ⟨g,0,none⟩) n ah);refine⟨I_ hx (fun k hk ap=>?_),⟨hx.size,fun k hk k1 k2 k3 k4=>hx.block k hk (fun ap=>?_),fun k hk=>?_⟩⟩
 ·rcases ap with ap|ap
  ·omega
  ·have:=aC k ap;omega
 ·rcases ap with ap|ap
  ·exact k1 ap
  ·exact k4 (by rw[tO hb];exact ap)
 ·rw[tO (v:=.slice (some ⟨g,0,none⟩) n ah) ab]at hk
  have z:g=k:=by simpa[Value.ownBlock] using hk
  subst z;rw[tO hb];rcases hg with hg|hg
  ·exact .inl hg
  ·exact .inr Y
structure FI (J Q B E D:Nat) (w:Z) (jc:LV_) (j:Jb) (pre:LQ_) (U:Z):Prop where
 job:Blk U J 27 jc
 row:∃ v out,Blk U Q 29 [v]∧recKv.Own U (D+2) v out∧out.length≤pre.length∧∀ rest,ee j [] (pre++rest)=ee j out rest
 bad:∃ x,Blk U B 9 [x]
 err:∃ x,Blk U E 37 [x]
 bel:Bw_ w U
theorem FI.below {J Q B E D:Nat}{w:Z}{b:LV_}{j:Jb}{aj:LQ_}{U U':Z}(h:FI J Q B E D w b j aj U)(hB:Bw_ U U'):FI J Q B E D w b j aj U':=by
 obtain⟨v,ag,h1,h2,h3,h4⟩:=h.row;obtain⟨x,hx⟩:=h.bad;obtain⟨y,hy⟩:=h.err;exact⟨h.job.below hB,⟨v,ag,h1.below hB,h2.below hB,h3,h4⟩,⟨x,hx.below hB⟩,⟨y,hy.below hB⟩,bt h.bel hB⟩
theorem FI.chg {J Q B E D:Nat}{w:Z}{b:LV_}{j:Jb}{aj:LQ_}{U U':Z}(hJ:J<D)(hQ:Q<D)(a:B<D)(hE:E<D)(hw:w.heap.size≤D)(h:FI J Q B E D w b j aj U)(hc:Chg (fun k=>k=D∨k=D+1) U U'):FI J Q B E D w b j aj U':=by
 obtain⟨v,ag,h1,h2,h3,h4⟩:=h.row;obtain⟨x,hx⟩:=h.bad;obtain⟨y,hy⟩:=h.err;exact⟨h.job.chg hc Y,⟨v,ag,h1.chg hc Y,eH h2 hc (fun k hk=>by omega),h3,h4⟩,⟨x,hx.chg hc Y⟩,⟨y,hy.chg hc Y⟩,h.bel.trans (hc.below (fun k hk=>by omega) h.bel.size)⟩
def FX (Q B E:Nat)(w:Z)(j:Jb)(c:Code)(aj:LQ_)(U:Z):Prop:=c=.ret∧Blk U Q 29 [.slice none 0 0]∧(∃ (z:q) (er:Nat),Blk U B 9 [.string (bs z)]∧Blk U E 37 [.int .i64 er]∧∀ rest,ee j [] (aj++rest)=([],z,er))∧Bw_ w U
theorem FX.below {Q B E:Nat}{w:Z}{j:Jb}{c:Code}{aj:LQ_}{U U':Z}(h:FX Q B E w j c aj U)(hB:Bw_ U U'):FX Q B E w j c aj U':=by
 obtain⟨h0,h1,⟨z,er,h2,h3,h4⟩,h5⟩:=h;exact⟨h0,h1.below hB,⟨z,er,h2.below hB,h3.below hB,h4⟩,bt h5 hB⟩
theorem FX.chg {Q B E D:Nat}{w:Z}{j:Jb}{c:Code}{aj:LQ_}{U U':Z}(hQ:Q<D)(a:B<D)(hE:E<D)(hw:w.heap.size≤D)(h:FX Q B E w j c aj U)(hc:Chg (fun k=>k=D∨k=D+1) U U'):FX Q B E w j c aj U':=by
 obtain⟨h0,h1,⟨z,er,h2,h3,h4⟩,h5⟩:=h;exact⟨h0,h1.chg hc Y,⟨z,er,h2.chg hc Y,h3.chg hc Y,h4⟩,h5.trans (hc.below (fun k hk=>by omega) h5.size)⟩
end
theorem gk {w:Z}{b:Nat}{v0:V_}(h0:w.cell? ⟨b,0,none⟩=some v0):(loadVar 9 ⟨b,0,none⟩).run prog w=.ok v0 w:=by
 go_simp
def Im (S E:Nat)(R:Nat×LX_×q)(e:Ending)(w w':Z):Prop :=
 e=.returned (.bool ((R.1:Int)==0))∧Blk w' S 9 [.string (bs R.2.2)]∧Blk w' E 37 [.int .i64 R.1]∧Chg (fun x=>x=S∨x=E) w w'
theorem CH (J S E:Nat)(t1 c1 t2 c2 t3 c3 x:V_)(j:Jb)(s v:q)(w:Z)(h:dD w t1 c1 t2 c2 t3 c3 j)(ay:bK j=true)(aT:dp w)(hJ:Blk w J 27 [t1,c1,t2,c2,t3,c3,F j.parts,F j.fuel])(hS:Blk w S 9 [s_ s])(hE:Blk w E 37 [x])(aI:S≠E)(h1:s.length≤140737488355328)(h2:v.length≤140737488355328):C_ 106 #[s_ v,p_ J,p_ S,p_ E] w fun e w'=>Im S E (vmV j.jt j.jc 2 [s,v] j.fuel) e w w':=by
 have i:=O (show _ from by
  have ap:=BQ t1 c1 t2 c2 t3 c3 j s v w h aT h1 h2;rw[yR ay]at ap;exact ap)
 obtain⟨R,hR⟩:=H (vmV j.jt j.jc 2 [s,v] j.fuel);rw[←hR]at i⊢;obtain⟨ta,tc,ca,cc,aV,bd,be,bf,bg,bh,bi,bk,rfl,rfl,rfl,rfl,rfl,rfl⟩:=jo_ h.a.t h.a.c h.b.t h.b.c h.c.t h.c.c;unfold bM at i;obtain⟨x0,x1,x2,x3,x4,x5,x6,x7⟩:=cl8 hJ;have K:=hS.c 0;have e0:=hE.c 0;obtain⟨HS,HE,a1⟩:=zH3 hS hE aI;clear h ay aT hJ hS hE aI h1 h2 hR;go_enter func106,ntmps106;go_wp2_with (go_at_call 107;refine i.o.mono ?_;rintro e w2⟨rfl,ax⟩;have ar:=HS.o.below ax;have af:=HE.o.below ax;have s2:=ar.c 0;have e2:=af.c 0;have fs:=ar.free (k:=0) i_;have fe:=af.free (k:=0) i_;have bj:=ar.lt;have aS:=af.lt;have aI:=a1.o;have b:=a1.o.symm;obtain⟨bA,a,a9⟩:=zH3 ar af ax;clear ax ar af K e0 x0 x1 x2 x3 x4 x5 x6 x7);go_ret;have y:Chg (fun x=>x=S∨x=E) w2 (w2.setCell ⟨S,0,none⟩ (s_ R.2.2)):=Chg.setCell _ _ _ (.inl rfl);have bJ:=bA.o.set 0 (s_ R.2.2);have c:=a.o.chg (X:=fun x=>x=S) (Chg.setCell w2 ⟨S,0,none⟩ (s_ R.2.2) rfl) (fun ap=>a1.o ap.symm);have g:=bJ.chg (X:=fun x=>x=E) (Chg.setCell _ ⟨E,0,none⟩ (F R.1) rfl) (fun ap=>a1.o ap);have d:=c.set 0 (F R.1);exact⟨rfl,g,d,((IG a9.o).trans y).trans (Chg.setCell _ _ _ (.inr rfl))⟩
theorem zi {j:Jb}{x:q}{r:LL_}(h:bK j=true):valuesJ j (x::r)=em j x r:=if_pos ⟨h,Nat.succ_pos _⟩
theorem LK {T:Prop} (h:T:=by
 clear hm t V;go_wp2_with (go_at_call 72;refine(f.o _ a9.o).mono ?_;rintro e w3⟨rfl,al⟩;have y:=HY.o.below al;have b:=HZ.o.below al;have s2:=y.c 0;have e2:=b.c 0;have fs:=y.free (k:=0) (by simp);have fe:=b.free (k:=0) (by simp);have bj:=y.lt;have aS:=b.lt;obtain⟨a',W,aW⟩:=zH3 y b (bt a9.o al);clear al y b x0 x1 x2 x3 x4 x5 x6 x7);have bJ:=a'.o.set 0 (.string ⟨#[]⟩);have c:=W.o.chg (X:=fun x=>x=J+1) (Chg.setCell w3 ⟨J+1,0,none⟩ (.string ⟨#[]⟩) rfl) (by simp);have g:=bJ.chg (X:=fun x=>x=J+1+1) (Chg.setCell _ ⟨J+1+1,0,none⟩ (.int .i64 2) rfl) (by simp);have d:=c.set 0 (.int .i64 2);refine bodyPost_ret (dZ rfl rfl rfl (gk (g.c 0)) (iq (d.c 0))) rfl ?_;rw[HR.o];exact⟨rfl,aW.o.trans ((Chg.trans (Chg.setCell w3 ⟨J+1,0,none⟩ (.string ⟨#[]⟩) (X:=fun x=>x=J+1∨x=J+1+1) (.inl rfl)) (Chg.setCell _ ⟨J+1+1,0,none⟩ (.int .i64 2) (.inr rfl))).below (fun x hx=>by have:=M.o;rcases hx with rfl|rfl<;>omega) aW.o.size)⟩
):T:=h
theorem uu (t1 c1 t2 c2 t3 c3 v:V_)(j:Jb)(l:LL_)(w:Z)(h:dD w t1 c1 t2 c2 t3 c3 j)(aT:dp w)(hv:aP.Row w v l)(hl:l.length≤140737488355328)(hb:∀ s∈l,s.length≤140737488355328):R_ 74 #[bM t1 c1 t2 c2 t3 c3 j,v] w (.tuple #[s_ (valuesJ j l).1,F ((valuesJ j l).2:Int)]):=by
 have f:=O (fun w' (hB:Bw_ w w')=>mi t1 c1 t2 c2 t3 c3 j w' (h.below hB));have V:=O (fun (hm:bK j=true) (J S E:Nat) (x:V_) (s v:q) w' (hB:Bw_ w w') hJ hS hE aI h1 h2=>CH J S E t1 c1 t2 c2 t3 c3 x j s v w' (h.below hB) hm (aT.below hB) hJ hS hE aI h1 h2);obtain⟨ta,tc,ca,cc,aV,bd,be,bf,bg,bh,bi,bk,rfl,rfl,rfl,rfl,rfl,rfl⟩:=jo_ h.a.t h.a.c h.b.t h.b.c h.c.t h.c.c;obtain⟨av,cv,rfl,_,hc⟩:=au hv;unfold bM at f⊢;obtain⟨bz,K,HV⟩:=zH3 hc hb hv;obtain⟨J,hJ⟩:=H w.heap.size;obtain⟨W0,a1⟩:=H (w.alloc (.cells #[.slice ta j.mt.length tc,.slice ca j.mc.length cc,.slice aV j.jt.length bd,.slice be j.jc.length bf,.slice bg j.tt.length bh,.slice bi j.tc.length bk,F j.parts,F j.fuel] 27));have bn:W0.heap.size=J+1:=by rw[a1,bP,hJ]
 obtain⟨W1,aA⟩:=H (W0.alloc (.cells #[.string ⟨#[]⟩] 9));have bp:W1.heap.size=J+1+1:=by rw[aA,bP,bn]
 obtain⟨W2,ae⟩:=H (W1.alloc (.cells #[F 0] 37));have B:=bn_ hJ a1;have aa:=ba_ a1;have a8:=ba_ aA;have aY:=ba_ ae;have hx:=(B.below a8).below aY
 have hy:Blk W2 (J+1) 9 [.string ⟨#[]⟩]:=by
  have ap:=bm_ aA;rw[bn]at ap;exact ap.below aY
 have hz:Blk W2 (J+1+1) 37 [F 0]:=by
  have ap:=bm_ ae
  rwa [bp]at ap
 obtain⟨a9,HX,HY,HZ⟩:=zH4 (bt (bt aa a8) aY) hx hy hz;have M:=O (show w.heap.size≤J by rw[hJ];exact I6 _);obtain⟨x0,x1,x2,x3,x4,x5,x6,x7⟩:=cl8 hx;go_enter func74,ntmps74;go_upto_region 1 with fail;rw[←hJ,←a1]
 try rw[bn]
 rw[←aA]
 try rw[bp]
 rw[←ae];clear hJ a1 aA ae bn bp B aa a8 aY hx hy hz h aT hv hc hb;obtain⟨ck,t⟩:=H (bO j);rw[←t]at f
 by_cases hm:bK j=true
 ·have t1:((ck.2.2:Int) != 0)=false:=by rw[t,wi hm];rfl
  cases l with
  | nil =>
   have HR:=O (show valuesJ j []=([],2) from if_neg (fun ap=>absurd ap.2 (Nat.lt_irrefl 0)));exact LK
  | cons p0 r =>
   have HR:=O (zi (x:=p0) (r:=r) hm);have af:=O (V.o hm);have bR:r.length≤140737488355328:=by rw[Jq]at hl;omega
   clear hl;clear hm t V;obtain⟨A,C,u,m,-⟩:=pJ HV.o 1 i_;have a5:(p0::r).length-1=r.length:=by simp
   rw[a5]at u m;have L:aP.Row w (.slice A r.length C) r:=m;obtain⟨_,_,bI,_,z⟩:=au L;injection bI with q1 _ q3
   subst q1 q3;obtain⟨o,o0,aE,d0⟩:=bz.o 0 i_;subst aE;have aO:∀ wx,(Instr.slice 22 (.slice (some ⟨o,o0,none⟩) (r.length+1) cv) (some (F 1)) none none).run prog wx=.ok (.slice A r.length C) wx:=fun wx=>u wx;have U:=O z;have ah:=O (show ∀ s∈r,s.length≤140737488355328 from fun s hs=>K.o s (Jo _ hs));have P:=O (K.o p0 (Jn ..));have ac:w.cell? ⟨o,o0,none⟩=some (s_ p0):=d0;have aB:=O ac;clear u m L z a5 d0 ac bz HV K;rw[show(p0::r).length=r.length+1 from rfl];go_upto_region 5 with(go_at_call 72;refine(f.o _ a9.o).mono ?_;rintro e w3⟨rfl,al⟩;have y:=HY.o.below al;have s2:=y.c 0;have fs:=y.free (k:=0) i_;have bj:=y.lt;have d1:=IF (bt a9.o al) aB.o;obtain⟨a4,a',W,aW⟩:=zH4 (HX.o.below al) y (HZ.o.below al) (bt a9.o al);clear al y x0 x1 x2 x3 x4 x5 x6 x7);obtain⟨W4,bw⟩:=H (w3.setCell ⟨J+1,0,none⟩ (s_ p0));have ar:Chg (fun x=>x=J+1∨x=J+1+1) w3 W4:=by rw[bw];exact Chg.setCell _ _ _ (.inl rfl)
   have aF:=O (show Blk W4 (J+1) 9 [s_ p0] by rw[bw];exact a'.o.set 0 _);have aj:=O (W.o.chg (X:=fun x=>x=J+1) (show Chg (fun x=>x=J+1) w3 W4 by rw[bw];exact Chg.setCell _ _ _ rfl) i_);have an:=O (a4.o.chg ar Y);have da:=O ar;rw[←bw];clear bw ar s2 fs bj d1;go_wp2_with fail
   go_loopw [32] (fun i wr=>∃ (k:Nat) (s:q),k≤r.length∧i=F k∧Hid (em j s (r.drop k)=em j p0 r)∧Hid (s.length≤140737488355328)∧Hid (Blk wr (J+1) 9 [s_ s])∧Hid (Blk wr (J+1+1) 37 [F 0])∧Hid (Chg (fun x=>x=J+1∨x=J+1+1) w3 wr)) (fun i _=>r.length-(intOf i).toNat)
   case atStart=>exact⟨0,p0,by omega,rfl,rfl,P.o,aF.o,aj.o,da.o⟩
   case round =>
    obtain⟨k,s,hk,rfl,n,aU,HS,HE,HC⟩:=hrel;have D:=a4.o.chg HC.o Y;have aZ:Bw_ w wr:=aW.o.trans (HC.o.below (fun x hx=>by have:=M.o;rcases hx with rfl|rfl<;>omega) aW.o.size)
    by_cases h0:k<r.length
    ·obtain⟨bb,aL,hA,e1⟩:=U.o k h0
     subst hA;have bo:=ah.o _ (Jz h0);have aJ:r.drop k=r[k]::r.drop (k+1):=JP h0;obtain⟨v,I⟩:=H (r[k]);rw[←I]at e1 bo aJ;have HD:=O aJ;replace e1:=IF aZ e1;have i0:=nn_ k;have i1:(k:Int)<r.length:=Y;have aw:=O h0;have HG:=O (af.o J (J+1) (J+1+1) _ s v wr aZ D HS.o HE.o Y aU.o bo);have ad:=pE j.jt j.jc 2 [s,v] j.fuel;obtain⟨R,hR⟩:=H (vmV j.jt j.jc 2 [s,v] j.fuel);rw[←hR]at HG ad;obtain⟨N,ag,a7⟩:=zH3 hR ad aZ;clear hR aJ I D aZ h0 bo ad
     by_cases hz:R.1=0
     ·have t1:((R.1:Int)==0)=true:=by rw[hz];rfl
      have HQ:=O (show em j s (v::r.drop (k+1))=em j R.2.2 (r.drop (k+1)) by rw[N.o];exact wP (by rw[←N.o];exact hz));have ak:=O hz;clear hz;go_wp2_with (go_at_call 106;refine HG.o.mono ?_;rintro e w7⟨rfl,G,a,ai⟩;obtain⟨bl,ab,bA⟩:=zH3 G a ai;clear G a ai);refine⟨⟨_,_,_,_,_,_,_,_,_,_,_,?rel,rfl⟩,?mes⟩
      case rel=>exact⟨k+1,R.2.2,aw.o,by go_num,by rw[←HQ.o,←HD.o];exact n.o,Jc ag.o d_,bl.o,by have ap:=ab.o;rw[ak.o]at ap;exact ap,HC.o.trans bA.o⟩
      case mes=>have:=aw.o;simp[intOf];omega
     ·have t1:((R.1:Int)==0)=false:=by rw[beq_eq_false_iff_ne];omega
      have HQ:=O (show em j s (v::r.drop (k+1))=([],R.1) by rw[N.o];exact sO (by rw[←N.o];exact hz));clear hz;go_upto_region 10 with(go_at_call 106;refine HG.o.mono ?_;rintro e w7⟨rfl,G,a,ai⟩;have s2:=G.c 0;have e2:=a.c 0;have fs:=G.free (k:=0) i_;have fe:=a.free (k:=0) i_;have bj:=G.lt;have aS:=a.lt;obtain⟨bl,ab,bA⟩:=zH3 G a ai;clear G a ai);go_region
      all_goals
       go_wp2_with fail;have bJ:=bl.o.set 0 (.string ⟨#[]⟩);have c:=ab.o.chg (X:=fun x=>x=J+1) (Chg.setCell w7 ⟨J+1,0,none⟩ (.string ⟨#[]⟩) rfl) i_;have g:=bJ.chg (X:=fun x=>x=J+1+1) (Chg.setCell _ ⟨J+1+1,0,none⟩ (F R.1) rfl) i_;have d:=c.set 0 (F R.1);refine bodyPost_ret (dZ rfl rfl rfl (gk ((g.below (b_drew _)).c 0)) (iq ((d.below (b_drew _)).c 0))) rfl ?_;rw[HR.o,←n.o,HD.o,HQ.o];have Q:=a7.o.trans (bA.o.below (fun x hx=>by have:=M.o;rcases hx with rfl|rfl<;>omega) a7.o.size);exact⟨rfl,bt (Q.trans ((Chg.trans (Chg.setCell w7 ⟨J+1,0,none⟩ (.string ⟨#[]⟩) (X:=fun x=>x=J+1∨x=J+1+1) (.inl rfl)) (Chg.setCell _ ⟨J+1+1,0,none⟩ (F R.1) (.inr rfl))).below (fun x hx=>by have:=M.o;rcases hx with rfl|rfl<;>omega) Q.size)) (b_drew _)⟩
    ·have i1:¬(k:Int)<r.length:=Y
     have a0:=O (show em j p0 r=(s,0) by rw[←n.o,List.drop_eq_nil_of_le Y];rfl);have s2:=HS.o.c 0;have e2:=HE.o.c 0;have fs:=HS.o.free (k:=0) i_;have fe:=HE.o.free (k:=0) i_;have bj:=HS.o.lt;have aS:=HE.o.lt;have a7:=O aZ;clear D aZ h0;go_wp2_with fail;have bJ:=HS.o.set 0 (s_ s);have c:=HE.o.chg (X:=fun x=>x=J+1) (Chg.setCell wr ⟨J+1,0,none⟩ (s_ s) rfl) i_;have g:=bJ.chg (X:=fun x=>x=J+1+1) (Chg.setCell _ ⟨J+1+1,0,none⟩ (F 0) rfl) i_;have d:=c.set 0 (F 0);refine bodyPost_ret (dZ rfl rfl rfl (gk (g.c 0)) (iq (d.c 0))) rfl ?_;rw[HR.o,a0.o];exact⟨rfl,a7.o.trans ((Chg.trans (Chg.setCell wr ⟨J+1,0,none⟩ (s_ s) (X:=fun x=>x=J+1∨x=J+1+1) (.inl rfl)) (Chg.setCell _ ⟨J+1+1,0,none⟩ (F 0) (.inr rfl))).below (fun x hx=>by have:=M.o;rcases hx with rfl|rfl<;>omega) a7.o.size)⟩
 ·have t1:((ck.2.2:Int) != 0)=true:=by rw[bne_iff_ne];have:=zU hm;rw[←t]at this;omega
  have HR:=O (show valuesJ j l=([],2) from if_neg (fun ap=>hm ap.1));exact LK
section
attribute [local go_sem] Oper.semAt_some
theorem y9 (a:OA_)(n c:Nat)(w:Z):C_ 73 #[.slice a n c] w fun e w'=>e=.returned (.func (.func 103) #[] #[.pointer (some ⟨w.heap.size,0,none⟩)])∧w'=w.alloc (.cells #[.slice a n c] 32):=by
 go_enter func73,ntmps73;go_wp2;go_ret;exact⟨rfl,rfl⟩
theorem y8 {ac:LQ_}(hf:ac.flatten.length≤1000000):∀ g∈grp (srt ac.flatten),g.length≤1000000:=fun g hg=>by
 exact Mo
theorem BS {ac:LQ_}(hf:ac.flatten.length≤1000000):(grp (srt ac.flatten)).length≤1000000:=by
 exact M3
theorem D8 {ac:LQ_}(hp:∀ p∈ac.flatten,p.2.length≤140737488355328):∀ g∈grp (srt ac.flatten),∀ s∈g.map (·.2),s.length≤140737488355328:=fun g hg s hs=>by
 have h1:=(iC (srt ac.flatten).length (srt ac.flatten) (I6 _) (dW _)).1 g hg;obtain⟨p,a,rfl⟩:=List.mem_map.1 hs;rw[h1.1,nP]at a;exact hp p (List.mem_filter.1 a).1
theorem nR {w:Z}{b:Nat}{v:V_}(h:w.cell? ⟨b,0,none⟩=some v):(loadVar 29 ⟨b,0,none⟩).run prog w=.ok v w:=by simp[go_sem,h]
theorem FW {Q:Nat}{t1 t2 t3:T_}{W:Z}{a b c:V_}(hq:Blk W Q t1 [a])(hb:Blk W (Q+1) t2 [b])(he:Blk W (Q+1+1) t3 [c])(x y z:V_):Blk (((W.setCell ⟨Q,0,none⟩ x).setCell ⟨Q+1,0,none⟩ y).setCell ⟨Q+1+1,0,none⟩ z) Q t1 [x]∧Blk (((W.setCell ⟨Q,0,none⟩ x).setCell ⟨Q+1,0,none⟩ y).setCell ⟨Q+1+1,0,none⟩ z) (Q+1) t2 [y] ∧Blk (((W.setCell ⟨Q,0,none⟩ x).setCell ⟨Q+1,0,none⟩ y).setCell ⟨Q+1+1,0,none⟩ z) (Q+1+1) t3 [z]∧Chg (fun k=>k=Q∨k=Q+1∨k=Q+1+1) W (((W.setCell ⟨Q,0,none⟩ x).setCell ⟨Q+1,0,none⟩ y).setCell ⟨Q+1+1,0,none⟩ z):=by
 have c1:Chg (fun k=>k=Q) W (W.setCell ⟨Q,0,none⟩ x):=Chg.setCell _ _ _ rfl;have q1:=hq.set 0 x;have b1:=hb.chg c1 Y;have e1:=he.chg c1 Y;obtain⟨W1,aA⟩:=H (W.setCell ⟨Q,0,none⟩ x);rw[←aA]at c1 q1 b1 e1⊢;have c2:Chg (fun k=>k=Q+1) W1 (W1.setCell ⟨Q+1,0,none⟩ y):=Chg.setCell _ _ _ rfl;have q2:=q1.chg c2 Y;have b2:=b1.set 0 y;have e2:=e1.chg c2 Y;obtain⟨W2,ae⟩:=H (W1.setCell ⟨Q+1,0,none⟩ y);rw[←ae]at c2 q2 b2 e2⊢;have c3:Chg (fun k=>k=Q+1+1) W2 (W2.setCell ⟨Q+1+1,0,none⟩ z):=Chg.setCell _ _ _ rfl;exact⟨q2.chg c3 Y,b2.chg c3 Y,e2.set 0 z,((c1.mono fun k hk=>.inl hk).trans (c2.mono fun k hk=>.inr (.inl hk))).trans (c3.mono fun k hk=>.inr (.inr hk))⟩
theorem zA (t1 c1 t2 c2 t3 c3 v:V_)(j:Jb)(ac:LQ_)(w:Z)(h:dD w t1 c1 t2 c2 t3 c3 j)(aT:dp w)(hr:RR w v ac)(hl:ac.length≤1000000)(hf:ac.flatten.length≤1000000)(hp:∀ p∈ac.flatten,p.2.length≤140737488355328):C_ 44 #[bM t1 c1 t2 c2 t3 c3 j,v] w fun e w'=>(∃ pv,e=.returned (.tuple #[pv,s_ (dg j ac).2.1,F ((dg j ac).2.2:Int)])∧recKv.Own w' w.heap.size pv (dg j ac).1)∧Bw_ w w':=by
 have f:=O (fun w' (hB:Bw_ w w')=>mi t1 c1 t2 c2 t3 c3 j w' (h.below hB));have af:=O (fun (u:V_) (l:LL_) w' (hB:Bw_ w w') hv h1 h2=>uu t1 c1 t2 c2 t3 c3 u j l w' (h.below hB) (aT.below hB) hv h1 h2);have bb:=O (fun (X Q D:Nat) (W:Z) hX (hB:Bw_ w W) hQ bq hD az s=>uh 2 X Q D v ac W hX (hr.below hB) hl hf hQ bq hD az s);obtain⟨ta,tc,ca,cc,aV,bd,be,bf,bg,bh,bi,bk,rfl,rfl,rfl,rfl,rfl,rfl⟩:=jo_ h.a.t h.a.c h.b.t h.b.c h.c.t h.c.c;obtain⟨av,cv,rfl,_,_,_⟩:=hr;unfold bM at f af⊢;obtain⟨cu,bu,bB⟩:=zH3 (y8 hf) (D8 hp) (BS hf);obtain⟨J,hJ⟩:=H w.heap.size;obtain⟨W0,a1⟩:=H (w.alloc (.cells #[.slice ta j.mt.length tc,.slice ca j.mc.length cc,.slice aV j.jt.length bd,.slice be j.jc.length bf,.slice bg j.tt.length bh,.slice bi j.tc.length bk,F j.parts,F j.fuel] 27));have bn:W0.heap.size=J+1:=by rw[a1,bP,hJ]
 obtain⟨W1,aA⟩:=H (W0.alloc (.cells #[e_] 29));have bp:W1.heap.size=J+1+1:=by rw[aA,bP,bn]
 obtain⟨W2,ae⟩:=H (W1.alloc (.cells #[.string ⟨#[]⟩] 9));have ar:W2.heap.size=J+1+1+1:=by rw[ae,bP,bp]
 obtain⟨W3,aB⟩:=H (W2.alloc (.cells #[F 0] 37));have B:=bn_ hJ a1;have aa:=ba_ a1;have a8:=ba_ aA;have aY:=ba_ ae;have aX:=ba_ aB;have hx:=((B.below a8).below aY).below aX
 have hy:Blk W3 (J+1) 29 [e_]:=by
  have ap:=bm_ aA;rw[bn]at ap;exact(ap.below aY).below aX
 have hz:Blk W3 (J+1+1) 9 [.string ⟨#[]⟩]:=by
  have ap:=bm_ ae;rw[bp]at ap;exact ap.below aX
 have hu:Blk W3 (J+1+1+1) 37 [F 0]:=by
  have ap:=bm_ aB
  rwa [ar]at ap
 obtain⟨aW,HX,HY,HZ,HU,M⟩:=zH6 (bt (bt (bt aa a8) aY) aX) hx hy hz hu (show w.heap.size=J from hJ.symm);obtain⟨x0,x1,x2,x3,x4,x5,x6,x7⟩:=cl8 hx;refine dA func44 rfl ?_;simp only[ntmps44,List.size_toArray,Jq,JI,Nat.reduceAdd,Nat.reduceSub,Array.replicate_succ,Array.replicate_zero,List.push_toArray,List.append_toArray,JC,Jk];go_upto_region 1 with fail;rw[←hJ,←a1]
 try rw[bn]
 rw[←aA]
 try rw[bp]
 rw[←ae]
 try rw[ar]
 rw[←aB];clear hJ a1 aA ae aB bn bp ar B aa a8 aY aX hx hy hz hu h aT hl hf hp;obtain⟨ck,t⟩:=H (bO j);rw[←t]at f
 by_cases hm:bK j=true
 ·have t1:((ck.2.2:Int) != 0)=false:=by rw[t,wi hm];rfl
  have HR:=O (show dg j ac=ee j [] (grp (srt ac.flatten)) from if_pos hm);clear hm t;go_wp2_with (first|(go_at_call 72;refine(f.o _ aW.o).mono ?_;rintro e w3⟨rfl,aQ⟩;obtain⟨an,aC,aK,T,ba⟩:=zH5 (HX.o.below aQ) (HY.o.below aQ) (HZ.o.below aQ) (HU.o.below aQ) (bt aW.o aQ);clear aQ x0 x1 x2 x3 x4 x5 x6 x7)|(go_at_call 73;refine(y9 av ac.length cv _).mono ?_;rintro e w5⟨rfl,bF⟩;have au:=O bF;clear bF));have bF:=au.o;clear au;have bv:=bm_ bF;have aN:=ba_ bF;have ct:w5.heap.size=w3.heap.size+1:=by rw[bF,bP]
  have bL:=T.o.lt;obtain⟨a',bC,bm,bD,bE,aJ⟩:=zH6 bv (an.o.below aN) (aC.o.below aN) (aK.o.below aN) (T.o.below aN) (bt ba.o aN);have bU:=M.o;obtain⟨L,aw⟩:=H (grp (srt ac.flatten));have al:L.length≤1000000:=by rw[aw];exact bB.o
  have bG:=O al;rw[←aw]at bb cu bu HR;clear bF bv aN aw al an aC aK T ba f
  refine Ar (D:=w5.heap.size) rfl (gf:=103) (lb:=#[.pointer (some ⟨w3.heap.size,0,none⟩)]) rfl (enters_of func103 q_ rfl)
   (Xr:=fun U U'=>Bw_ U U') (G:=fun U U'=>(J+1)<U.heap.size→YrF (J+1) w5.heap.size U U') (Fin:=fun _=>True) (El:=ElF w5.heap.size) (ag:=L) (fun U U' h=>I_ (X:=fun _=>False) (IG h) (fun _ _ ap=>ap)) (fun a b c d h1 h2 h3 hs=>YrF.comp Y a b c d hs h1 (h2 (Jr hs h1.size)) h3) (fun _ _ _ _=>trivial)
   (fun W hW az s am=>bb.o w3.heap.size (J+1) w5.heap.size W (a'.o.below (am.mono Y)) ?seq (bm.o.below am) Y hW az s) (fun x vs U h=>by obtain⟨A,C,rfl,-⟩:=h;rfl) (fun x vs U U' h hc=>by obtain⟨A,C,e,h2⟩:=h;exact⟨A,C,e,eH h2 hc (fun k hk=>by omega)⟩)
   (FI J (J+1) (J+1+1) (J+1+1+1) w5.heap.size w [.slice ta j.mt.length tc,.slice ca j.mc.length cc,.slice aV j.jt.length bd,.slice be j.jc.length bf,.slice bg j.tt.length bh,.slice bi j.tc.length bk,F j.parts,F j.fuel] j) (FX (J+1) (J+1+1) (J+1+1+1) w j) (fun aj U U' h hx=>h.below hx) (fun aj U U' h hc=>h.chg Y Y Y Y Y hc) (fun c aj U U' h hx=>h.below hx) (fun c aj U U' h hc=>h.chg Y Y Y Y hc)
   ⟨bC.o,⟨_,[],bm.o,Rec.Own.nil _ _,I6 _,fun rest=>rfl⟩,⟨_,bD.o⟩,⟨_,bE.o⟩,aJ.o⟩ ?round ?done ?stop
  case seq=>exact bt aJ.o am
  case round =>
   rintro l aj x vs U _⟨A,C,rfl,_⟩ ao;gi_wp2;refine⟨Ja _ _,?_⟩;rintro U2 h2 hI⟨A',C',a2,ad⟩ aD;have bI:Value.slice A x.length C=.slice A' x.length C':=by simpa using a2
   injection bI with q1 _ q3
   subst q1 q3;obtain⟨rv,ag,q,i,b4,a9⟩:=hI.row;obtain⟨ra,rc,rfl⟩:=ay i;obtain⟨bx,a3⟩:=hI.bad;obtain⟨ex,P⟩:=hI.err;have o:x∈L:=by obtain⟨r,hr⟩:=ao;rw[←hr];simp
   have aH:=cu.o x o
   have I:aj.length<1000000+1:=by
    have ap:=ao.length_le;have:=bG.o;rw[Jh]at ap;simp at ap;omega
   have HV:=O (af.o (.slice A x.length C) (x.map (·.2)) U2 hI.bel (by rw[show x.length=(x.map (·.2)).length by simp]at ad⊢;exact ad.row) (by rw[Js];exact Jc aH d_) (bu.o x o));obtain⟨y0,y1,y2,y3,y4,y5,y6,y7⟩:=cl8 hI.job;obtain⟨R,hR⟩:=H (valuesJ j (x.map (·.2)));rw[←hR]at HV;obtain⟨N,HQ,HO,bN,bl,a6,bH,cp⟩:=zH8 hR q i a3 P a9 hI.job hI.bel;clear hI a2 ad aD q i a3 P a9 hR o ao;gi_wp2;refine⟨trivial,CallsIn.inRound _ (callsIn_wide.2 (HV.o.mono ?_))⟩;rintro e w8⟨rfl,aG⟩;have ax:=HQ.o.below aG;have K:=bN.o.below aG;have aE:=bl.o.below aG;have z1:=ax.c 0;have z2:=K.c 0;have z3:=aE.c 0;have f1:=ax.free (k:=0) i_;have f2:=K.free (k:=0) i_;have f3:=aE.free (k:=0) i_;have l1:=ax.lt;have l2:=K.lt;have l3:=aE.lt;obtain⟨bw,aM,aP,aO,aU⟩:=zH5 ax K aE (HO.o.below aG) aG;clear ax K aE aG y0 y1 y2 y3 y4 y5 y6 y7
   by_cases hz:R.2=0
   ·have t2:((R.2:Int) != 0)=false:=by rw[hz];rfl
    have aq:=O (show ∀ rest,ee j [] ((aj++[x])++rest)=ee j (ag++[(hk1 x,R.1)]) rest from fun rest=>by
     rw[Jg,a6.o,List.singleton_append,Dh (by rw[←N.o];exact hz),←N.o])
    have ak:=O (show(ag.length+1)*32≤140737488355328 by omega);have aL:=O (show w5.heap.size+2≤w8.heap.size from Jc h2 aU.o.size);clear hz;have V:=O (show ∀ k,(Value.slice ra ag.length rc).ownBlock=some k→w5.heap.size+2≤k from fun k hk=>(Rec.Own.ltV HO.o k hk).1);gi_wp2_with (gi_at_builtin;go_loud (refine recKv.append1G w8 (hk1 x,R.1) rfl _ _ 29 rfl underlying29 (w5.heap.size+2) _ ag aO.o rfl _ rfl _ rfl _ rfl ak.o aL.o ?_);intro g ah w9 a_ ci dq;obtain⟨cI,b1,dS⟩:=zH3 a_ ci dq;have S:=bw.o.chg ci (fun ap=>by have:=V.o _ ap;omega);have y1:=S.c 0;have g1:=S.free (k:=0) i_;have m1:=S.lt;have bJ:=O S;clear a_ ci dq S);have E:=zg (n:=ag.length+1) (ah:=ah) Y HQ.o aU.o b1.o dS.o V.o;have aR:Chg (fun k=>k=J+1) w9 (w9.setCell ⟨J+1,0,none⟩ (.slice (some ⟨g,0,none⟩) (ag.length+1) ah)):=Chg.setCell _ _ _ rfl
    refine⟨E.1,fun _=>E.2,⟨((bH.o.below aU.o).chg b1.o (fun ap=>by have:=V.o _ ap;omega)).chg aR Y,⟨_,ag++[(hk1 x,R.1)],bJ.o.set 0 _,eH cI.o aR (fun k hk=>by omega),by rw[Jh,Jh];exact Nat.add_le_add_right b4 1,aq.o⟩,
     ⟨_,(aM.o.chg b1.o (fun ap=>by have:=V.o _ ap;omega)).chg aR Y⟩,⟨_,(aP.o.chg b1.o (fun ap=>by have:=V.o _ ap;omega)).chg aR Y⟩,?_⟩⟩
    exact(bt cp.o aU.o).trans (((b1.o.mono (fun k hk=>.inr hk)).trans (aR.mono (fun k hk=>.inl hk))).below (X:=fun k=>k=J+1∨(Value.slice ra ag.length rc).ownBlock=some k) (fun k hk=>hk.elim (fun ap=>by omega) (fun ap=>by have:=V.o _ ap;omega)) (bt cp.o aU.o).size)
   ·have t2:((R.2:Int) != 0)=true:=by simpa using hz
    have aq:=O (show ∀ rest,ee j [] ((aj++[x])++rest)=([],hk1 x,R.2) from fun rest=>by
     rw[Jg,a6.o,List.singleton_append,A9 (by rw[←N.o];exact hz),←N.o])
    clear hz;gi_wp2;have S:=bw.o.set 0 (e_);have ab:=aM.o.chg (X:=fun k=>k=J+1) (Chg.setCell w8 ⟨J+1,0,none⟩ (e_) rfl) Y;have bo:=aP.o.chg (X:=fun k=>k=J+1) (Chg.setCell w8 ⟨J+1,0,none⟩ (e_) rfl) Y;have bz:Chg (fun k=>k=J+1∨k=J+1+1∨k=J+1+1+1) w8 (w8.setCell ⟨J+1,0,none⟩ (e_)):=Chg.setCell _ _ _ (.inl rfl);obtain⟨w9,bA⟩:=H (w8.setCell ⟨J+1,0,none⟩ (e_));rw[←bA]at S ab bo bz⊢;clear bA;have y:Chg (fun k=>k=J+1+1) w9 (w9.setCell ⟨J+1+1,0,none⟩ (s_ (hk1 x))):=Chg.setCell _ _ _ rfl;have aS:=S.chg y Y;have a0:=ab.set 0 (s_ (hk1 x));have a4:=bo.chg y Y;have a5:=bz.trans (y.mono (fun k hk=>.inr (.inl hk)));obtain⟨cy,bc⟩:=H (w9.setCell ⟨J+1+1,0,none⟩ (s_ (hk1 x)));rw[←bc]at y aS a0 a4 a5⊢;clear bc;have aZ:Chg (fun k=>k=J+1+1+1) cy (cy.setCell ⟨J+1+1+1,0,none⟩ (F R.2)):=Chg.setCell _ _ _ rfl;have bj:=a5.trans (aZ.mono (fun k hk=>.inr (.inr hk)));exact⟨I_ ((IG aU.o).trans bj) (fun k hk ap=>by omega),rfl,aS.chg aZ Y,⟨hk1 x,R.2,a0.chg aZ Y,a4.set 0 _,aq.o⟩,(bt cp.o aU.o).trans (bj.below (fun k hk=>by omega) (bt cp.o aU.o).size)⟩
  case done =>
   rintro W h2 hI-hK;obtain⟨rv,ag,q,i,b4,a9⟩:=hI.row;obtain⟨ra,rc,rfl⟩:=ay i;obtain⟨bx,a3⟩:=hI.bad;obtain⟨ex,P⟩:=hI.err
   have a7:=O (show ee j [] L=(ag,[],0) by
    have ap:=a9 [];rw[Jy]at ap;rw[ap];rfl)
   have z1:=q.c 0;have z2:=a3.c 0;have z3:=P.c 0;have f1:=q.free (k:=0) i_;have f2:=a3.free (k:=0) i_;have f3:=P.free (k:=0) i_;have l1:=q.lt;have l2:=a3.lt;have l3:=P.lt;obtain⟨HQ,bN,bl,HO,cp,HK⟩:=zH6 q a3 P i hI.bel hK;clear hI q a3 P i a9 hK;go_wp2;have h3:=FW HQ.o bN.o bl.o (.slice ra ag.length rc) (.string ⟨#[]⟩) (F 0);obtain⟨W8,br⟩:=H (((W.setCell ⟨J+1,0,none⟩ (.slice ra ag.length rc)).setCell ⟨J+1+1,0,none⟩ (.string ⟨#[]⟩)).setCell ⟨J+1+1+1,0,none⟩ (F 0));rw[←br]at h3⊢;obtain⟨g1,g2,g3,g4⟩:=h3;have hp:Chg (fun k=>k=w5.heap.size) W8 (W8.putObj w5.heap.size (.deferred none)):=Chg.putObj _ _ _ rfl;refine jq (D:=w5.heap.size) rfl (g4.at HK.o Y) (jb rfl rfl rfl rfl (nR ((g1.chg hp Y).c 0)) (gk ((g2.chg hp Y).c 0)) (iq ((g3.chg hp Y).c 0))) ?_;rw[HR.o,a7.o];exact⟨⟨_,rfl,fq (eH (eH HO.o g4 (fun k hk=>by omega)) hp (fun k hk=>by omega)) Y⟩,cp.o.trans ((g4.below (fun k hk=>by omega) cp.o.size).trans (hp.below (fun k hk=>by omega) (Jc cp.o.size g4.size)))⟩
  case stop =>
   rintro c aj W h2 ao⟨rfl,hq,⟨z,er,hb,he,a9⟩,m⟩ hK;have a7:=O (show ee j [] L=([],z,er) by obtain⟨r,hr⟩:=ao;rw[←hr];exact a9 r);clear a9 ao;go_wp2;have hp:Chg (fun k=>k=w5.heap.size) W (W.putObj w5.heap.size (.deferred none)):=Chg.putObj _ _ _ rfl;refine jq (D:=w5.heap.size) rfl hK (jb rfl rfl rfl rfl (nR ((hq.chg hp Y).c 0)) (gk ((hb.chg hp Y).c 0)) (iq ((he.chg hp Y).c 0))) ?_;rw[HR.o,a7.o];exact⟨⟨_,rfl,Rec.Own.nil _ _⟩,m.trans (hp.below (fun k hk=>by omega) m.size)⟩
 ·have t1:((ck.2.2:Int) != 0)=true:=by rw[t];simpa using zU hm
  have HR:=O (show dg j ac=([],[],2) from if_neg hm);clear hm t;go_wp2_with (go_at_call 72;refine(f.o _ aW.o).mono ?_;rintro e w3⟨rfl,aQ⟩;have aF:=HY.o.below aQ;have ai:=HZ.o.below aQ;have aI:=HU.o.below aQ;have z1:=aF.c 0;have z2:=ai.c 0;have z3:=aI.c 0;have f1:=aF.free (k:=0) i_;have f2:=ai.free (k:=0) i_;have f3:=aI.free (k:=0) i_;have l1:=aF.lt;have l2:=ai.lt;have l3:=aI.lt;obtain⟨aC,aK,T,ba⟩:=zH4 aF ai aI (bt aW.o aQ);clear aQ aF ai aI x0 x1 x2 x3 x4 x5 x6 x7);have h3:=FW aC.o aK.o T.o (e_) (.string ⟨#[]⟩) (F 2);obtain⟨g1,g2,g3,g4⟩:=h3;refine yI rfl (jb rfl rfl rfl rfl (nR (g1.c 0)) (gk (g2.c 0)) (iq (g3.c 0))) ?_;rw[HR.o];have bU:=M.o;exact⟨⟨_,rfl,Rec.Own.nil _ _⟩,ba.o.trans (g4.below (fun k hk=>by omega) ba.o.size)⟩
end