/- Lemmas. -/
import Derived.Lib.ItoaLen
import Derived.Lib.ParseIntBTie
import Derived.Test.YtfjpghgdebpliaaGreatDoorContractPlaysK7
import Derived.Test.YtfjpghgdebpliaaGreatDoorContractPlaysK9
set_option linter.unusedSimpArgs false
set_option linter.unusedVariables false
set_option maxRecDepth 100000
set_option maxHeartbeats 16000000
namespace Go.Proofs.YtfjpghgdebpliaaGreatDoor
open Go.Proofs.Tryz
open Go.RowKit Oct
structure Pt (bZ:Nat) where
 fp:Nat→Prop
 P:Z→Prop
 frame:∀ {X:Nat→Prop} {w w':Z},P w→Chg X w w'→(∀ k,fp k→¬X k)→P w'
 lt:∀ {w:Z},P w→∀ k,fp k→bZ≤k∧k<w.heap.size
def Sep (bZ:Nat)(w:Z)(L:List (Pt bZ)):Prop:=(∀ p∈L,p.P w)∧L.Pairwise fun p ap=>∀ k,p.fp k→¬ap.fp k
def aF {bZ:Nat}(G:Nat)(hG:bZ≤G)(t:T_)(cs:LV_):Pt bZ :=
 ⟨fun k=>k=G,fun w=>Blk w G t cs,fun h hc hX=>h.chg hc (hX _ rfl),fun h k hk=>by subst hk;exact⟨hG,h.lt⟩⟩
def ownPt {bZ:Nat}{α:Type}(R:Rec α)(v:V_)(l:List α):Pt bZ :=
 ⟨fun k=>v.ownBlock=some k,fun w=>R.Own w bZ v l,fun h hc hX=>h.chgV hc hX,fun h k hk=>h.ltV k hk⟩
section
variable {bZ:Nat}{w w':Z}{L:List (Pt bZ)}{X:Nat→Prop}
theorem Sep.get (h:Sep bZ w L){i:Nat}{p:Pt bZ}(hi:L[i]?=some p):p.P w:=h.1 p (List.mem_of_getElem? hi)
theorem Sep.apart (h:Sep bZ w L){i j:Nat}{p ap:Pt bZ}(hi:L[i]?=some p)(hj:L[j]?=some ap)(c:i≠j):∀ k,p.fp k→¬ap.fp k:=by
 obtain⟨d,Q⟩:=List.getElem?_eq_some_iff.1 hi;obtain⟨af,g⟩:=List.getElem?_eq_some_iff.1 hj;have hp:=List.pairwise_iff_getElem.1 h.2;rcases Nat.lt_or_gt_of_ne c with aC|aC
 ·have:=hp i j d af aC
  rw[Q,g]at this;exact this
 ·have:=hp j i af d aC
  rw[Q,g]at this;exact fun k hk H=>this k H hk
theorem Sep.below (h:Sep bZ w L)(hB:Bw_ w w'):Sep bZ w' L :=
 ⟨fun p hp=>p.frame (h.1 p hp) (X:=fun _=>False) ⟨hB.os,hB.tape,hB.output,hB.size,fun k hk _=>hB.block k hk⟩ (fun _ _ hx=>hx),h.2⟩
theorem Sep.upd (h:Sep bZ w L){i:Nat}{p:Pt bZ}(hi:L[i]?=some p)(hc:Chg X w w')(hX:∀ k,X k→p.fp k)(ap:Pt bZ)(hq:ap.P w')(hf:∀ k,ap.fp k→p.fp k∨w.heap.size≤k):Sep bZ w' (L.set i ap):=by
 obtain⟨d,Q⟩:=List.getElem?_eq_some_iff.1 hi;have hp:=List.pairwise_iff_getElem.1 h.2;refine⟨fun r hr=>?_,List.pairwise_iff_getElem.2 fun a b ha hb s=>?_⟩
 ·obtain⟨j,hj⟩:=List.mem_iff_getElem?.1 hr
  rw[List.getElem?_set]at hj
  split at hj
  ·rename_i c
   injection hj with hj
   subst hj;exact hq
  ·rename_i c
   exact r.frame (h.get hj) hc fun k hk hx=>h.apart hj hi (fun e=>c e.symm) k hk (hX k hx)
 ·rw[JN]at ha hb
  rw[List.getElem_set,List.getElem_set];have lt:∀ j (hj:j<L.length),∀ k,(L[j]).fp k→k<w.heap.size:=fun j hj k hk=>((L[j]).lt (h.1 _ (Jz hj)) k hk).2
  split
  ·rename_i dE
   rw[if_neg Y];intro k hk H;rcases hf k hk with hk|hk
   ·exact h.apart hi (List.getElem?_eq_getElem hb) Y k hk H
   ·have:=lt b hb k H;omega
  ·rename_i dE
   split
   ·intro k hk H
    rcases hf k H with H|H
    ·exact h.apart (List.getElem?_eq_getElem ha) hi Y k hk H
    ·have:=lt a ha k hk;omega
   ·exact hp a b ha hb s
theorem Sep.updB (h:Sep bZ w L){i:Nat}{p:Pt bZ}(hi:L[i]?=some p)(hc:Chg X w w')(hX:∀ k,X k→p.fp k)(hb:bZ≤w.heap.size):B_ bZ w w':=by
 refine hc.below (fun k hk=>?_) hb;exact(p.lt (h.get hi) k (hX k hk)).1
theorem Sep.same (h:Sep bZ w L){i:Nat}{p:Pt bZ}(hi:L[i]?=some p)(ap:Pt bZ)(hq:ap.P w)(hf:∀ k,ap.fp k→p.fp k):Sep bZ w (L.set i ap) :=
 h.upd hi (X:=fun _=>False) (Chg.refl _ _) (fun _ hx=>hx.elim) ap hq fun k hk=>.inl (hf k hk)
theorem Sep.snoc (h:Sep bZ w L)(hB:Bw_ w w')(p:Pt bZ)(hp:p.P w')(hf:∀ k,p.fp k→w.heap.size≤k):Sep bZ w' (L++[p]):=by
 have h':=h.below hB;refine⟨fun ap hq=>?_,List.pairwise_append.2 ⟨h.2,List.pairwise_singleton _ _,fun a ha b hb k hk H=>?_⟩⟩
 ·rcases Jt.1 hq with hq|hq
  ·exact h'.1 ap hq
  ·rw[Jp]at hq
   subst hq;exact hp
 ·rw[Jp]at hb
  subst hb;have h1:=(a.lt (h.1 a ha) k hk).2;have h2:=hf k H;omega
theorem Sep.init {p:List (Pt bZ)}(h:Sep bZ w (L++p)):Sep bZ w L:=⟨fun ap hq=>h.1 ap (List.mem_append_left _ hq),(List.pairwise_append.1 h.2).1⟩
end
abbrev MV:=Int×q
abbrev LM_:=List MV
structure Mc where
 pc:Nat
 st:LM_
 rg:LM_
 op:List (Nat×LL_)
 pr:LX_
structure Me where
 tx:LL_
 code:LJ_
 ins:LL_
 ends : LI_
def cL (c:U8_):q→LL_
 | []=>[[]]
 | x::r=>if x=c then []::cL c r else
  match cL c r with
  | []=>[[x]]
  | h::t=>(x::h)::t
def cD (s:q)(c:U8_):LL_:=if s=[] then [] else cL c s
def gR (x:Int)(n:Nat):Nat:=(min (max x 0) (n:Int)).toNat
def im (s:q)(ak n:Int):q:=(s.drop (gR ak s.length)).take (gR n (s.drop (gR ak s.length)).length)
def da (s:q):Int:=match Lib.atoiAll s with
 | .ok v=>if Lib.itoa v=s then v else 0
 | _=>0
def bitM (b:Bool):MV:=(if b=true then 1 else 0,[])
def fK (E:Me)(i:Nat):Bool:=(List.range E.code.length).any fun j=>(E.code.getD j (0,0)).1==22&&E.ends.getD j 0==(i:Int)
def doN (E:Me)(n:Nat)(y:U8_)(pc:Nat)(st rg:LM_)(op:List (Nat×LL_))(W:LX_):Nat×Mc :=
 match n,st with
 | 1,s=>(0,⟨pc+1,(0,E.tx.getD y.toNat [])::s,rg,op,W⟩)
 | 2,s=>(0,⟨pc+1,((y.toNat:Int),[])::s,rg,op,W⟩)
 | 3,s=>(0,⟨pc+1,(0,E.ins.getD y.toNat [])::s,rg,op,W⟩)
 | 4,b::a::s=>if 1024<a.2.length+b.2.length then (5,⟨pc,st,rg,op,W⟩) else (0,⟨pc+1,(0,a.2++b.2)::s,rg,op,W⟩)
 | 5,a::s=>(0,⟨pc+1,((a.2.length:Int),[])::s,rg,op,W⟩)
 | 6,n::a::t::s=>(0,⟨pc+1,(0,im t.2 a.1 n.1)::s,rg,op,W⟩)
 | 7,a::s=>(0,⟨pc+1,(da a.2,[])::s,rg,op,W⟩)
 | 8,a::s=>(0,⟨pc+1,(0,Lib.itoa a.1)::s,rg,op,W⟩)
 | 9,b::a::s=>(0,⟨pc+1,(wrap64 (a.1+b.1),[])::s,rg,op,W⟩)
 | 10,b::a::s=>(0,⟨pc+1,(wrap64 (a.1*b.1),[])::s,rg,op,W⟩)
 | 11,b::a::s=>(0,⟨pc+1,bitM (decide (a.1<b.1))::s,rg,op,W⟩)
 | 12,b::a::s=>(0,⟨pc+1,bitM (a.2==b.2)::s,rg,op,W⟩)
 | 13,a::s=>(0,⟨pc+1,bitM (a.1==0)::s,rg,op,W⟩)
 | 14,_::s=>(0,⟨pc+1,s,rg,op,W⟩)
 | 15,a::s=>(0,⟨pc+1,a::a::s,rg,op,W⟩)
 | 16,b::a::s=>(0,⟨pc+1,a::b::s,rg,op,W⟩)
 | 17,s=>(0,⟨pc+1,rg.getD y.toNat (0,[])::s,rg,op,W⟩)
 | 18,a::s=>(0,⟨pc+1,s,rg.set y.toNat a,op,W⟩)
 | 19,a::s=>(0,⟨if a.1=0 then (E.ends.getD pc 0).toNat+1 else pc+1,s,rg,op,W⟩)
 | 20,s=>(0,⟨(E.ends.getD pc 0).toNat,s,rg,op,W⟩)
 | 21,s=>if fK E pc=true then
   match op with
   | (a,p::ps)::o=>(0,⟨a+1,(0,p)::s,rg,(a,ps)::o,W⟩)
   | (_,[])::o=>(0,⟨pc+1,s,rg,o,W⟩)
   | []=>(99,⟨pc,s,rg,op,W⟩)
  else (0,⟨pc+1,s,rg,op,W⟩)
 | 22,a::s =>
  match cD a.2 y with
  | []=>(0,⟨(E.ends.getD pc 0).toNat+1,s,rg,op,W⟩)
  | p::ps=>(0,⟨pc+1,(0,p)::s,rg,(pc,ps)::op,W⟩)
 | 23,v::k::s=>if 256≤W.length then (4,⟨pc,st,rg,op,W⟩) else (0,⟨pc+1,s,rg,op,W++[(k.2,v.2)]⟩)
 | _,_=>(99,⟨pc,st,rg,op,W⟩)
def doM (E:Me)(x:VI)(m:Mc):Nat×Mc:=doN E x.1.toNat x.2 m.pc m.st m.rg m.op m.pr
def xM (E:Me)(m:Mc):VI:=E.code.getD m.pc (0,0)
def dG (E:Me):Nat→Mc→Nat×Mc
 | 0,m=>if m.pc<E.code.length then (140,m) else (0,m)
 | f+1,m=>if m.pc<E.code.length then (if (doM E (xM E m) m).1=0 then dG E f (doM E (xM E m) m).2 else (doM E (xM E m) m)) else (0,m)
def bF:Mc:=⟨0,[],List.replicate 8 (0,[]),[],[]⟩
/-! ## what is let be can be done -/
def bL (s:Vs):List Nat:=((s.blocks.filter fun b=>b.op==22).map Vb.at_).reverse
def vOk (v:MV):Prop:=-9223372036854775808≤v.1∧v.1≤9223372036854775807∧v.2.length≤1024
structure OkM (S:Nat→Vs) (E:Me) (m:Mc):Prop where
 pc:m.pc≤E.code.length
 st:m.st.length=(S m.pc).kinds.length
 op:m.op.map (·.1)=bL (S m.pc)
 rg:m.rg.length=8
 sv:∀ v∈m.st,vOk v
 rv:∀ v∈m.rg,vOk v
 ov:∀ o∈m.op,o.2.length≤1024∧∀ p∈o.2,p.length≤1024
 pr:m.pr.length≤256
 pv:∀ p∈m.pr,p.1.length≤1024∧p.2.length≤1024
structure fA (nt inp:Nat) (role:U8_) (E:Me):Prop where
 may:∀ x∈E.code,bw x=true
 ok:∀ j,j<E.code.length→(cq nt inp role j (E.code.getD j (0,0)) (stV nt inp role E.code j)).1=0
 done:(stV nt inp role E.code E.code.length).blocks=[]
 ends : E.ends = (stV nt inp role E.code E.code.length).ends
 txl:E.tx.length=nt
 txv:∀ s∈E.tx,s.length≤1024
 inl:E.ins.length=inp
 inv:∀ s∈E.ins,s.length≤1024
theorem tU {s:q}(h:Lib.atoiAll s=Lib.NumEnd.syntax):Lib.itoa 0≠s:=by
 rintro rfl;rw[show Lib.atoiAll (Lib.itoa 0)=.ok 0 by decide +kernel]at h
 cases h
theorem vR {s:q}(h:Lib.atoiAll s=.range):Lib.itoa (Lib.atoiSat s)≠s:=by
 intro e;unfold Lib.atoiSat at e
 split at e
 ·rw[←e,show Lib.atoiAll (Lib.itoa (-9223372036854775808))=.ok (-9223372036854775808) by decide +kernel]at h
  cases h
 ·rw[←e,show Lib.atoiAll (Lib.itoa 9223372036854775807)=.ok 9223372036854775807 by decide +kernel]at h
  cases h
theorem sq (s:q):-9223372036854775808≤da s∧da s≤9223372036854775807:=by
 unfold da
 cases h:Lib.atoiAll s with
 | ok v =>
  rw[←Lib.parseIntB_64]at h;have:=Lib.parseIntB_bounds h;simp only
  split
  ·simp at this;omega
  ·omega
 | _=>simp
theorem lW (c:U8_):∀ s:q,(cL c s).length≤s.length+1∧1≤(cL c s).length∧∀ p∈cL c s,p.length≤s.length
 | []=>by simp[cL]
 | x::r=>by
  obtain⟨h1,h2,h3⟩:=lW c r;unfold cL
  split
  ·refine⟨by simp;omega,by simp,fun p hp=>?_⟩
   rcases JK.1 hp with rfl|hp
   ·simp
   ·have:=h3 p hp;simp;omega
  ·cases h:cL c r with
   | nil=>rw[h]at h2;simp at h2
   | cons a t =>
    rw[h]at h1 h3;refine⟨by simp at h1⊢;omega,by simp,fun p hp=>?_⟩;rcases JK.1 hp with rfl|hp
    ·have:=h3 a (Jn ..);simp;omega
    ·have:=h3 p (Jo _ hp);simp;omega
def eM:List Nat:=[0,0,0,0,2,1,3,1,1,2,2,2,2,1,1,1,2,0,1,1,0,0,1,2]
def gh:List Nat:=[0,1,1,1,1,1,1,1,1,1,1,1,1,1,0,2,2,1,0,0,0,0,0,0]
def jv (n:Nat)(g:q):Nat:=g.foldr (fun c a=>(if c=49 then min 1 n else if c=50 then min 1 (n-1) else 1)+a) 0
theorem qL (b:q):∀ g:q,(bS b g).length=jv b.length g
 | []=>rfl
 | c::g=>by
  have H:=qL b g;show(List.flatMap _ (c::g)).length=_;rw[List.flatMap_cons,Jh];show _+(bS b g).length=_;rw[H];show _=(if c=49 then min 1 b.length else if c=50 then min 1 (b.length-1) else 1)+jv b.length g;congr 1
  split
  ·simp
  ·split
   ·simp
   ·simp
theorem Ed:∀ n:Nat,n<24→∀ r:q,r=[84]∨r=[78]→(fl (ep.getD n ([],[])).1 r).length=eM.getD n 0∧jv (eM.getD n 0) (fl (ep.getD n ([],[])).2 r)=gh.getD n 0:=by
 intro n hn r hr;have h:∀ n:Nat,n<24→((fl (ep.getD n ([],[])).1 [84]).length=eM.getD n 0∧jv (eM.getD n 0) (fl (ep.getD n ([],[])).2 [84])=gh.getD n 0)∧((fl (ep.getD n ([],[])).1 [78]).length=eM.getD n 0∧jv (eM.getD n 0) (fl (ep.getD n ([],[])).2 [78])=gh.getD n 0):=d_;rcases hr with rfl|rfl
 ·exact(h n hn).1
 ·exact(h n hn).2
theorem Dp (a:U8_):jd a=[84]∨jd a=[78]:=by unfold jd;split<;>simp
theorem gD {k:q}{x:VI}(hx:x.1.toNat<24)(h0:(aK k x).1=0):eM.getD x.1.toNat 0≤k.length∧(aK k x).2.length=k.length-eM.getD x.1.toNat 0+gh.getD x.1.toNat 0:=by
 obtain⟨e1,e2⟩:=Ed x.1.toNat hx (jd x.2) (Dp x.2);have aN:(b_Z x).1.length=eM.getD x.1.toNat 0:=e1;have M:jv (eM.getD x.1.toNat 0) (b_Z x).2=gh.getD x.1.toNat 0:=e2;unfold aK at h0⊢
 split at h0
 ·simp at h0
 rename_i hl;rw[if_neg hl]
 split at h0
 ·simp at h0
 rename_i hf;rw[if_neg hf]
 split at h0
 ·simp at h0
 rename_i hm;rw[if_neg hm];refine⟨by omega,?_⟩;rw[Jh,qL,JH,JG,aN];rw[show k.length-(k.length-eM.getD x.1.toNat 0)=eM.getD x.1.toNat 0 by omega,M];omega
structure Gj (nt inp:Nat) (role:U8_) (i:Nat) (x:VI) (s s':Vs):Prop where
 th:thereV nt inp role s.blocks x=0
 vl:(aK s.kinds x).1=0
 pl:opensV x.1=false→x.1≠21→s'.kinds=(aK s.kinds x).2
 k19:x.1=19→s'.kinds=(aK s.kinds x).2
 k22:x.1=22→s'.kinds=(aK s.kinds x).2++[84]
 k20:x.1=20→∃ r b,s.blocks=r++[b]∧b.op=19∧b.did=false∧s'.kinds=b.opn
 k21:x.1=21→s'.kinds=s.kinds
theorem Fa {nt ai:Nat}{ag:U8_}{i:Nat}{x:VI}{s:Vs}(h0:(cq nt ai ag i x s).1=0):Gj nt ai ag i x s (cq nt ai ag i x s).2:=by
 have ht:=jO h0;unfold cq at h0⊢;rw[if_neg (by rw[ht];simp)]at h0⊢
 split at h0
 ·rename_i hv;exact absurd h0 hv
 rename_i hv;rw[if_neg hv];have C:(aK s.kinds x).1=0:=by simpa using hv
 clear hv
 have ac:x.1=20→dM s.blocks.getLast?=false:=by
  intro e;unfold thereV at ht;rw[if_neg (by rw[e];rintro (⟨h,-⟩|⟨h,-⟩|⟨h|h,-⟩)<;>exact absurd h d_),if_neg (by rw[e];rintro⟨h,-⟩;exact absurd h d_)]at ht
  cases hb:dM s.blocks.getLast? with
  | false=>rfl
  | true=>rw[if_pos ⟨e,hb⟩]at ht;cases ht
 refine⟨ht,C,?_,?_,?_,?_,?_⟩
 ·intro ho D
  unfold opensV at ho;simp at ho;unfold turnsV;rw[if_neg ho.1.1,if_neg ho.1.2,if_neg ho.2,if_neg D]
 ·intro e
  unfold turnsV;rw[if_pos e]
 ·intro e
  unfold turnsV;rw[if_neg yzt,if_pos e]
 ·intro e
  have hb:=ac e;unfold turnsV;rw[if_neg yzt,if_neg yzt,if_pos e]
  cases hl:s.blocks.getLast? with
  | none=>rw[hl]at hb;simp[dM]at hb
  | some b =>
   rw[hl]at hb;simp[dM]at hb;exact⟨_,b,gx hl,hb.1,hb.2,rfl⟩
 ·intro e
  have hk:(aK s.kinds x).2=s.kinds:=mw (.inr e);unfold turnsV at h0⊢;rw[if_neg yzt,if_neg yzt,if_neg yzt,if_pos e]at h0⊢
  cases hl:s.blocks.getLast? with
  | none=>exact hk
  | some b =>
   simp only[hl]at h0⊢
   split
   ·exact hk
   ·exact hk
/-! ## blocks -/
section
variable {nt ai:Nat}{ag:U8_}{E:Me}
abbrev sM (nt ai:Nat)(ag:U8_)(E:Me)(i:Nat):Vs:=stV nt ai ag E.code i
theorem fA.step (G:fA nt ai ag E){i:Nat}(hi:i<E.code.length):xn i (E.code.getD i (0,0)) (sM nt ai ag E i) (sM nt ai ag E (i+1))∧Gj nt ai ag i (E.code.getD i (0,0)) (sM nt ai ag E i) (sM nt ai ag E (i+1)):=by
 have h2:=(po G.ok i Y).k;exact⟨(ln h2 (G.ok i hi)).1,Fa (G.ok i hi)⟩
theorem fA.run (G:fA nt ai ag E){i:Nat}(hi:i≤E.code.length):In nt ai ag E.code i:=po G.ok i hi
theorem pre_last {α:Type}{r t u:List α}{b c:α}(h:r++[b]++t=u++[c]):(t=[]∧r=u∧b=c)∨∃ l,t=l++[c]∧u=r++[b]++l:=by
 rcases List.eq_nil_or_concat t with rfl|⟨l,d,rfl⟩
 ·rw[Jy]at h
  have:=List.append_inj' h rfl;exact .inl ⟨rfl,this.1,by simpa using this.2⟩
 ·rw[List.concat_eq_append,←Jg]at h
  have:=List.append_inj' h rfl;refine .inr ⟨l,by rw[List.concat_eq_append];simpa using this.2,this.1.symm⟩
theorem yz (G:fA nt ai ag E){r:List Vb}{b:Vb}{i:Nat}(hb:∃ t,(sM nt ai ag E i).blocks=r++[b]++t):∀ n,i+n=E.code.length→∃ e,i≤e∧e<E.code.length∧(sM nt ai ag E e).blocks=r++[b]∧(opV E.code e=20∨opV E.code e=21)∧E.ends.getD b.at_ 0=(e:Int)∧∀ k,i≤k→k≤e→∃ t,(sM nt ai ag E k).blocks=r++[b]++t:=by
 intro n
 induction n generalizing i with
 | zero =>
  intro hn;obtain⟨t,ht⟩:=hb;have hi:i=E.code.length:=Y;subst hi;have:=G.done;rw[show stV nt ai ag E.code E.code.length=sM nt ai ag E E.code.length from rfl,ht]at this;simp at this
 | succ n H =>
  intro hn;have hi:i<E.code.length:=Y;obtain⟨hs,-⟩:=G.step hi;obtain⟨t,ht⟩:=hb
  have d:(∃ t,(sM nt ai ag E (i+1)).blocks=r++[b]++t)→∃ e,i≤e∧e<E.code.length∧(sM nt ai ag E e).blocks=r++[b]∧(opV E.code e=20∨opV E.code e=21)∧E.ends.getD b.at_ 0=(e:Int)∧∀ k,i≤k→k≤e→∃ t,(sM nt ai ag E k).blocks=r++[b]++t:=by
   intro h;obtain⟨e,h1,h2,h3,h4,h5,h6⟩:=H h Y;refine⟨e,by omega,h2,h3,h4,h5,fun k hk1 z=>?_⟩;rcases Nat.eq_or_lt_of_le hk1 with rfl|hk
   ·exact⟨t,ht⟩
   ·exact h6 k Y z
  have g:∀ (c:Vb) (u v:List Vb),t=[]→(sM nt ai ag E (i+1)).blocks.map Vb.at_=v.map Vb.at_→(∀ a∈v.map Vb.at_,a≠b.at_)→(sM nt ai ag E (i+1)).ends=(sM nt ai ag E i).ends.set b.at_ (i:Int)→(opV E.code i=20∨opV E.code i=21)→∃ e,i≤e∧e<E.code.length∧(sM nt ai ag E e).blocks=r++[b]∧(opV E.code e=20∨opV E.code e=21)∧E.ends.getD b.at_ 0=(e:Int)∧∀ k,i≤k→k≤e→∃ t,(sM nt ai ag E k).blocks=r++[b]++t:=by
   intro c u v o hv aI he ho;subst o;rw[Jy]at ht;have hr:=G.run (i:=i) Y;have aj:b∈(sM nt ai ag E i).blocks:=by rw[ht];simp
   have A:=(hr.inv.bl b aj).1;have aS:=hr.inv.el;refine⟨i,I6 _,hi,ht,ho,?_,fun k h1 h2=>⟨[],by rw[Jy,show k=i by omega];exact ht⟩⟩
   have x:b.at_ ∉ (stV nt ai ag E.code (i+1)).blocks.map Vb.at_:=by
    show b.at_ ∉ (sM nt ai ag E (i+1)).blocks.map Vb.at_;rw[hv];exact fun h=>aI _ h rfl
   have:=(pL G.ok (i:=i+1) (j:=b.at_) Y x (E.code.length-(i+1)) Y).1;rw[show i+1+(E.code.length-(i+1))=E.code.length by omega]at this;rw[G.ends,this];show(sM nt ai ag E (i+1)).ends.getD b.at_ 0=_;rw[he];exact iU (by rw[aS];omega)
  have ab:=(G.run (i:=i) Y).inv.st;rcases hs with ⟨_,k,_,m,_⟩|⟨ac,r',b',hl,m,he⟩|⟨D,r',b',hl,_,m,he⟩|⟨_,m,_⟩
  ·exact d ⟨t++[⟨(E.code.getD i (0,0)).1,k,k,i,false⟩],by rw[m,ht];simp⟩
  ·rw[ht]at hl
   rcases pre_last hl with ⟨h1,rfl,rfl⟩|⟨l,rfl,rfl⟩
   ·subst h1
    rw[ht,Jy]at ab;have aC:=(jj ab).2;have A:=((G.run (i:=i) Y).inv.bl b (by rw[ht];simp)).1;refine g b [] (r++[{ b with want:=(sM nt ai ag E i).kinds,at_:=i,did:=true }]) rfl (by rw[m]) ?_ he (.inl ac);intro a ha;rw[Jf]at ha;rcases Jt.1 ha with ha|ha
    ·have:=aC a ha;omega
    ·simp at ha;omega
   ·exact d ⟨l++[{ b' with want:=(sM nt ai ag E i).kinds,at_:=i,did:=true }],by rw[m];simp⟩
  ·rw[ht]at hl
   rcases pre_last hl with ⟨h1,rfl,rfl⟩|⟨l,rfl,rfl⟩
   ·subst h1
    rw[ht,Jy]at ab;have aC:=(jj ab).2;refine g b [] r rfl (by rw[m]) ?_ he (.inr D);intro a ha;have:=aC a ha;omega
   ·exact d ⟨l,m⟩
  ·exact d ⟨t,by rw[m,ht]⟩
end
section
variable {nt ai:Nat}{ag:U8_}{E:Me}
theorem J5 {T:Prop} (h:T:=by
 unfold bL;rw[h,List.filter_append,Jf,List.reverse_append]
 by_cases hb:b.op=22
 ·simp[hb]
 ·simp[hb]
):T:=h
theorem mU (s s':Vs)(b:Vb)(h:s'.blocks=s.blocks++[b]):bL s'=(if b.op=22 then [b.at_] else [])++bL s:=by
 exact J5
theorem fw {s:Vs}{r:List Vb}{b:Vb}(h:s.blocks=r++[b]):bL s=(if b.op=22 then [b.at_] else [])++((r.filter fun b=>b.op==22).map Vb.at_).reverse:=by
 exact J5
theorem DS {s s':Vs}(h:s'.blocks=s.blocks):bL s'=bL s:=by unfold bL;rw[h]
structure GU (nt inp:Nat) (role:U8_) (E:Me) (i e:Nat) (r:List Vb) (b:Vb):Prop where
 lt:i<e
 le:e<E.code.length
 en:E.ends.getD i 0=(e:Int)
 be:(sM nt inp role E e).blocks=r++[b]
 oe:opV E.code e=20∨opV E.code e=21
 all:∀ k,i+1≤k→k≤e→∃ t,(sM nt inp role E k).blocks=r++[b]++t
theorem mR (G:fA nt ai ag E){i:Nat}{r:List Vb}{b:Vb}(hi:i<E.code.length)(hb:(sM nt ai ag E (i+1)).blocks=r++[b])(ha:b.at_=i):∃ e,GU nt ai ag E i e r b:=by
 obtain⟨e,h1,h2,h3,h4,h5,h6⟩:=yz G (r:=r) (b:=b) (i:=i+1) ⟨[],by rw[hb];simp⟩ (E.code.length-(i+1)) Y;rw[ha]at h5;exact⟨e,by omega,h2,h5,h3,h4,h6⟩
theorem J3 {T:Prop} (h:T:=by
 rcases hm.oe with h'|h'
 ·rw[show(E.code.getD e (0,0)).1=_ from h']at h;exact absurd h.1 (by decide)
 ·exact absurd h' h.2
):T:=h
theorem J4 {T:Prop} (h:T:=by
 rcases hm.oe with h'|h'<;>rw[show(E.code.getD e (0,0)).1=_ from h']at h<;>rcases h with h|h<;>exact absurd h (by decide)
):T:=h
theorem J6 {T:Prop} (h:T:=by
 rw[show(E.code.getD e (0,0)).1=21 from D]at h;rcases h with h|h<;>exact absurd h (by decide)
):T:=h
theorem fy (G:fA nt ai ag E){i:Nat}(hi:i<E.code.length)(ho:opV E.code i=19∨opV E.code i=22):∃ e,i<e∧e<E.code.length∧E.ends.getD i 0=(e:Int)∧(sM nt ai ag E (e+1)).kinds.length=(sM nt ai ag E i).kinds.length-1∧1≤(sM nt ai ag E i).kinds.length∧bL (sM nt ai ag E (e+1))=bL (sM nt ai ag E i)∧(opV E.code i=22→opV E.code e=21):=by
 obtain⟨hs,h1⟩:=G.step hi;have hx:(E.code.getD i (0,0)).1=19∨(E.code.getD i (0,0)).1=22:=ho;have hn:(E.code.getD i (0,0)).1.toNat<24:=by rcases hx with h|h<;>rw[h]<;>decide
 obtain⟨l1,l2⟩:=gD hn h1.vl;have g:eM.getD (E.code.getD i (0,0)).1.toNat 0=1:=by rcases hx with h|h<;>rw[h]<;>rfl
 have I:gh.getD (E.code.getD i (0,0)).1.toNat 0=0:=by rcases hx with h|h<;>rw[h]<;>rfl
 rw[g]at l1 l2;rcases hs with ⟨_,k,hk,hb,_⟩|⟨ac,_⟩|⟨D,_⟩|⟨hr,_⟩
 ·obtain⟨e,hm⟩:=mR G hi hb rfl
  have bq:k.length=(sM nt ai ag E i).kinds.length-1:=by rw[hk,JH];omega
  obtain⟨a,l⟩:=G.step hm.le;refine⟨e,hm.lt,hm.le,hm.en,?_,l1,?_,?_⟩
  ·rcases hm.oe with ac|D
   ·obtain⟨r,b,hl,_,_,aq⟩:=l.k20 ac
    rw[hm.be]at hl;have:=(List.append_inj' hl rfl).2;simp at this;rw[aq,←this];exact bq
   ·rw[l.k21 D]
    rcases a with ⟨h,_⟩|⟨h,_⟩|⟨_,r,b,hl,c,_,_⟩|⟨h,_⟩
    ·exact J6
    ·rw[show(E.code.getD e (0,0)).1=21 from D]at h;exact absurd h d_
    ·rw[hm.be]at hl
     have:=(List.append_inj' hl rfl).2;simp at this;rw[c,←this];exact bq
    ·exact absurd D h.2
  ·rcases a with ⟨h,_⟩|⟨h,r,b,hl,m,_⟩|⟨h,r,b,hl,_,m,_⟩|⟨h,_⟩
   ·exact J4
   ·obtain⟨r',b',s,d,_,_⟩:=l.k20 h
    rw[hl]at s;have e1:=List.append_inj' s rfl;rw[hm.be]at hl;have e2:=List.append_inj' hl rfl;have au:b=b':=by simpa using e1.2
    rw[fw m];rw[if_neg (by show ¬b.op=22;rw[au,d];decide),JC,←e2.1]
    rfl
   ·rw[hm.be]at hl
    have e2:=List.append_inj' hl rfl;unfold bL;rw[m,←e2.1]
   ·exact J3
  ·intro B
   rcases hm.oe with ac|D
   ·obtain⟨r,b,hl,d,_,_⟩:=l.k20 ac
    rw[hm.be]at hl;have:=(List.append_inj' hl rfl).2;simp at this;rw[←this]at d;have:(E.code.getD i (0,0)).1=19:=d;rw[show(E.code.getD i (0,0)).1=22 from B]at this;exact absurd this d_
   ·exact D
 ·rcases hx with h|h<;>rw[h]at ac<;>exact absurd ac d_
 ·rcases hx with h|h<;>rw[h]at D<;>exact absurd D d_
 ·rcases hx with h|h<;>rw[h]at hr<;>exact absurd hr.1 d_
theorem us (G:fA nt ai ag E){i:Nat}(hi:i<E.code.length)(ho:opV E.code i=20):∃ e,i<e∧e<E.code.length∧E.ends.getD i 0=(e:Int)∧(sM nt ai ag E e).kinds.length=(sM nt ai ag E i).kinds.length∧bL (sM nt ai ag E e)=bL (sM nt ai ag E i):=by
 obtain⟨hs,h1⟩:=G.step hi;obtain⟨Q,o,j,d,k,u⟩:=h1.k20 ho;rcases hs with ⟨h,_⟩|⟨_,r,b,hl,hb,_⟩|⟨h,_⟩|⟨h,_⟩
 ·rw[show(E.code.getD i (0,0)).1=20 from ho]at h;rcases h with h|h<;>exact absurd h d_
 ·rw[hl]at j
  have e0:=List.append_inj' j rfl;have au:b=o:=by simpa using e0.2
  obtain⟨e,hm⟩:=mR G hi hb rfl;obtain⟨a,l⟩:=G.step hm.le
  have D:opV E.code e=21:=by
   rcases hm.oe with ac|D
   ·obtain⟨r',b',s,_,g,_⟩:=l.k20 ac
    rw[hm.be]at s;have:=(List.append_inj' s rfl).2;simp at this;rw[←this]at g
    cases g
   ·exact D
  refine⟨e,hm.lt,hm.le,hm.en,?_,?_⟩
  ·rcases a with ⟨h,_⟩|⟨h,_⟩|⟨_,r',b',s,c,_,_⟩|⟨h,_⟩
   ·exact J6
   ·rw[show(E.code.getD e (0,0)).1=21 from D]at h;exact absurd h d_
   ·rw[hm.be]at s
    have:=(List.append_inj' s rfl).2;simp at this;rw[c,←this]
   ·exact absurd D h.2
  ·rw[fw hm.be,fw hl,if_neg (by show ¬b.op=22;rw[au,d];decide),if_neg (by rw[au,d];decide)]
 ·rw[show(E.code.getD i (0,0)).1=20 from ho]at h;exact absurd h d_
 ·rw[show(E.code.getD i (0,0)).1=20 from ho]at h;exact absurd h.1 d_
theorem DJ (G:fA nt ai ag E){j:Nat}(hj:j<E.code.length)(ho:opensV (opV E.code j)=true):∃ r b,(sM nt ai ag E (j+1)).blocks=r++[b]∧b.at_=j∧(opV E.code j=22↔b.op=22)∧(opV E.code j=22→(sM nt ai ag E (j+1)).kinds.length=b.want.length+1):=by
 obtain⟨hs,h1⟩:=G.step hj;rcases hs with ⟨hx,k,hk,hb,_⟩|⟨ac,r,b,hl,hb,_⟩|⟨D,_⟩|⟨h,_⟩
 ·refine⟨_,_,hb,rfl,Iff.rfl,fun B=>?_⟩
  have a:(E.code.getD j (0,0)).1=22:=B;obtain⟨l1,l2⟩:=gD (by rw[a];decide) h1.vl;rw[a]at l1 l2;have e1:eM.getD (22:U8_).toNat 0=1:=rfl;have e2:gh.getD (22:U8_).toNat 0=0:=rfl;rw[e1]at l1 l2;rw[e2]at l2;rw[h1.k22 a,Jh,l2];show _=k.length+1;rw[hk,JH];simp;omega
 ·obtain⟨r',b',s,aE,_,_⟩:=h1.k20 ac
  rw[hl]at s;have au:b=b':=by simpa using (List.append_inj' s rfl).2
  refine⟨r,_,hb,rfl,⟨fun h=>?_,fun h=>?_⟩,fun h=>?_⟩
  ·rw[show opV E.code j=20 from ac]at h;exact absurd h d_
  ·have:b.op=22:=h
   rw[au,aE]at this;exact absurd this d_
  ·rw[show opV E.code j=20 from ac]at h;exact absurd h d_
 ·rw[show opV E.code j=21 from D]at ho;exact absurd ho d_
 ·rw[show opV E.code j=(E.code.getD j (0,0)).1 from rfl,h.1]at ho;cases ho
theorem ur (G:fA nt ai ag E){i:Nat}(hi:i<E.code.length)(ho:opV E.code i=21):∃ (j:Nat) (b:Vb),j<i∧(opV E.code j=22↔b.op=22)∧opensV (opV E.code j)=true∧E.ends.getD j 0=(i:Int)∧(∀ j',j'<E.code.length→opensV (opV E.code j')=true→E.ends.getD j' 0=(i:Int)→j'=j) ∧bL (sM nt ai ag E i)=(if b.op=22 then [j] else [])++bL (sM nt ai ag E (i+1))∧(sM nt ai ag E (i+1)).kinds=(sM nt ai ag E i).kinds ∧(b.op=22→(sM nt ai ag E (j+1)).kinds.length=(sM nt ai ag E i).kinds.length+1∧bL (sM nt ai ag E (j+1))=bL (sM nt ai ag E i)):=by
 obtain⟨hs,h1⟩:=G.step hi;have hx:(E.code.getD i (0,0)).1=21:=ho;rcases hs with ⟨h,_⟩|⟨h,_⟩|⟨_,r,b,hl,c,hb,_⟩|⟨h,_⟩
 ·rw[hx]at h;rcases h with h|h<;>exact absurd h d_
 ·rw[hx]at h;exact absurd h d_
 ·have aO:=G.run (i:=i) Y
  have aj:b∈(sM nt ai ag E i).blocks:=by rw[hl];simp
  obtain⟨ae,F,-,-⟩:=aO.inv.bl b aj;have ab:=aO.inv.st;rw[show(stV nt ai ag E.code i).blocks=r++[b] from hl]at ab;have aC:=(jj ab).2;obtain⟨r1,b1,a8,av,k,hk1⟩:=DJ G (j:=b.at_) Y F;obtain⟨e,hm⟩:=mR G Y a8 av
  have v:e=i:=by
   rcases Nat.lt_trichotomy e i with h|h|h
   ·exfalso
    obtain⟨a,l⟩:=G.step hm.le;have n:=(G.run (i:=e) Y).inv.st;rw[show(stV nt ai ag E.code e).blocks=r1++[b1] from hm.be]at n;have d:=(jj n).2;rw[av]at d
    have a0:b.at_ ∉ (stV nt ai ag E.code (e+1)).blocks.map Vb.at_:=by
     show b.at_ ∉ (sM nt ai ag E (e+1)).blocks.map Vb.at_;intro u;rcases a with ⟨h,_⟩|⟨ac,r',b',s,m,_⟩|⟨D,r',b',s,_,m,_⟩|⟨h,_⟩
     ·exact J4
     ·rw[hm.be]at s
      have e2:=(List.append_inj' s rfl).1;rw[m,←e2,Jf]at u;rcases Jt.1 u with u|u
      ·have:=d _ u;omega
      ·simp at u;have:=hm.lt;omega
     ·rw[hm.be]at s
      have e2:=(List.append_inj' s rfl).1;rw[m,←e2]at u;have:=d _ u;omega
     ·exact J3
    have:=(pL G.ok (i:=e+1) (j:=b.at_) (by have:=hm.lt;omega) a0 (i-(e+1)) Y).2;rw[show e+1+(i-(e+1))=i by omega,show(stV nt ai ag E.code i).blocks=r++[b] from hl]at this;simp at this
   ·exact h
   ·exfalso
    obtain⟨t,ht⟩:=hm.all (i+1) Y Y;rw[hb]at ht;have u:b1.at_∈r.map Vb.at_:=by rw[ht];simp
    have:=aC _ u;omega
  subst v;have o:=hm.be;rw[hl]at o;have e1:=List.append_inj' o rfl;have au:b=b1:=by simpa using e1.2
  refine⟨b.at_,b,ae,by rw[au];rw[au]at k;exact k,F,hm.en,?_,?_,h1.k21 hx,?_⟩
  ·intro j' af g aJ
   obtain⟨r2,b2,aY,aF,-,-⟩:=DJ G af g;obtain⟨e2,N⟩:=mR G af aY aF;have h3:=N.en;rw[aJ]at h3;have h4:e2=e:=Y;subst h4;have h5:=N.be;rw[hl]at h5;have h6:b=b2:=by simpa using (List.append_inj' h5 rfl).2
   rw[←aF,←h6]
  ·rw[fw hl]
   unfold bL;rw[hb]
  ·intro B
   have q:opV E.code b.at_=22:=by
    rw[au]at B⊢;rw[au]at k;exact k.2 B
   refine⟨by rw[hk1 q,c,au],?_⟩;rw[fw a8,fw hl,e1.1,au]
 ·exact absurd hx h.2
end
theorem cH {α:Type}{l:List α}(h:1≤l.length):∃ a s,l=a::s:=by
 match l,h with
 | a::s,_=>exact⟨a,s,rfl⟩
theorem dE {α:Type}{l:List α}(h:2≤l.length):∃ a b s,l=a::b::s:=by
 match l,h with
 | a::b::s,_=>exact⟨a,b,s,rfl⟩
 | [_],h=>exact absurd h i_
theorem pG {α:Type}{l:List α}(h:3≤l.length):∃ a b c s,l=a::b::c::s:=by
 match l,h with
 | a::b::c::s,_=>exact⟨a,b,c,s,rfl⟩
 | [_,_],h=>exact absurd h i_
 | [_],h=>exact absurd h i_
theorem lU {nt ai:Nat}{ag:U8_}{bl:List Vb}{x:VI}(h:thereV nt ai ag bl x=0):(x.1=1→x.2.toNat<nt)∧(x.1=3→x.2.toNat<ai)∧(x.1=17∨x.1=18→x.2.toNat<8)∧(x.1=23→ag=1):=by
 unfold thereV at h
 split at h
 ·cases h
 rename_i h1
 split at h
 ·cases h
 rename_i h2;refine⟨fun e=>?_,fun e=>?_,fun e=>?_,fun e=>?_⟩
 ·exact Nat.lt_of_not_le fun hc=>h1 (.inl ⟨e,hc⟩)
 ·exact Nat.lt_of_not_le fun hc=>h1 (.inr (.inl ⟨e,hc⟩))
 ·exact Nat.lt_of_not_le fun hc=>h1 (.inr (.inr ⟨e,hc⟩))
 ·exact Decidable.byContradiction fun hc=>h2 ⟨e,hc⟩
theorem gn (n:Int):-9223372036854775808≤wrap64 n∧wrap64 n≤9223372036854775807:=by unfold wrap64;omega
theorem my {n:Int}(h1:-9223372036854775808≤n)(h2:n≤9223372036854775807):vOk (n,[]):=⟨h1,h2,by simp⟩
theorem jC {s:q}(h:s.length≤1024):vOk (0,s):=⟨by simp,by simp,h⟩
theorem tu (b:Bool):vOk (bitM b):=by cases b<;>exact⟨by decide,by decide,by decide⟩
theorem Br (s:q)(a n:Int):(im s a n).length≤s.length:=by unfold im;rw[JH,JG];omega
section
variable {nt ai:Nat}{ag:U8_}{E:Me}{S:Nat→Vs}{pc:Nat}{st V rg:LM_}{op:List (Nat×LL_)}{W:LX_}
theorem OkM.next (h:OkM S E ⟨pc,st,rg,op,W⟩)(u:pc<E.code.length)(hk:(S (pc+1)).kinds.length=V.length)(hl:bL (S (pc+1))=bL (S pc))(hv:∀ v∈V,vOk v):OkM S E ⟨pc+1,V,rg,op,W⟩ :=
 ⟨u,hk.symm,by rw[h.op];exact hl.symm,h.rg,hv,h.rv,h.ov,h.pr,h.pv⟩
theorem cW {v:MV}{s:LM_}(h:vOk v)(hs:∀ v∈s,vOk v):∀ u∈v::s,vOk u:=fun u hu=>by
 rcases JK.1 hu with rfl|hu
 ·exact h
 ·exact hs u hu
theorem ba {v:MV}{s:LM_}(h:∀ u∈v::s,vOk u):∀ u∈s,vOk u:=fun u hu=>h u (Jo _ hu)
theorem cQ {v:MV}{s:LM_}(h:∀ u∈v::s,vOk u):vOk v:=h v (Jn ..)
theorem ql {s:q}(h:s.length≤1024)(c:U8_):(cD s c).length≤1025∧∀ p∈cD s c,p.length≤1024:=by
 obtain⟨h1,-,h3⟩:=lW c s;unfold cD
 split
 ·simp
 ·exact⟨by omega,fun p hp=>by have:=h3 p hp;omega⟩
theorem jX {α:Type}{P:α→Prop}{l:List α}(h:∀ x∈l,P x){i:Nat}(hi:i<l.length)(d:α):P (l.getD i d):=by
 rw[List.getD_eq_getElem?_getD,List.getElem?_eq_getElem hi];exact h _ (Jz hi)
theorem Gt {α:Type}{P:α→Prop}{l:List α}(h:∀ x∈l,P x)(i:Nat){v:α}(hv:P v):∀ x∈l.set i v,P x:=fun x hx=>by
 rcases List.mem_or_eq_of_mem_set hx with hx|rfl
 ·exact h x hx
 ·exact hv
theorem lY (G:fA nt ai ag E)(u:pc<E.code.length){n:Nat}(hn:(E.code.getD pc (0,0)).1.toNat=n)(a:n<24)(ah:n≠19)(ac:n≠20)(D:n≠21)(B:n≠22):eM.getD n 0≤(sM nt ai ag E pc).kinds.length∧(sM nt ai ag E (pc+1)).kinds.length=(sM nt ai ag E pc).kinds.length-eM.getD n 0+gh.getD n 0∧bL (sM nt ai ag E (pc+1))=bL (sM nt ai ag E pc):=by
 obtain⟨hs,ho⟩:=G.step u;have aI:∀ k:U8_,k.toNat≠n→(E.code.getD pc (0,0)).1≠k:=fun k hk e=>hk (by rw[←e];exact hn);have au:=aI 19 (by show 19≠n;omega);have ay:=aI 20 (by show 20≠n;omega);have az:=aI 21 (by show 21≠n;omega);have aB:=aI 22 (by show 22≠n;omega);have aE:opensV (E.code.getD pc (0,0)).1=false:=by unfold opensV;rw[beq_eq_false_iff_ne.2 au,beq_eq_false_iff_ne.2 aB,beq_eq_false_iff_ne.2 ay];rfl
 obtain⟨l1,l2⟩:=gD Y ho.vl;rw[hn]at l1 l2;refine⟨l1,by rw[ho.pl aE az];exact l2,?_⟩;rcases hs with ⟨h,_⟩|⟨h,_⟩|⟨h,_⟩|⟨_,hb,_⟩
 ·rcases h with h|h
  ·exact absurd h au
  ·exact absurd h aB
 ·exact absurd h ay
 ·exact absurd h az
 ·exact DS hb
theorem jT {j:Nat}(aq:∀ j',j'<E.code.length→opensV (opV E.code j')=true→E.ends.getD j' 0=(pc:Int)→j'=j)(hj:j<E.code.length)(he:E.ends.getD j 0=(pc:Int)):fK E pc=(opV E.code j==22):=by
 unfold fK
 cases h:(opV E.code j==22) with
 | true =>
  refine List.any_eq_true.2 ⟨j,List.mem_range.2 hj,?_⟩;rw[Jj];exact⟨h,by rw[he];simp⟩
 | false =>
  refine List.any_eq_false.2 fun k hk=>?_;intro hc;rw[Jj]at hc;have B:opV E.code k=22:=by simpa[opV] using hc.1
  have:=aq k (List.mem_range.1 hk) (by rw[B];rfl) (by simpa using hc.2);subst this;rw[B]at h
  cases h
end
section
variable {nt ai:Nat}{ag:U8_}{E:Me}
theorem J7 {T:Prop} (h:T:=by
 exact⟨by show e+1≤_;omega,by show s.length=(sM nt ai ag E (e+1)).kinds.length;rw[e4];simp,by show op.map (·.1)=bL (sM nt ai ag E (e+1));rw[e6];exact aE,Q,ba z,aS,ax,aj,d⟩
):T:=h
theorem zl (G:fA nt ai ag E){m:Mc}(h:OkM (sM nt ai ag E) E m)(u:m.pc<E.code.length):(doM E (xM E m) m).1≠99∧((doM E (xM E m) m).1=0→OkM (sM nt ai ag E) E (doM E (xM E m) m).2):=by
 obtain⟨pc,st,rg,op,W⟩:=m;have u:pc<E.code.length:=u;have ab:st.length=(sM nt ai ag E pc).kinds.length:=h.st;have aE:op.map (·.1)=bL (sM nt ai ag E pc):=h.op;have z:∀ v∈st,vOk v:=h.sv;have aS:∀ v∈rg,vOk v:=h.rv;have Q:rg.length=8:=h.rg;have ax:∀ o∈op,o.2.length≤1024∧∀ p∈o.2,p.length≤1024:=h.ov;have aj:W.length≤256:=h.pr;have d:∀ p∈W,p.1.length≤1024∧p.2.length≤1024:=h.pv;have hx:bw (E.code.getD pc (0,0))=true:=jX (P:=fun x=>bw x=true) G.may u _
 have bN:1≤(E.code.getD pc (0,0)).1.toNat∧(E.code.getD pc (0,0)).1.toNat≤23:=by
  unfold bw at hx;simp at hx;exact hx.1
 obtain⟨hs,ho⟩:=G.step u;obtain⟨g1,g3,aH,aR⟩:=lU ho.th;show(doN E (E.code.getD pc (0,0)).1.toNat (E.code.getD pc (0,0)).2 pc st rg op W).1≠99∧((doN E (E.code.getD pc (0,0)).1.toNat (E.code.getD pc (0,0)).2 pc st rg op W).1=0→OkM (sM nt ai ag E) E (doN E (E.code.getD pc (0,0)).1.toNat (E.code.getD pc (0,0)).2 pc st rg op W).2);obtain⟨n,hn⟩:∃ n,(E.code.getD pc (0,0)).1.toNat=n:=⟨_,rfl⟩
 have hu:∀ k:U8_,k.toNat=n→(E.code.getD pc (0,0)).1=k:=fun k hk=>UInt8.toNat_inj.1 (hn.trans hk.symm);have I:=fun (ah:n≠19) (ac:n≠20) (D:n≠21) (B:n≠22)=>lY G u hn Y ah ac D B;rw[hn]at bN⊢;rw[←ab]at I;obtain⟨y,hy⟩:∃ y,(E.code.getD pc (0,0)).2=y:=⟨_,rfl⟩
 rw[hy]at g1 g3 aH⊢;have n0:(0:Nat)≠99:=d_;have n4:(4:Nat)≠99:=d_;have H:(5:Nat)≠99:=d_;have n40:¬(4:Nat)=0:=d_;have i:¬(5:Nat)=0:=d_;clear hx hn;rcases(show n=1∨n=2∨n=3∨n=4∨n=5∨n=6∨n=7∨n=8∨n=9∨n=10∨n=11∨n=12∨n=13∨n=14∨n=15∨n=16∨n=17∨n=18∨n=19∨n=20∨n=21∨n=22∨n=23 by omega) with rfl|rfl|rfl|rfl|rfl|rfl|rfl|rfl|rfl|rfl|rfl|rfl|rfl|rfl|rfl|rfl|rfl|rfl|rfl|rfl|rfl|rfl|rfl
 ·obtain⟨l1,l2,l3⟩:=I d_ d_ d_ d_
  exact⟨n0,fun _=>h.next (V:=(0,E.tx.getD y.toNat [])::st) u (l2.trans (by simp[eM,gh])) l3 (cW (jC (jX (P:=fun s:q=>s.length≤1024) G.txv (by rw[G.txl];exact g1 (hu 1 rfl)) _)) z)⟩
 ·obtain⟨l1,l2,l3⟩:=I d_ d_ d_ d_
  exact⟨n0,fun _=>h.next (V:=((y.toNat:Int),[])::st) u (l2.trans (by simp[eM,gh])) l3 (cW (my Y (by have:=y.toNat_lt;omega)) z)⟩
 ·obtain⟨l1,l2,l3⟩:=I d_ d_ d_ d_
  exact⟨n0,fun _=>h.next (V:=(0,E.ins.getD y.toNat [])::st) u (l2.trans (by simp[eM,gh])) l3 (cW (jC (jX (P:=fun s:q=>s.length≤1024) G.inv (by rw[G.inl];exact g3 (hu 3 rfl)) _)) z)⟩
 ·obtain⟨l1,l2,l3⟩:=I d_ d_ d_ d_
  obtain⟨b,a,s,rfl⟩:=dE (show 2≤st.length from l1);have hd:doN E 4 y pc (b::a::s) rg op W=if 1024<a.2.length+b.2.length then (5,⟨pc,b::a::s,rg,op,W⟩) else (0,⟨pc+1,(0,a.2++b.2)::s,rg,op,W⟩):=rfl;rw[hd]
  split
  ·exact⟨H,fun h'=>absurd h' i⟩
  ·exact⟨n0,fun _=>h.next u (l2.trans (by simp[eM,gh])) l3 (cW (jC (by rw[Jh];omega)) (ba (ba z)))⟩
 ·obtain⟨l1,l2,l3⟩:=I d_ d_ d_ d_
  obtain⟨a,s,rfl⟩:=cH (show 1≤st.length from l1);exact⟨n0,fun _=>h.next (V:=((a.2.length:Int),[])::s) u (l2.trans (by simp[eM,gh])) l3 (cW (my Y (by have:=(cQ z).2.2;omega)) (ba z))⟩
 ·obtain⟨l1,l2,l3⟩:=I d_ d_ d_ d_
  obtain⟨n,a,t,s,rfl⟩:=pG (show 3≤st.length from l1);exact⟨n0,fun _=>h.next (V:=(0,im t.2 a.1 n.1)::s) u (l2.trans (by simp[eM,gh])) l3 (cW (jC (Jc (Br _ _ _) (cQ (ba (ba z))).2.2)) (ba (ba (ba z))))⟩
 ·obtain⟨l1,l2,l3⟩:=I d_ d_ d_ d_
  obtain⟨a,s,rfl⟩:=cH (show 1≤st.length from l1);exact⟨n0,fun _=>h.next (V:=(da a.2,[])::s) u (l2.trans (by simp[eM,gh])) l3 (cW (my (sq _).1 (sq _).2) (ba z))⟩
 ·obtain⟨l1,l2,l3⟩:=I d_ d_ d_ d_
  obtain⟨a,s,rfl⟩:=cH (show 1≤st.length from l1);exact⟨n0,fun _=>h.next (V:=(0,Lib.itoa a.1)::s) u (l2.trans (by simp[eM,gh])) l3 (cW (jC (Jc (Lib.itoa_length_le _ (cQ z).1 (cQ z).2.1) d_)) (ba z))⟩
 ·obtain⟨l1,l2,l3⟩:=I d_ d_ d_ d_
  obtain⟨b,a,s,rfl⟩:=dE (show 2≤st.length from l1);exact⟨n0,fun _=>h.next (V:=(wrap64 (a.1+b.1),[])::s) u (l2.trans (by simp[eM,gh])) l3 (cW (my (gn _).1 (gn _).2) (ba (ba z)))⟩
 ·obtain⟨l1,l2,l3⟩:=I d_ d_ d_ d_
  obtain⟨b,a,s,rfl⟩:=dE (show 2≤st.length from l1);exact⟨n0,fun _=>h.next (V:=(wrap64 (a.1*b.1),[])::s) u (l2.trans (by simp[eM,gh])) l3 (cW (my (gn _).1 (gn _).2) (ba (ba z)))⟩
 ·obtain⟨l1,l2,l3⟩:=I d_ d_ d_ d_
  obtain⟨b,a,s,rfl⟩:=dE (show 2≤st.length from l1);exact⟨n0,fun _=>h.next (V:=bitM (decide (a.1<b.1))::s) u (l2.trans (by simp[eM,gh])) l3 (cW (tu _) (ba (ba z)))⟩
 ·obtain⟨l1,l2,l3⟩:=I d_ d_ d_ d_
  obtain⟨b,a,s,rfl⟩:=dE (show 2≤st.length from l1);exact⟨n0,fun _=>h.next (V:=bitM (a.2==b.2)::s) u (l2.trans (by simp[eM,gh])) l3 (cW (tu _) (ba (ba z)))⟩
 ·obtain⟨l1,l2,l3⟩:=I d_ d_ d_ d_
  obtain⟨a,s,rfl⟩:=cH (show 1≤st.length from l1);exact⟨n0,fun _=>h.next (V:=bitM (a.1==0)::s) u (l2.trans (by simp[eM,gh])) l3 (cW (tu _) (ba z))⟩
 ·obtain⟨l1,l2,l3⟩:=I d_ d_ d_ d_
  obtain⟨a,s,rfl⟩:=cH (show 1≤st.length from l1);exact⟨n0,fun _=>h.next (V:=s) u (l2.trans (by simp[eM,gh])) l3 (ba z)⟩
 ·obtain⟨l1,l2,l3⟩:=I d_ d_ d_ d_
  obtain⟨a,s,rfl⟩:=cH (show 1≤st.length from l1);exact⟨n0,fun _=>h.next (V:=a::a::s) u (l2.trans (by simp[eM,gh])) l3 (cW (cQ z) z)⟩
 ·obtain⟨l1,l2,l3⟩:=I d_ d_ d_ d_
  obtain⟨b,a,s,rfl⟩:=dE (show 2≤st.length from l1);exact⟨n0,fun _=>h.next (V:=a::b::s) u (l2.trans (by simp[eM,gh])) l3 (cW (cQ (ba z)) (cW (cQ z) (ba (ba z))))⟩
 ·obtain⟨l1,l2,l3⟩:=I d_ d_ d_ d_
  exact⟨n0,fun _=>h.next (V:=rg.getD y.toNat (0,[])::st) u (l2.trans (by simp[eM,gh])) l3 (cW (jX (P:=vOk) aS (by rw[Q];exact aH (.inl (hu 17 rfl))) _) z)⟩
 ·obtain⟨l1,l2,l3⟩:=I d_ d_ d_ d_
  obtain⟨a,s,rfl⟩:=cH (show 1≤st.length from l1);refine⟨n0,fun _=>⟨u,by show s.length=(sM nt ai ag E (pc+1)).kinds.length;rw[l2];simp[eM,gh],by show op.map (·.1)=_;rw[aE];exact l3.symm,by show(rg.set y.toNat a).length=8;rw[JN];exact Q,ba z,Gt (P:=vOk) aS _ (cQ z),ax,aj,d⟩⟩
 ·obtain⟨e,e1,e2,e3,e4,e5,e6,-⟩:=fy G u (.inl (hu 19 rfl))
  rw[←ab]at e4 e5;obtain⟨a,s,rfl⟩:=cH e5;refine⟨n0,fun _=>?_⟩;show OkM (sM nt ai ag E) E ⟨if a.1=0 then (E.ends.getD pc 0).toNat+1 else pc+1,s,rg,op,W⟩
  by_cases ha:a.1=0
  ·rw[if_pos ha,e3]
   exact J7
  ·rw[if_neg ha]
   obtain⟨l1,l2⟩:=gD (by rw[hu 19 rfl];decide) ho.vl;rw[hu 19 rfl]at l2;have hk:=ho.k19 (hu 19 rfl);refine⟨u,?_,?_,Q,ba z,aS,ax,aj,d⟩
   ·show s.length=(sM nt ai ag E (pc+1)).kinds.length
    rw[hk,l2,←ab];show s.length=(a::s).length-1+0;simp
   ·show op.map (·.1)=bL (sM nt ai ag E (pc+1))
    rcases hs with ⟨_,k,_,hb,_⟩|⟨h',_⟩|⟨h',_⟩|⟨h',_⟩
    ·rw[mU _ _ _ hb,if_neg (by show ¬(E.code.getD pc (0,0)).1=22;rw[hu 19 rfl];decide)]
     exact aE
    ·rw[hu 19 rfl]at h';exact absurd h' d_
    ·rw[hu 19 rfl]at h';exact absurd h' d_
    ·rw[hu 19 rfl]at h';exact absurd h'.1 d_
 ·obtain⟨e,e1,e2,e3,e4,e5⟩:=us G u (hu 20 rfl)
  refine⟨n0,fun _=>?_⟩;show OkM (sM nt ai ag E) E ⟨(E.ends.getD pc 0).toNat,st,rg,op,W⟩;rw[e3];exact⟨by show e≤_;omega,by show st.length=(sM nt ai ag E e).kinds.length;rw[e4];exact ab,by show op.map (·.1)=bL (sM nt ai ag E e);rw[e5];exact aE,Q,z,aS,ax,aj,d⟩
 ·obtain⟨j,b,e1,e2,e3,e4,e5,e6,e7,e8⟩:=ur G u (hu 21 rfl)
  have aq:=jT e5 Y e4;have hd:doN E 21 y pc st rg op W=if fK E pc=true then (match op with|(a,p::ps)::o=>(0,⟨a+1,(0,p)::st,rg,(a,ps)::o,W⟩)|(_,[])::o=>(0,⟨pc+1,st,rg,o,W⟩)|[]=>(99,⟨pc,st,rg,op,W⟩)) else (0,⟨pc+1,st,rg,op,W⟩):=rfl;rw[hd]
  by_cases hb:b.op=22
  ·have B:opV E.code j=22:=e2.2 hb
   rw[aq,B,if_pos yzf];rw[if_pos hb]at e6;obtain⟨e9,af⟩:=e8 hb;rw[e6]at aE
   match op,aE,ax with
   | [],aE,_=>cases aE
   | (a,[])::o,c,ax =>
    injection c with ha c
    exact⟨n0,fun _=>⟨u,by show st.length=(sM nt ai ag E (pc+1)).kinds.length;rw[e7];exact ab,c,Q,z,aS,fun F g=>ax F (Jo _ g),aj,d⟩⟩
   | (a,p::ps)::o,c,ax =>
    injection c with ha c
    have ha:a=j:=ha;subst ha;obtain⟨q1,q2⟩:=ax _ (Jn ..);refine⟨n0,fun _=>⟨by show a+1≤_;omega,?_,?_,Q,cW (jC (q2 p (Jn ..))) z,aS,?_,aj,d⟩⟩
    ·show st.length+1=(sM nt ai ag E (a+1)).kinds.length
     rw[e9,ab]
    ·show a::o.map (·.1)=bL (sM nt ai ag E (a+1))
     rw[af,e6,c];rfl
    ·intro F g
     rcases JK.1 g with rfl|g
     ·exact⟨by simp at q1;show ps.length≤1024;omega,fun p' A=>q2 p' (Jo _ A)⟩
     ·exact ax F (Jo _ g)
  ·have B:¬opV E.code j=22:=fun h'=>hb (e2.1 h')
   rw[aq,if_neg (by simpa using B)];rw[if_neg hb]at e6;exact⟨n0,fun _=>⟨u,by show st.length=(sM nt ai ag E (pc+1)).kinds.length;rw[e7];exact ab,by show op.map (·.1)=bL (sM nt ai ag E (pc+1));rw[aE,e6];rfl,Q,z,aS,ax,aj,d⟩⟩
 ·obtain⟨e,e1,e2,e3,e4,e5,e6,-⟩:=fy G u (.inr (hu 22 rfl))
  rw[←ab]at e4 e5;obtain⟨a,s,rfl⟩:=cH e5;have hd:doN E 22 y pc (a::s) rg op W=(match cD a.2 y with|[]=>(0,⟨(E.ends.getD pc 0).toNat+1,s,rg,op,W⟩)|p::ps=>(0,⟨pc+1,(0,p)::s,rg,(pc,ps)::op,W⟩)):=rfl;rw[hd];obtain⟨q1,q2⟩:=ql (cQ z).2.2 y
  cases hp:cD a.2 y with
  | nil =>
   refine⟨n0,fun _=>?_⟩;show OkM (sM nt ai ag E) E ⟨(E.ends.getD pc 0).toNat+1,s,rg,op,W⟩;rw[e3];exact J7
  | cons p ps =>
   rw[hp]at q1 q2;obtain⟨l1,l2⟩:=gD (by rw[hu 22 rfl];decide) ho.vl;rw[hu 22 rfl]at l2;have hk:=ho.k22 (hu 22 rfl);refine⟨n0,fun _=>⟨u,?_,?_,Q,cW (jC (q2 p (Jn ..))) (ba z),aS,?_,aj,d⟩⟩
   ·show s.length+1=(sM nt ai ag E (pc+1)).kinds.length
    rw[hk,Jh,l2,←ab];show s.length+1=(a::s).length-1+0+1;simp
   ·show pc::op.map (·.1)=bL (sM nt ai ag E (pc+1))
    rcases hs with ⟨_,k,_,hb,_⟩|⟨h',_⟩|⟨h',_⟩|⟨h',_⟩
    ·rw[mU _ _ _ hb,if_pos (by show(E.code.getD pc (0,0)).1=22;exact hu 22 rfl),aE];rfl
    ·rw[hu 22 rfl]at h';exact absurd h' d_
    ·rw[hu 22 rfl]at h';exact absurd h' d_
    ·rw[hu 22 rfl]at h';exact absurd h'.1 d_
   ·intro F g
    rcases JK.1 g with rfl|g
    ·exact⟨by simp at q1;show ps.length≤1024;omega,fun p' A=>q2 p' (Jo _ A)⟩
    ·exact ax F g
 ·obtain⟨l1,l2,l3⟩:=I d_ d_ d_ d_
  obtain⟨v,k,s,rfl⟩:=dE (show 2≤st.length from l1);have hd:doN E 23 y pc (v::k::s) rg op W=if 256≤W.length then (4,⟨pc,v::k::s,rg,op,W⟩) else (0,⟨pc+1,s,rg,op,W++[(k.2,v.2)]⟩):=rfl;rw[hd]
  split
  ·exact⟨n4,fun h'=>absurd h' n40⟩
  ·refine⟨n0,fun _=>⟨u,by show s.length=(sM nt ai ag E (pc+1)).kinds.length;rw[l2];simp[eM,gh],by show op.map (·.1)=_;rw[aE];exact l3.symm,Q,ba (ba z),aS,ax,by show(W++[(k.2,v.2)]).length≤256;rw[Jh,JJ];omega,fun p hp=>?_⟩⟩
   rcases Jt.1 hp with hp|hp
   ·exact d p hp
   ·rw[Jp]at hp
    subst hp;exact⟨(cQ (ba z)).2.2,(cQ z).2.2⟩
end
theorem wh {t:LL_}{c:LJ_}(h:dH t c=true):∀ s∈t,s.length≤64:=by
 unfold dH at h;simp only[Jj,List.all_eq_true,decide_eq_true_eq]at h;exact h.1.2
section
variable {nt ai:Nat}{ag:U8_}{E:Me}
theorem pR (f:Nat)(m:Mc)(h:¬m.pc<E.code.length):dG E f m=(0,m):=by cases f<;>simp[dG,h]
theorem nH (m:Mc)(h:m.pc<E.code.length):dG E 0 m=(140,m):=by simp[dG,h]
theorem pS {f:Nat}{m:Mc}(h:m.pc<E.code.length)(h0:(doM E (xM E m) m).1≠0):dG E (f+1) m=doM E (xM E m) m:=by rw[dG,if_pos h,if_neg h0]
theorem tI {f:Nat}{m:Mc}(h:m.pc<E.code.length)(h0:(doM E (xM E m) m).1=0):dG E (f+1) m=dG E f (doM E (xM E m) m).2:=by rw[dG,if_pos h,if_pos h0]
theorem tJ (G:fA nt ai ag E):∀ (f:Nat) (m:Mc),OkM (sM nt ai ag E) E m→(dG E f m).1=0→OkM (sM nt ai ag E) E (dG E f m).2∧(dG E f m).2.pc=E.code.length
 | f,m,h,h0=>by
  by_cases u:m.pc<E.code.length
  ·cases f with
   | zero=>rw[nH m u]at h0;cases h0
   | succ f =>
    by_cases hd:(doM E (xM E m) m).1=0
    ·rw[tI u hd]at h0⊢
     exact tJ G f _ ((zl G h u).2 hd) h0
    ·rw[pS u hd]at h0
     exact absurd h0 hd
  ·rw[pR f m u]
   exact⟨h,by show m.pc=_;have:=h.pc;omega⟩
theorem lg:OkM (sM nt ai ag E) E bF:=by
 refine⟨Jl _,rfl,rfl,by simp[bF],fun v hv=>by simp[bF]at hv,fun v hv=>?_,fun v hv=>by simp[bF]at hv,by simp[bF],fun v hv=>by simp[bF]at hv⟩
 have:v=(0,[]):=by
  have hv:v∈List.replicate 8 ((0,[]):MV):=hv;exact(List.mem_replicate.1 hv).2
 subst this;exact⟨by decide,by decide,by decide⟩
def rB (E:Me)(ag:U8_)(aa:Nat):Nat×LX_×q :=
 if (dG E aa bF).1=0 then (0,(dG E aa bF).2.pr,if ag=1 then [] else ((dG E aa bF).2.st.headD (0,[])).2) else ((dG E aa bF).1,[],[])
theorem ju {texts:LL_}{I:LJ_}{ag:U8_}(h:(az texts I ag).2.1=0){ins:LL_}(hl:ins.length=inputsV ag)(hi:∀ s∈ins,s.length≤1024):fA texts.length (inputsV ag) ag ⟨texts,I,ins,(az texts I ag).2.2.ends⟩∧(sM texts.length (inputsV ag) ag ⟨texts,I,ins,(az texts I ag).2.2.ends⟩ I.length).kinds=gB ag:=by
 obtain⟨hm,-,n,hr⟩:=fi h;obtain⟨t,ht⟩:=H ((az texts I ag).2.2);rw[←ht]at hr⊢;obtain⟨bb,ab,ax⟩:=zL I 0 rfl (Jl _) hr
 have bo:t.blocks=[]∧t.kinds=gB ag:=by
  unfold overV at ax
  split at ax
  ·cases ax
  rename_i hb
  split at ax
  ·cases ax
  split at ax
  ·cases ax
  rename_i hk;exact⟨I7 Y,Decidable.byContradiction hk⟩
 have du:∀ x∈I,bw x=true:=by
  unfold dH at hm;simp only[Jj,List.all_eq_true]at hm;exact hm.2
 refine⟨⟨du,fun j hj=>bb j (Jl _) hj,by show(stV _ _ ag I I.length).blocks=[];rw[ab];exact bo.1,by show t.ends=(stV _ _ ag I I.length).ends;rw[ab],rfl,fun s hs=>by have:=(wh hm) s hs;omega,hl,hi⟩,?_⟩;show(stV _ _ ag I I.length).kinds=_;rw[ab];exact bo.2
end
section
theorem As {P:Program}{aM:Array Oper}{C:Z→Prop}{R:Z→Z→Prop}{am:Nat→Option (bu R)}{Q:aD→Act→Prop}{k:Nat}{S:aD}{a:Act}(h:Q S a):wpG P aM C R am Q k [] S a:=h
attribute [local irreducible] wpG
def jm:Rec MV where
 cell v:=[.int .i64 v.1,.string (bs v.2)]
 e:=267
 n:=2
 bytes:=24
 z:=.agg #[.int .i64 0,.string ByteArray.empty]
 len:=fun _=>rfl
 one:=by intro x u h;simp at h;rcases h with rfl|rfl<;>rfl
 info:=by kernel_rfl
 zs:=rfl
 pos:=by decide
 bpos:=by decide
structure Eo where
 at_:Nat
 bm:Nat
 bt:Nat
 bc:Nat
 more:Bool
 rest:q
 by_:U8_
def eoF (e:Eo):V_:=.func (.func 289) #[] #[.pointer (some ⟨e.bm,0,none⟩),.pointer (some ⟨e.bt,0,none⟩),.pointer (some ⟨e.bc,0,none⟩)]
def fH:Rec Eo where
 cell e:=[.int .i64 e.at_,eoF e]
 e:=364
 n:=2
 bytes:=16
 z:=.agg #[.int .i64 0,.nilFunc]
 len:=fun _=>rfl
 one:=by intro x u h;simp at h;rcases h with rfl|rfl<;>rfl
 info:=by kernel_rfl
 zs:=rfl
 pos:=by decide
 bpos:=by decide
def recKv:Rec (q×q) where
 cell v:=[.string (bs v.1),.string (bs v.2)]
 e:=64
 n:=2
 bytes:=32
 z:=.agg #[.string ByteArray.empty,.string ByteArray.empty]
 len:=fun _=>rfl
 one:=by intro x u h;simp at h;rcases h with rfl|rfl<;>rfl
 info:=by kernel_rfl
 zs:=rfl
 pos:=by decide
 bpos:=by decide
def nW (k:Nat)(e:Eo):Prop:=k=e.bm∨k=e.bt∨k=e.bc
def kf (bZ:Nat)(w:Z)(e:Eo):Prop:=Blk w e.bm 4 [.bool e.more]∧Blk w e.bt 9 [.string (bs e.rest)]∧Blk w e.bc 5 [.int .u8 e.by_.toNat]∧bZ≤e.bm∧bZ≤e.bt∧bZ≤e.bc∧e.bm≠e.bt∧e.bm≠e.bc∧e.bt≠e.bc
def boxPt {bZ:Nat}(l:List Eo):Pt bZ where
 fp k:=∃ e∈l,nW k e
 P w:=(∀ e∈l,kf bZ w e)∧l.Pairwise fun e f=>∀ k,nW k e→¬nW k f
 frame:=fun h hc hX=>⟨fun e he=>by
  obtain⟨h1,h2,h3,h4⟩:=h.1 e he;exact⟨h1.chg hc (hX _ ⟨e,he,.inl rfl⟩),h2.chg hc (hX _ ⟨e,he,.inr (.inl rfl)⟩),h3.chg hc (hX _ ⟨e,he,.inr (.inr rfl)⟩),h4⟩,h.2⟩
 lt:=fun h k hk=>by
  obtain⟨e,he,hk⟩:=hk;obtain⟨h1,h2,h3,b1,b2,b3,-⟩:=h.1 e he;rcases hk with rfl|rfl|rfl
  ·exact⟨b1,h1.lt⟩
  ·exact⟨b2,h2.lt⟩
  ·exact⟨b3,h3.lt⟩
structure Mf where
 tv:V_
 cv:V_
 iv:V_
 ev:V_
 lv:V_
 tx:q
 sn:Int
def bE (f:Mf)(ak:Int)(ar:V_)(rg:LM_)(an J:V_)(a:q)(steps:Int)(ao:V_):LV_ :=
 [f.tv,f.cv,f.iv,f.ev,f.lv,.int .i64 ak,ar]++(jm.cells rg++[an,J,.string (bs a),.int .i64 steps,ao])
structure MR (bZ:Nat) (w:Z) (G:Nat) (f:Mf) (at_:Int) (st rg:LM_) (eos:List Eo) (pr:LX_) (tr:LI_) (stv opv prv trv:V_) (X:List (Pt bZ)):Prop where
 gb:bZ≤G
 rl:rg.length=8
 sep:Sep bZ w (aF G gb 271 (bE f at_ stv rg opv prv f.tx f.sn trv)::ownPt jm stv st.reverse::ownPt fH opv eos::boxPt eos::ownPt recKv prv pr::ownPt bD trv tr::X)
section
variable {bZ G:Nat}{w w' w3:Z}{f:Mf}{ak:Int}{st rg:LM_}{ad:List Eo}{W:LX_}{tr:LI_}{ar U an al J aT ao aQ:V_}{X:List (Pt bZ)}
theorem eA {α:Type}{l:List α}(h:l.length=8):∃ a b c d e f g i,l=[a,b,c,d,e,f,g,i]:=by
 match l,h with
 | [a,b,c,d,e,f,g,i],_=>exact⟨a,b,c,d,e,f,g,i,rfl⟩
theorem MR.blk (h:MR bZ w G f ak st rg ad W tr ar an J ao X):Blk w G 271 (bE f ak ar rg an J f.tx f.sn ao):=h.sep.get (i:=0) rfl
theorem MR.os (h:MR bZ w G f ak st rg ad W tr ar an J ao X):jm.Own w bZ ar st.reverse:=h.sep.get (i:=1) rfl
theorem MR.oo (h:MR bZ w G f ak st rg ad W tr ar an J ao X):fH.Own w bZ an ad:=h.sep.get (i:=2) rfl
theorem MR.ob (h:MR bZ w G f ak st rg ad W tr ar an J ao X):(∀ e∈ad,kf bZ w e)∧ad.Pairwise fun e f=>∀ k,nW k e→¬nW k f:=h.sep.get (i:=3) rfl
theorem MR.op (h:MR bZ w G f ak st rg ad W tr ar an J ao X):recKv.Own w bZ J W:=h.sep.get (i:=4) rfl
theorem MR.ot (h:MR bZ w G f ak st rg ad W tr ar an J ao X):bD.Own w bZ ao tr:=h.sep.get (i:=5) rfl
theorem MR.size (h:MR bZ w G f ak st rg ad W tr ar an J ao X):bZ≤w.heap.size:=Jc h.gb (JA h.blk.lt)
theorem MR.below (h:MR bZ w G f ak st rg ad W tr ar an J ao X)(hB:Bw_ w w'):MR bZ w' G f ak st rg ad W tr ar an J ao X:=⟨h.gb,h.rl,h.sep.below hB⟩
theorem MR.add (h:MR bZ w G f ak st rg ad W tr ar an J ao X)(cs:LV_)(t:T_):MR bZ (w.alloc (.cells cs.toArray t)) G f ak st rg ad W tr ar an J ao (X++[aF w.heap.size h.size t cs]) :=
 ⟨h.gb,h.rl,h.sep.snoc (af _ _) (aF w.heap.size h.size t cs) (Blk.new w cs t) (fun k hk=>by rw[show k=w.heap.size from hk];exact I6 _)⟩
theorem MR.drop {aa:List (Pt bZ)}(h:MR bZ w G f ak st rg ad W tr ar an J ao (X++aa)):MR bZ w G f ak st rg ad W tr ar an J ao X:=⟨h.gb,h.rl,Sep.init (p:=aa) h.sep⟩
theorem MR.loc {p:Pt bZ}(h:MR bZ w G f ak st rg ad W tr ar an J ao X)(hp:p∈X):p.P w:=h.sep.1 p (by simp[hp])
theorem MR.updX (h:MR bZ w G f ak st rg ad W tr ar an J ao X){aa:Nat→Prop}{i:Nat}{p:Pt bZ}(hi:X[i]?=some p)(hc:Chg aa w w')(hY:∀ k,aa k→p.fp k)(ap:Pt bZ)(hq:ap.P w')(hf:∀ k,ap.fp k→p.fp k):MR bZ w' G f ak st rg ad W tr ar an J ao (X.set i ap)∧B_ bZ w w' :=
 ⟨⟨h.gb,h.rl,h.sep.upd (i:=i+6) hi hc hY ap hq (fun k hk=>.inl (hf k hk))⟩,h.sep.updB (i:=i+6) hi hc hY h.size⟩
theorem MR.cell (h:MR bZ w G f ak st rg ad W tr ar an J ao X){k:Nat}{v:V_}(hv:[f.tv,f.cv,f.iv,f.ev,f.lv,F ak,ar][k]?=some v):w.cell? ⟨G,k,none⟩=some v:=by
 refine h.blk.cell (k:=k) ?_;unfold bE;rw[List.getElem?_append_left (List.getElem?_eq_some_iff.1 hv).1];exact hv
theorem MR.c (h:MR bZ w G f ak st rg ad W tr ar an J ao X)(k:Nat){v:V_}(hv:[f.tv,f.cv,f.iv,f.ev,f.lv,.int .i64 ak,ar][k]?=some v:=by exact rfl):w.cell? ⟨G,k,none⟩=some v:=h.cell (k:=k) hv
theorem MR.cellR (h:MR bZ w G f ak st rg ad W tr ar an J ao X){k:Nat}{v:V_}(hv:[an,J,s_ f.tx,F f.sn,ao][k]?=some v):w.cell? ⟨G,23+k,none⟩=some v:=by
 refine h.blk.cell (k:=23+k) ?_;obtain⟨a,b,c,d,e,K,g,i,rfl⟩:=eA h.rl;unfold bE;rw[List.getElem?_append_right yza,List.getElem?_append_right (by simp[Rec.cells,jm];omega)];rw[←hv];congr 1;simp[Rec.cells,jm];omega
theorem MR.reg (h:MR bZ w G f ak st rg ad W tr ar an J ao X){i:Nat}(hi:i<8):w.cell? ⟨G,7+i*2,none⟩=some (F (rg.getD i (0,[])).1)∧w.cell? ⟨G,7+i*2+1,none⟩=some (s_ (rg.getD i (0,[])).2):=by
 obtain⟨a,b,c,d,e,K,g,j,hr⟩:=eA h.rl;have hb:=h.blk;rw[hr]at hb⊢;rcases(by omega:i=0∨i=1∨i=2∨i=3∨i=4∨i=5∨i=6∨i=7) with rfl|rfl|rfl|rfl|rfl|rfl|rfl|rfl<;>exact⟨hb.cell yzf,hb.cell yzf⟩
theorem MR.free (h:MR bZ w G f ak st rg ad W tr ar an J ao X){k:Nat}(hk:k<28):w.frozen? ⟨G,k,none⟩=false:=by
 refine h.blk.free ?_;obtain⟨a,b,c,d,e,K,g,j,hr⟩:=eA h.rl;rw[hr];exact hk
theorem MR.slices (h:MR bZ w G f ak st rg ad W tr ar an J ao X):(∃ a c,ar=.slice a st.length c)∧(∃ a c,an=.slice a ad.length c)∧(∃ a c,J=.slice a W.length c)∧∃ a c,ao=.slice a tr.length c:=by
 obtain⟨a,c,e⟩:=ay h.os;rw[List.length_reverse]at e;exact⟨⟨a,c,e⟩,ay h.oo,ay h.op,ay h.ot⟩
theorem MR.newS (h:MR bZ w G f ak st rg ad W tr ar an J ao X){l:LM_}(hc:Chg (fun k=>ar.ownBlock=some k) w w3)(hg:∀ k,U.ownBlock=some k→ar.ownBlock=some k∨w.heap.size≤k)(ho:jm.Own w3 bZ U l.reverse):MR bZ (w3.setCell ⟨G,6,none⟩ U) G f ak l rg ad W tr U an J ao X∧B_ bZ w (w3.setCell ⟨G,6,none⟩ U)∧Blk w3 G 271 (bE f ak ar rg an J f.tx f.sn ao):=by
 have q:=h.sep.upd (i:=1) rfl hc (fun k hk=>hk) (ownPt jm U l.reverse) ho hg;have hs:Chg (fun k=>k=G) w3 (w3.setCell ⟨G,6,none⟩ U):=Chg.setCell _ _ _ rfl;have b3:Blk w3 G 271 (bE f ak ar rg an J f.tx f.sn ao):=q.get (i:=0) rfl;have s2:=q.upd (i:=0) rfl hs (fun k hk=>hk) (aF G h.gb 271 (bE f ak U rg an J f.tx f.sn ao)) (b3.set 6 U) (fun k hk=>.inl hk);exact⟨⟨h.gb,h.rl,s2⟩,(h.sep.updB (i:=1) rfl hc (fun k hk=>hk) h.size).trans (hs.below (fun k hk=>by have:=h.gb;omega) (Jc h.size hc.size)),b3⟩
theorem Mp {T:Prop} (h:T:=by
 exact⟨⟨h.gb,h.rl,s2⟩,h.sep.updB (i:=0) rfl hs (fun k hk=>hk) h.size⟩
):T:=h
theorem MR.setAt (h:MR bZ w G f ak st rg ad W tr ar an J ao X)(n:Int):MR bZ (w.setCell ⟨G,5,none⟩ (F n)) G f n st rg ad W tr ar an J ao X∧B_ bZ w (w.setCell ⟨G,5,none⟩ (F n)):=by
 have hs:Chg (fun k=>k=G) w (w.setCell ⟨G,5,none⟩ (F n)):=Chg.setCell _ _ _ rfl;have s2:=h.sep.upd (i:=0) rfl hs (fun k hk=>hk) (aF G h.gb 271 (bE f n ar rg an J f.tx f.sn ao)) (h.blk.set 5 (F n)) (fun k hk=>.inl hk);exact Mp
def mvV (v:MV):V_:=.agg #[.int .i64 v.1,.string (bs v.2)]
theorem cz (v:MV)(h:MR bZ w G f ak st rg ad W tr ar an J ao X)(hl:st.length≤1000):C_ 285 #[p_ G,mvV v] w fun e w'=>e=.returned (F 0)∧(∃ U,MR bZ w' G f ak (v::st) rg ad W tr U an J ao X)∧B_ bZ w w':=by
 obtain⟨⟨ab,cb,rfl⟩,_,_,_⟩:=h.slices;have HH:=O h;obtain⟨W1,aA⟩:=H (w.alloc (.cells #[F v.1,s_ v.2] 267));have a8:=ba_ aA;have hx:=bm_ aA;have h1:=h.below a8;have c6:=h1.c 6;obtain⟨x0,x1⟩:=cl2 hx;have H1:=O h1;have a_:=O a8;clear h h1 hx a8;unfold mvV;go_enter func285,ntmps285;go_upto_region 1 with fail;rw[←aA];clear aA;have j:=H1.o.below (b_drew W1);have bB:bZ≤W1.drew.heap.size:=j.size;have aS:(st.reverse.length+1)*24≤140737488355328:=by rw[List.length_reverse];omega
 have t:=O j;have aw:=j.os;have bq:G<W1.heap.size:=H1.o.blk.lt;have y:w.heap.size<W1.heap.size:=aG x0;clear j;go_region_law (refine jm.step_append1V W1.drew v rfl _ _ 265 rfl underlying265 bZ (.slice ab st.length cb) st.reverse rfl aw _ rfl _ rfl _ rfl aS bB ?_;intro g gc w3 M aI A;rw[←List.reverse_cons]at M;rw[List.length_reverse]at M;have hn:=t.o.newS (U:=.slice (some ⟨g,0,none⟩) (st.length+1) gc) (l:=v::st) aI (fun k hk=>by cases hk;exact A) M;have f6:w3.frozen? ⟨G,6,none⟩=false:=hn.2.2.free (k:=6) (by simp[bE]);have I:w3.cell? ⟨G,6,none⟩=some (.slice ab st.length cb):=hn.2.2.c 6;rw[List.length_reverse];have HN:=O hn;clear hn M aI A)
 all_goals
  (try dsimp only)
  (try go_frame)
  go_wp2;go_ret;exact⟨rfl,⟨_,HN.o.1⟩,((bt a_.o (b_drew W1)).mono HH.o.size).trans HN.o.2.1⟩
theorem MR.top {v:MV}{ab:OA_}{n cb:Nat}(h:MR bZ w G f ak (v::st) rg ad W tr (.slice ab n cb) an J ao X):∃ g,ab=some ⟨g,0,none⟩∧n=st.length+1∧w.cell? ⟨g,st.length*2,none⟩=some (F v.1)∧w.cell? ⟨g,st.length*2+1,none⟩=some (s_ v.2):=by
 obtain⟨⟨a,c,e⟩,_,_,_⟩:=h.slices;injection e with e1 e2 e3
 subst e1 e2 e3;obtain⟨g,rfl⟩:=h.os.at0 i_;obtain⟨a',ah,hv,aq,hc⟩:=Rec.Row.open h.os.row;injection hv with e1 e2 e3
 subst e1;obtain⟨b,aL,ha,hu⟩:=hc st.length i_;injection ha with ha
 injection ha with av aF _
 subst av aF;have hg:(v::st).reverse[st.length]' i_=v:=by simp[List.reverse_cons]
 rw[hg]at hu;have h0:=hu 0 _ rfl;have h1:=hu 1 _ rfl;rw[I9]at h0 h1;exact⟨g,rfl,rfl,h0,h1⟩
theorem lN {P:Program}{fn:Func}{p:Tmp}{ty:T_}{aE:AV_}{w:Z}{v:V_}{b:Nat}(hr:fn.results=#[.cell p ty])(hp:aE.getD p undef=p_ b)(hl:(loadVar ty ⟨b,0,none⟩).run P w=.ok v w):(results fn aE).run P w=.ok v w:=by
 simp only[Array.getD_eq_getD_getElem?]at hp⊢;simp[results,hr,Sem.run_bind,Result.andThen,hp,asAddr,hl]
theorem tZ {w:Z}{b:Nat}{v0 v1:V_}(h0:w.cell? ⟨b,0,none⟩=some v0)(h1:w.cell? ⟨b,1,none⟩=some v1):(loadVar 267 ⟨b,0,none⟩).run prog w=.ok (.agg #[v0,v1]) w:=by
 go_simp
theorem E5 {α:Type}(X aa ab:List α)(ap:α):X <+: (X++aa++ab).set X.length ap:=by
 rw[Jg,List.set_append_right _ _ (I6 _)];exact List.prefix_append _ _
theorem MR.pre {aa:List (Pt bZ)}(h:MR bZ w G f ak st rg ad W tr ar an J ao aa)(hX:X <+: aa):MR bZ w G f ak st rg ad W tr ar an J ao X:=by
 obtain⟨ab,rfl⟩:=hX;exact h.drop
theorem kH {w:Z}{b:Nat}{t:T_}{a0 a1:V_}(hx:Blk w b t [a0,a1])(v0 v1:V_):Blk ((w.setCell ⟨b,0,none⟩ v0).setCell ⟨b,1,none⟩ v1) b t [v0,v1]∧Chg (fun x=>x=b) w ((w.setCell ⟨b,0,none⟩ v0).setCell ⟨b,1,none⟩ v1) :=
 ⟨(hx.set 0 v0).set 1 v1,Chg.trans (Chg.setCell w ⟨b,0,none⟩ v0 rfl) (Chg.setCell _ ⟨b,1,none⟩ v1 rfl)⟩
theorem fg (v:MV)(h:MR bZ w G f ak (v::st) rg ad W tr ar an J ao X)(hl:st.length≤1000):C_ 176 #[p_ G] w fun e w'=>e=.returned (mvV v)∧(∃ U,MR bZ w' G f ak st rg ad W tr U an J ao X)∧B_ bZ w w':=by
 obtain⟨⟨ab,cb,z⟩,_,_,_⟩:=h.slices;rw[Jq]at z;subst z;have HH:=O h;obtain⟨R,hR⟩:=H w.heap.size;obtain⟨W1,aA⟩:=H (w.alloc (.cells #[F 0,.string ⟨#[]⟩] 267));have m:bZ≤R:=by rw[hR];exact HH.o.size
 have az:MR bZ W1 G f ak (v::st) rg ad W tr (.slice ab (st.length+1) cb) an J ao (X++[aF R m 267 [F 0,.string ⟨#[]⟩]]):=by subst hR;rw[aA];exact HH.o.add _ _
 have a_:=O (show Bw_ w W1 by rw[aA];exact af _ _);clear h;go_enter func176,ntmps176;go_upto_region 1 with fail;rw[←aA,←hR];clear aA hR;obtain⟨g,rfl,-,e0,e1⟩:=az.top;have c6:W1.cell? ⟨G,6,none⟩=some (.slice (some ⟨g,0,none⟩) (st.length+1) cb):=az.c 6;have bq:G<W1.heap.size:=az.blk.lt;have am:g<W1.heap.size:=aG e0;have be:((st.length:Int)+1)-1=(st.length:Int):=Y
 have a0:0≤(st.length:Int):=Y;have a4:(st.length:Int)<(st.length:Int)+1:=Y;have b6:(st.length:Int)≤1000:=Y;have aC:=O az;clear az;go_region;obtain⟨T,hT⟩:=H W1.heap.size;have bd:bZ≤T:=by rw[hT];exact aC.o.size
 obtain⟨W2,ae⟩:=H ((W1.alloc (.cells #[F v.1,s_ v.2] 267)).drew)
 have N:MR bZ W2 G f ak (v::st) rg ad W tr (.slice (some ⟨g,0,none⟩) (st.length+1) cb) an J ao (X++[aF R m 267 [F 0,.string ⟨#[]⟩]]++[aF T bd 267 [F v.1,s_ v.2]]):=by
  subst hT;rw[ae];exact(aC.o.add [F v.1,s_ v.2] 267).below (b_drew _)
 have a9:=O (show Bw_ w W2 by rw[ae];exact bt a_.o (bt (af _ _) (b_drew _)));rw[←ae,←hT];clear ae hT e0 e1 c6 bq am aC;have c6:W2.cell? ⟨G,6,none⟩=some (.slice (some ⟨g,0,none⟩) (st.length+1) cb):=N.c 6;have f6:=N.free (k:=6) d_;have bq:G<W2.heap.size:=N.blk.lt;have ho:jm.Own W2 bZ (.slice (some ⟨g,0,none⟩) (v::st).reverse.length cb) (v::st).reverse:=by rw[List.length_reverse];exact N.os
 have aO:=ho.shortRun 265 underlying265 yzg st.length i_;rw[List.length_reverse,Jq]at aO
 have ac:jm.Own W2.drew bZ (.slice (some ⟨g,0,none⟩) st.length cb) st.reverse:=by
  have:=(ho.below (b_drew W2)).short st.length i_
  rwa [List.reverse_cons,List.take_append_of_le_length i_,I5 i_]at this
 have hn:=(N.below (b_drew W2)).newS (U:=.slice (some ⟨g,0,none⟩) st.length cb) (l:=st) (Chg.refl _ _) (fun k hk=>by cases hk;exact .inl rfl) ac;have HN:=O hn;clear ho ac hn N;go_wp2_with fail;go_region;obtain⟨W3,aB⟩:=H ((W2.setCell ⟨G,6,none⟩ (.slice (some ⟨g,0,none⟩) st.length cb)).drew);have ay:MR bZ W3 G f ak st rg ad W tr (.slice (some ⟨g,0,none⟩) st.length cb) an J ao (X++[aF R m 267 [F 0,.string ⟨#[]⟩]]++[aF T bd 267 [F v.1,s_ v.2]]):=by rw[aB];exact HN.o.1
 have aX:B_ bZ w W3:=by rw[aB];exact((bt a9.o (b_drew W2)).mono HH.o.size).trans HN.o.2.1
 rw[←aB];clear aB HN c6 f6 bq aO a9;have n:Blk W3 T 267 [F v.1,s_ v.2]:=ay.loc (p:=aF T bd 267 [F v.1,s_ v.2]) i_;have a:Blk W3 R 267 [F 0,.string ⟨#[]⟩]:=ay.loc (p:=aF R m 267 [F 0,.string ⟨#[]⟩]) i_;obtain⟨t0,t1⟩:=cl2 n;obtain⟨Q,r1⟩:=cl2 a;obtain⟨k0,k1⟩:=fr2 a;obtain⟨d,aW,s⟩:=zH3 ay aX a;clear ay aX a n;go_wp2_with fail;obtain⟨hy,hc⟩:=kH s.o (F v.1) (s_ v.2);refine bodyPost_ret (lN rfl rfl (tZ (hy.c 0) (hy.c 1))) rfl ?_;obtain⟨t,bC⟩:=d.o.updX (i:=X.length) (p:=aF R m 267 [F 0,.string ⟨#[]⟩]) i_ hc (fun k hk=>hk) (aF R m 267 [F v.1,s_ v.2]) hy (fun k hk=>hk);exact⟨rfl,⟨_,t.pre (E5 X _ _ _)⟩,aW.o.trans bC⟩
end
end
section
attribute [local irreducible] wpG
section
variable {bZ G:Nat}{w w':Z}{f:Mf}{ak:Int}{st rg:LM_}{ad:List Eo}{W:LX_}{tr:LI_}{ar an J ao:V_}{X:List (Pt bZ)}
theorem vq {P:Program}{fn:Func}{p ap:Tmp}{ty a:T_}{aE:AV_}{w:Z}{v u:V_}{b c:Nat}(hr:fn.results=#[.cell p ty,.cell ap a])(hp:aE.getD p undef=p_ b)(hq:aE.getD ap undef=p_ c)(hl:(loadVar ty ⟨b,0,none⟩).run P w=.ok v w)(hk:(loadVar a ⟨c,0,none⟩).run P w=.ok u w):(results fn aE).run P w=.ok (.tuple #[v,u]) w:=by
 simp only[Array.getD_eq_getD_getElem?]at hp hq⊢;simp[results,hr,Sem.run_bind,Result.andThen,hp,hq,asAddr,hl,hk]
@[go_sem] theorem G6 (v0 v1:V_) (w:Z):(Instr.field 267 (.agg #[v0,v1]) 0).run prog w=.ok v0 w:=q_
@[go_sem] theorem G5 (v0 v1:V_) (w:Z):(Instr.field 267 (.agg #[v0,v1]) 1).run prog w=.ok v1 w:=q_
theorem fE (w:Z)(o:Obj):(w.alloc o).heap.size=w.heap.size+1:=Array.size_push ..
theorem vO {α:Type}{X L:List α}(h:X <+: L)(k:Nat)(ap:α):X <+: L.set (X.length+k) ap:=by
 obtain⟨ab,rfl⟩:=h;rw[List.set_append_right _ _ Y];exact List.prefix_append _ _
theorem iM (a b:MV)(h:MR bZ w G f ak (b::a::st) rg ad W tr ar an J ao X)(hl:st.length≤900):C_ 286 #[p_ G] w fun e w'=>e=.returned (.tuple #[mvV a,mvV b])∧(∃ U,MR bZ w' G f ak st rg ad W tr U an J ao X)∧B_ bZ w w':=by
 have HH:=O h;obtain⟨R,hR⟩:=H w.heap.size;obtain⟨W1,aA⟩:=H ((w.alloc (.cells #[F 0,.string ⟨#[]⟩] 267)).alloc (.cells #[F 0,.string ⟨#[]⟩] 267));have m:bZ≤R:=by rw[hR];exact HH.o.size
 have c:bZ≤R+1:=Y
 have az:MR bZ W1 G f ak (b::a::st) rg ad W tr ar an J ao (X++[aF R m 267 [F 0,.string ⟨#[]⟩]]++[aF (R+1) c 267 [F 0,.string ⟨#[]⟩]]):=by
  have h2:=(HH.o.add [F 0,.string ⟨#[]⟩] 267).add [F 0,.string ⟨#[]⟩] 267;have a6:(w.alloc (.cells [F 0,.string ⟨#[]⟩].toArray 267)).heap.size=R+1:=by rw[hR];exact fE _ _
  simp only[a6]at h2;subst hR;rw[aA];exact h2
 have a_:=O (show Bw_ w W1 by rw[aA];exact bt (af _ _) (af _ _));have aC:=O az;have r:=O (fg b az yza);clear h az;go_enter func286,ntmps286;go_upto_region 1 with fail;rw[←aA,←hR];clear aA hR;go_upto_region 2 with(go_at_call 176;refine r.o.mono ?_;rintro e w2⟨rfl,⟨N,hm⟩,hB⟩;unfold mvV;have j:=O hm;have a9:=O hB;have d:Blk w2 (R+1) 267 [F 0,.string ⟨#[]⟩]:=hm.loc (p:=aF (R+1) c 267 [F 0,.string ⟨#[]⟩]) i_;obtain⟨Q,r1⟩:=cl2 d;obtain⟨k0,k1⟩:=fr2 d;have ah:=O d;clear d hm hB);obtain⟨y,aI⟩:=kH ah.o (F b.1) (s_ b.2);obtain⟨W3,aB⟩:=H ((w2.setCell ⟨R+1,0,none⟩ (F b.1)).setCell ⟨R+1,1,none⟩ (s_ b.2));rw[←aB]at y aI⊢;obtain⟨ay,aX⟩:=j.o.updX (i:=X.length+1) (p:=aF (R+1) c 267 [F 0,.string ⟨#[]⟩]) (by rw[Jg,List.getElem?_append_right Y];simp) aI (fun k hk=>hk) (aF (R+1) c 267 [F b.1,s_ b.2]) y (fun k hk=>hk)
 rw[show(X++[aF R m 267 [F 0,.string ⟨#[]⟩]]++[aF (R+1) c 267 [F 0,.string ⟨#[]⟩]]).set (X.length+1) (aF (R+1) c 267 [F b.1,s_ b.2])=X++[aF R m 267 [F 0,.string ⟨#[]⟩]]++[aF (R+1) c 267 [F b.1,s_ b.2]] from by
  rw[Jg,Jg,List.set_append_right _ _ Y,Nat.add_sub_cancel_left];rfl]at ay
 have aW:=O (((a_.o.mono HH.o.size).trans a9.o).trans aX);have l:=ay.below (b_drew W3);have I:=O (fg a l Y);have y0:W3.cell? ⟨R+1,0,none⟩=some (F b.1):=y.c 0;have y1:W3.cell? ⟨R+1,1,none⟩=some (s_ b.2):=y.c 1;have n:=O l;have bJ:bZ≤W3.heap.size:=ay.size;clear aB Q r1 k0 k1 ah j a9 r aC a_ y aI ay aX l;go_region_with (go_at_call 176;refine I.o.mono ?_;rintro e w4⟨rfl,⟨o,hm⟩,hB⟩;unfold mvV;have B:=O hm;have ba:=O ((aW.o.trans ((b_drew W3).mono bJ)).trans hB);have d:Blk w4 (R+1) 267 [F b.1,s_ b.2]:=hm.loc (p:=aF (R+1) c 267 [F b.1,s_ b.2]) i_;have g:Blk w4 R 267 [F 0,.string ⟨#[]⟩]:=hm.loc (p:=aF R m 267 [F 0,.string ⟨#[]⟩]) i_;obtain⟨K,q⟩:=cl2 d;obtain⟨k0,k1⟩:=fr2 d;obtain⟨Q,r1⟩:=cl2 g;obtain⟨j0,j1⟩:=fr2 g;have bO:=O g;have ah:=O d;clear g d hm hB)
 all_goals
  (try dsimp only)
  (try go_frame)
  go_wp2_with fail;obtain⟨h5,c5⟩:=kH bO.o (F a.1) (s_ a.2);obtain⟨m5,b5⟩:=B.o.updX (i:=X.length) (p:=aF R m 267 [F 0,.string ⟨#[]⟩]) i_ c5 (fun k hk=>hk) (aF R m 267 [F a.1,s_ a.2]) h5 (fun k hk=>hk);obtain⟨h6,c6⟩:=kH (ah.o.chg c5 (by show ¬(R+1=R);omega)) (F b.1) (s_ b.2);obtain⟨v,b6⟩:=m5.updX (i:=X.length+1) (p:=aF (R+1) c 267 [F b.1,s_ b.2]) (by rw[List.getElem?_set_ne Y,Jg,List.getElem?_append_right Y];simp) c6 (fun k hk=>hk) (aF (R+1) c 267 [F b.1,s_ b.2]) h6 (fun k hk=>hk);have h7:=h5.chg c6 (by show ¬(R=R+1);omega);refine bodyPost_ret (vq rfl rfl rfl (tZ (h7.c 0) (h7.c 1)) (tZ (h6.c 0) (h6.c 1))) rfl ?_;exact⟨rfl,⟨_,v.pre (vO (vO (k:=0) (by rw[Jg];exact List.prefix_append _ _) _) 1 _)⟩,(ba.o.trans b5).trans b6⟩
theorem J8 {T:Prop} (h:T:=by
 go_enter func287,ntmps287;go_wp2_with (go_at_call 285;refine HP.o.mono ?_;rintro e w2⟨rfl,⟨sv,hm⟩,hB⟩;have HM:=O hm;have HB:=O hB;clear hm hB);go_ret;exact⟨rfl,⟨_,HM.o⟩,HB.o⟩
):T:=h
theorem uq (ap:Bool)(h:MR bZ w G f ak st rg ad W tr ar an J ao X)(hl:st.length≤1000):C_ 287 #[p_ G,.bool ap] w fun e w'=>e=.returned (F 0)∧(∃ U,MR bZ w' G f ak (bitM ap::st) rg ad W tr U an J ao X)∧B_ bZ w w':=by
 have HP:=O (cz (bitM ap) h hl);clear h
 cases ap with
 | true =>
  exact J8
 | false =>
  exact J8
theorem Cz (y:U8_)(h:MR bZ w G f ak st rg ad W tr ar an J ao X)(hl:st.length≤1000):C_ 263 #[p_ G,.int .u8 y.toNat] w fun e w'=>e=.returned (F 0)∧(∃ U,MR bZ w' G f ak (((y.toNat:Int),[])::st) rg ad W tr U an J ao X)∧B_ bZ w w':=by
 have HP:=O (cz ((y.toNat:Int),[]) h hl);have cw:wrap64 (y.toNat:Int)=(y.toNat:Int):=by have:=y.toNat_lt;unfold wrap64;omega
 have cv:IntKind.i64.wrap (y.toNat:Int)=(y.toNat:Int):=by have:=y.toNat_lt;simp[IntKind.wrap,IntKind.bits,IntKind.signed];omega
 clear h;go_enter func263,ntmps263;go_wp2_with (go_at_call 285;refine HP.o.mono ?_;rintro e w2⟨rfl,⟨sv,hm⟩,hB⟩;have HM:=O hm;have HB:=O hB;clear hm hB);go_ret;exact⟨rfl,⟨_,HM.o⟩,HB.o⟩
theorem AI (y:U8_)(a:MV)(h:MR bZ w G f ak (a::st) rg ad W tr ar an J ao X)(hl:st.length≤900):C_ 275 #[p_ G,.int .u8 y.toNat] w fun e w'=>e=.returned (F 0)∧(∃ U,MR bZ w' G f ak st rg ad W tr U an J ao X)∧B_ bZ w w':=by
 have HP:=O (fg a h Y);clear h;go_enter func275,ntmps275;go_wp2_with (go_at_call 176;refine HP.o.mono ?_;rintro e w2⟨rfl,⟨sv,hm⟩,hB⟩;have HM:=O hm;have HB:=O hB;clear hm hB);go_ret;exact⟨rfl,⟨_,HM.o⟩,HB.o⟩
theorem AA (y:U8_)(a:MV)(h:MR bZ w G f ak (a::st) rg ad W tr ar an J ao X)(hl:st.length≤900)(ha:a.2.length≤1024):C_ 266 #[p_ G,.int .u8 y.toNat] w fun e w'=>e=.returned (F 0)∧(∃ U,MR bZ w' G f ak (((a.2.length:Int),[])::st) rg ad W tr U an J ao X)∧B_ bZ w w':=by
 have HP:=O (fg a h Y);have hc:(a.2.length:Int)≤1024:=Y;clear h;go_enter func266,ntmps266;go_wp2_with (first|(go_at_call 285;refine(cz ((a.2.length:Int),[]) HM.o Y).mono ?_;rintro e w3⟨rfl,⟨m,hm⟩,hB⟩;have d:=O hm;have aW:=O (HB.o.trans hB);clear hm hB)|(go_at_call 176;refine HP.o.mono ?_;rintro e w2⟨rfl,⟨sv,hm⟩,hB⟩;have HM:=O hm;have HB:=O hB;unfold mvV;clear hm hB));go_ret;exact⟨rfl,⟨_,d.o⟩,aW.o⟩
theorem CA (y:U8_)(a:MV)(h:MR bZ w G f ak (a::st) rg ad W tr ar an J ao X)(hl:st.length≤900):C_ 274 #[p_ G,.int .u8 y.toNat] w fun e w'=>e=.returned (F 0)∧(∃ U,MR bZ w' G f ak (bitM (a.1==0)::st) rg ad W tr U an J ao X)∧B_ bZ w w':=by
 have HP:=O (fg a h Y);clear h;go_enter func274,ntmps274;go_wp2_with (first|(go_at_call 287;refine(uq (a.1==0) HM.o Y).mono ?_;rintro e w3⟨rfl,⟨m,hm⟩,hB⟩;have d:=O hm;have aW:=O (HB.o.trans hB);clear hm hB)|(go_at_call 176;refine HP.o.mono ?_;rintro e w2⟨rfl,⟨sv,hm⟩,hB⟩;have HM:=O hm;have HB:=O hB;unfold mvV;clear hm hB));go_ret;exact⟨rfl,⟨_,d.o⟩,aW.o⟩
theorem CD (y:U8_)(hy:y.toNat<8)(h:MR bZ w G f ak st rg ad W tr ar an J ao X)(hl:st.length≤1000):C_ 278 #[p_ G,.int .u8 y.toNat] w fun e w'=>e=.returned (F 0)∧(∃ U,MR bZ w' G f ak (rg.getD y.toNat (0,[])::st) rg ad W tr U an J ao X)∧B_ bZ w w':=by
 have HP:=O (cz (rg.getD y.toNat (0,[])) h hl);obtain⟨q0,q1⟩:=h.reg hy;have i0:0≤(y.toNat:Int):=Y;have i1:(y.toNat:Int)<8:=Y;obtain⟨u,hu⟩:=H (rg.getD y.toNat (0,[]));rw[←hu]at HP q0 q1⊢;clear h hu;go_enter func278,ntmps278;go_wp2_with (go_at_call 285;refine HP.o.mono ?_;rintro e w2⟨rfl,⟨sv,hm⟩,hB⟩;have HM:=O hm;have HB:=O hB;clear hm hB);go_ret;exact⟨rfl,⟨_,HM.o⟩,HB.o⟩
end
end
section
attribute [local irreducible] wpG
section
variable {bZ G:Nat}{w w':Z}{f:Mf}{ak:Int}{st rg:LM_}{ad:List Eo}{W:LX_}{tr:LI_}{ar an J ao:V_}{X:List (Pt bZ)}
theorem MR.add2 (h:MR bZ w G f ak st rg ad W tr ar an J ao X)(cs ds:LV_)(t:T_)(D:Nat)(hD:D=w.heap.size)(c:bZ≤D)(g:bZ≤D+1):MR bZ ((w.alloc (.cells cs.toArray t)).alloc (.cells ds.toArray t)) G f ak st rg ad W tr ar an J ao (X++[aF D c t cs]++[aF (D+1) g t ds]):=by
 subst hD;have h2:=(h.add cs t).add ds t;have a6:(w.alloc (.cells cs.toArray t)).heap.size=w.heap.size+1:=fE _ _;simp only[a6]at h2;exact h2
theorem MC {T:Prop} (h:T:=by
 rw[aB];have:=Blk.new (w2.alloc (.cells #[.int .i64 a.1,.string (bs a.2)] 267)) [.int .i64 b.1,.string (bs b.2)] 267;rw[fE]at this;exact this
):T:=h
theorem J9 {T:Prop} (h:T:=by
 exact MC
):T:=h
theorem CI (y:U8_)(a b:MV)(h:MR bZ w G f ak (b::a::st) rg ad W tr ar an J ao X)(hl:st.length≤900):C_ 270 #[p_ G,.int .u8 y.toNat] w fun e w'=>e=.returned (F 0)∧(∃ U,MR bZ w' G f ak ((wrap64 (a.1+b.1),[])::st) rg ad W tr U an J ao X)∧B_ bZ w w':=by
 have HP:=O (iM a b h hl);have HH:=O h.size;clear h;go_enter func270,ntmps270;go_upto_region 2 with(go_at_call 286;refine HP.o.mono ?_;rintro e w2⟨rfl,⟨sv,hm⟩,hB⟩;unfold mvV;have HM:=O hm;have HB:=O hB;clear hm hB);obtain⟨W3,aB⟩:=H ((w2.alloc (.cells #[F a.1,s_ a.2] 267)).alloc (.cells #[F b.1,s_ b.2] 267));have aX:Bw_ w2 W3:=by rw[aB];exact bt (af _ _) (af _ _)
 have hx:Blk W3 w2.heap.size 267 [F a.1,s_ a.2]:=by rw[aB];exact(Blk.new w2 _ _).below (af _ _)
 have hy:Blk W3 (w2.heap.size+1) 267 [F b.1,s_ b.2]:=by
  exact J9
 have d:=O (HM.o.below aX);have aW:=O (HB.o.trans (aX.mono HM.o.size));obtain⟨D,hD⟩:=H w2.heap.size;rw[←hD]at hx hy⊢;rw[←aB];obtain⟨x0,x1⟩:=cl2 hx;obtain⟨y0,y1⟩:=cl2 hy;have HX:=O hx;have HY:=O hy;clear hx hy aB hD aX HM HB;go_wp2_with (go_at_call 285;refine(cz (wrap64 (a.1+b.1),[]) d.o Y).mono ?_;rintro e w4⟨rfl,⟨o,hm⟩,hB⟩;have B:=O hm;have ba:=O (aW.o.trans hB);clear hm hB);go_ret;exact⟨rfl,⟨_,B.o⟩,ba.o⟩
theorem CB (y:U8_)(a b:MV)(h:MR bZ w G f ak (b::a::st) rg ad W tr ar an J ao X)(hl:st.length≤900):C_ 271 #[p_ G,.int .u8 y.toNat] w fun e w'=>e=.returned (F 0)∧(∃ U,MR bZ w' G f ak ((wrap64 (a.1*b.1),[])::st) rg ad W tr U an J ao X)∧B_ bZ w w':=by
 have HP:=O (iM a b h hl);have HH:=O h.size;clear h;go_enter func271,ntmps271;go_upto_region 2 with(go_at_call 286;refine HP.o.mono ?_;rintro e w2⟨rfl,⟨sv,hm⟩,hB⟩;unfold mvV;have HM:=O hm;have HB:=O hB;clear hm hB);obtain⟨W3,aB⟩:=H ((w2.alloc (.cells #[F a.1,s_ a.2] 267)).alloc (.cells #[F b.1,s_ b.2] 267));have aX:Bw_ w2 W3:=by rw[aB];exact bt (af _ _) (af _ _)
 have hx:Blk W3 w2.heap.size 267 [F a.1,s_ a.2]:=by rw[aB];exact(Blk.new w2 _ _).below (af _ _)
 have hy:Blk W3 (w2.heap.size+1) 267 [F b.1,s_ b.2]:=by
  exact J9
 have d:=O (HM.o.below aX);have aW:=O (HB.o.trans (aX.mono HM.o.size));obtain⟨D,hD⟩:=H w2.heap.size;rw[←hD]at hx hy⊢;rw[←aB];obtain⟨x0,x1⟩:=cl2 hx;obtain⟨y0,y1⟩:=cl2 hy;have HX:=O hx;have HY:=O hy;clear hx hy aB hD aX HM HB;go_wp2_with (go_at_call 285;refine(cz (wrap64 (a.1*b.1),[]) d.o Y).mono ?_;rintro e w4⟨rfl,⟨o,hm⟩,hB⟩;have B:=O hm;have ba:=O (aW.o.trans hB);clear hm hB);go_ret;exact⟨rfl,⟨_,B.o⟩,ba.o⟩
theorem AE (y:U8_)(a b:MV)(h:MR bZ w G f ak (b::a::st) rg ad W tr ar an J ao X)(hl:st.length≤900):C_ 272 #[p_ G,.int .u8 y.toNat] w fun e w'=>e=.returned (F 0)∧(∃ U,MR bZ w' G f ak (bitM (decide (a.1<b.1))::st) rg ad W tr U an J ao X)∧B_ bZ w w':=by
 have HP:=O (iM a b h hl);have HH:=O h.size;clear h;go_enter func272,ntmps272;go_upto_region 2 with(go_at_call 286;refine HP.o.mono ?_;rintro e w2⟨rfl,⟨sv,hm⟩,hB⟩;unfold mvV;have HM:=O hm;have HB:=O hB;clear hm hB);obtain⟨W3,aB⟩:=H ((w2.alloc (.cells #[F a.1,s_ a.2] 267)).alloc (.cells #[F b.1,s_ b.2] 267));have aX:Bw_ w2 W3:=by rw[aB];exact bt (af _ _) (af _ _)
 have hx:Blk W3 w2.heap.size 267 [F a.1,s_ a.2]:=by rw[aB];exact(Blk.new w2 _ _).below (af _ _)
 have hy:Blk W3 (w2.heap.size+1) 267 [F b.1,s_ b.2]:=by
  exact J9
 have d:=O (HM.o.below aX);have aW:=O (HB.o.trans (aX.mono HM.o.size));obtain⟨D,hD⟩:=H w2.heap.size;rw[←hD]at hx hy⊢;rw[←aB];obtain⟨x0,x1⟩:=cl2 hx;obtain⟨y0,y1⟩:=cl2 hy;have HX:=O hx;have HY:=O hy;clear hx hy aB hD aX HM HB;go_wp2_with (go_at_call 287;refine(uq (decide (a.1<b.1)) d.o Y).mono ?_;rintro e w4⟨rfl,⟨o,hm⟩,hB⟩;have B:=O hm;have ba:=O (aW.o.trans hB);clear hm hB);go_ret;exact⟨rfl,⟨_,B.o⟩,ba.o⟩
theorem AC (y:U8_)(a b:MV)(h:MR bZ w G f ak (b::a::st) rg ad W tr ar an J ao X)(hl:st.length≤900):C_ 273 #[p_ G,.int .u8 y.toNat] w fun e w'=>e=.returned (F 0)∧(∃ U,MR bZ w' G f ak (bitM (a.2==b.2)::st) rg ad W tr U an J ao X)∧B_ bZ w w':=by
 have HP:=O (iM a b h hl);have HH:=O h.size;clear h;go_enter func273,ntmps273;go_upto_region 2 with(go_at_call 286;refine HP.o.mono ?_;rintro e w2⟨rfl,⟨sv,hm⟩,hB⟩;unfold mvV;have HM:=O hm;have HB:=O hB;clear hm hB);obtain⟨W3,aB⟩:=H ((w2.alloc (.cells #[F a.1,s_ a.2] 267)).alloc (.cells #[F b.1,s_ b.2] 267));have aX:Bw_ w2 W3:=by rw[aB];exact bt (af _ _) (af _ _)
 have hx:Blk W3 w2.heap.size 267 [F a.1,s_ a.2]:=by rw[aB];exact(Blk.new w2 _ _).below (af _ _)
 have hy:Blk W3 (w2.heap.size+1) 267 [F b.1,s_ b.2]:=by
  exact J9
 have d:=O (HM.o.below aX);have aW:=O (HB.o.trans (aX.mono HM.o.size));obtain⟨D,hD⟩:=H w2.heap.size;rw[←hD]at hx hy⊢;rw[←aB];obtain⟨x0,x1⟩:=cl2 hx;obtain⟨y0,y1⟩:=cl2 hy;have HX:=O hx;have HY:=O hy;clear hx hy aB hD aX HM HB;go_wp2_with (go_at_call 287;refine(uq (a.2==b.2) d.o Y).mono ?_;rintro e w4⟨rfl,⟨o,hm⟩,hB⟩;have B:=O hm;have ba:=O (aW.o.trans hB);clear hm hB);go_ret;exact⟨rfl,⟨_,B.o⟩,ba.o⟩
theorem Az (y:U8_)(a b:MV)(h:MR bZ w G f ak (b::a::st) rg ad W tr ar an J ao X)(hl:st.length≤900):C_ 277 #[p_ G,.int .u8 y.toNat] w fun e w'=>e=.returned (F 0)∧(∃ U,MR bZ w' G f ak (a::b::st) rg ad W tr U an J ao X)∧B_ bZ w w':=by
 have HP:=O (iM a b h hl);have HH:=O h.size;clear h;go_enter func277,ntmps277;go_upto_region 2 with(go_at_call 286;refine HP.o.mono ?_;rintro e w2⟨rfl,⟨sv,hm⟩,hB⟩;unfold mvV;have HM:=O hm;have HB:=O hB;clear hm hB);obtain⟨W3,aB⟩:=H ((w2.alloc (.cells #[F a.1,s_ a.2] 267)).alloc (.cells #[F b.1,s_ b.2] 267));have aX:Bw_ w2 W3:=by rw[aB];exact bt (af _ _) (af _ _)
 have hx:Blk W3 w2.heap.size 267 [F a.1,s_ a.2]:=by rw[aB];exact(Blk.new w2 _ _).below (af _ _)
 have hy:Blk W3 (w2.heap.size+1) 267 [F b.1,s_ b.2]:=by
  exact J9
 have d:=O (HM.o.below aX);have aW:=O (HB.o.trans (aX.mono HM.o.size));obtain⟨D,hD⟩:=H w2.heap.size;rw[←hD]at hx hy⊢;rw[←aB];obtain⟨x0,x1⟩:=cl2 hx;obtain⟨y0,y1⟩:=cl2 hy;have HX:=O hx;have HY:=O hy;have c:bZ≤D:=by rw[hD];exact HM.o.size
 have g:bZ≤D+1:=Y;have j:=O (show MR bZ W3 G f ak st rg ad W tr sv an J ao (X++[aF D c 267 [F a.1,s_ a.2]]++[aF (D+1) g 267 [F b.1,s_ b.2]]) from by rw[aB];exact HM.o.add2 _ _ _ D hD c g);clear hx hy aB hD aX HM HB;go_upto_region 3 with(go_at_call 285;refine(cz b j.o Y).mono ?_;rintro e w4⟨rfl,⟨o,hm⟩,hB⟩;have hd:Blk w4 D 267 [F a.1,s_ a.2]:=hm.loc (p:=aF D c 267 [F a.1,s_ a.2]) i_;obtain⟨x0,x1⟩:=cl2 hd;have q:=O hm;have aJ:=O (aW.o.trans hB);clear hm hB hd);go_wp2_with (go_at_call 285;refine(cz a q.o yza).mono ?_;rintro e w6⟨rfl,⟨aC,hm⟩,hB⟩;have i:=O hm;have bn:=O (aJ.o.trans hB);clear hm hB);go_ret;exact⟨rfl,⟨_,i.o.pre (by rw[Jg];exact List.prefix_append _ _)⟩,bn.o⟩
theorem CG (y:U8_)(a b:MV)(h:MR bZ w G f ak (b::a::st) rg ad W tr ar an J ao X)(hl:st.length≤900)(ha:a.2.length≤1024)(hb:b.2.length≤1024):C_ 265 #[p_ G,.int .u8 y.toNat] w fun e w'=>((1024<a.2.length+b.2.length∧e=.returned (F 5))∨(¬1024<a.2.length+b.2.length∧e=.returned (F 0)∧(∃ U,MR bZ w' G f ak ((0,a.2++b.2)::st) rg ad W tr U an J ao X)))∧B_ bZ w w':=by
 have HP:=O (iM a b h hl);have HH:=O h.size;clear h;go_enter func265,ntmps265;go_upto_region 2 with(go_at_call 286;refine HP.o.mono ?_;rintro e w2⟨rfl,⟨sv,hm⟩,hB⟩;unfold mvV;have HM:=O hm;have HB:=O hB;clear hm hB);obtain⟨W3,aB⟩:=H ((w2.alloc (.cells #[F a.1,s_ a.2] 267)).alloc (.cells #[F b.1,s_ b.2] 267));have aX:Bw_ w2 W3:=by rw[aB];exact bt (af _ _) (af _ _)
 have hx:Blk W3 w2.heap.size 267 [F a.1,s_ a.2]:=by rw[aB];exact(Blk.new w2 _ _).below (af _ _)
 have hy:Blk W3 (w2.heap.size+1) 267 [F b.1,s_ b.2]:=by
  exact J9
 have d:=O (HM.o.below aX);have aW:=O (HB.o.trans (aX.mono HM.o.size));obtain⟨D,hD⟩:=H w2.heap.size;rw[←hD]at hx hy⊢;rw[←aB];obtain⟨x0,x1⟩:=cl2 hx;obtain⟨y0,y1⟩:=cl2 hy;have HX:=O hx;have HY:=O hy;clear hx hy aB hD aX HM HB;have m:(a.2.length:Int)≤1024:=Y;have lb:(b.2.length:Int)≤1024:=Y
 by_cases hc:1024<a.2.length+b.2.length
 ·have t1:(1024:Int)<(a.2.length:Int)+(b.2.length:Int):=Y
  go_wp2_with fail;go_ret;exact⟨.inl ⟨hc,rfl⟩,aW.o⟩
 ·have t1:¬(1024:Int)<(a.2.length:Int)+(b.2.length:Int):=Y
  go_wp2_with (go_at_call 285;refine(cz (0,a.2++b.2) d.o Y).mono ?_;rintro e w4⟨rfl,⟨o,hm⟩,hB⟩;have B:=O hm;have ba:=O (aW.o.trans hB);clear hm hB);go_ret;exact⟨.inr ⟨hc,rfl,⟨_,B.o⟩⟩,ba.o⟩
end
end
section
attribute [local irreducible] wpG
theorem cut_split (c:U8_):∀ s:q,(∃ a b,Lib.cut s [c]=(a,b,true)∧cL c s=a::cL c b∧a.length≤s.length∧b.length≤s.length)∨(Lib.cut s [c]=(s,[],false)∧cL c s=[s])
 | []=>.inr ⟨rfl,rfl⟩
 | x::s=>by
  have H:=cut_split c s
  by_cases hx:x=c
  ·left
   subst hx;refine⟨[],s,?_,?_,by simp,by simp⟩
   ·have hi:Lib.index (x::s) [x]=0:=by unfold Lib.index;simp[List.isPrefixOf]
    unfold Lib.cut;rw[hi];simp
   ·rw[cL,if_pos rfl]
  ·have hp:[c].isPrefixOf (x::s)=false:=by
    simp[List.isPrefixOf];exact fun e=>hx e.symm
   have hi:Lib.index (x::s) [c]=if Lib.index s [c]==-1 then -1 else Lib.index s [c]+1:=by
    rw[Lib.index,hp];rfl
   have aJ:=Lib.index_ge s [c];rcases H with ⟨a,b,h1,h2,h3,h4⟩|⟨h1,h2⟩
   ·left
    unfold Lib.cut at h1
    by_cases h0:0≤Lib.index s [c]
    ·rw[if_pos h0]at h1
     injection h1 with e1 e2
     injection e2 with e2 _
     refine⟨x::a,b,?_,?_,by simp;exact h3,by simp;omega⟩
     ·have aI:(Lib.index s [c]==-1)=false:=by rw[beq_eq_false_iff_ne];omega
      unfold Lib.cut;rw[hi,aI];obtain⟨k,hk⟩:∃ k:Nat,Lib.index s [c]=(k:Int):=⟨(Lib.index s [c]).toNat,by omega⟩
      rw[hk]at e1 e2⊢;rw[if_pos (by show(0:Int)≤(k:Int)+1;omega)];simp only[Je]at e1 e2;have hk1:((k:Int)+1).toNat=k+1:=Y;show((x::s).take ((k:Int)+1).toNat,(x::s).drop (((k:Int)+1).toNat+[c].length),true)=_;rw[hk1,←e1,←e2];simp[Nat.add_right_comm]
     ·rw[cL,if_neg hx,h2]
    ·rw[if_neg h0]at h1;cases h1
   ·right
    unfold Lib.cut at h1
    by_cases h0:0≤Lib.index s [c]
    ·rw[if_pos h0]at h1;exact absurd (congrArg (fun p=>p.2.2) h1) i_
    ·have he:Lib.index s [c]=-1:=Y
     have d:Lib.index (x::s) [c]=-1:=by rw[hi,he];rfl
     refine⟨?_,?_⟩
     ·unfold Lib.cut;rw[d,if_neg d_]
     ·rw[cL,if_neg hx,h2]
def iu (e:Eo):LL_:=if e.more=true then cL e.by_ e.rest else []
def io (e:Eo):Eo:={ e with more:=(Lib.cut e.rest [e.by_]).2.2,rest:=(Lib.cut e.rest [e.by_]).2.1 }
theorem qA {e:Eo}(h:e.more=true):iu e=(Lib.cut e.rest [e.by_]).1::iu (io e)∧(Lib.cut e.rest [e.by_]).1.length≤e.rest.length∧(io e).rest.length≤e.rest.length:=by
 unfold iu io;rw[if_pos h];rcases cut_split e.by_ e.rest with ⟨a,b,h1,h2,h3,h4⟩|⟨h1,h2⟩
 ·rw[h1,h2];simp[h3,h4]
 ·rw[h1,h2];simp
structure dS (w:Z):Prop where
 tab : Lib.TabIs prog w "internal/strconv.uint64pow10" .u64 Lib.pow10Tab
 syn:∃ te pe,w.cell? ⟨6,0,none⟩=some (.iface te pe)
 rng:∃ te pe,w.cell? ⟨7,0,none⟩=some (.iface te pe)
 mx:∃ m,w.cell? ⟨2,0,none⟩=some (.int .i64 m)
theorem Ef (l:q)(c:U8_){w:Z}(hg:∃ m,w.cell? ⟨2,0,none⟩=some (F m))(hl:l.length≤2000):R_ 290 #[s_ l,s_ [c]] w (.tuple #[s_ (Lib.cut l [c]).1,s_ (Lib.cut l [c]).2.1,.bool (Lib.cut l [c]).2.2]):=by
 obtain⟨m,hm⟩:=hg;have h:=Tryz.strings_Cut (bs l) (bs [c]) m w yzs hm;rw[show(bs l).data.toList=l by simp[bs],show(bs [c]).data.toList=[c] by simp[bs]]at h;refine h.mono ?_;rintro e w'⟨rfl,n,rfl⟩;exact⟨rfl,II _ _⟩
section
variable {bZ:Nat}{w:Z}{e:Eo}
theorem wg (h:kf bZ w e)(hm:e.more=false):C_ 289 #[.pointer (some ⟨e.bm,0,none⟩),.pointer (some ⟨e.bt,0,none⟩),.pointer (some ⟨e.bc,0,none⟩)] w fun r w'=>r=.returned (.tuple #[s_ [],.bool false])∧w'=w:=by
 have c0:=h.1.c 0;rw[hm]at c0;clear h hm;go_enter func289,ntmps289;go_wp2;go_ret2;exact⟨rfl,rfl⟩
theorem sy (h:kf bZ w e)(hm:e.more=true)(hl:e.rest.length≤1024)(hg:∃ m,w.cell? ⟨2,0,none⟩=some (F m)):C_ 289 #[.pointer (some ⟨e.bm,0,none⟩),.pointer (some ⟨e.bt,0,none⟩),.pointer (some ⟨e.bc,0,none⟩)] w fun r w'=>r=.returned (.tuple #[s_ (Lib.cut e.rest [e.by_]).1,.bool true])∧kf bZ w' (io e)∧Chg (fun k=>k=e.bm∨k=e.bt) w w':=by
 obtain⟨h1,h2,h3,h4⟩:=h;have c0:=h1.c 0;rw[hm]at c0;have c1:=h2.c 0;have c2:=h3.c 0;have l2:=h3.lt;have HC:=O (fun w' (hB:Bw_ w w')=>Ef e.rest e.by_ (w:=w') (by obtain⟨m,hm⟩:=hg;exact⟨m,IF hB hm⟩) Y);obtain⟨H1,H2,H3,H4⟩:=zH4 h1 h2 h3 h4;clear h1 h2 h3 h4 hm hg;go_enter func289,ntmps289;obtain⟨A,hA⟩:=H ((Lib.cut e.rest [e.by_]).1);obtain⟨B,N⟩:=H ((Lib.cut e.rest [e.by_]).2.1);obtain⟨C,b⟩:=H ((Lib.cut e.rest [e.by_]).2.2);rw[←hA,←N,←b]at HC;have HE:=O (show io e={ e with more:=C,rest:=B } by rw[N,b];rfl);have HA:=O hA;clear hA N b;have nb:¬e.bm=e.bt:=H4.o.2.2.2.1;have c:¬e.bt=e.bm:=fun h=>nb h.symm
 have bB:(convert 114 9 (.slice (some ⟨w.heap.size,0,none⟩) 1 1)).run prog (w.alloc (.cells #[.int .u8 e.by_.toNat] 5))=.ok (s_ [e.by_]) (w.alloc (.cells #[.int .u8 e.by_.toNat] 5)) :=
  qV _ _ 5 underlying114 underlying5 underlying9 _ w.heap.size _ 1 [e.by_] ⟨rfl,.inr ⟨w.heap.size,1,#[.int .u8 e.by_.toNat],rfl,I6 _,World.alloc_heap_new w _,I6 _,by decide,rfl,rfl⟩⟩
 go_wp2_with (go_at_call 290;refine(HC.o _ (af _ _)).mono ?_;rintro r w2⟨rfl,hB⟩;have ax:=bt (af w (.cells #[.int .u8 e.by_.toNat] 5)) hB;have q0:=(H1.o.below ax).c 0;have q1:=(H2.o.below ax).c 0;have f0:=(H1.o.below ax).free (k:=0) i_;have f1:=(H2.o.below ax).free (k:=0) i_;have a9:=O ax;clear hB ax);go_ret2;obtain⟨b1,b2,b3,n1,n2,n3⟩:=H4.o;refine⟨by rw[←HA.o];rfl,?_,?_⟩
 ·rw[HE.o]
  have g1:=H1.o.below a9.o;have g2:=H2.o.below a9.o;have g3:=H3.o.below a9.o;have x1:Chg (fun k=>k=e.bt) w2 (w2.setCell ⟨e.bt,0,none⟩ (s_ B)):=Chg.setCell _ _ _ rfl;have x2:Chg (fun k=>k=e.bm) (w2.setCell ⟨e.bt,0,none⟩ (s_ B)) ((w2.setCell ⟨e.bt,0,none⟩ (s_ B)).setCell ⟨e.bm,0,none⟩ (.bool C)):=Chg.setCell _ _ _ rfl;exact⟨(g1.chg x1 n1).set 0 (.bool C),(g2.set 0 (s_ B)).chg x2 (fun h=>n1 h.symm),(g3.chg x1 (fun h=>n3 h.symm)).chg x2 (fun h=>n2 h.symm),b1,b2,b3,n1,n2,n3⟩
 ·exact((IG a9.o).trans (Chg.setCell w2 ⟨e.bt,0,none⟩ _ (.inr rfl))).trans (Chg.setCell _ ⟨e.bm,0,none⟩ _ (.inl rfl))
theorem yu (s:q)(c:U8_)(w:Z)(pc:Nat)(hb:bZ≤w.heap.size):C_ 288 #[s_ s,.int .u8 c.toNat] w fun r w'=>r=.returned (eoF ⟨pc,w.heap.size+2,w.heap.size,w.heap.size+1,!s.isEmpty,s,c⟩)∧kf bZ w' ⟨pc,w.heap.size+2,w.heap.size,w.heap.size+1,!s.isEmpty,s,c⟩∧Bw_ w w':=by
 obtain⟨W3,aB⟩:=H (((w.alloc (.cells #[s_ s] 9)).alloc (.cells #[.int .u8 c.toNat] 5)).alloc (.cells #[.bool (!s.isEmpty)] 4));have a:∀ (fn:Fn) (first ah:AV_) (w:Z),(Instr.makeFunc fn first ah).run prog w=.ok (.func fn first ah) w:=fun _ _ _ _=>rfl;have h1:Blk W3 w.heap.size 9 [s_ s]:=by rw[aB];exact((Blk.new w _ _).below (af _ _)).below (af _ _)
 have h2:Blk W3 (w.heap.size+1) 5 [.int .u8 c.toNat]:=by
  rw[aB];have:=Blk.new (w.alloc (.cells #[s_ s] 9)) [.int .u8 c.toNat] 5;rw[show(w.alloc (.cells #[s_ s] 9)).heap.size=w.heap.size+1 from Array.size_push ..]at this;exact this.below (af _ _)
 have h3:Blk W3 (w.heap.size+2) 4 [.bool (!s.isEmpty)]:=by
  rw[aB];have:=Blk.new ((w.alloc (.cells #[s_ s] 9)).alloc (.cells #[.int .u8 c.toNat] 5)) [.bool (!s.isEmpty)] 4;rw[show((w.alloc (.cells #[s_ s] 9)).alloc (.cells #[.int .u8 c.toNat] 5)).heap.size=w.heap.size+2 from by rw[show((w.alloc (.cells #[s_ s] 9)).alloc (.cells #[.int .u8 c.toNat] 5)).heap.size=(w.alloc (.cells #[s_ s] 9)).heap.size+1 from Array.size_push ..,show(w.alloc (.cells #[s_ s] 9)).heap.size=w.heap.size+1 from Array.size_push ..]]at this;exact this
 have aX:Bw_ w W3:=by rw[aB];exact bt (af _ _) (bt (af _ _) (af _ _))
 have HK:=O (show kf bZ W3 ⟨pc,w.heap.size+2,w.heap.size,w.heap.size+1,!s.isEmpty,s,c⟩∧Bw_ w W3 from⟨⟨h3,h1,h2,by show bZ≤w.heap.size+2;omega,hb,by show bZ≤w.heap.size+1;omega,by show w.heap.size+2≠w.heap.size;omega,by show w.heap.size+2≠w.heap.size+1;omega,by show w.heap.size≠w.heap.size+1;omega⟩,aX⟩);clear h1 h2 h3 aX;go_enter func288,ntmps288;go_upto_region 2 with fail;rw[←aB];clear aB;go_wp2_with fail;go_ret;exact⟨rfl,HK.o⟩
end
end
section
attribute [local irreducible] wpG
section
variable {bZ G:Nat}{w w':Z}{f:Mf}{ak:Int}{st rg:LM_}{ad:List Eo}{W:LX_}{tr:LI_}{tv cv iv ev lv ar an J ao:V_}{X:List (Pt bZ)}
theorem pw {n : Int}(h0 : -9223372036854775808 ≤ n)(h1 : n ≤ 9223372036854775807){w : Z}(ht : Lib.TabIs prog w "internal/strconv.uint64pow10" .u64 Lib.pow10Tab) : C_ 199 #[F n, F 10] w fun e w' => e = .returned (s_ (Lib.itoa n)) ∧ Bw_ w w' := by
 refine(Tryz.strconv_FormatInt_10 n h0 h1 w ht).mono ?_;rintro e w'⟨rfl,k,d,rfl⟩;refine⟨rfl,?_⟩;have hb:Bw_ w (Sort.grow (w.drewN k) d):=⟨rfl,rfl,rfl,by show w.heap.size≤(w.heap++d).size;rw[Array.size_append];omega,fun j hj=>by show(w.heap++d)[j]?=_;rw[Array.getElem?_append_left hj]⟩
 exact hb
theorem aN {P:Program}{aM:Array Oper}{o:Oper}{a:Act}{w:Z}{K:Act→Z→Prop}{Q:Exit→Act→Z→Prop}{E:Prop}{R:Ending→Z→Prop}(hg:o.guard=none)(f:FuncId)(b:AV_)(aO:(execOp a.eval o).run P w=.ok (.enter f b) w)(hc:Calls P f b w R)(h:∀ e w',R e w'→match e with|.returned v=>K (a.put o.dst v) w'|.panicked ch=>Q (.panic ch) a w'|.outgrown=>LetsOut Q):if Region.wanted o (yielded aM a.tmps)=true then Oper.wp P o a w K Q else E:=by
 have hw:Region.wanted o (yielded aM a.tmps)=true:=by simp[Region.wanted,hg]
 rw[if_pos hw];unfold Oper.wp;rw[aO];refine Calls.mono hc ?_;intro e w' hR;have:=h e w' hR
 cases e<;>exact this
theorem MR.setReg (h:MR bZ w G f ak st rg ad W tr ar an J ao X){i:Nat}(hi:i<8)(v:MV):MR bZ ((w.setCell ⟨G,7+i*2,none⟩ (F v.1)).setCell ⟨G,7+i*2+1,none⟩ (s_ v.2)) G f ak st (rg.set i v) ad W tr ar an J ao X∧B_ bZ w ((w.setCell ⟨G,7+i*2,none⟩ (F v.1)).setCell ⟨G,7+i*2+1,none⟩ (s_ v.2)):=by
 have hs:Chg (fun k=>k=G) w ((w.setCell ⟨G,7+i*2,none⟩ (F v.1)).setCell ⟨G,7+i*2+1,none⟩ (s_ v.2)):=Chg.trans (Chg.setCell w ⟨G,7+i*2,none⟩ _ rfl) (Chg.setCell _ ⟨G,7+i*2+1,none⟩ _ rfl);have hb:=(h.blk.set (7+i*2) (F v.1)).set (7+i*2+1) (s_ v.2)
 have hc:((bE f ak ar rg an J f.tx f.sn ao).set (7+i*2) (F v.1)).set (7+i*2+1) (s_ v.2)=bE f ak ar (rg.set i v) an J f.tx f.sn ao:=by
  obtain⟨a,b,c,d,e,K,g,j,hr⟩:=eA h.rl;rw[hr];rcases(by omega:i=0∨i=1∨i=2∨i=3∨i=4∨i=5∨i=6∨i=7) with rfl|rfl|rfl|rfl|rfl|rfl|rfl|rfl<;>rfl
 rw[hc]at hb;have s2:=h.sep.upd (i:=0) rfl hs (fun k hk=>hk) (aF G h.gb 271 (bE f ak ar (rg.set i v) an J f.tx f.sn ao)) hb (fun k hk=>.inl hk);exact⟨⟨h.gb,by rw[JN];exact h.rl,s2⟩,h.sep.updB (i:=0) rfl hs (fun k hk=>hk) h.size⟩
theorem eb {w:Z}{v:V_}{l:LI_}(h:bD.Row w v l):∃ a n,v=.slice a l.length n∧∀ k (hk:k<l.length),∃ b aL,a=some ⟨b,aL,none⟩∧w.cell? ⟨b,aL+k,none⟩=some (F l[k]):=by
 obtain⟨a,ah,rfl,aq,hc⟩:=Rec.Row.open h;refine⟨a,ah,rfl,fun k hk=>?_⟩;obtain⟨b,aL,ha,hu⟩:=hc k hk;refine⟨b,aL,ha,?_⟩;have:=hu 0 _ rfl
 rwa [show aL+k*bD.n+0=aL+k by show aL+k*1+0=_;omega]at this
theorem Ay (y:U8_)(h:MR bZ w G ⟨tv,cv,iv,ev,lv,[],0⟩ ak st rg ad W tr ar an J ao X)(hl:st.length≤1000){l:LL_}(ht:aP.Row w tv l)(hy:y.toNat<l.length)(a0:l.length≤1000):C_ 262 #[p_ G,.int .u8 y.toNat] w fun e w'=>e=.returned (F 0)∧(∃ U,MR bZ w' G ⟨tv,cv,iv,ev,lv,[],0⟩ ak ((0,l.getD y.toNat [])::st) rg ad W tr U an J ao X)∧B_ bZ w w':=by
 obtain⟨a,n,rfl,-,hc⟩:=au ht;obtain⟨b,aL,rfl,d0⟩:=hc y.toNat hy;have HP:=O (cz (0,l[y.toNat]) h hl);have hg:l.getD y.toNat []=l[y.toNat]:=by rw[List.getD_eq_getElem?_getD,List.getElem?_eq_getElem hy];rfl
 have c0:=h.c 0;have i0:0≤(y.toNat:Int):=Y;have i1:(y.toNat:Int)<l.length:=Y;have i2:(l.length:Int)≤1000:=Y;have HG:=O hg;clear h hg ht hc;go_enter func262,ntmps262;go_wp2_with (go_at_call 285;refine HP.o.mono ?_;rintro e w2⟨rfl,⟨sv,hm⟩,hB⟩;have HM:=O hm;have HB:=O hB;clear hm hB);go_ret;rw[HG.o];exact⟨rfl,⟨_,HM.o⟩,HB.o⟩
theorem xG (y:U8_)(h:MR bZ w G ⟨tv,cv,iv,ev,lv,[],0⟩ ak st rg ad W tr ar an J ao X)(hl:st.length≤1000){l:LL_}(ht:aP.Row w iv l)(hy:y.toNat<l.length)(a0:l.length≤1000):C_ 264 #[p_ G,.int .u8 y.toNat] w fun e w'=>e=.returned (F 0)∧(∃ U,MR bZ w' G ⟨tv,cv,iv,ev,lv,[],0⟩ ak ((0,l.getD y.toNat [])::st) rg ad W tr U an J ao X)∧B_ bZ w w':=by
 obtain⟨a,n,rfl,-,hc⟩:=au ht;obtain⟨b,aL,rfl,d0⟩:=hc y.toNat hy;have HP:=O (cz (0,l[y.toNat]) h hl);have hg:l.getD y.toNat []=l[y.toNat]:=by rw[List.getD_eq_getElem?_getD,List.getElem?_eq_getElem hy];rfl
 have c0:=h.c 2;have i0:0≤(y.toNat:Int):=Y;have i1:(y.toNat:Int)<l.length:=Y;have i2:(l.length:Int)≤1000:=Y;have HG:=O hg;clear h hg ht hc;go_enter func264,ntmps264;go_wp2_with (go_at_call 285;refine HP.o.mono ?_;rintro e w2⟨rfl,⟨sv,hm⟩,hB⟩;have HM:=O hm;have HB:=O hB;clear hm hB);go_ret;rw[HG.o];exact⟨rfl,⟨_,HM.o⟩,HB.o⟩
theorem AB (y : U8_)(a : MV)(h : MR bZ w G f ak (a :: st) rg ad W tr ar an J ao X)(hl : st.length ≤ 900)(ha : vOk a)(ht : ∀ w', B_ bZ w w' → Lib.TabIs prog w' "internal/strconv.uint64pow10" .u64 Lib.pow10Tab):C_ 269 #[p_ G,.int .u8 y.toNat] w fun e w'=>e=.returned (F 0)∧(∃ U,MR bZ w' G f ak ((0,Lib.itoa a.1)::st) rg ad W tr U an J ao X)∧B_ bZ w w':=by
 have HP:=O (fg a h Y);have HT:=O ht;obtain⟨h1,h2,-⟩:=ha;clear h ht;go_enter func269,ntmps269;go_wp2_with (first|(go_at_call 285;refine(cz (0,Lib.itoa a.1) d.o Y).mono ?_;rintro e w4⟨rfl,⟨o,hm⟩,hB⟩;have B:=O hm;have ba:=O (aW.o.trans hB);clear hm hB)|(go_at_call 199;refine(pw h1 h2 (HT.o _ HB.o)).mono ?_;rintro e w3⟨rfl,hB⟩;have d:=O (HM.o.below hB);have aW:=O (HB.o.trans (hB.mono HM.o.size));clear hB)|(go_at_call 176;refine HP.o.mono ?_;rintro e w2⟨rfl,⟨sv,hm⟩,hB⟩;have HM:=O hm;have HB:=O hB;unfold mvV;clear hm hB));go_ret;exact⟨rfl,⟨_,B.o⟩,ba.o⟩
theorem Cx (y:U8_)(hy:y.toNat<8)(a:MV)(h:MR bZ w G f ak (a::st) rg ad W tr ar an J ao X)(hl:st.length≤900):C_ 279 #[p_ G,.int .u8 y.toNat] w fun e w'=>e=.returned (F 0)∧(∃ U,MR bZ w' G f ak st (rg.set y.toNat a) ad W tr U an J ao X)∧B_ bZ w w':=by
 have hd:=h.below (b_drew w);have HP:=O (fg a hd Y);have HS:=O h.size;have i0:0≤(y.toNat:Int):=Y;have i1:(y.toNat:Int)<8:=Y;have HY:=O hy;clear h hd;go_enter func279,ntmps279;go_wp2_with fail;go_region_with (go_at_call 176;refine HP.o.mono ?_;rintro e w2⟨rfl,⟨sv,hm⟩,hB⟩;unfold mvV;have HM:=O hm;have HB:=O (((b_drew w).mono HS.o).trans hB);obtain⟨q0,q1⟩:=hm.reg HY.o;have k0:=hm.free (k:=7+y.toNat*2) (by have:=HY.o;omega);have k1:=hm.free (k:=7+y.toNat*2+1) (by have:=HY.o;omega);clear hm hB)
 all_goals
  (try dsimp only)
  (try go_frame)
  go_wp2_with fail;go_ret;obtain⟨m5,b5⟩:=HM.o.setReg HY.o a;exact⟨rfl,⟨_,m5⟩,HB.o.trans b5⟩
theorem CF (y:U8_)(a:MV)(h:MR bZ w G f ak (a::st) rg ad W tr ar an J ao X)(hl:st.length≤900):C_ 276 #[p_ G,.int .u8 y.toNat] w fun e w'=>e=.returned (F 0)∧(∃ U,MR bZ w' G f ak (a::a::st) rg ad W tr U an J ao X)∧B_ bZ w w':=by
 obtain⟨⟨ab,cb,z⟩,_,_,_⟩:=h.slices;rw[Jq]at z;subst z;have hd:=h.below (b_drew w);have HP:=O (cz a hd yza);have HS:=O h.size;obtain⟨g,rfl,-,e0,e1⟩:=h.top;have c6:w.cell? ⟨G,6,none⟩=some (.slice (some ⟨g,0,none⟩) (st.length+1) cb):=h.c 6;have be:((st.length:Int)+1)-1=(st.length:Int):=Y;have a0:0≤(st.length:Int):=Y;have a4:(st.length:Int)<(st.length:Int)+1:=Y;have b6:(st.length:Int)≤1000:=Y;have hw:IntKind.i64.wrap (st.length:Int)=(st.length:Int):=IntWalk.i64_in _ Y;clear h hd;go_enter func276,ntmps276;go_wp2_with fail;go_region_law (refine aN rfl 285 #[p_ G,.agg #[F a.1,s_ a.2]] yzc HP.o ?_;rintro e w2⟨rfl,⟨sv,hm⟩,hB⟩;have HM:=O hm;have HB:=O (((b_drew w).mono HS.o).trans hB);clear hm hB)
 all_goals
  (try simp only[JM,Jd,Jm])
  (try go_frame)
  (try go_wp2_with fail)
  (try simp only[JM,Jd,Jm])
  go_ret;exact⟨rfl,⟨_,HM.o⟩,HB.o⟩
theorem Ax (y:U8_)(pc:Nat)(h:MR bZ w G ⟨tv,cv,iv,ev,lv,[],0⟩ (pc:Int) st rg ad W tr ar an J ao X){l:LI_}(ht:bD.Row w ev l)(hp:pc<l.length)(a0:l.length≤1000)(hv:-1000≤l[pc]∧l[pc]≤1000):C_ 281 #[p_ G,.int .u8 y.toNat] w fun e w'=>e=.returned (F 0)∧MR bZ w' G ⟨tv,cv,iv,ev,lv,[],0⟩ (l[pc]-1) st rg ad W tr ar an J ao X∧B_ bZ w w':=by
 obtain⟨a,n,rfl,hc⟩:=eb ht;obtain⟨b,aL,rfl,d0⟩:=hc pc hp;have c3:=h.c 3;have c5:=h.c 5;have f5:=h.free (k:=5) d_;have i0:=nn_ pc;have i1:(pc:Int)<l.length:=Y;have i2:(l.length:Int)≤1000:=Y;obtain⟨v,a2⟩:∃ v,v=l[pc]:=⟨_,rfl⟩
 rw[←a2]at d0 hv⊢;obtain⟨j0,j1⟩:=hv;have HD:=O (h.below (b_drew w));have HS:=O h.size;clear h ht hc a2;go_enter func281,ntmps281;go_wp2_with fail;go_region
 all_goals
  go_wp2_with fail;go_ret;obtain⟨m5,b5⟩:=HD.o.setAt (v-1);exact⟨rfl,m5,((b_drew w).mono HS.o).trans b5⟩
theorem uI (y:U8_)(a:MV)(pc:Nat)(h:MR bZ w G ⟨tv,cv,iv,ev,lv,[],0⟩ (pc:Int) (a::st) rg ad W tr ar an J ao X)(hl:st.length≤900){l:LI_}(ht:∀ w',B_ bZ w w'→bD.Row w' ev l)(hp:pc<l.length)(a0:l.length≤1000):C_ 280 #[p_ G,.int .u8 y.toNat] w fun e w'=>e=.returned (F 0)∧(∃ U,MR bZ w' G ⟨tv,cv,iv,ev,lv,[],0⟩ (if a.1=0 then l[pc] else (pc:Int)) st rg ad W tr U an J ao X)∧B_ bZ w w':=by
 have HP:=O (fg a h Y);have HT:=O ht;clear h ht
 by_cases ha:a.1=0
 ·rw[if_pos ha]
  have i0:=nn_ pc;have i1:(pc:Int)<l.length:=Y;have i2:(l.length:Int)≤1000:=Y;have t0:(a.1==0)=true:=by simp[ha]
  have HA:=O ha;clear ha;go_enter func280,ntmps280;go_upto_region 2 with(go_at_call 176;refine HP.o.mono ?_;rintro e w2⟨rfl,⟨sv,hm⟩,hB⟩;unfold mvV;have HM:=O hm;have HB:=O hB;clear hm hB);obtain⟨a',n,aV,hc⟩:=eb (HT.o _ HB.o);obtain⟨b,aL,rfl,d0⟩:=hc pc hp;subst aV;obtain⟨v,a2⟩:∃ v,v=l[pc]:=⟨_,rfl⟩
  rw[←a2]at d0;have HV:=O a2;have c3:=HM.o.c 3;have c5:=HM.o.c 5;have f5:=HM.o.free (k:=5) d_;have HD:=O (HM.o.below (b_drew w2));clear hc a2;go_region
  all_goals
   go_wp2_with fail;go_ret;obtain⟨m5,b5⟩:=HD.o.setAt v;exact⟨rfl,⟨_,by rw[←HV.o];exact m5⟩,(HB.o.trans ((b_drew w2).mono HM.o.size)).trans b5⟩
 ·rw[if_neg ha]
  have t0:(a.1==0)=false:=by rw[beq_eq_false_iff_ne];exact ha
  go_enter func280,ntmps280;go_wp2_with (go_at_call 176;refine HP.o.mono ?_;rintro e w2⟨rfl,⟨sv,hm⟩,hB⟩;unfold mvV;have HM:=O hm;have HB:=O hB;clear hm hB);go_ret;exact⟨rfl,⟨_,HM.o⟩,HB.o⟩
end
end
section
attribute [local irreducible] wpG
section
variable {bZ G:Nat}{w w' w3:Z}{f:Mf}{ak:Int}{st rg:LM_}{ad:List Eo}{W:LX_}{tr:LI_}{tv cv iv ev lv ar an J aT ao:V_}{X:List (Pt bZ)}
theorem dS.below {w w':Z}(h:dS w)(hB:Bw_ w w'):dS w':=by
 obtain⟨h2,⟨a,b,h3⟩,⟨c,d,h4⟩,⟨m,h5⟩⟩:=h
 have hv : Lib.TabIs prog w' "internal/strconv.uint64pow10" .u64 Lib.pow10Tab := by
  have h2:=h2;unfold Lib.TabIs World.var? at h2⊢;generalize prog.globalNamed "internal/strconv.uint64pow10" = i at h2 ⊢
  cases i with
  | none=>cases h2
  | some g =>
   simp only[Option.bind_some]at h2⊢
   cases hh:w.heap[g]? with
   | none=>rw[hh]at h2;cases h2
   | some o=>rw[hB.block g (Array.getElem?_eq_some_iff.1 hh).1,hh];rw[hh]at h2;exact h2
 exact⟨hv,⟨a,b,IF hB h3⟩,⟨c,d,IF hB h4⟩,⟨m,IF hB h5⟩⟩
theorem KY {T:Prop} (h:T:=by
 rintro e w'⟨N,rfl,-,-,hB⟩;exact⟨.inr ⟨fun v h'=>by(first|cases h'|(rw[h]at h';cases h')),_,_,_,rfl⟩,hB⟩
):T:=h
theorem Gz (s:q)(hs:s.length≤1024){w:Z}(hg:dS w):C_ 210 #[s_ s,F 10,F 64] w fun e w'=>((∃ v,Lib.atoiAll s=.ok v∧e=.returned (.tuple #[F v,.nilIface]))∨((∀ v,Lib.atoiAll s≠.ok v)∧∃ n x N,e=.returned (.tuple #[F n,.iface x (p_ N)])))∧Bw_ w w':=by
 obtain⟨c,pe,a⟩:=hg.syn;obtain⟨b,d,Q⟩:=hg.rng;have hl:(bs s).data.toList=s:=by simp[bs]
 cases h:Lib.atoiAll s with
 | ok v =>
  refine(Tryz.strconv_ParseInt_10_at64_ok (bs s) yzs v (by rw[hl,Lib.parseIntB_64];exact h) w).mono ?_;rintro e w'⟨rfl,rfl|⟨t,rfl⟩⟩
  ·exact⟨.inl ⟨v,rfl,rfl⟩,Ja _ _⟩
  ·exact⟨.inl ⟨v,rfl,rfl⟩,kX _ _ _⟩
 | range =>
  refine(Tryz.strconv_ParseInt_10_at64_range (bs s) yzs (by rw[hl,Lib.parseIntB_64];exact h) _ w Q (.inr ⟨b,d,rfl⟩)).mono ?_;exact KY
 | _ =>
  refine(Tryz.strconv_ParseInt_10_at64_syntax (bs s) yzs (by rw[hl,Lib.parseIntB_64];exact h) _ w a (.inr ⟨c,pe,rfl⟩)).mono ?_;exact KY
theorem MG {T:Prop} (h:T:=by
 obtain⟨a,b,c,d,e,K,g,j,hr⟩:=eA h.rl;rw[hr];rfl
):T:=h
theorem MR.newP (h:MR bZ w G f ak st rg ad W tr ar an J ao X){l:LX_}(hc:Chg (fun k=>J.ownBlock=some k) w w3)(hg:∀ k,aT.ownBlock=some k→J.ownBlock=some k∨w.heap.size≤k)(ho:recKv.Own w3 bZ aT l):MR bZ (w3.setCell ⟨G,24,none⟩ aT) G f ak st rg ad l tr ar an aT ao X∧B_ bZ w (w3.setCell ⟨G,24,none⟩ aT)∧w3.frozen? ⟨G,24,none⟩=false∧w3.cell? ⟨G,24,none⟩=some J:=by
 have q:=h.sep.upd (i:=4) rfl hc (fun k hk=>hk) (ownPt recKv aT l) ho hg;have hs:Chg (fun k=>k=G) w3 (w3.setCell ⟨G,24,none⟩ aT):=Chg.setCell _ _ _ rfl;have b3:Blk w3 G 271 (bE f ak ar rg an J f.tx f.sn ao):=q.get (i:=0) rfl
 have aR:(bE f ak ar rg an J f.tx f.sn ao).set 24 aT=bE f ak ar rg an aT f.tx f.sn ao:=by
  exact MG
 have hb:=b3.set 24 aT;rw[aR]at hb;have s2:=q.upd (i:=0) rfl hs (fun k hk=>hk) (aF G h.gb 271 (bE f ak ar rg an aT f.tx f.sn ao)) hb (fun k hk=>.inl hk);exact⟨⟨h.gb,h.rl,s2⟩,(h.sep.updB (i:=4) rfl hc (fun k hk=>hk) h.size).trans (hs.below (fun k hk=>by have:=h.gb;omega) (Jc h.size hc.size)),by obtain⟨a,b,c,d,e,K,g,j,hr⟩:=eA h.rl;rw[hr]at b3;exact b3.free (k:=24) (by show 24<28;decide),by obtain⟨a,b,c,d,e,K,g,j,hr⟩:=eA h.rl;rw[hr]at b3;exact b3.c 24⟩
theorem AG (y:U8_)(a b:MV)(h:MR bZ w G f ak (b::a::st) rg ad W tr ar an J ao X)(hl:st.length≤900)(hp:W.length≤256):C_ 284 #[p_ G,.int .u8 y.toNat] w fun e w'=>((256≤W.length∧e=.returned (F 4))∨(¬256≤W.length∧e=.returned (F 0)∧∃ U aT,MR bZ w' G f ak st rg ad (W++[(a.2,b.2)]) tr U an aT ao X))∧B_ bZ w w':=by
 obtain⟨_,_,⟨P,pc,rfl⟩,_⟩:=h.slices;have m:w.cell? ⟨G,24,none⟩=some (.slice P W.length pc):=h.cellR (k:=1) rfl;have HS:=O h.size
 by_cases u:256≤W.length
 ·have t1:256≤(W.length:Int):=Y
  have hi:(W.length:Int)≤256:=Y;clear h;go_enter func284,ntmps284;go_wp2_with fail;go_ret;exact⟨.inl ⟨u,rfl⟩,Ja _ _⟩
 ·have t1:¬256≤(W.length:Int):=Y
  have hi:(W.length:Int)≤256:=Y;have HP:=O (iM a b h hl);have c:=O u;clear h u;go_enter func284,ntmps284;go_upto_region 4 with(go_at_call 286;refine HP.o.mono ?_;rintro e w2⟨rfl,⟨sv,hm⟩,hB⟩;unfold mvV;have HM:=O hm;have HB:=O hB;clear hm hB);obtain⟨W3,aB⟩:=H ((w2.alloc (.cells #[F a.1,s_ a.2] 267)).alloc (.cells #[F b.1,s_ b.2] 267));have aX:Bw_ w2 W3:=by rw[aB];exact bt (af _ _) (af _ _)
  have hx:Blk W3 w2.heap.size 267 [F a.1,s_ a.2]:=by rw[aB];exact(Blk.new w2 _ _).below (af _ _)
  have hy:Blk W3 (w2.heap.size+1) 267 [F b.1,s_ b.2]:=by
   exact MC
  have ay:=HM.o.below aX;have aW:=O (HB.o.trans (aX.mono HM.o.size));obtain⟨D,hD⟩:=H w2.heap.size;rw[←hD]at hx hy⊢;rw[←aB];have x1:=hx.c 1;have y1:=hy.c 1;have n:=hx.lt;have r:=hy.lt;have j:W3.cell? ⟨G,24,none⟩=some (.slice P W.length pc):=ay.cellR (k:=1) rfl;have bq:G<W3.heap.size:=ay.blk.lt;have o:=ay.below (b_drew W3);have bB:bZ≤W3.drew.heap.size:=o.size;have aS:(W.length+1)*32≤140737488355328:=Y;have q:=O o;have aE:=o.op;have d:=O ay;clear hx hy aB hD aX HM HB o ay m;go_region_law (refine recKv.step_append1V W3.drew (a.2,b.2) rfl _ _ 29 rfl underlying29 bZ (.slice P W.length pc) W rfl aE _ rfl _ rfl _ rfl aS bB ?_;intro g gc w4 aw hc hg;have hn:=q.o.newP (aT:=.slice (some ⟨g,0,none⟩) (W.length+1) gc) (l:=W++[(a.2,b.2)]) hc (fun k hk=>by cases hk;exact hg) aw;have f24:=hn.2.2.1;have i:=hn.2.2.2;have HN:=O hn;clear hn aw hc hg)
  all_goals
   (try simp only[JM,Jd,Jm])
   (try go_frame)
   go_wp2_with fail;go_ret;exact⟨.inr ⟨c.o,rfl,_,_,HN.o.1⟩,(aW.o.trans ((b_drew W3).mono d.o.size)).trans HN.o.2.1⟩
end
end
section
attribute [local irreducible] wpG
section
variable {bZ G:Nat}{w w' w3:Z}{f:Mf}{ak:Int}{st rg:LM_}{ad:List Eo}{W:LX_}{tr:LI_}{ar an al J ao aQ:V_}{X:List (Pt bZ)}
theorem K6 {T:Prop} (h:T:=by
 obtain⟨a,b,c,d,e,K,g,j,hr⟩:=eA h.rl;rw[hr];rfl
):T:=h
theorem MR.newO (h:MR bZ w G f ak st rg ad W tr ar an J ao X){l:List Eo}(hc:Chg (fun k=>an.ownBlock=some k) w w3)(hg:∀ k,al.ownBlock=some k→an.ownBlock=some k∨w.heap.size≤k)(ho:fH.Own w3 bZ al l)(hb:(∀ e∈l,kf bZ w3 e)∧l.Pairwise fun e f=>∀ k,nW k e→¬nW k f)(hf:∀ e∈l,∀ k,nW k e→(∃ e'∈ad,nW k e')):MR bZ (w3.setCell ⟨G,23,none⟩ al) G f ak st rg l W tr ar al J ao X∧B_ bZ w (w3.setCell ⟨G,23,none⟩ al)∧w3.frozen? ⟨G,23,none⟩=false∧w3.cell? ⟨G,23,none⟩=some an:=by
 have q:=h.sep.upd (i:=2) rfl hc (fun k hk=>hk) (ownPt fH al l) ho hg
 have n:=q.same (i:=3) (p:=boxPt ad) rfl (boxPt l) hb (fun k hk=>by
  obtain⟨e,he,hk⟩:=hk;exact hf e he k hk)
 have hs:Chg (fun k=>k=G) w3 (w3.setCell ⟨G,23,none⟩ al):=Chg.setCell _ _ _ rfl;have b3:Blk w3 G 271 (bE f ak ar rg an J f.tx f.sn ao):=n.get (i:=0) rfl
 have aR:(bE f ak ar rg an J f.tx f.sn ao).set 23 al=bE f ak ar rg al J f.tx f.sn ao:=by
  exact K6
 have u:=b3.set 23 al;rw[aR]at u;have s2:=n.upd (i:=0) rfl hs (fun k hk=>hk) (aF G h.gb 271 (bE f ak ar rg al J f.tx f.sn ao)) u (fun k hk=>.inl hk);exact⟨⟨h.gb,h.rl,s2⟩,(h.sep.updB (i:=2) rfl hc (fun k hk=>hk) h.size).trans (hs.below (fun k hk=>by have:=h.gb;omega) (Jc h.size hc.size)),by obtain⟨a,b,c,d,e,K,g,j,hr⟩:=eA h.rl;rw[hr]at b3;exact b3.free (k:=23) (by show 23<28;decide),by obtain⟨a,b,c,d,e,K,g,j,hr⟩:=eA h.rl;rw[hr]at b3;exact b3.c 23⟩
theorem MR.newT (h:MR bZ w G f ak st rg ad W tr ar an J ao X){l:LI_}(hc:Chg (fun k=>ao.ownBlock=some k) w w3)(hg:∀ k,aQ.ownBlock=some k→ao.ownBlock=some k∨w.heap.size≤k)(ho:bD.Own w3 bZ aQ l):MR bZ (w3.setCell ⟨G,27,none⟩ aQ) G f ak st rg ad W l ar an J aQ X∧B_ bZ w (w3.setCell ⟨G,27,none⟩ aQ)∧w3.frozen? ⟨G,27,none⟩=false∧w3.cell? ⟨G,27,none⟩=some ao:=by
 have q:=h.sep.upd (i:=5) rfl hc (fun k hk=>hk) (ownPt bD aQ l) ho hg;have hs:Chg (fun k=>k=G) w3 (w3.setCell ⟨G,27,none⟩ aQ):=Chg.setCell _ _ _ rfl;have b3:Blk w3 G 271 (bE f ak ar rg an J f.tx f.sn ao):=q.get (i:=0) rfl
 have aR:(bE f ak ar rg an J f.tx f.sn ao).set 27 aQ=bE f ak ar rg an J f.tx f.sn aQ:=by
  exact K6
 have u:=b3.set 27 aQ;rw[aR]at u;have s2:=q.upd (i:=0) rfl hs (fun k hk=>hk) (aF G h.gb 271 (bE f ak ar rg an J f.tx f.sn aQ)) u (fun k hk=>.inl hk);exact⟨⟨h.gb,h.rl,s2⟩,(h.sep.updB (i:=5) rfl hc (fun k hk=>hk) h.size).trans (hs.below (fun k hk=>by have:=h.gb;omega) (Jc h.size hc.size)),by obtain⟨a,b,c,d,e,K,g,j,hr⟩:=eA h.rl;rw[hr]at b3;exact b3.free (k:=27) (by show 27<28;decide),by obtain⟨a,b,c,d,e,K,g,j,hr⟩:=eA h.rl;rw[hr]at b3;exact b3.c 27⟩
theorem Sep.merge {A B:List (Pt bZ)}{p ap:Pt bZ}(h:Sep bZ w (A++p::B++[ap]))(r:Pt bZ)(hr:r.P w)(hf:∀ k,r.fp k→p.fp k∨ap.fp k):Sep bZ w (A++r::B):=by
 obtain⟨h1,h2⟩:=h;obtain⟨s,-,hq⟩:=List.pairwise_append.1 h2;obtain⟨hA,d,c⟩:=List.pairwise_append.1 s;obtain⟨hp,hB⟩:=List.pairwise_cons.1 d;refine⟨fun x hx=>?_,List.pairwise_append.2 ⟨hA,List.pairwise_cons.2 ⟨fun b hb k hk H=>?_,hB⟩,fun a ha b hb k hk H=>?_⟩⟩
 ·rcases Jt.1 hx with hx|hx
  ·exact h1 x yzn
  ·rcases JK.1 hx with rfl|hx
   ·exact hr
   ·exact h1 x yzn
 ·rcases hf k hk with hk|hk
  ·exact hp b hb k hk H
  ·exact hq b (by simp[hb]) ap i_ k H hk
 ·rcases JK.1 hb with rfl|hb
  ·rcases hf k H with H|H
   ·exact c a ha p i_ k hk H
   ·exact hq a (by simp[ha]) ap i_ k hk H
  ·exact c a ha b (by simp[hb]) k hk H
theorem MR.newO2 {e:Eo}(h:MR bZ w G f ak st rg ad W tr ar an J ao (X++[boxPt [e]]))(hc:Chg (fun k=>an.ownBlock=some k) w w3)(hg:∀ k,al.ownBlock=some k→an.ownBlock=some k∨w.heap.size≤k)(ho:fH.Own w3 bZ al (ad++[e])):MR bZ (w3.setCell ⟨G,23,none⟩ al) G f ak st rg (ad++[e]) W tr ar al J ao X∧B_ bZ w (w3.setCell ⟨G,23,none⟩ al)∧w3.frozen? ⟨G,23,none⟩=false∧w3.cell? ⟨G,23,none⟩=some an:=by
 have q:=h.sep.upd (i:=2) rfl hc (fun k hk=>hk) (ownPt fH al (ad++[e])) ho hg;have o:=q.get (i:=3) (p:=boxPt ad) rfl;have a8:(boxPt (bZ:=bZ) [e]).P w3:=q.1 (boxPt [e]) i_
 have r:∀ k,(boxPt (bZ:=bZ) ad).fp k→¬(boxPt (bZ:=bZ) [e]).fp k:=by
  have hl:(aF G h.gb 271 (bE f ak ar rg an J f.tx f.sn ao)::ownPt jm ar st.reverse::ownPt fH al (ad++[e])::boxPt ad::ownPt recKv J W::ownPt bD ao tr::(X++[boxPt [e]]))[6+X.length]?=some (boxPt (bZ:=bZ) [e]):=by
   rw[Nat.add_comm];show(X++[boxPt [e]])[X.length]?=_;simp
  exact q.apart (i:=3) (j:=6+X.length) (p:=boxPt ad) rfl hl Y
 have n:Sep bZ w3 ([aF G h.gb 271 (bE f ak ar rg an J f.tx f.sn ao),ownPt jm ar st.reverse,ownPt fH al (ad++[e])]++boxPt (ad++[e])::(ownPt recKv J W::ownPt bD ao tr::X)):=by
  refine Sep.merge (p:=boxPt ad) (ap:=boxPt [e]) q (boxPt (ad++[e])) ⟨fun x hx=>?_,List.pairwise_append.2 ⟨o.2,List.pairwise_singleton _ _,fun a ha b hb k hk H=>?_⟩⟩ (fun k hk=>?_)
  ·rcases Jt.1 hx with hx|hx
   ·exact o.1 x hx
   ·exact a8.1 x hx
  ·exact r k ⟨a,ha,hk⟩ ⟨b,hb,H⟩
  ·obtain⟨x,hx,hk⟩:=hk
   rcases Jt.1 hx with hx|hx
   ·exact .inl ⟨x,hx,hk⟩
   ·exact .inr ⟨x,hx,hk⟩
 have hs:Chg (fun k=>k=G) w3 (w3.setCell ⟨G,23,none⟩ al):=Chg.setCell _ _ _ rfl;have b3:Blk w3 G 271 (bE f ak ar rg an J f.tx f.sn ao):=n.get (i:=0) rfl
 have aR:(bE f ak ar rg an J f.tx f.sn ao).set 23 al=bE f ak ar rg al J f.tx f.sn ao:=by
  exact K6
 have u:=b3.set 23 al;rw[aR]at u;have s2:=n.upd (i:=0) rfl hs (fun k hk=>hk) (aF G h.gb 271 (bE f ak ar rg al J f.tx f.sn ao)) u (fun k hk=>.inl hk);exact⟨⟨h.gb,h.rl,s2⟩,(h.sep.updB (i:=2) rfl hc (fun k hk=>hk) h.size).trans (hs.below (fun k hk=>by have:=h.gb;omega) (Jc h.size hc.size)),by obtain⟨a,b,c,d,e,K,g,j,hr⟩:=eA h.rl;rw[hr]at b3;exact b3.free (k:=23) (by show 23<28;decide),by obtain⟨a,b,c,d,e,K,g,j,hr⟩:=eA h.rl;rw[hr]at b3;exact b3.c 23⟩
end
end
section
attribute [local irreducible] wpG
section
variable {bZ G:Nat}{w w' w3:Z}{f:Mf}{ak:Int}{st rg:LM_}{ad:List Eo}{W:LX_}{tr:LI_}{ar an J ao:V_}{X:List (Pt bZ)}
theorem vS {s:q}{v:Int}(h:Lib.atoiAll s=.ok v):-9223372036854775808≤v∧v≤9223372036854775807:=by
 rw[←Lib.parseIntB_64]at h;have:=Lib.parseIntB_bounds h;simp at this;omega
theorem Hx {s:q}{e:Ending}{v:Int}(h:(∃ v,Lib.atoiAll s=.ok v∧e=.returned (.tuple #[F v,.nilIface]))∨((∀ v,Lib.atoiAll s≠.ok v)∧∃ n x N,e=.returned (.tuple #[F n,.iface x (p_ N)])))(hv:Lib.atoiAll s=.ok v):e=.returned (.tuple #[F v,.nilIface]):=by
 rcases h with ⟨u,hu,rfl⟩|⟨hn,_⟩
 ·rw[hv]at hu;cases hu;rfl
 ·exact absurd hv (hn v)
theorem Gy {s:q}{e:Ending}(h:(∃ v,Lib.atoiAll s=.ok v∧e=.returned (.tuple #[F v,.nilIface]))∨((∀ v,Lib.atoiAll s≠.ok v)∧∃ n x N,e=.returned (.tuple #[F n,.iface x (p_ N)])))(hv:¬∃ v,Lib.atoiAll s=.ok v):∃ n x N,e=.returned (.tuple #[F n,.iface x (p_ N)]):=by
 rcases h with ⟨u,hu,_⟩|⟨_,h⟩
 ·exact absurd ⟨u,hu⟩ hv
 ·exact h
theorem xE (y:U8_)(a:MV)(h:MR bZ w G f ak (a::st) rg ad W tr ar an J ao X)(hl:st.length≤900)(ha:vOk a)(hG:∀ w',B_ bZ w w'→dS w'):C_ 268 #[p_ G,.int .u8 y.toNat] w fun e w'=>e=.returned (F 0)∧(∃ U,MR bZ w' G f ak ((da a.2,[])::st) rg ad W tr U an J ao X)∧B_ bZ w w':=by
 have HP:=O (fg a h Y);have HG:=O hG;have i:=O (fun w' (hB:B_ bZ w w')=>Gz a.2 ha.2.2 (HG.o w' hB));clear h hG
 by_cases bb:∃ v,Lib.atoiAll a.2=.ok v
 ·obtain⟨v,C⟩:=bb
  have hv:=vS C;have g:=O (fun w' (hB:B_ bZ w w')=>(i.o w' hB).mono fun e bc h=>(⟨Hx h.1 C,h.2⟩:e=.returned (.tuple #[F v,.nilIface])∧Bw_ w' bc));obtain⟨iv,b⟩:=H (Lib.itoa v);have c:=O (fun w' (hB:B_ bZ w w')=>pw hv.1 hv.2 (HG.o w' hB).tab);rw[←b]at c
  by_cases aN:iv=a.2
  ·have HV:=O (show da a.2=v by unfold da;rw[C];exact if_pos (b▸aN))
   have t1:(iv==a.2)=true:=by rw[aN];simp
   have t2:(iv != a.2)=false:=by rw[aN];simp
   clear aN C i b;rw[HV.o];go_enter func268,ntmps268;go_wp2_with (first|(go_at_call 285;refine(cz (v,[]) B.o Y).mono ?_;rintro e w5⟨rfl,⟨bi,hm⟩,hB⟩;have q:=O hm;have aJ:=O (ba.o.trans hB);clear hm hB)|(go_at_call 199;refine(c.o _ aW.o).mono ?_;rintro e w4⟨rfl,hB⟩;have B:=O (d.o.below hB);have ba:=O (aW.o.trans (hB.mono d.o.size));clear hB)|(go_at_call 210;refine(g.o _ HB.o).mono ?_;rintro e w3⟨rfl,hB⟩;have d:=O (HM.o.below hB);have aW:=O (HB.o.trans (hB.mono HM.o.size));clear hB)|(go_at_call 176;refine HP.o.mono ?_;rintro e w2⟨rfl,⟨sv,hm⟩,hB⟩;unfold mvV;have HM:=O hm;have HB:=O hB;clear hm hB));go_ret;exact⟨rfl,⟨_,q.o⟩,aJ.o⟩
  ·have HV:=O (show da a.2=0 by unfold da;rw[C];exact if_neg (b▸aN))
   have t1:(iv==a.2)=false:=by simpa using aN
   have t2:(iv != a.2)=true:=by simpa using aN
   clear aN C i b;rw[HV.o];go_enter func268,ntmps268;go_wp2_with (first|(go_at_call 285;refine(cz (0,[]) B.o Y).mono ?_;rintro e w5⟨rfl,⟨bi,hm⟩,hB⟩;have q:=O hm;have aJ:=O (ba.o.trans hB);clear hm hB)|(go_at_call 199;refine(c.o _ aW.o).mono ?_;rintro e w4⟨rfl,hB⟩;have B:=O (d.o.below hB);have ba:=O (aW.o.trans (hB.mono d.o.size));clear hB)|(go_at_call 210;refine(g.o _ HB.o).mono ?_;rintro e w3⟨rfl,hB⟩;have d:=O (HM.o.below hB);have aW:=O (HB.o.trans (hB.mono HM.o.size));clear hB)|(go_at_call 176;refine HP.o.mono ?_;rintro e w2⟨rfl,⟨sv,hm⟩,hB⟩;unfold mvV;have HM:=O hm;have HB:=O hB;clear hm hB));go_ret;exact⟨rfl,⟨_,q.o⟩,aJ.o⟩
 ·have HV:=O (show da a.2=0 by
   unfold da
   cases h:Lib.atoiAll a.2 with
   | ok v=>exact absurd ⟨v,h⟩ bb
   | _=>rfl)
  have j:=O (fun w' (hB:B_ bZ w w')=>(i.o w' hB).mono fun e bc h=>(⟨Gy h.1 bb,h.2⟩:(∃ n x N,e=.returned (.tuple #[F n,.iface x (p_ N)]))∧Bw_ w' bc));clear bb i;rw[HV.o];go_enter func268,ntmps268;go_wp2_with (first|(go_at_call 285;refine(cz (0,[]) d.o Y).mono ?_;rintro e w5⟨rfl,⟨bi,hm⟩,hB⟩;have q:=O hm;have aJ:=O (aW.o.trans hB);clear hm hB)|(go_at_call 210;refine(j.o _ HB.o).mono ?_;rintro e w3⟨⟨n3,aj,k,rfl⟩,hB⟩;have d:=O (HM.o.below hB);have aW:=O (HB.o.trans (hB.mono HM.o.size));clear hB)|(go_at_call 176;refine HP.o.mono ?_;rintro e w2⟨rfl,⟨sv,hm⟩,hB⟩;unfold mvV;have HM:=O hm;have HB:=O hB;clear hm hB));go_ret;exact⟨rfl,⟨_,q.o⟩,aJ.o⟩
end
end
section
attribute [local irreducible] wpG
section
variable {bZ G:Nat}{w w' w3:Z}{f:Mf}{ak:Int}{st rg:LM_}{ad:List Eo}{W:LX_}{tr:LI_}{ar an J ao:V_}{X:List (Pt bZ)}
theorem AD (y:U8_)(n a t:MV)(h:MR bZ w G f ak (n::a::t::st) rg ad W tr ar an J ao X)(hl:st.length≤800)(hn:vOk n)(ha:vOk a)(ht:vOk t):C_ 267 #[p_ G,.int .u8 y.toNat] w fun e w'=>e=.returned (F 0)∧(∃ U,MR bZ w' G f ak ((0,im t.2 a.1 n.1)::st) rg ad W tr U an J ao X)∧B_ bZ w w':=by
 have HP:=O (iM a n h yza);have HS:=O h.size;clear h;go_enter func267,ntmps267;go_upto_region 2 with(go_at_call 286;refine HP.o.mono ?_;rintro e w2⟨rfl,⟨sv,hm⟩,hB⟩;unfold mvV;have HM:=O hm;have HB:=O hB;clear hm hB);obtain⟨W3,aB⟩:=H ((w2.alloc (.cells #[F a.1,s_ a.2] 267)).alloc (.cells #[F n.1,s_ n.2] 267));have aX:Bw_ w2 W3:=by rw[aB];exact bt (af _ _) (af _ _)
 obtain⟨D,hD⟩:=H w2.heap.size;have c:bZ≤D:=by rw[hD];exact HM.o.size
 have g:bZ≤D+1:=Y;have b:MR bZ W3 G f ak (t::st) rg ad W tr sv an J ao (X++[aF D c 267 [F a.1,s_ a.2]]++[aF (D+1) g 267 [F n.1,s_ n.2]]):=by rw[aB];exact HM.o.add2 _ _ _ D hD c g
 have aW:=O (HB.o.trans (aX.mono HM.o.size));have cm:=O (fg t b Y);rw[←hD];rw[←aB];clear aB hD aX HM HB b;go_upto_region 3 with(go_at_call 176;refine cm.o.mono ?_;rintro e w4⟨rfl,⟨o,hm⟩,hB⟩;unfold mvV;have hd:Blk w4 D 267 [F a.1,s_ a.2]:=hm.loc (p:=aF D c 267 [F a.1,s_ a.2]) i_;have l:Blk w4 (D+1) 267 [F n.1,s_ n.2]:=hm.loc (p:=aF (D+1) g 267 [F n.1,s_ n.2]) i_;have x0:=hd.c 0;have y0:=l.c 0;have B:=O hm;have ba:=O (aW.o.trans hB);clear hm hB hd l);obtain⟨k,hk⟩:=H (gR a.1 t.2.length);have hk1:min (max a.1 0) (t.2.length:Int)=(k:Int):=by rw[hk];unfold gR;omega
 have z:(k:Int)≤t.2.length:=Y;have aq:=nn_ k;obtain⟨u,hu⟩:=H (t.2.drop k);obtain⟨j,hj⟩:=H (gR n.1 u.length);have bS:min (max n.1 0) (u.length:Int)=(j:Int):=by rw[hj];unfold gR;omega
 have aG:(j:Int)≤u.length:=Y;have aE:=nn_ j;have bQ:(u.length:Int)≤1024:=by have:=ht.2.2;rw[hu,JG];omega
 have cr:(t.2.length:Int)≤1024:=by have:=ht.2.2;omega
 have HV:=O (show im t.2 a.1 n.1=u.take j by unfold im;rw[←hk,←hu,←hj]);have r:List.drop k t.2=u:=hu.symm;have hq:List.take (t.2.length-k) u=u:=I5 (by rw[hu,JG];exact I6 _);clear hk hu hj;go_upto_region 4 with fail;go_wp2_with (go_at_call 285;refine(cz (0,u.take j) B.o Y).mono ?_;rintro e w5⟨rfl,⟨bi,hm⟩,hB⟩;have q:=O hm;have aJ:=O (ba.o.trans hB);clear hm hB);go_ret;rw[HV.o];exact⟨rfl,⟨_,q.o.pre (by rw[Jg];exact List.prefix_append _ _)⟩,aJ.o⟩
end
end
section
attribute [local irreducible] wpG
section
variable {bZ G:Nat}{w w' w3:Z}{f:Mf}{ak:Int}{st rg:LM_}{ad:List Eo}{W:LX_}{tr:LI_}{tv cv iv ev lv ar an al J ao aQ:V_}{X:List (Pt bZ)}
theorem wt (pc:Nat)(N:Nat)(s:q)(c:U8_):iu ⟨pc,N+2,N,N+1,!s.isEmpty,s,c⟩=cD s c:=by
 unfold iu cD
 cases s<;>rfl
theorem MR.addBox {e:Eo}(h:MR bZ w G f ak st rg ad W tr ar an J ao X)(hB:Bw_ w w')(hb:kf bZ w' e)(hf:∀ k,nW k e→w.heap.size≤k):MR bZ w' G f ak st rg ad W tr ar an J ao (X++[boxPt [e]]) :=
 ⟨h.gb,h.rl,h.sep.snoc hB (boxPt [e]) ⟨fun x hx=>by rw[Jp]at hx;subst hx;exact hb,List.pairwise_singleton _ _⟩ (fun k hk=>by
  obtain⟨x,hx,hk⟩:=hk;rw[Jp]at hx;subst hx;exact hf k hk)⟩
theorem MR.turnBox {e e':Eo}(h:MR bZ w G f ak st rg ad W tr ar an J ao (X++[boxPt [e]]))(hc:Chg (fun k=>k=e.bm∨k=e.bt) w w')(hb:kf bZ w' e')(h1:e'.bm=e.bm)(h2:e'.bt=e.bt)(h3:e'.bc=e.bc):MR bZ w' G f ak st rg ad W tr ar an J ao (X++[boxPt [e']])∧B_ bZ w w':=by
 have h4:=h.updX (i:=X.length) (p:=boxPt [e]) i_ hc (fun k hk=>⟨e,by simp,by rcases hk with rfl|rfl;exact .inl rfl;exact .inr (.inl rfl)⟩) (boxPt [e']) ⟨fun x hx=>by rw[Jp]at hx;subst hx;exact hb,List.pairwise_singleton _ _⟩ (fun k hk=>by
  obtain⟨x,hx,hk⟩:=hk;rw[Jp]at hx;subst hx;refine⟨e,by simp,?_⟩;unfold nW at hk⊢
  rwa [h1,h2,h3]at hk)
 have hx:(X++[boxPt (bZ:=bZ) [e]]).set X.length (boxPt (bZ:=bZ) [e'])=X++[boxPt (bZ:=bZ) [e']]:=by rw[List.set_append_right _ _ (I6 _),Nat.sub_self];rfl
 rw[hx]at h4;exact h4
end
end
def mM (ad:List Eo):List (Nat×LL_):=ad.reverse.map fun e=>(e.at_,iu e)
theorem l9 (ad:List Eo)(e:Eo):mM (ad++[e])=(e.at_,iu e)::mM ad:=by unfold mM;rw[List.reverse_append];rfl
theorem tW (ad:List Eo):(mM ad).length=ad.length:=by unfold mM;simp
theorem MT {T:Prop} (h:T:=by
 injection h with h1 h2
 injection h1 with h3 h4
 exact⟨l,e,by rw[List.concat_eq_append],h3,h4,h2⟩
):T:=h
theorem yv {ad:List Eo}{a:Nat}{ps:LL_}{o:List (Nat×LL_)}(h:mM ad=(a,ps)::o):∃ l e,ad=l++[e]∧e.at_=a∧iu e=ps∧mM l=o:=by
 rcases List.eq_nil_or_concat ad with rfl|⟨l,e,rfl⟩
 ·cases h
 ·rw[List.concat_eq_append,l9]at h
  exact MT