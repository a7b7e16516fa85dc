/- Lemmas for MapperTells: walks, plain laws. -/
import Derived.Lib.AtoiAll
import Derived.Lib.ItoaLen
import Derived.Lib.ParseIntBTie
import Derived.RowKit
import Derived.Test.YtckhfapcmjlmbaaGreatDoorMapperTellsK2
set_option linter.unusedSimpArgs false
set_option linter.unusedVariables false
set_option maxRecDepth 100000
set_option maxHeartbeats 16000000
namespace Go.Proofs.YtckhfapcmjlmbaaGreatDoor
open Go.RowKit Oct
section
structure Pt (bZ:Nat) where
 fp:Nat→Prop
 P:World→Prop
 frame:∀ {X:Nat→Prop} {w w':World},P w→Chg X w w'→(∀ k,fp k→¬X k)→P w'
 lt:∀ {w:World},P w→∀ k,fp k→bZ≤k∧k<w.heap.size
def Sep (bZ:Nat)(w:World)(L:List (Pt bZ)):Prop:=(∀ p∈L,p.P w)∧L.Pairwise fun p q=>∀ k,p.fp k→¬q.fp k
def az {bZ:Nat}(G:Nat)(hG:bZ≤G)(t:TypeId)(cs:List Value):Pt bZ :=
 ⟨fun k=>k=G,fun w=>Blk w G t cs,fun h hc hX=>h.chg hc (hX _ rfl),fun h k hk=>by subst hk;exact⟨hG,h.lt⟩⟩
def ownPt {bZ:Nat}{α:Type}(R:Rec α)(v:Value)(l:List α):Pt bZ :=
 ⟨fun k=>v.ownBlock=some k,fun w=>R.Own w bZ v l,fun h hc hX=>h.chgV hc hX,fun h k hk=>h.ltV k hk⟩
section
variable {bZ:Nat}{w w':World}{L:List (Pt bZ)}{X:Nat→Prop}
theorem Sep.get (h:Sep bZ w L){i:Nat}{p:Pt bZ}(hi:L[i]?=some p):p.P w:=h.1 p (List.mem_of_getElem? hi)
theorem Sep.apart (h:Sep bZ w L){i j:Nat}{p q:Pt bZ}(hi:L[i]?=some p)(hj:L[j]?=some q)(hij:i≠j):∀ k,p.fp k→¬q.fp k:=by
 obtain⟨hi',ei⟩:=List.getElem?_eq_some_iff.1 hi;obtain⟨hj',ej⟩:=List.getElem?_eq_some_iff.1 hj;have hp:=List.pairwise_iff_getElem.1 h.2;rcases Nat.lt_or_gt_of_ne hij with hlt|hlt
 ·have:=hp i j hi' hj' hlt
  rw[ei,ej]at this;exact this
 ·have:=hp j i hj' hi' hlt
  rw[ei,ej]at this;exact fun k hk hk'=>this k hk' hk
theorem Sep.below (h:Sep bZ w L)(hB:Below w.heap.size w w'):Sep bZ w' L :=
 ⟨fun p hp=>p.frame (h.1 p hp) (X:=fun _=>False) ⟨hB.os,hB.tape,hB.output,hB.size,fun k hk _=>hB.block k hk⟩ (fun _ _ hx=>hx),h.2⟩
theorem Sep.upd (h:Sep bZ w L){i:Nat}{p:Pt bZ}(hi:L[i]?=some p)(hc:Chg X w w')(hX:∀ k,X k→p.fp k)(q:Pt bZ)(hq:q.P w')(hf:∀ k,q.fp k→p.fp k∨w.heap.size≤k):Sep bZ w' (L.set i q):=by
 obtain⟨hi',ei⟩:=List.getElem?_eq_some_iff.1 hi;have hp:=List.pairwise_iff_getElem.1 h.2;refine⟨fun r hr=>?_,List.pairwise_iff_getElem.2 fun a b ha hb hab=>?_⟩
 ·obtain⟨j,hj⟩:=List.mem_iff_getElem?.1 hr
  rw[List.getElem?_set]at hj
  split at hj
  ·rename_i hij
   injection hj with hj
   subst hj;exact hq
  ·rename_i hij
   exact r.frame (h.get hj) hc fun k hk hx=>h.apart hj hi (fun e=>hij e.symm) k hk (hX k hx)
 ·rw[DT]at ha hb
  rw[List.getElem_set,List.getElem_set];have lt:∀ j (hj:j<L.length),∀ k,(L[j]).fp k→k<w.heap.size:=fun j hj k hk=>((L[j]).lt (h.1 _ (DY hj)) k hk).2
  split
  ·rename_i hia
   rw[if_neg (by omega)];intro k hk hk';rcases hf k hk with hk|hk
   ·exact h.apart hi (List.getElem?_eq_getElem hb) (by omega) k hk hk'
   ·have:=lt b hb k hk';omega
  ·rename_i hia
   split
   ·intro k hk hk'
    rcases hf k hk' with hk'|hk'
    ·exact h.apart (List.getElem?_eq_getElem ha) hi (by omega) k hk hk'
    ·have:=lt a ha k hk;omega
   ·exact hp a b ha hb hab
theorem Sep.updB (h:Sep bZ w L){i:Nat}{p:Pt bZ}(hi:L[i]?=some p)(hc:Chg X w w')(hX:∀ k,X k→p.fp k)(hb:bZ≤w.heap.size):Below bZ w w':=by
 refine hc.below (fun k hk=>?_) hb;exact(p.lt (h.get hi) k (hX k hk)).1
theorem Sep.same (h:Sep bZ w L){i:Nat}{p:Pt bZ}(hi:L[i]?=some p)(q:Pt bZ)(hq:q.P w)(hf:∀ k,q.fp k→p.fp k):Sep bZ w (L.set i q) :=
 h.upd hi (X:=fun _=>False) (Chg.refl _ _) (fun _ hx=>hx.elim) q hq fun k hk=>.inl (hf k hk)
theorem Sep.snoc (h:Sep bZ w L)(hB:Below w.heap.size w w')(p:Pt bZ)(hp:p.P w')(hf:∀ k,p.fp k→w.heap.size≤k):Sep bZ w' (L++[p]):=by
 have h':=h.below hB;refine⟨fun q hq=>?_,List.pairwise_append.2 ⟨h.2,List.pairwise_singleton _ _,fun a ha b hb k hk hk'=>?_⟩⟩
 ·rcases DM.1 hq with hq|hq
  ·exact h'.1 q hq
  ·rw[DZ]at hq
   subst hq;exact hp
 ·rw[DZ]at hb
  subst hb;have h1:=(a.lt (h.1 a ha) k hk).2;have h2:=hf k hk';omega
theorem Sep.init {p:List (Pt bZ)}(h:Sep bZ w (L++p)):Sep bZ w L:=⟨fun q hq=>h.1 q (List.mem_append_left _ hq),(List.pairwise_append.1 h.2).1⟩
end
end
section
abbrev MV:=Int×LU_
structure Mc where
 pc:Nat
 st:List MV
 rg:List MV
 op:List (Nat×LL_)
 pr:List (LU_×LU_)
structure Me where
 tx:LL_
 code:List VI
 ins:LL_
 ends : List Int
def bT (c:UInt8):LU_→LL_
 | []=>[[]]
 | x::r=>if x=c then []::bT c r else
  match bT c r with
  | []=>[[x]]
  | h::t=>(x::h)::t
def bN (s:LU_)(c:UInt8):LL_:=if s=[] then [] else bT c s
def fu (x:Int)(n:Nat):Nat:=(min (max x 0) (n:Int)).toNat
def fM (s:LU_)(at_ n:Int):LU_:=(s.drop (fu at_ s.length)).take (fu n (s.drop (fu at_ s.length)).length)
def b_Z (s:LU_):Int:=match Lib.atoiAll s with
 | .ok v=>if Lib.itoa v=s then v else 0
 | _=>0
def bitM (b:Bool):MV:=(if b=true then 1 else 0,[])
def ey (E:Me)(i:Nat):Bool:=(List.range E.code.length).any fun j=>(E.code.getD j (0,0)).1==22&&E.ends.getD j 0==(i:Int)
def doN (E:Me)(n:Nat)(y:UInt8)(pc:Nat)(st rg:List MV)(op:List (Nat×LL_))(pr:List (LU_×LU_)):Nat×Mc :=
 match n,st with
 | 1,s=>(0,⟨pc+1,(0,E.tx.getD y.toNat [])::s,rg,op,pr⟩)
 | 2,s=>(0,⟨pc+1,((y.toNat:Int),[])::s,rg,op,pr⟩)
 | 3,s=>(0,⟨pc+1,(0,E.ins.getD y.toNat [])::s,rg,op,pr⟩)
 | 4,b::a::s=>if 1024<a.2.length+b.2.length then (5,⟨pc,st,rg,op,pr⟩) else (0,⟨pc+1,(0,a.2++b.2)::s,rg,op,pr⟩)
 | 5,a::s=>(0,⟨pc+1,((a.2.length:Int),[])::s,rg,op,pr⟩)
 | 6,n::a::t::s=>(0,⟨pc+1,(0,fM t.2 a.1 n.1)::s,rg,op,pr⟩)
 | 7,a::s=>(0,⟨pc+1,(b_Z a.2,[])::s,rg,op,pr⟩)
 | 8,a::s=>(0,⟨pc+1,(0,Lib.itoa a.1)::s,rg,op,pr⟩)
 | 9,b::a::s=>(0,⟨pc+1,(wrap64 (a.1+b.1),[])::s,rg,op,pr⟩)
 | 10,b::a::s=>(0,⟨pc+1,(wrap64 (a.1*b.1),[])::s,rg,op,pr⟩)
 | 11,b::a::s=>(0,⟨pc+1,bitM (decide (a.1<b.1))::s,rg,op,pr⟩)
 | 12,b::a::s=>(0,⟨pc+1,bitM (a.2==b.2)::s,rg,op,pr⟩)
 | 13,a::s=>(0,⟨pc+1,bitM (a.1==0)::s,rg,op,pr⟩)
 | 14,_::s=>(0,⟨pc+1,s,rg,op,pr⟩)
 | 15,a::s=>(0,⟨pc+1,a::a::s,rg,op,pr⟩)
 | 16,b::a::s=>(0,⟨pc+1,a::b::s,rg,op,pr⟩)
 | 17,s=>(0,⟨pc+1,rg.getD y.toNat (0,[])::s,rg,op,pr⟩)
 | 18,a::s=>(0,⟨pc+1,s,rg.set y.toNat a,op,pr⟩)
 | 19,a::s=>(0,⟨if a.1=0 then (E.ends.getD pc 0).toNat+1 else pc+1,s,rg,op,pr⟩)
 | 20,s=>(0,⟨(E.ends.getD pc 0).toNat,s,rg,op,pr⟩)
 | 21,s=>if ey E pc=true then
   match op with
   | (a,p::ps)::o=>(0,⟨a+1,(0,p)::s,rg,(a,ps)::o,pr⟩)
   | (_,[])::o=>(0,⟨pc+1,s,rg,o,pr⟩)
   | []=>(99,⟨pc,s,rg,op,pr⟩)
  else (0,⟨pc+1,s,rg,op,pr⟩)
 | 22,a::s =>
  match bN a.2 y with
  | []=>(0,⟨(E.ends.getD pc 0).toNat+1,s,rg,op,pr⟩)
  | p::ps=>(0,⟨pc+1,(0,p)::s,rg,(pc,ps)::op,pr⟩)
 | 23,v::k::s=>if 256≤pr.length then (4,⟨pc,st,rg,op,pr⟩) else (0,⟨pc+1,s,rg,op,pr++[(k.2,v.2)]⟩)
 | _,_=>(99,⟨pc,st,rg,op,pr⟩)
def doM (E:Me)(x:VI)(m:Mc):Nat×Mc:=doN E x.1.toNat x.2 m.pc m.st m.rg m.op m.pr
def xM (E:Me)(m:Mc):VI:=E.code.getD m.pc (0,0)
def cJ (E:Me):Nat→Mc→Nat×Mc
 | 0,m=>if m.pc<E.code.length then (140,m) else (0,m)
 | f+1,m=>if m.pc<E.code.length then (if (doM E (xM E m) m).1=0 then cJ E f (doM E (xM E m) m).2 else (doM E (xM E m) m)) else (0,m)
def aY:Mc:=⟨0,[],List.replicate 8 (0,[]),[],[]⟩
/-! ## what is let be can be done -/
def bq (s:Vs):List Nat:=((s.blocks.filter fun b=>b.op==22).map Vb.at_).reverse
def vOk (v:MV):Prop:=-9223372036854775808≤v.1∧v.1≤9223372036854775807∧v.2.length≤1024
structure OkM (S:Nat→Vs) (E:Me) (m:Mc):Prop where
 pc:m.pc≤E.code.length
 st:m.st.length=(S m.pc).kinds.length
 op:m.op.map (·.1)=bq (S m.pc)
 rg:m.rg.length=8
 sv:∀ v∈m.st,vOk v
 rv:∀ v∈m.rg,vOk v
 ov:∀ o∈m.op,o.2.length≤1024∧∀ p∈o.2,p.length≤1024
 pr:m.pr.length≤256
 pv:∀ p∈m.pr,p.1.length≤1024∧p.2.length≤1024
structure ek (nt inp:Nat) (role:UInt8) (E:Me):Prop where
 may:∀ x∈E.code,aZ x=true
 ok:∀ j,j<E.code.length→(bI nt inp role j (E.code.getD j (0,0)) (stV nt inp role E.code j)).1=0
 done:(stV nt inp role E.code E.code.length).blocks=[]
 ends : E.ends = (stV nt inp role E.code E.code.length).ends
 txl:E.tx.length=nt
 txv:∀ s∈E.tx,s.length≤1024
 inl:E.ins.length=inp
 inv:∀ s∈E.ins,s.length≤1024
theorem p5 {s:LU_}(h:Lib.atoiAll s=Lib.NumEnd.syntax):Lib.itoa 0≠s:=by
 rintro rfl;rw[show Lib.atoiAll (Lib.itoa 0)=.ok 0 by decide +kernel]at h
 cases h
theorem rF {s:LU_}(h:Lib.atoiAll s=.range):Lib.itoa (Lib.atoiSat s)≠s:=by
 intro e;unfold Lib.atoiSat at e
 split at e
 ·rw[←e,show Lib.atoiAll (Lib.itoa (-9223372036854775808))=.ok (-9223372036854775808) by decide +kernel]at h
  cases h
 ·rw[←e,show Lib.atoiAll (Lib.itoa 9223372036854775807)=.ok 9223372036854775807 by decide +kernel]at h
  cases h
theorem o6 (s:LU_):-9223372036854775808≤b_Z s∧b_Z s≤9223372036854775807:=by
 unfold b_Z
 cases h:Lib.atoiAll s with
 | ok v =>
  rw[←Lib.parseIntB_64]at h;have:=Lib.parseIntB_bounds h;simp only
  split
  ·simp at this;omega
  ·omega
 | _=>simp
theorem jI (c:UInt8):∀ s:LU_,(bT c s).length≤s.length+1∧1≤(bT c s).length∧∀ p∈bT c s,p.length≤s.length
 | []=>by simp[bT]
 | x::r=>by
  obtain⟨h1,h2,h3⟩:=jI c r;unfold bT
  split
  ·refine⟨by simp;omega,by simp,fun p hp=>?_⟩
   rcases List.mem_cons.1 hp with rfl|hp
   ·simp
   ·have:=h3 p hp;simp;omega
  ·cases h:bT c r with
   | nil=>rw[h]at h2;simp at h2
   | cons a t =>
    rw[h]at h1 h3;refine⟨by simp at h1⊢;omega,by simp,fun p hp=>?_⟩;rcases List.mem_cons.1 hp with rfl|hp
    ·have:=h3 a (D2 ..);simp;omega
    ·have:=h3 p (D4 _ hp);simp;omega
end
section
def dC:List Nat:=[0,0,0,0,2,1,3,1,1,2,2,2,2,1,1,1,2,0,1,1,0,0,1,2]
def eM:List Nat:=[0,1,1,1,1,1,1,1,1,1,1,1,1,1,0,2,2,1,0,0,0,0,0,0]
def gR (n:Nat)(g:LU_):Nat:=g.foldr (fun c a=>(if c=49 then min 1 n else if c=50 then min 1 (n-1) else 1)+a) 0
theorem nD (top:LU_):∀ g:LU_,(bw top g).length=gR top.length g
 | []=>rfl
 | c::g=>by
  have ih:=nD top g;show(List.flatMap _ (c::g)).length=_;rw[List.flatMap_cons,DL];show _+(bw top g).length=_;rw[ih];show _=(if c=49 then min 1 top.length else if c=50 then min 1 (top.length-1) else 1)+gR top.length g;congr 1
  split
  ·simp
  ·split
   ·simp
   ·simp
theorem zA:∀ n:Nat,n<24→∀ r:LU_,r=[84]∨r=[78]→(dX (dj.getD n ([],[])).1 r).length=dC.getD n 0∧gR (dC.getD n 0) (dX (dj.getD n ([],[])).2 r)=eM.getD n 0:=by
 intro n hn r hr;have h:∀ n:Nat,n<24→((dX (dj.getD n ([],[])).1 [84]).length=dC.getD n 0∧gR (dC.getD n 0) (dX (dj.getD n ([],[])).2 [84])=eM.getD n 0)∧((dX (dj.getD n ([],[])).1 [78]).length=dC.getD n 0∧gR (dC.getD n 0) (dX (dj.getD n ([],[])).2 [78])=eM.getD n 0):=by decide
 rcases hr with rfl|rfl
 ·exact(h n hn).1
 ·exact(h n hn).2
theorem yy (a:UInt8):gC a=[84]∨gC a=[78]:=by unfold gC;split<;>simp
theorem eZ {k:LU_}{x:VI}(hx:x.1.toNat<24)(h0:(aF k x).1=0):dC.getD x.1.toNat 0≤k.length∧(aF k x).2.length=k.length-dC.getD x.1.toNat 0+eM.getD x.1.toNat 0:=by
 obtain⟨e1,e2⟩:=zA x.1.toNat hx (gC x.2) (yy x.2);have e1':(bG x).1.length=dC.getD x.1.toNat 0:=e1;have e2':gR (dC.getD x.1.toNat 0) (bG x).2=eM.getD x.1.toNat 0:=e2;unfold aF at h0⊢
 split at h0
 ·simp at h0
 rename_i hl;rw[if_neg hl]
 split at h0
 ·simp at h0
 rename_i hf;rw[if_neg hf]
 split at h0
 ·simp at h0
 rename_i hm;rw[if_neg hm];refine⟨by omega,?_⟩;rw[DL,nD,DU,D7,e1'];rw[show k.length-(k.length-dC.getD x.1.toNat 0)=dC.getD x.1.toNat 0 by omega,e2'];omega
structure Bn (nt inp:Nat) (role:UInt8) (i:Nat) (x:VI) (s s':Vs):Prop where
 th:thereV nt inp role s.blocks x=0
 vl:(aF s.kinds x).1=0
 pl:opensV x.1=false→x.1≠21→s'.kinds=(aF s.kinds x).2
 k19:x.1=19→s'.kinds=(aF s.kinds x).2
 k22:x.1=22→s'.kinds=(aF s.kinds x).2++[84]
 k20:x.1=20→∃ r b,s.blocks=r++[b]∧b.op=19∧b.did=false∧s'.kinds=b.opn
 k21:x.1=21→s'.kinds=s.kinds
theorem As {nt inp:Nat}{role:UInt8}{i:Nat}{x:VI}{s:Vs}(h0:(bI nt inp role i x s).1=0):Bn nt inp role i x s (bI nt inp role i x s).2:=by
 have ht:=ij h0;unfold bI at h0⊢;rw[if_neg (by rw[ht];simp)]at h0⊢
 split at h0
 ·rename_i hv;exact absurd h0 hv
 rename_i hv;rw[if_neg hv];have hv0:(aF s.kinds x).1=0:=by simpa using hv
 clear hv
 have h20:x.1=20→cQ s.blocks.getLast?=false:=by
  intro e;unfold thereV at ht;rw[if_neg (by rw[e];rintro (⟨h,-⟩|⟨h,-⟩|⟨h|h,-⟩)<;>exact absurd h (by decide)),if_neg (by rw[e];rintro⟨h,-⟩;exact absurd h (by decide))]at ht
  cases hb:cQ s.blocks.getLast? with
  | false=>rfl
  | true=>rw[if_pos ⟨e,hb⟩]at ht;cases ht
 refine⟨ht,hv0,?_,?_,?_,?_,?_⟩
 ·intro ho h21
  unfold opensV at ho;simp at ho;unfold turnsV;rw[if_neg ho.1.1,if_neg ho.1.2,if_neg ho.2,if_neg h21]
 ·intro e
  unfold turnsV;rw[if_pos e]
 ·intro e
  unfold turnsV;rw[if_neg (by rw[e];decide),if_pos e]
 ·intro e
  have hb:=h20 e;unfold turnsV;rw[if_neg (by rw[e];decide),if_neg (by rw[e];decide),if_pos e]
  cases hl:s.blocks.getLast? with
  | none=>rw[hl]at hb;simp[cQ]at hb
  | some b =>
   rw[hl]at hb;simp[cQ]at hb;exact⟨_,b,eU hl,hb.1,hb.2,rfl⟩
 ·intro e
  have hk:(aF s.kinds x).2=s.kinds:=jX (.inr e);unfold turnsV at h0⊢;rw[if_neg (by rw[e];decide),if_neg (by rw[e];decide),if_neg (by rw[e];decide),if_pos e]at h0⊢
  cases hl:s.blocks.getLast? with
  | none=>exact hk
  | some b =>
   simp only[hl]at h0⊢
   split
   ·exact hk
   ·exact hk
/-! ## blocks -/
section
variable {nt inp:Nat}{role:UInt8}{E:Me}
abbrev sM (nt inp:Nat)(role:UInt8)(E:Me)(i:Nat):Vs:=stV nt inp role E.code i
theorem ek.step (G:ek nt inp role E){i:Nat}(hi:i<E.code.length):sL i (E.code.getD i (0,0)) (sM nt inp role E i) (sM nt inp role E (i+1))∧Bn nt inp role i (E.code.getD i (0,0)) (sM nt inp role E i) (sM nt inp role E (i+1)):=by
 have h2:=(mi G.ok i (by omega)).k;exact⟨(jk h2 (G.ok i hi)).1,As (G.ok i hi)⟩
theorem ek.run (G:ek nt inp role E){i:Nat}(hi:i≤E.code.length):CQ nt inp role E.code i:=mi G.ok i hi
theorem pre_last {α:Type}{r t u:List α}{b c:α}(h:r++[b]++t=u++[c]):(t=[]∧r=u∧b=c)∨∃ t',t=t'++[c]∧u=r++[b]++t':=by
 rcases List.eq_nil_or_concat t with rfl|⟨t',d,rfl⟩
 ·rw[DR]at h
  have:=List.append_inj' h rfl;exact .inl ⟨rfl,this.1,by simpa using this.2⟩
 ·rw[List.concat_eq_append,←DK]at h
  have:=List.append_inj' h rfl;refine .inr ⟨t',by rw[List.concat_eq_append];simpa using this.2,this.1.symm⟩
theorem tT (G:ek nt inp role E){r:List Vb}{b:Vb}{i:Nat}(hb:∃ t,(sM nt inp role E i).blocks=r++[b]++t):∀ n,i+n=E.code.length→∃ e,i≤e∧e<E.code.length∧(sM nt inp role E e).blocks=r++[b]∧(opV E.code e=20∨opV E.code e=21)∧E.ends.getD b.at_ 0=(e:Int)∧∀ k,i≤k→k≤e→∃ t,(sM nt inp role E k).blocks=r++[b]++t:=by
 intro n
 induction n generalizing i with
 | zero =>
  intro hn;obtain⟨t,ht⟩:=hb;have hi:i=E.code.length:=by omega
  subst hi;have:=G.done;rw[show stV nt inp role E.code E.code.length=sM nt inp role E E.code.length from rfl,ht]at this;simp at this
 | succ n ih =>
  intro hn;have hi:i<E.code.length:=by omega
  obtain⟨hs,-⟩:=G.step hi;obtain⟨t,ht⟩:=hb
  have stay:(∃ t,(sM nt inp role E (i+1)).blocks=r++[b]++t)→∃ e,i≤e∧e<E.code.length∧(sM nt inp role E e).blocks=r++[b]∧(opV E.code e=20∨opV E.code e=21)∧E.ends.getD b.at_ 0=(e:Int)∧∀ k,i≤k→k≤e→∃ t,(sM nt inp role E k).blocks=r++[b]++t:=by
   intro h;obtain⟨e,h1,h2,h3,h4,h5,h6⟩:=ih h (by omega);refine⟨e,by omega,h2,h3,h4,h5,fun k hk1 hk2=>?_⟩;rcases Nat.eq_or_lt_of_le hk1 with rfl|hk
   ·exact⟨t,ht⟩
   ·exact h6 k (by omega) hk2
  have close:∀ (c:Vb) (u v:List Vb),t=[]→(sM nt inp role E (i+1)).blocks.map Vb.at_=v.map Vb.at_→(∀ a∈v.map Vb.at_,a≠b.at_)→(sM nt inp role E (i+1)).ends=(sM nt inp role E i).ends.set b.at_ (i:Int)→(opV E.code i=20∨opV E.code i=21)→∃ e,i≤e∧e<E.code.length∧(sM nt inp role E e).blocks=r++[b]∧(opV E.code e=20∨opV E.code e=21)∧E.ends.getD b.at_ 0=(e:Int)∧∀ k,i≤k→k≤e→∃ t,(sM nt inp role E k).blocks=r++[b]++t:=by
   intro c u v ht0 hv hne he ho;subst ht0;rw[DR]at ht;have hr:=G.run (i:=i) (by omega);have hbm:b∈(sM nt inp role E i).blocks:=by rw[ht];simp
   have hbi:=(hr.inv.bl b hbm).1;have hel:=hr.inv.el;refine⟨i,DC _,hi,ht,ho,?_,fun k h1 h2=>⟨[],by rw[DR,show k=i by omega];exact ht⟩⟩
   have hn':b.at_ ∉ (stV nt inp role E.code (i+1)).blocks.map Vb.at_:=by
    show b.at_ ∉ (sM nt inp role E (i+1)).blocks.map Vb.at_;rw[hv];exact fun h=>hne _ h rfl
   have:=(mG G.ok (i:=i+1) (j:=b.at_) (by omega) hn' (E.code.length-(i+1)) (by omega)).1;rw[show i+1+(E.code.length-(i+1))=E.code.length by omega]at this;rw[G.ends,this];show(sM nt inp role E (i+1)).ends.getD b.at_ 0=_;rw[he];exact gr (by rw[hel];omega)
  have hst:=(G.run (i:=i) (by omega)).inv.st;rcases hs with ⟨_,k,_,hb',_⟩|⟨h20,r',b',hl,hb',he⟩|⟨h21,r',b',hl,_,hb',he⟩|⟨_,hb',_⟩
  ·exact stay ⟨t++[⟨(E.code.getD i (0,0)).1,k,k,i,false⟩],by rw[hb',ht];simp⟩
  ·rw[ht]at hl
   rcases pre_last hl with ⟨h1,rfl,rfl⟩|⟨t',rfl,rfl⟩
   ·subst h1
    rw[ht,DR]at hst;have hlt:=(gJ hst).2;have hbi:=((G.run (i:=i) (by omega)).inv.bl b (by rw[ht];simp)).1;refine close b [] (r++[{ b with want:=(sM nt inp role E i).kinds,at_:=i,did:=true }]) rfl (by rw[hb']) ?_ he (.inl h20);intro a ha;rw[DJ]at ha;rcases DM.1 ha with ha|ha
    ·have:=hlt a ha;omega
    ·simp at ha;omega
   ·exact stay ⟨t'++[{ b' with want:=(sM nt inp role E i).kinds,at_:=i,did:=true }],by rw[hb'];simp⟩
  ·rw[ht]at hl
   rcases pre_last hl with ⟨h1,rfl,rfl⟩|⟨t',rfl,rfl⟩
   ·subst h1
    rw[ht,DR]at hst;have hlt:=(gJ hst).2;refine close b [] r rfl (by rw[hb']) ?_ he (.inr h21);intro a ha;have:=hlt a ha;omega
   ·exact stay ⟨t',hb'⟩
  ·exact stay ⟨t,by rw[hb',ht]⟩
end
end
section
section
variable {nt inp:Nat}{role:UInt8}{E:Me}
theorem E7 {T:Prop} (h:T:=by
 unfold bq;rw[h,List.filter_append,DJ,List.reverse_append]
 by_cases hb:b.op=22
 ·simp[hb]
 ·simp[hb]
):T:=h
theorem kF (s s':Vs)(b:Vb)(h:s'.blocks=s.blocks++[b]):bq s'=(if b.op=22 then [b.at_] else [])++bq s:=by
 exact E7
theorem ee {s:Vs}{r:List Vb}{b:Vb}(h:s.blocks=r++[b]):bq s=(if b.op=22 then [b.at_] else [])++((r.filter fun b=>b.op==22).map Vb.at_).reverse:=by
 exact E7
theorem zi {s s':Vs}(h:s'.blocks=s.blocks):bq s'=bq s:=by unfold bq;rw[h]
structure BZ (nt inp:Nat) (role:UInt8) (E:Me) (i e:Nat) (r:List Vb) (b:Vb):Prop where
 lt:i<e
 le:e<E.code.length
 en:E.ends.getD i 0=(e:Int)
 be:(sM nt inp role E e).blocks=r++[b]
 oe:opV E.code e=20∨opV E.code e=21
 all:∀ k,i+1≤k→k≤e→∃ t,(sM nt inp role E k).blocks=r++[b]++t
theorem kD (G:ek nt inp role E){i:Nat}{r:List Vb}{b:Vb}(hi:i<E.code.length)(hb:(sM nt inp role E (i+1)).blocks=r++[b])(ha:b.at_=i):∃ e,BZ nt inp role E i e r b:=by
 obtain⟨e,h1,h2,h3,h4,h5,h6⟩:=tT G (r:=r) (b:=b) (i:=i+1) ⟨[],by rw[hb];simp⟩ (E.code.length-(i+1)) (by omega);rw[ha]at h5;exact⟨e,by omega,h2,h5,h3,h4,h6⟩
theorem E5 {T:Prop} (h:T:=by
 rcases hm.oe with h'|h'
 ·rw[show(E.code.getD e (0,0)).1=_ from h']at h;exact absurd h.1 (by decide)
 ·exact absurd h' h.2
):T:=h
theorem E6 {T:Prop} (h:T:=by
 rcases hm.oe with h'|h'<;>rw[show(E.code.getD e (0,0)).1=_ from h']at h<;>rcases h with h|h<;>exact absurd h (by decide)
):T:=h
theorem E8 {T:Prop} (h:T:=by
 rw[show(E.code.getD e (0,0)).1=21 from h21]at h;rcases h with h|h<;>exact absurd h (by decide)
):T:=h
theorem eh (G:ek nt inp role E){i:Nat}(hi:i<E.code.length)(ho:opV E.code i=19∨opV E.code i=22):∃ e,i<e∧e<E.code.length∧E.ends.getD i 0=(e:Int)∧(sM nt inp role E (e+1)).kinds.length=(sM nt inp role E i).kinds.length-1∧1≤(sM nt inp role E i).kinds.length∧bq (sM nt inp role E (e+1))=bq (sM nt inp role E i)∧(opV E.code i=22→opV E.code e=21):=by
 obtain⟨hs,h1⟩:=G.step hi;have hx:(E.code.getD i (0,0)).1=19∨(E.code.getD i (0,0)).1=22:=ho;have hn:(E.code.getD i (0,0)).1.toNat<24:=by rcases hx with h|h<;>rw[h]<;>decide
 obtain⟨l1,l2⟩:=eZ hn h1.vl;have hins:dC.getD (E.code.getD i (0,0)).1.toNat 0=1:=by rcases hx with h|h<;>rw[h]<;>rfl
 have hout:eM.getD (E.code.getD i (0,0)).1.toNat 0=0:=by rcases hx with h|h<;>rw[h]<;>rfl
 rw[hins]at l1 l2;rcases hs with ⟨_,k,hk,hb,_⟩|⟨h20,_⟩|⟨h21,_⟩|⟨hr,_⟩
 ·obtain⟨e,hm⟩:=kD G hi hb rfl
  have hkl:k.length=(sM nt inp role E i).kinds.length-1:=by rw[hk,DU];omega
  obtain⟨hse,h1e⟩:=G.step hm.le;refine⟨e,hm.lt,hm.le,hm.en,?_,l1,?_,?_⟩
  ·rcases hm.oe with h20|h21
   ·obtain⟨r,b,hl,_,_,hkk⟩:=h1e.k20 h20
    rw[hm.be]at hl;have:=(List.append_inj' hl rfl).2;simp at this;rw[hkk,←this];exact hkl
   ·rw[h1e.k21 h21]
    rcases hse with ⟨h,_⟩|⟨h,_⟩|⟨_,r,b,hl,hwant,_,_⟩|⟨h,_⟩
    ·exact E8
    ·rw[show(E.code.getD e (0,0)).1=21 from h21]at h;exact absurd h (by decide)
    ·rw[hm.be]at hl
     have:=(List.append_inj' hl rfl).2;simp at this;rw[hwant,←this];exact hkl
    ·exact absurd h21 h.2
  ·rcases hse with ⟨h,_⟩|⟨h,r,b,hl,hb',_⟩|⟨h,r,b,hl,_,hb',_⟩|⟨h,_⟩
   ·exact E6
   ·obtain⟨r',b',hl',hbop,_,_⟩:=h1e.k20 h
    rw[hl]at hl';have e1:=List.append_inj' hl' rfl;rw[hm.be]at hl;have e2:=List.append_inj' hl rfl;have hbb:b=b':=by simpa using e1.2
    rw[ee hb'];rw[if_neg (by show ¬b.op=22;rw[hbb,hbop];decide),D5,←e2.1]
    rfl
   ·rw[hm.be]at hl
    have e2:=List.append_inj' hl rfl;unfold bq;rw[hb',←e2.1]
   ·exact E5
  ·intro h22
   rcases hm.oe with h20|h21
   ·obtain⟨r,b,hl,hbop,_,_⟩:=h1e.k20 h20
    rw[hm.be]at hl;have:=(List.append_inj' hl rfl).2;simp at this;rw[←this]at hbop;have:(E.code.getD i (0,0)).1=19:=hbop;rw[show(E.code.getD i (0,0)).1=22 from h22]at this;exact absurd this (by decide)
   ·exact h21
 ·rcases hx with h|h<;>rw[h]at h20<;>exact absurd h20 (by decide)
 ·rcases hx with h|h<;>rw[h]at h21<;>exact absurd h21 (by decide)
 ·rcases hx with h|h<;>rw[h]at hr<;>exact absurd hr.1 (by decide)
theorem qo (G:ek nt inp role E){i:Nat}(hi:i<E.code.length)(ho:opV E.code i=20):∃ e,i<e∧e<E.code.length∧E.ends.getD i 0=(e:Int)∧(sM nt inp role E e).kinds.length=(sM nt inp role E i).kinds.length∧bq (sM nt inp role E e)=bq (sM nt inp role E i):=by
 obtain⟨hs,h1⟩:=G.step hi;obtain⟨r0,b0,hl0,hop0,hd0,hk0⟩:=h1.k20 ho;rcases hs with ⟨h,_⟩|⟨_,r,b,hl,hb,_⟩|⟨h,_⟩|⟨h,_⟩
 ·rw[show(E.code.getD i (0,0)).1=20 from ho]at h;rcases h with h|h<;>exact absurd h (by decide)
 ·rw[hl]at hl0
  have e0:=List.append_inj' hl0 rfl;have hbb:b=b0:=by simpa using e0.2
  obtain⟨e,hm⟩:=kD G hi hb rfl;obtain⟨hse,h1e⟩:=G.step hm.le
  have h21:opV E.code e=21:=by
   rcases hm.oe with h20|h21
   ·obtain⟨r',b',hl',_,hdid,_⟩:=h1e.k20 h20
    rw[hm.be]at hl';have:=(List.append_inj' hl' rfl).2;simp at this;rw[←this]at hdid
    cases hdid
   ·exact h21
  refine⟨e,hm.lt,hm.le,hm.en,?_,?_⟩
  ·rcases hse with ⟨h,_⟩|⟨h,_⟩|⟨_,r',b',hl',hwant,_,_⟩|⟨h,_⟩
   ·exact E8
   ·rw[show(E.code.getD e (0,0)).1=21 from h21]at h;exact absurd h (by decide)
   ·rw[hm.be]at hl'
    have:=(List.append_inj' hl' rfl).2;simp at this;rw[hwant,←this]
   ·exact absurd h21 h.2
  ·rw[ee hm.be,ee hl,if_neg (by show ¬b.op=22;rw[hbb,hop0];decide),if_neg (by rw[hbb,hop0];decide)]
 ·rw[show(E.code.getD i (0,0)).1=20 from ho]at h;exact absurd h (by decide)
 ·rw[show(E.code.getD i (0,0)).1=20 from ho]at h;exact absurd h.1 (by decide)
theorem yY (G:ek nt inp role E){j:Nat}(hj:j<E.code.length)(ho:opensV (opV E.code j)=true):∃ r b,(sM nt inp role E (j+1)).blocks=r++[b]∧b.at_=j∧(opV E.code j=22↔b.op=22)∧(opV E.code j=22→(sM nt inp role E (j+1)).kinds.length=b.want.length+1):=by
 obtain⟨hs,h1⟩:=G.step hj;rcases hs with ⟨hx,k,hk,hb,_⟩|⟨h20,r,b,hl,hb,_⟩|⟨h21,_⟩|⟨h,_⟩
 ·refine⟨_,_,hb,rfl,Iff.rfl,fun h22=>?_⟩
  have h22':(E.code.getD j (0,0)).1=22:=h22;obtain⟨l1,l2⟩:=eZ (by rw[h22'];decide) h1.vl;rw[h22']at l1 l2;have e1:dC.getD (22:UInt8).toNat 0=1:=rfl;have e2:eM.getD (22:UInt8).toNat 0=0:=rfl;rw[e1]at l1 l2;rw[e2]at l2;rw[h1.k22 h22',DL,l2];show _=k.length+1;rw[hk,DU];simp;omega
 ·obtain⟨r',b',hl',hop,_,_⟩:=h1.k20 h20
  rw[hl]at hl';have hbb:b=b':=by simpa using (List.append_inj' hl' rfl).2
  refine⟨r,_,hb,rfl,⟨fun h=>?_,fun h=>?_⟩,fun h=>?_⟩
  ·rw[show opV E.code j=20 from h20]at h;exact absurd h (by decide)
  ·have:b.op=22:=h
   rw[hbb,hop]at this;exact absurd this (by decide)
  ·rw[show opV E.code j=20 from h20]at h;exact absurd h (by decide)
 ·rw[show opV E.code j=21 from h21]at ho;exact absurd ho (by decide)
 ·rw[show opV E.code j=(E.code.getD j (0,0)).1 from rfl,h.1]at ho;cases ho
theorem qn (G:ek nt inp role E){i:Nat}(hi:i<E.code.length)(ho:opV E.code i=21):∃ (j:Nat) (b:Vb),j<i∧(opV E.code j=22↔b.op=22)∧opensV (opV E.code j)=true∧E.ends.getD j 0=(i:Int)∧(∀ j',j'<E.code.length→opensV (opV E.code j')=true→E.ends.getD j' 0=(i:Int)→j'=j) ∧bq (sM nt inp role E i)=(if b.op=22 then [j] else [])++bq (sM nt inp role E (i+1))∧(sM nt inp role E (i+1)).kinds=(sM nt inp role E i).kinds ∧(b.op=22→(sM nt inp role E (j+1)).kinds.length=(sM nt inp role E i).kinds.length+1∧bq (sM nt inp role E (j+1))=bq (sM nt inp role E i)):=by
 obtain⟨hs,h1⟩:=G.step hi;have hx:(E.code.getD i (0,0)).1=21:=ho;rcases hs with ⟨h,_⟩|⟨h,_⟩|⟨_,r,b,hl,hwant,hb,_⟩|⟨h,_⟩
 ·rw[hx]at h;rcases h with h|h<;>exact absurd h (by decide)
 ·rw[hx]at h;exact absurd h (by decide)
 ·have hrun:=G.run (i:=i) (by omega)
  have hbm:b∈(sM nt inp role E i).blocks:=by rw[hl];simp
  obtain⟨hji,hoj,-,-⟩:=hrun.inv.bl b hbm;have hst:=hrun.inv.st;rw[show(stV nt inp role E.code i).blocks=r++[b] from hl]at hst;have hlt:=(gJ hst).2;obtain⟨r1,b1,hb1,ha1,ho1,hk1⟩:=yY G (j:=b.at_) (by omega) hoj;obtain⟨e,hm⟩:=kD G (by omega) hb1 ha1
  have hei:e=i:=by
   rcases Nat.lt_trichotomy e i with h|h|h
   ·exfalso
    obtain⟨hse,h1e⟩:=G.step hm.le;have hst1:=(G.run (i:=e) (by omega)).inv.st;rw[show(stV nt inp role E.code e).blocks=r1++[b1] from hm.be]at hst1;have hlt1:=(gJ hst1).2;rw[ha1]at hlt1
    have hno:b.at_ ∉ (stV nt inp role E.code (e+1)).blocks.map Vb.at_:=by
     show b.at_ ∉ (sM nt inp role E (e+1)).blocks.map Vb.at_;intro hmem;rcases hse with ⟨h,_⟩|⟨h20,r',b',hl',hb',_⟩|⟨h21,r',b',hl',_,hb',_⟩|⟨h,_⟩
     ·exact E6
     ·rw[hm.be]at hl'
      have e2:=(List.append_inj' hl' rfl).1;rw[hb',←e2,DJ]at hmem;rcases DM.1 hmem with hmem|hmem
      ·have:=hlt1 _ hmem;omega
      ·simp at hmem;have:=hm.lt;omega
     ·rw[hm.be]at hl'
      have e2:=(List.append_inj' hl' rfl).1;rw[hb',←e2]at hmem;have:=hlt1 _ hmem;omega
     ·exact E5
    have:=(mG G.ok (i:=e+1) (j:=b.at_) (by have:=hm.lt;omega) hno (i-(e+1)) (by omega)).2;rw[show e+1+(i-(e+1))=i by omega,show(stV nt inp role E.code i).blocks=r++[b] from hl]at this;simp at this
   ·exact h
   ·exfalso
    obtain⟨t,ht⟩:=hm.all (i+1) (by omega) (by omega);rw[hb]at ht;have hmem:b1.at_∈r.map Vb.at_:=by rw[ht];simp
    have:=hlt _ hmem;omega
  subst hei;have hbe:=hm.be;rw[hl]at hbe;have e1:=List.append_inj' hbe rfl;have hbb:b=b1:=by simpa using e1.2
  refine⟨b.at_,b,hji,by rw[hbb];rw[hbb]at ho1;exact ho1,hoj,hm.en,?_,?_,h1.k21 hx,?_⟩
  ·intro j' hj' ho' he'
   obtain⟨r2,b2,hb2,ha2,-,-⟩:=yY G hj' ho';obtain⟨e2,hm2⟩:=kD G hj' hb2 ha2;have h3:=hm2.en;rw[he']at h3;have h4:e2=e:=by omega
   subst h4;have h5:=hm2.be;rw[hl]at h5;have h6:b=b2:=by simpa using (List.append_inj' h5 rfl).2
   rw[←ha2,←h6]
  ·rw[ee hl]
   unfold bq;rw[hb]
  ·intro h22
   have hj22:opV E.code b.at_=22:=by
    rw[hbb]at h22⊢;rw[hbb]at ho1;exact ho1.2 h22
   refine⟨by rw[hk1 hj22,hwant,hbb],?_⟩;rw[ee hb1,ee hl,e1.1,hbb]
 ·exact absurd hx h.2
end
end
section
theorem bQ {α:Type}{l:List α}(h:1≤l.length):∃ a s,l=a::s:=by
 match l,h with
 | a::s,_=>exact⟨a,s,rfl⟩
theorem cI {α:Type}{l:List α}(h:2≤l.length):∃ a b s,l=a::b::s:=by
 match l,h with
 | a::b::s,_=>exact⟨a,b,s,rfl⟩
 | [_],h=>exact absurd h (by simp)
theorem mD {α:Type}{l:List α}(h:3≤l.length):∃ a b c s,l=a::b::c::s:=by
 match l,h with
 | a::b::c::s,_=>exact⟨a,b,c,s,rfl⟩
 | [_,_],h=>exact absurd h (by simp)
 | [_],h=>exact absurd h (by simp)
theorem jE {nt inp:Nat}{role:UInt8}{bl:List Vb}{x:VI}(h:thereV nt inp role bl x=0):(x.1=1→x.2.toNat<nt)∧(x.1=3→x.2.toNat<inp)∧(x.1=17∨x.1=18→x.2.toNat<8)∧(x.1=23→role=1):=by
 unfold thereV at h
 split at h
 ·cases h
 rename_i h1
 split at h
 ·cases h
 rename_i h2;refine⟨fun e=>?_,fun e=>?_,fun e=>?_,fun e=>?_⟩
 ·exact Nat.lt_of_not_le fun hc=>h1 (.inl ⟨e,hc⟩)
 ·exact Nat.lt_of_not_le fun hc=>h1 (.inr (.inl ⟨e,hc⟩))
 ·exact Nat.lt_of_not_le fun hc=>h1 (.inr (.inr ⟨e,hc⟩))
 ·exact Decidable.byContradiction fun hc=>h2 ⟨e,hc⟩
theorem eR (n:Int):-9223372036854775808≤wrap64 n∧wrap64 n≤9223372036854775807:=by unfold wrap64;omega
theorem jY {n:Int}(h1:-9223372036854775808≤n)(h2:n≤9223372036854775807):vOk (n,[]):=⟨h1,h2,by simp⟩
theorem gZ {s:LU_}(h:s.length≤1024):vOk (0,s):=⟨by simp,by simp,h⟩
theorem pI (b:Bool):vOk (bitM b):=by cases b<;>exact⟨by decide,by decide,by decide⟩
theorem wR (s:LU_)(a n:Int):(fM s a n).length≤s.length:=by unfold fM;rw[DU,D7];omega
section
variable {nt inp:Nat}{role:UInt8}{E:Me}{S:Nat→Vs}{pc:Nat}{st st' rg:List MV}{op:List (Nat×LL_)}{pr:List (LU_×LU_)}
theorem OkM.next (h:OkM S E ⟨pc,st,rg,op,pr⟩)(hpc:pc<E.code.length)(hk:(S (pc+1)).kinds.length=st'.length)(hl:bq (S (pc+1))=bq (S pc))(hv:∀ v∈st',vOk v):OkM S E ⟨pc+1,st',rg,op,pr⟩ :=
 ⟨hpc,hk.symm,by rw[h.op];exact hl.symm,h.rg,hv,h.rv,h.ov,h.pr,h.pv⟩
theorem bW {v:MV}{s:List MV}(h:vOk v)(hs:∀ v∈s,vOk v):∀ u∈v::s,vOk u:=fun u hu=>by
 rcases List.mem_cons.1 hu with rfl|hu
 ·exact h
 ·exact hs u hu
theorem aR {v:MV}{s:List MV}(h:∀ u∈v::s,vOk u):∀ u∈s,vOk u:=fun u hu=>h u (D4 _ hu)
theorem bU {v:MV}{s:List MV}(h:∀ u∈v::s,vOk u):vOk v:=h v (D2 ..)
theorem mU {s:LU_}(h:s.length≤1024)(c:UInt8):(bN s c).length≤1025∧∀ p∈bN s c,p.length≤1024:=by
 obtain⟨h1,-,h3⟩:=jI c s;unfold bN
 split
 ·simp
 ·exact⟨by omega,fun p hp=>by have:=h3 p hp;omega⟩
theorem iq {α:Type}{P:α→Prop}{l:List α}(h:∀ x∈l,P x){i:Nat}(hi:i<l.length)(d:α):P (l.getD i d):=by
 rw[List.getD_eq_getElem?_getD,List.getElem?_eq_getElem hi];exact h _ (DY hi)
theorem Br {α:Type}{P:α→Prop}{l:List α}(h:∀ x∈l,P x)(i:Nat){v:α}(hv:P v):∀ x∈l.set i v,P x:=fun x hx=>by
 rcases List.mem_or_eq_of_mem_set hx with hx|rfl
 ·exact h x hx
 ·exact hv
theorem jK (G:ek nt inp role E)(hpc:pc<E.code.length){n:Nat}(hn:(E.code.getD pc (0,0)).1.toNat=n)(hn24:n<24)(h19:n≠19)(h20:n≠20)(h21:n≠21)(h22:n≠22):dC.getD n 0≤(sM nt inp role E pc).kinds.length∧(sM nt inp role E (pc+1)).kinds.length=(sM nt inp role E pc).kinds.length-dC.getD n 0+eM.getD n 0∧bq (sM nt inp role E (pc+1))=bq (sM nt inp role E pc):=by
 obtain⟨hs,ho⟩:=G.step hpc;have hne:∀ k:UInt8,k.toNat≠n→(E.code.getD pc (0,0)).1≠k:=fun k hk e=>hk (by rw[←e];exact hn);have e19:=hne 19 (by show 19≠n;omega);have e20:=hne 20 (by show 20≠n;omega);have e21:=hne 21 (by show 21≠n;omega);have e22:=hne 22 (by show 22≠n;omega);have hop:opensV (E.code.getD pc (0,0)).1=false:=by unfold opensV;rw[beq_eq_false_iff_ne.2 e19,beq_eq_false_iff_ne.2 e22,beq_eq_false_iff_ne.2 e20];rfl
 obtain⟨l1,l2⟩:=eZ (by omega) ho.vl;rw[hn]at l1 l2;refine⟨l1,by rw[ho.pl hop e21];exact l2,?_⟩;rcases hs with ⟨h,_⟩|⟨h,_⟩|⟨h,_⟩|⟨_,hb,_⟩
 ·rcases h with h|h
  ·exact absurd h e19
  ·exact absurd h e22
 ·exact absurd h e20
 ·exact absurd h e21
 ·exact zi hb
theorem il {j:Nat}(hle:∀ j',j'<E.code.length→opensV (opV E.code j')=true→E.ends.getD j' 0=(pc:Int)→j'=j)(hj:j<E.code.length)(he:E.ends.getD j 0=(pc:Int)):ey E pc=(opV E.code j==22):=by
 unfold ey
 cases h:(opV E.code j==22) with
 | true =>
  refine List.any_eq_true.2 ⟨j,List.mem_range.2 hj,?_⟩;rw[DS];exact⟨h,by rw[he];simp⟩
 | false =>
  refine List.any_eq_false.2 fun k hk=>?_;intro hc;rw[DS]at hc;have h22:opV E.code k=22:=by simpa[opV] using hc.1
  have:=hle k (List.mem_range.1 hk) (by rw[h22];rfl) (by simpa using hc.2);subst this;rw[h22]at h
  cases h
end
end
section
section
variable {nt inp:Nat}{role:UInt8}{E:Me}
theorem E9 {T:Prop} (h:T:=by
 exact⟨by show e+1≤_;omega,by show s.length=(sM nt inp role E (e+1)).kinds.length;rw[e4];simp,by show op.map (·.1)=bq (sM nt inp role E (e+1));rw[e6];exact hop,hrg,aR hsv,hrv,hov,hpr,hpv⟩
):T:=h
theorem uu (G:ek nt inp role E){m:Mc}(h:OkM (sM nt inp role E) E m)(hpc:m.pc<E.code.length):(doM E (xM E m) m).1≠99∧((doM E (xM E m) m).1=0→OkM (sM nt inp role E) E (doM E (xM E m) m).2):=by
 obtain⟨pc,st,rg,op,pr⟩:=m;have hpc:pc<E.code.length:=hpc;have hst:st.length=(sM nt inp role E pc).kinds.length:=h.st;have hop:op.map (·.1)=bq (sM nt inp role E pc):=h.op;have hsv:∀ v∈st,vOk v:=h.sv;have hrv:∀ v∈rg,vOk v:=h.rv;have hrg:rg.length=8:=h.rg;have hov:∀ o∈op,o.2.length≤1024∧∀ p∈o.2,p.length≤1024:=h.ov;have hpr:pr.length≤256:=h.pr;have hpv:∀ p∈pr,p.1.length≤1024∧p.2.length≤1024:=h.pv;have hx:aZ (E.code.getD pc (0,0))=true:=iq (P:=fun x=>aZ x=true) G.may hpc _
 have hx1:1≤(E.code.getD pc (0,0)).1.toNat∧(E.code.getD pc (0,0)).1.toNat≤23:=by
  unfold aZ at hx;simp at hx;exact hx.1
 obtain⟨hs,ho⟩:=G.step hpc;obtain⟨g1,g3,g17,g23⟩:=jE ho.th;show(doN E (E.code.getD pc (0,0)).1.toNat (E.code.getD pc (0,0)).2 pc st rg op pr).1≠99∧((doN E (E.code.getD pc (0,0)).1.toNat (E.code.getD pc (0,0)).2 pc st rg op pr).1=0→OkM (sM nt inp role E) E (doN E (E.code.getD pc (0,0)).1.toNat (E.code.getD pc (0,0)).2 pc st rg op pr).2);obtain⟨n,hn⟩:∃ n,(E.code.getD pc (0,0)).1.toNat=n:=⟨_,rfl⟩
 have hu:∀ k:UInt8,k.toNat=n→(E.code.getD pc (0,0)).1=k:=fun k hk=>UInt8.toNat_inj.1 (hn.trans hk.symm);have hpl:=fun (h19:n≠19) (h20:n≠20) (h21:n≠21) (h22:n≠22)=>jK G hpc hn (by omega) h19 h20 h21 h22;rw[hn]at hx1⊢;rw[←hst]at hpl;obtain⟨y,hy⟩:∃ y,(E.code.getD pc (0,0)).2=y:=⟨_,rfl⟩
 rw[hy]at g1 g3 g17⊢;have n0:(0:Nat)≠99:=by decide
 have n4:(4:Nat)≠99:=by decide
 have n5:(5:Nat)≠99:=by decide
 have n40:¬(4:Nat)=0:=by decide
 have n50:¬(5:Nat)=0:=by decide
 clear hx hn;rcases(show n=1∨n=2∨n=3∨n=4∨n=5∨n=6∨n=7∨n=8∨n=9∨n=10∨n=11∨n=12∨n=13∨n=14∨n=15∨n=16∨n=17∨n=18∨n=19∨n=20∨n=21∨n=22∨n=23 by omega) with rfl|rfl|rfl|rfl|rfl|rfl|rfl|rfl|rfl|rfl|rfl|rfl|rfl|rfl|rfl|rfl|rfl|rfl|rfl|rfl|rfl|rfl|rfl
 ·obtain⟨l1,l2,l3⟩:=hpl (by decide) (by decide) (by decide) (by decide)
  exact⟨n0,fun _=>h.next (st':=(0,E.tx.getD y.toNat [])::st) hpc (l2.trans (by simp[dC,eM])) l3 (bW (gZ (iq (P:=fun s:LU_=>s.length≤1024) G.txv (by rw[G.txl];exact g1 (hu 1 rfl)) _)) hsv)⟩
 ·obtain⟨l1,l2,l3⟩:=hpl (by decide) (by decide) (by decide) (by decide)
  exact⟨n0,fun _=>h.next (st':=((y.toNat:Int),[])::st) hpc (l2.trans (by simp[dC,eM])) l3 (bW (jY (by omega) (by have:=y.toNat_lt;omega)) hsv)⟩
 ·obtain⟨l1,l2,l3⟩:=hpl (by decide) (by decide) (by decide) (by decide)
  exact⟨n0,fun _=>h.next (st':=(0,E.ins.getD y.toNat [])::st) hpc (l2.trans (by simp[dC,eM])) l3 (bW (gZ (iq (P:=fun s:LU_=>s.length≤1024) G.inv (by rw[G.inl];exact g3 (hu 3 rfl)) _)) hsv)⟩
 ·obtain⟨l1,l2,l3⟩:=hpl (by decide) (by decide) (by decide) (by decide)
  obtain⟨b,a,s,rfl⟩:=cI (show 2≤st.length from l1);have hd:doN E 4 y pc (b::a::s) rg op pr=if 1024<a.2.length+b.2.length then (5,⟨pc,b::a::s,rg,op,pr⟩) else (0,⟨pc+1,(0,a.2++b.2)::s,rg,op,pr⟩):=rfl;rw[hd]
  split
  ·exact⟨n5,fun h'=>absurd h' n50⟩
  ·exact⟨n0,fun _=>h.next hpc (l2.trans (by simp[dC,eM])) l3 (bW (gZ (by rw[DL];omega)) (aR (aR hsv)))⟩
 ·obtain⟨l1,l2,l3⟩:=hpl (by decide) (by decide) (by decide) (by decide)
  obtain⟨a,s,rfl⟩:=bQ (show 1≤st.length from l1);exact⟨n0,fun _=>h.next (st':=((a.2.length:Int),[])::s) hpc (l2.trans (by simp[dC,eM])) l3 (bW (jY (by omega) (by have:=(bU hsv).2.2;omega)) (aR hsv))⟩
 ·obtain⟨l1,l2,l3⟩:=hpl (by decide) (by decide) (by decide) (by decide)
  obtain⟨n,a,t,s,rfl⟩:=mD (show 3≤st.length from l1);exact⟨n0,fun _=>h.next (st':=(0,fM t.2 a.1 n.1)::s) hpc (l2.trans (by simp[dC,eM])) l3 (bW (gZ (DG (wR _ _ _) (bU (aR (aR hsv))).2.2)) (aR (aR (aR hsv))))⟩
 ·obtain⟨l1,l2,l3⟩:=hpl (by decide) (by decide) (by decide) (by decide)
  obtain⟨a,s,rfl⟩:=bQ (show 1≤st.length from l1);exact⟨n0,fun _=>h.next (st':=(b_Z a.2,[])::s) hpc (l2.trans (by simp[dC,eM])) l3 (bW (jY (o6 _).1 (o6 _).2) (aR hsv))⟩
 ·obtain⟨l1,l2,l3⟩:=hpl (by decide) (by decide) (by decide) (by decide)
  obtain⟨a,s,rfl⟩:=bQ (show 1≤st.length from l1);exact⟨n0,fun _=>h.next (st':=(0,Lib.itoa a.1)::s) hpc (l2.trans (by simp[dC,eM])) l3 (bW (gZ (DG (Lib.itoa_length_le _ (bU hsv).1 (bU hsv).2.1) (by decide))) (aR hsv))⟩
 ·obtain⟨l1,l2,l3⟩:=hpl (by decide) (by decide) (by decide) (by decide)
  obtain⟨b,a,s,rfl⟩:=cI (show 2≤st.length from l1);exact⟨n0,fun _=>h.next (st':=(wrap64 (a.1+b.1),[])::s) hpc (l2.trans (by simp[dC,eM])) l3 (bW (jY (eR _).1 (eR _).2) (aR (aR hsv)))⟩
 ·obtain⟨l1,l2,l3⟩:=hpl (by decide) (by decide) (by decide) (by decide)
  obtain⟨b,a,s,rfl⟩:=cI (show 2≤st.length from l1);exact⟨n0,fun _=>h.next (st':=(wrap64 (a.1*b.1),[])::s) hpc (l2.trans (by simp[dC,eM])) l3 (bW (jY (eR _).1 (eR _).2) (aR (aR hsv)))⟩
 ·obtain⟨l1,l2,l3⟩:=hpl (by decide) (by decide) (by decide) (by decide)
  obtain⟨b,a,s,rfl⟩:=cI (show 2≤st.length from l1);exact⟨n0,fun _=>h.next (st':=bitM (decide (a.1<b.1))::s) hpc (l2.trans (by simp[dC,eM])) l3 (bW (pI _) (aR (aR hsv)))⟩
 ·obtain⟨l1,l2,l3⟩:=hpl (by decide) (by decide) (by decide) (by decide)
  obtain⟨b,a,s,rfl⟩:=cI (show 2≤st.length from l1);exact⟨n0,fun _=>h.next (st':=bitM (a.2==b.2)::s) hpc (l2.trans (by simp[dC,eM])) l3 (bW (pI _) (aR (aR hsv)))⟩
 ·obtain⟨l1,l2,l3⟩:=hpl (by decide) (by decide) (by decide) (by decide)
  obtain⟨a,s,rfl⟩:=bQ (show 1≤st.length from l1);exact⟨n0,fun _=>h.next (st':=bitM (a.1==0)::s) hpc (l2.trans (by simp[dC,eM])) l3 (bW (pI _) (aR hsv))⟩
 ·obtain⟨l1,l2,l3⟩:=hpl (by decide) (by decide) (by decide) (by decide)
  obtain⟨a,s,rfl⟩:=bQ (show 1≤st.length from l1);exact⟨n0,fun _=>h.next (st':=s) hpc (l2.trans (by simp[dC,eM])) l3 (aR hsv)⟩
 ·obtain⟨l1,l2,l3⟩:=hpl (by decide) (by decide) (by decide) (by decide)
  obtain⟨a,s,rfl⟩:=bQ (show 1≤st.length from l1);exact⟨n0,fun _=>h.next (st':=a::a::s) hpc (l2.trans (by simp[dC,eM])) l3 (bW (bU hsv) hsv)⟩
 ·obtain⟨l1,l2,l3⟩:=hpl (by decide) (by decide) (by decide) (by decide)
  obtain⟨b,a,s,rfl⟩:=cI (show 2≤st.length from l1);exact⟨n0,fun _=>h.next (st':=a::b::s) hpc (l2.trans (by simp[dC,eM])) l3 (bW (bU (aR hsv)) (bW (bU hsv) (aR (aR hsv))))⟩
 ·obtain⟨l1,l2,l3⟩:=hpl (by decide) (by decide) (by decide) (by decide)
  exact⟨n0,fun _=>h.next (st':=rg.getD y.toNat (0,[])::st) hpc (l2.trans (by simp[dC,eM])) l3 (bW (iq (P:=vOk) hrv (by rw[hrg];exact g17 (.inl (hu 17 rfl))) _) hsv)⟩
 ·obtain⟨l1,l2,l3⟩:=hpl (by decide) (by decide) (by decide) (by decide)
  obtain⟨a,s,rfl⟩:=bQ (show 1≤st.length from l1);refine⟨n0,fun _=>⟨hpc,by show s.length=(sM nt inp role E (pc+1)).kinds.length;rw[l2];simp[dC,eM],by show op.map (·.1)=_;rw[hop];exact l3.symm,by show(rg.set y.toNat a).length=8;rw[DT];exact hrg,aR hsv,Br (P:=vOk) hrv _ (bU hsv),hov,hpr,hpv⟩⟩
 ·obtain⟨e,e1,e2,e3,e4,e5,e6,-⟩:=eh G hpc (.inl (hu 19 rfl))
  rw[←hst]at e4 e5;obtain⟨a,s,rfl⟩:=bQ e5;refine⟨n0,fun _=>?_⟩;show OkM (sM nt inp role E) E ⟨if a.1=0 then (E.ends.getD pc 0).toNat+1 else pc+1,s,rg,op,pr⟩
  by_cases ha:a.1=0
  ·rw[if_pos ha,e3]
   exact E9
  ·rw[if_neg ha]
   obtain⟨l1,l2⟩:=eZ (by rw[hu 19 rfl];decide) ho.vl;rw[hu 19 rfl]at l2;have hk:=ho.k19 (hu 19 rfl);refine⟨hpc,?_,?_,hrg,aR hsv,hrv,hov,hpr,hpv⟩
   ·show s.length=(sM nt inp role E (pc+1)).kinds.length
    rw[hk,l2,←hst];show s.length=(a::s).length-1+0;simp
   ·show op.map (·.1)=bq (sM nt inp role E (pc+1))
    rcases hs with ⟨_,k,_,hb,_⟩|⟨h',_⟩|⟨h',_⟩|⟨h',_⟩
    ·rw[kF _ _ _ hb,if_neg (by show ¬(E.code.getD pc (0,0)).1=22;rw[hu 19 rfl];decide)]
     exact hop
    ·rw[hu 19 rfl]at h';exact absurd h' (by decide)
    ·rw[hu 19 rfl]at h';exact absurd h' (by decide)
    ·rw[hu 19 rfl]at h';exact absurd h'.1 (by decide)
 ·obtain⟨e,e1,e2,e3,e4,e5⟩:=qo G hpc (hu 20 rfl)
  refine⟨n0,fun _=>?_⟩;show OkM (sM nt inp role E) E ⟨(E.ends.getD pc 0).toNat,st,rg,op,pr⟩;rw[e3];exact⟨by show e≤_;omega,by show st.length=(sM nt inp role E e).kinds.length;rw[e4];exact hst,by show op.map (·.1)=bq (sM nt inp role E e);rw[e5];exact hop,hrg,hsv,hrv,hov,hpr,hpv⟩
 ·obtain⟨j,b,e1,e2,e3,e4,e5,e6,e7,e8⟩:=qn G hpc (hu 21 rfl)
  have hle:=il e5 (by omega) e4;have hd:doN E 21 y pc st rg op pr=if ey E pc=true then (match op with|(a,p::ps)::o=>(0,⟨a+1,(0,p)::st,rg,(a,ps)::o,pr⟩)|(_,[])::o=>(0,⟨pc+1,st,rg,o,pr⟩)|[]=>(99,⟨pc,st,rg,op,pr⟩)) else (0,⟨pc+1,st,rg,op,pr⟩):=rfl;rw[hd]
  by_cases hb:b.op=22
  ·have h22:opV E.code j=22:=e2.2 hb
   rw[hle,h22,if_pos (by rfl)];rw[if_pos hb]at e6;obtain⟨e9,e10⟩:=e8 hb;rw[e6]at hop
   match op,hop,hov with
   | [],hop,_=>cases hop
   | (a,[])::o,hop2,hov =>
    injection hop2 with ha hop2
    exact⟨n0,fun _=>⟨hpc,by show st.length=(sM nt inp role E (pc+1)).kinds.length;rw[e7];exact hst,hop2,hrg,hsv,hrv,fun o' ho'=>hov o' (D4 _ ho'),hpr,hpv⟩⟩
   | (a,p::ps)::o,hop2,hov =>
    injection hop2 with ha hop2
    have ha:a=j:=ha;subst ha;obtain⟨q1,q2⟩:=hov _ (D2 ..);refine⟨n0,fun _=>⟨by show a+1≤_;omega,?_,?_,hrg,bW (gZ (q2 p (D2 ..))) hsv,hrv,?_,hpr,hpv⟩⟩
    ·show st.length+1=(sM nt inp role E (a+1)).kinds.length
     rw[e9,hst]
    ·show a::o.map (·.1)=bq (sM nt inp role E (a+1))
     rw[e10,e6,hop2];rfl
    ·intro o' ho'
     rcases List.mem_cons.1 ho' with rfl|ho'
     ·exact⟨by simp at q1;show ps.length≤1024;omega,fun p' hp'=>q2 p' (D4 _ hp')⟩
     ·exact hov o' (D4 _ ho')
  ·have h22:¬opV E.code j=22:=fun h'=>hb (e2.1 h')
   rw[hle,if_neg (by simpa using h22)];rw[if_neg hb]at e6;exact⟨n0,fun _=>⟨hpc,by show st.length=(sM nt inp role E (pc+1)).kinds.length;rw[e7];exact hst,by show op.map (·.1)=bq (sM nt inp role E (pc+1));rw[hop,e6];rfl,hrg,hsv,hrv,hov,hpr,hpv⟩⟩
 ·obtain⟨e,e1,e2,e3,e4,e5,e6,-⟩:=eh G hpc (.inr (hu 22 rfl))
  rw[←hst]at e4 e5;obtain⟨a,s,rfl⟩:=bQ e5;have hd:doN E 22 y pc (a::s) rg op pr=(match bN a.2 y with|[]=>(0,⟨(E.ends.getD pc 0).toNat+1,s,rg,op,pr⟩)|p::ps=>(0,⟨pc+1,(0,p)::s,rg,(pc,ps)::op,pr⟩)):=rfl;rw[hd];obtain⟨q1,q2⟩:=mU (bU hsv).2.2 y
  cases hp:bN a.2 y with
  | nil =>
   refine⟨n0,fun _=>?_⟩;show OkM (sM nt inp role E) E ⟨(E.ends.getD pc 0).toNat+1,s,rg,op,pr⟩;rw[e3];exact E9
  | cons p ps =>
   rw[hp]at q1 q2;obtain⟨l1,l2⟩:=eZ (by rw[hu 22 rfl];decide) ho.vl;rw[hu 22 rfl]at l2;have hk:=ho.k22 (hu 22 rfl);refine⟨n0,fun _=>⟨hpc,?_,?_,hrg,bW (gZ (q2 p (D2 ..))) (aR hsv),hrv,?_,hpr,hpv⟩⟩
   ·show s.length+1=(sM nt inp role E (pc+1)).kinds.length
    rw[hk,DL,l2,←hst];show s.length+1=(a::s).length-1+0+1;simp
   ·show pc::op.map (·.1)=bq (sM nt inp role E (pc+1))
    rcases hs with ⟨_,k,_,hb,_⟩|⟨h',_⟩|⟨h',_⟩|⟨h',_⟩
    ·rw[kF _ _ _ hb,if_pos (by show(E.code.getD pc (0,0)).1=22;exact hu 22 rfl),hop];rfl
    ·rw[hu 22 rfl]at h';exact absurd h' (by decide)
    ·rw[hu 22 rfl]at h';exact absurd h' (by decide)
    ·rw[hu 22 rfl]at h';exact absurd h'.1 (by decide)
   ·intro o' ho'
    rcases List.mem_cons.1 ho' with rfl|ho'
    ·exact⟨by simp at q1;show ps.length≤1024;omega,fun p' hp'=>q2 p' (D4 _ hp')⟩
    ·exact hov o' ho'
 ·obtain⟨l1,l2,l3⟩:=hpl (by decide) (by decide) (by decide) (by decide)
  obtain⟨v,k,s,rfl⟩:=cI (show 2≤st.length from l1);have hd:doN E 23 y pc (v::k::s) rg op pr=if 256≤pr.length then (4,⟨pc,v::k::s,rg,op,pr⟩) else (0,⟨pc+1,s,rg,op,pr++[(k.2,v.2)]⟩):=rfl;rw[hd]
  split
  ·exact⟨n4,fun h'=>absurd h' n40⟩
  ·refine⟨n0,fun _=>⟨hpc,by show s.length=(sM nt inp role E (pc+1)).kinds.length;rw[l2];simp[dC,eM],by show op.map (·.1)=_;rw[hop];exact l3.symm,hrg,aR (aR hsv),hrv,hov,by show(pr++[(k.2,v.2)]).length≤256;rw[DL,Ea];omega,fun p hp=>?_⟩⟩
   rcases DM.1 hp with hp|hp
   ·exact hpv p hp
   ·rw[DZ]at hp
    subst hp;exact⟨(bU (aR hsv)).2.2,(bU hsv).2.2⟩
end
end
section
theorem rO {t:LL_}{c:List VI}(h:cK t c=true):∀ s∈t,s.length≤64:=by
 unfold cK at h;simp only[DS,List.all_eq_true,decide_eq_true_eq]at h;exact h.1.2
section
variable {nt inp:Nat}{role:UInt8}{E:Me}
theorem mI (f:Nat)(m:Mc)(h:¬m.pc<E.code.length):cJ E f m=(0,m):=by cases f<;>simp[cJ,h]
theorem kW (m:Mc)(h:m.pc<E.code.length):cJ E 0 m=(140,m):=by simp[cJ,h]
theorem mJ {f:Nat}{m:Mc}(h:m.pc<E.code.length)(h0:(doM E (xM E m) m).1≠0):cJ E (f+1) m=doM E (xM E m) m:=by rw[cJ,if_pos h,if_neg h0]
theorem pS {f:Nat}{m:Mc}(h:m.pc<E.code.length)(h0:(doM E (xM E m) m).1=0):cJ E (f+1) m=cJ E f (doM E (xM E m) m).2:=by rw[cJ,if_pos h,if_pos h0]
theorem kg (G:ek nt inp role E):∀ (f:Nat) (m:Mc),OkM (sM nt inp role E) E m→(cJ E f m).1=0→OkM (sM nt inp role E) E (cJ E f m).2∧(cJ E f m).2.pc=E.code.length
 | f,m,h,h0=>by
  by_cases hpc:m.pc<E.code.length
  ·cases f with
   | zero=>rw[kW m hpc]at h0;cases h0
   | succ f =>
    by_cases hd:(doM E (xM E m) m).1=0
    ·rw[pS hpc hd]at h0⊢
     exact kg G f _ ((uu G h hpc).2 hd) h0
    ·rw[mJ hpc hd]at h0
     exact absurd h0 hd
  ·rw[mI f m hpc]
   exact⟨h,by show m.pc=_;have:=h.pc;omega⟩
theorem fA:OkM (sM nt inp role E) E aY:=by
 refine⟨D6 _,rfl,rfl,by simp[aY],fun v hv=>by simp[aY]at hv,fun v hv=>?_,fun v hv=>by simp[aY]at hv,by simp[aY],fun v hv=>by simp[aY]at hv⟩
 have:v=(0,[]):=by
  have hv:v∈List.replicate 8 ((0,[]):MV):=hv;exact(List.mem_replicate.1 hv).2
 subst this;exact⟨by decide,by decide,by decide⟩
def l8 (E:Me)(role:UInt8)(fuel:Nat):Nat×List (LU_×LU_)×LU_ :=
 if (cJ E fuel aY).1=0 then (0,(cJ E fuel aY).2.pr,if role=1 then [] else ((cJ E fuel aY).2.st.headD (0,[])).2) else ((cJ E fuel aY).1,[],[])
theorem fg {texts:LL_}{code:List VI}{role:UInt8}(h:(aq texts code role).2.1=0){ins:LL_}(hl:ins.length=inputsV role)(hi:∀ s∈ins,s.length≤1024):ek texts.length (inputsV role) role ⟨texts,code,ins,(aq texts code role).2.2.ends⟩∧(sM texts.length (inputsV role) role ⟨texts,code,ins,(aq texts code role).2.2.ends⟩ code.length).kinds=eY role:=by
 obtain⟨hm,-,n,hr⟩:=dU h;obtain⟨t,ht⟩:=ex_ ((aq texts code role).2.2);rw[←ht]at hr⊢;obtain⟨hok,hst,hov⟩:=uP code 0 rfl (D6 _) hr
 have hbl:t.blocks=[]∧t.kinds=eY role:=by
  unfold overV at hov
  split at hov
  ·cases hov
  rename_i hb
  split at hov
  ·cases hov
  split at hov
  ·cases hov
  rename_i hk;exact⟨DD (by omega),Decidable.byContradiction hk⟩
 have hmi:∀ x∈code,aZ x=true:=by
  unfold cK at hm;simp only[DS,List.all_eq_true]at hm;exact hm.2
 refine⟨⟨hmi,fun j hj=>hok j (D6 _) hj,by show(stV _ _ role code code.length).blocks=[];rw[hst];exact hbl.1,by show t.ends=(stV _ _ role code code.length).ends;rw[hst],rfl,fun s hs=>by have:=(rO hm) s hs;omega,hl,hi⟩,?_⟩;show(stV _ _ role code code.length).kinds=_;rw[hst];exact hbl.2
end
end
section
theorem vw {P:Program}{ops:Array Oper}{C:World→Prop}{R:World→World→Prop}{F:Nat→Option (bn R)}{Q:aB→Act→Prop}{k:Nat}{S:aB}{a:Act}(h:Q S a):wpG P ops C R F Q k [] S a:=h
attribute [local irreducible] wpG
def gM:Rec MV where
 cell v:=[.int .i64 v.1,.string (bs v.2)]
 e:=288
 n:=2
 bytes:=24
 z:=.agg #[.int .i64 0,.string ByteArray.empty]
 len:=fun _=>rfl
 one:=by intro x u h;simp at h;rcases h with rfl|rfl<;>rfl
 info:=by kernel_rfl
 zs:=rfl
 pos:=by decide
 bpos:=by decide
structure Eo where
 at_:Nat
 bm:Nat
 bt:Nat
 bc:Nat
 more:Bool
 rest:LU_
 by_:UInt8
def eoF (e:Eo):Value:=.func (.func 329) #[] #[.pointer (some ⟨e.bm,0,none⟩),.pointer (some ⟨e.bt,0,none⟩),.pointer (some ⟨e.bc,0,none⟩)]
def eu:Rec Eo where
 cell e:=[.int .i64 (e.at_:Int),eoF e]
 e:=396
 n:=2
 bytes:=16
 z:=.agg #[.int .i64 0,.nilFunc]
 len:=fun _=>rfl
 one:=by intro x u h;simp at h;rcases h with rfl|rfl<;>rfl
 info:=by kernel_rfl
 zs:=rfl
 pos:=by decide
 bpos:=by decide
def recKv:Rec (LU_×LU_) where
 cell v:=[.string (bs v.1),.string (bs v.2)]
 e:=70
 n:=2
 bytes:=32
 z:=.agg #[.string ByteArray.empty,.string ByteArray.empty]
 len:=fun _=>rfl
 one:=by intro x u h;simp at h;rcases h with rfl|rfl<;>rfl
 info:=by kernel_rfl
 zs:=rfl
 pos:=by decide
 bpos:=by decide
def ll (k:Nat)(e:Eo):Prop:=k=e.bm∨k=e.bt∨k=e.bc
def iy (bZ:Nat)(w:World)(e:Eo):Prop:=Blk w e.bm 4 [.bool e.more]∧Blk w e.bt 9 [.string (bs e.rest)]∧Blk w e.bc 5 [.int .u8 (e.by_.toNat:Int)]∧bZ≤e.bm∧bZ≤e.bt∧bZ≤e.bc∧e.bm≠e.bt∧e.bm≠e.bc∧e.bt≠e.bc
def boxPt {bZ:Nat}(l:List Eo):Pt bZ where
 fp k:=∃ e∈l,ll k e
 P w:=(∀ e∈l,iy bZ w e)∧l.Pairwise fun e f=>∀ k,ll k e→¬ll k f
 frame:=fun h hc hX=>⟨fun e he=>by
  obtain⟨h1,h2,h3,h4⟩:=h.1 e he;exact⟨h1.chg hc (hX _ ⟨e,he,.inl rfl⟩),h2.chg hc (hX _ ⟨e,he,.inr (.inl rfl)⟩),h3.chg hc (hX _ ⟨e,he,.inr (.inr rfl)⟩),h4⟩,h.2⟩
 lt:=fun h k hk=>by
  obtain⟨e,he,hk⟩:=hk;obtain⟨h1,h2,h3,b1,b2,b3,-⟩:=h.1 e he;rcases hk with rfl|rfl|rfl
  ·exact⟨b1,h1.lt⟩
  ·exact⟨b2,h2.lt⟩
  ·exact⟨b3,h3.lt⟩
structure Mf where
 tv:Value
 cv:Value
 iv:Value
 ev:Value
 lv:Value
 tx:LU_
 sn:Int
def bg (f:Mf)(at_:Int)(stv:Value)(rg:List MV)(opv prv:Value)(txt:LU_)(steps:Int)(trv:Value):List Value :=
 [f.tv,f.cv,f.iv,f.ev,f.lv,.int .i64 at_,stv]++(gM.cells rg++[opv,prv,.string (bs txt),.int .i64 steps,trv])
structure MR (bZ:Nat) (w:World) (G:Nat) (f:Mf) (at_:Int) (st rg:List MV) (eos:List Eo) (pr:List (LU_×LU_)) (tr:List Int) (stv opv prv trv:Value) (X:List (Pt bZ)):Prop where
 gb:bZ≤G
 rl:rg.length=8
 sep:Sep bZ w (az G gb 292 (bg f at_ stv rg opv prv f.tx f.sn trv)::ownPt gM stv st.reverse::ownPt eu opv eos::boxPt eos::ownPt recKv prv pr::ownPt bf trv tr::X)
section
variable {bZ G:Nat}{w w' w3:World}{f:Mf}{at_:Int}{st rg:List MV}{eos:List Eo}{pr:List (LU_×LU_)}{tr:List Int}{stv stv' opv opv' prv prv' trv trv':Value}{X:List (Pt bZ)}
theorem du {α:Type}{l:List α}(h:l.length=8):∃ a b c d e f g i,l=[a,b,c,d,e,f,g,i]:=by
 match l,h with
 | [a,b,c,d,e,f,g,i],_=>exact⟨a,b,c,d,e,f,g,i,rfl⟩
theorem MR.blk (h:MR bZ w G f at_ st rg eos pr tr stv opv prv trv X):Blk w G 292 (bg f at_ stv rg opv prv f.tx f.sn trv):=h.sep.get (i:=0) rfl
theorem MR.os (h:MR bZ w G f at_ st rg eos pr tr stv opv prv trv X):gM.Own w bZ stv st.reverse:=h.sep.get (i:=1) rfl
theorem MR.oo (h:MR bZ w G f at_ st rg eos pr tr stv opv prv trv X):eu.Own w bZ opv eos:=h.sep.get (i:=2) rfl
theorem MR.ob (h:MR bZ w G f at_ st rg eos pr tr stv opv prv trv X):(∀ e∈eos,iy bZ w e)∧eos.Pairwise fun e f=>∀ k,ll k e→¬ll k f:=h.sep.get (i:=3) rfl
theorem MR.op (h:MR bZ w G f at_ st rg eos pr tr stv opv prv trv X):recKv.Own w bZ prv pr:=h.sep.get (i:=4) rfl
theorem MR.ot (h:MR bZ w G f at_ st rg eos pr tr stv opv prv trv X):bf.Own w bZ trv tr:=h.sep.get (i:=5) rfl
theorem MR.size (h:MR bZ w G f at_ st rg eos pr tr stv opv prv trv X):bZ≤w.heap.size:=DG h.gb (DA h.blk.lt)
theorem MR.below (h:MR bZ w G f at_ st rg eos pr tr stv opv prv trv X)(hB:Below w.heap.size w w'):MR bZ w' G f at_ st rg eos pr tr stv opv prv trv X:=⟨h.gb,h.rl,h.sep.below hB⟩
theorem MR.add (h:MR bZ w G f at_ st rg eos pr tr stv opv prv trv X)(cs:List Value)(t:TypeId):MR bZ (w.alloc (.cells cs.toArray t)) G f at_ st rg eos pr tr stv opv prv trv (X++[az w.heap.size h.size t cs]) :=
 ⟨h.gb,h.rl,h.sep.snoc (af _ _) (az w.heap.size h.size t cs) (Blk.new w cs t) (fun k hk=>by rw[show k=w.heap.size from hk];exact DC _)⟩
theorem MR.drop {Y:List (Pt bZ)}(h:MR bZ w G f at_ st rg eos pr tr stv opv prv trv (X++Y)):MR bZ w G f at_ st rg eos pr tr stv opv prv trv X:=⟨h.gb,h.rl,Sep.init (p:=Y) h.sep⟩
theorem MR.loc {p:Pt bZ}(h:MR bZ w G f at_ st rg eos pr tr stv opv prv trv X)(hp:p∈X):p.P w:=h.sep.1 p (by simp[hp])
theorem MR.updX (h:MR bZ w G f at_ st rg eos pr tr stv opv prv trv X){Y:Nat→Prop}{i:Nat}{p:Pt bZ}(hi:X[i]?=some p)(hc:Chg Y w w')(hY:∀ k,Y k→p.fp k)(q:Pt bZ)(hq:q.P w')(hf:∀ k,q.fp k→p.fp k):MR bZ w' G f at_ st rg eos pr tr stv opv prv trv (X.set i q)∧Below bZ w w' :=
 ⟨⟨h.gb,h.rl,h.sep.upd (i:=i+6) hi hc hY q hq (fun k hk=>.inl (hf k hk))⟩,h.sep.updB (i:=i+6) hi hc hY h.size⟩
theorem MR.cell (h:MR bZ w G f at_ st rg eos pr tr stv opv prv trv X){k:Nat}{v:Value}(hv:[f.tv,f.cv,f.iv,f.ev,f.lv,.int .i64 at_,stv][k]?=some v):w.cell? ⟨G,k,none⟩=some v:=by
 refine h.blk.cell (k:=k) ?_;unfold bg;rw[List.getElem?_append_left (List.getElem?_eq_some_iff.1 hv).1];exact hv
theorem MR.cellR (h:MR bZ w G f at_ st rg eos pr tr stv opv prv trv X){k:Nat}{v:Value}(hv:[opv,prv,.string (bs f.tx),.int .i64 f.sn,trv][k]?=some v):w.cell? ⟨G,23+k,none⟩=some v:=by
 refine h.blk.cell (k:=23+k) ?_;obtain⟨a,b,c,d,e,f',g,i,rfl⟩:=du h.rl;unfold bg;rw[List.getElem?_append_right (by simp;omega),List.getElem?_append_right (by simp[Rec.cells,gM];omega)];rw[←hv];congr 1;simp[Rec.cells,gM];omega
theorem MR.reg (h:MR bZ w G f at_ st rg eos pr tr stv opv prv trv X){i:Nat}(hi:i<8):w.cell? ⟨G,7+i*2,none⟩=some (.int .i64 (rg.getD i (0,[])).1)∧w.cell? ⟨G,7+i*2+1,none⟩=some (.string (bs (rg.getD i (0,[])).2)):=by
 obtain⟨a,b,c,d,e,f',g,j,hr⟩:=du h.rl;have hb:=h.blk;rw[hr]at hb⊢;rcases(by omega:i=0∨i=1∨i=2∨i=3∨i=4∨i=5∨i=6∨i=7) with rfl|rfl|rfl|rfl|rfl|rfl|rfl|rfl<;>exact⟨hb.cell (by rfl),hb.cell (by rfl)⟩
theorem MR.free (h:MR bZ w G f at_ st rg eos pr tr stv opv prv trv X){k:Nat}(hk:k<28):w.frozen? ⟨G,k,none⟩=false:=by
 refine h.blk.free ?_;obtain⟨a,b,c,d,e,f',g,j,hr⟩:=du h.rl;rw[hr];exact hk
theorem MR.slices (h:MR bZ w G f at_ st rg eos pr tr stv opv prv trv X):(∃ a c,stv=.slice a st.length c)∧(∃ a c,opv=.slice a eos.length c)∧(∃ a c,prv=.slice a pr.length c)∧∃ a c,trv=.slice a tr.length c:=by
 obtain⟨a,c,e⟩:=ap h.os;rw[List.length_reverse]at e;exact⟨⟨a,c,e⟩,ap h.oo,ap h.op,ap h.ot⟩
theorem MR.newS (h:MR bZ w G f at_ st rg eos pr tr stv opv prv trv X){l:List MV}(hc:Chg (fun k=>stv.ownBlock=some k) w w3)(hg:∀ k,stv'.ownBlock=some k→stv.ownBlock=some k∨w.heap.size≤k)(ho:gM.Own w3 bZ stv' l.reverse):MR bZ (w3.setCell ⟨G,6,none⟩ stv') G f at_ l rg eos pr tr stv' opv prv trv X∧Below bZ w (w3.setCell ⟨G,6,none⟩ stv')∧Blk w3 G 292 (bg f at_ stv rg opv prv f.tx f.sn trv):=by
 have s1:=h.sep.upd (i:=1) rfl hc (fun k hk=>hk) (ownPt gM stv' l.reverse) ho hg;have hs:Chg (fun k=>k=G) w3 (w3.setCell ⟨G,6,none⟩ stv'):=Chg.setCell _ _ _ rfl;have b3:Blk w3 G 292 (bg f at_ stv rg opv prv f.tx f.sn trv):=s1.get (i:=0) rfl;have s2:=s1.upd (i:=0) rfl hs (fun k hk=>hk) (az G h.gb 292 (bg f at_ stv' rg opv prv f.tx f.sn trv)) (b3.set 6 stv') (fun k hk=>.inl hk);exact⟨⟨h.gb,h.rl,s2⟩,(h.sep.updB (i:=1) rfl hc (fun k hk=>hk) h.size).trans (hs.below (fun k hk=>by have:=h.gb;omega) (DG h.size hc.size)),b3⟩
theorem Gt {T:Prop} (h:T:=by
 exact⟨⟨h.gb,h.rl,s2⟩,h.sep.updB (i:=0) rfl hs (fun k hk=>hk) h.size⟩
):T:=h
theorem MR.setAt (h:MR bZ w G f at_ st rg eos pr tr stv opv prv trv X)(n:Int):MR bZ (w.setCell ⟨G,5,none⟩ (.int .i64 n)) G f n st rg eos pr tr stv opv prv trv X∧Below bZ w (w.setCell ⟨G,5,none⟩ (.int .i64 n)):=by
 have hs:Chg (fun k=>k=G) w (w.setCell ⟨G,5,none⟩ (.int .i64 n)):=Chg.setCell _ _ _ rfl;have s2:=h.sep.upd (i:=0) rfl hs (fun k hk=>hk) (az G h.gb 292 (bg f n stv rg opv prv f.tx f.sn trv)) (h.blk.set 5 (.int .i64 n)) (fun k hk=>.inl hk);exact Gt
def mvV (v:MV):Value:=.agg #[.int .i64 v.1,.string (bs v.2)]
theorem bL (v:MV)(h:MR bZ w G f at_ st rg eos pr tr stv opv prv trv X)(hl:st.length≤1000):Calls Tryz.prog 325 #[.pointer (some ⟨G,0,none⟩),mvV v] w fun e w'=>e=.returned (.int .i64 0)∧(∃ stv',MR bZ w' G f at_ (v::st) rg eos pr tr stv' opv prv trv X)∧Below bZ w w':=by
 obtain⟨⟨ab,cb,rfl⟩,_,_,_⟩:=h.slices;have HH:=zH h;obtain⟨W1,hW1⟩:=ex_ (w.alloc (.cells #[.int .i64 v.1,.string (bs v.2)] 288));have hb1:=ba_ hW1;have hx:=bm_ hW1;have h1:=h.below hb1;have c6:=h1.cell (k:=6) rfl;obtain⟨x0,x1⟩:=cl2 hx;have H1:=zH h1;have HB1:=zH hb1;clear h h1 hx hb1;unfold mvV;go_enter Tryz.func325,Tryz.ntmps325;go_upto_region 1 with fail;rw[←hW1];clear hW1;have h1d:=H1.o.below (b_drew W1);have hgb:bZ≤W1.drew.heap.size:=h1d.size;have hby:(st.reverse.length+1)*24≤140737488355328:=by rw[List.length_reverse];omega
 have H1D:=zH h1d;have hod:=h1d.os;have hGl:G<W1.heap.size:=H1.o.blk.lt;have hwl:w.heap.size<W1.heap.size:=aD x0;clear h1d;go_region_law (refine gM.step_append1V W1.drew v rfl _ _ 286 rfl Tryz.underlying286 bZ (.slice ab st.length cb) st.reverse rfl hod _ rfl _ rfl _ rfl hby hgb ?_;intro g gc w3 hown3 hc3 hg3;rw[←List.reverse_cons]at hown3;rw[List.length_reverse]at hown3;have hn:=H1D.o.newS (stv':=.slice (some ⟨g,0,none⟩) (st.length+1) gc) (l:=v::st) hc3 (fun k hk=>by cases hk;exact hg3) hown3;have f6:w3.frozen? ⟨G,6,none⟩=false:=hn.2.2.free (k:=6) (by simp[bg]);have c6':w3.cell? ⟨G,6,none⟩=some (.slice ab st.length cb):=hn.2.2.cell (k:=6) rfl;rw[List.length_reverse];have HN:=zH hn;clear hn hown3 hc3 hg3)
 all_goals
  (try dsimp only)
  (try go_frame)
  go_wp2;go_ret;exact⟨rfl,⟨_,HN.o.1⟩,((bt HB1.o (b_drew W1)).mono HH.o.size).trans HN.o.2.1⟩
theorem MR.top {v:MV}{ab:Option Addr}{n cb:Nat}(h:MR bZ w G f at_ (v::st) rg eos pr tr (.slice ab n cb) opv prv trv X):∃ g,ab=some ⟨g,0,none⟩∧n=st.length+1∧w.cell? ⟨g,st.length*2,none⟩=some (.int .i64 v.1)∧w.cell? ⟨g,st.length*2+1,none⟩=some (.string (bs v.2)):=by
 obtain⟨⟨a,c,e⟩,_,_,_⟩:=h.slices;injection e with e1 e2 e3
 subst e1 e2 e3;obtain⟨g,rfl⟩:=h.os.at0 (by simp);obtain⟨a',cap,hv,hle,hc⟩:=Rec.Row.open h.os.row;injection hv with e1 e2 e3
 subst e1;obtain⟨b,off,ha,hu⟩:=hc st.length (by simp);injection ha with ha
 injection ha with ha1 ha2 _
 subst ha1 ha2;have hg:(v::st).reverse[st.length]'(by simp)=v:=by simp[List.reverse_cons]
 rw[hg]at hu;have h0:=hu 0 _ rfl;have h1:=hu 1 _ rfl;rw[DE]at h0 h1;exact⟨g,rfl,rfl,h0,h1⟩
theorem jz {P:Program}{fn:Func}{p:Tmp}{ty:TypeId}{tmps:Array Value}{w:World}{v:Value}{b:Nat}(hr:fn.results=#[.cell p ty])(hp:tmps.getD p undef=.pointer (some ⟨b,0,none⟩))(hl:(loadVar ty ⟨b,0,none⟩).run P w=.ok v w):(results fn tmps).run P w=.ok v w:=by
 simp only[Array.getD_eq_getD_getElem?]at hp⊢;simp[results,hr,Sem.run_bind,Result.andThen,hp,asAddr,hl]
theorem qd {w:World}{b:Nat}{v0 v1:Value}(h0:w.cell? ⟨b,0,none⟩=some v0)(h1:w.cell? ⟨b,1,none⟩=some v1):(loadVar 288 ⟨b,0,none⟩).run Tryz.prog w=.ok (.agg #[v0,v1]) w:=by
 go_simp
theorem Al {α:Type}(X Y Z:List α)(q:α):X <+: (X++Y++Z).set X.length q:=by
 rw[DK,List.set_append_right _ _ (DC _)];exact List.prefix_append _ _
theorem MR.pre {Y:List (Pt bZ)}(h:MR bZ w G f at_ st rg eos pr tr stv opv prv trv Y)(hX:X <+: Y):MR bZ w G f at_ st rg eos pr tr stv opv prv trv X:=by
 obtain⟨Z,rfl⟩:=hX;exact h.drop
theorem iQ {w:World}{b:Nat}{t:TypeId}{a0 a1:Value}(hx:Blk w b t [a0,a1])(v0 v1:Value):Blk ((w.setCell ⟨b,0,none⟩ v0).setCell ⟨b,1,none⟩ v1) b t [v0,v1]∧Chg (fun x=>x=b) w ((w.setCell ⟨b,0,none⟩ v0).setCell ⟨b,1,none⟩ v1) :=
 ⟨(hx.set 0 v0).set 1 v1,Chg.trans (Chg.setCell w ⟨b,0,none⟩ v0 rfl) (Chg.setCell _ ⟨b,1,none⟩ v1 rfl)⟩
theorem dS (v:MV)(h:MR bZ w G f at_ (v::st) rg eos pr tr stv opv prv trv X)(hl:st.length≤1000):Calls Tryz.prog 197 #[.pointer (some ⟨G,0,none⟩)] w fun e w'=>e=.returned (mvV v)∧(∃ stv',MR bZ w' G f at_ st rg eos pr tr stv' opv prv trv X)∧Below bZ w w':=by
 obtain⟨⟨ab,cb,hsv⟩,_,_,_⟩:=h.slices;rw[Du]at hsv;subst hsv;have HH:=zH h;obtain⟨R,hR⟩:=ex_ w.heap.size;obtain⟨W1,hW1⟩:=ex_ (w.alloc (.cells #[.int .i64 0,.string ⟨#[]⟩] 288));have hRb:bZ≤R:=by rw[hR];exact HH.o.size
 have hm1:MR bZ W1 G f at_ (v::st) rg eos pr tr (.slice ab (st.length+1) cb) opv prv trv (X++[az R hRb 288 [.int .i64 0,.string ⟨#[]⟩]]):=by subst hR;rw[hW1];exact HH.o.add _ _
 have HB1:=zH (show Below w.heap.size w W1 by rw[hW1];exact af _ _);clear h;go_enter Tryz.func197,Tryz.ntmps197;go_upto_region 1 with fail;rw[←hW1,←hR];clear hW1 hR;obtain⟨g,rfl,-,e0,e1⟩:=hm1.top;have c6:W1.cell? ⟨G,6,none⟩=some (.slice (some ⟨g,0,none⟩) (st.length+1) cb):=hm1.cell (k:=6) rfl;have hGl:G<W1.heap.size:=hm1.blk.lt;have hgl:g<W1.heap.size:=aD e0;have hl1:((st.length:Int)+1)-1=(st.length:Int):=by omega
 have hl2:(0:Int)≤(st.length:Int):=by omega
 have hl3:(st.length:Int)<(st.length:Int)+1:=by omega
 have hl4:(st.length:Int)≤1000:=by omega
 have HM1:=zH hm1;clear hm1;go_region;obtain⟨T,hT⟩:=ex_ W1.heap.size;have hTb:bZ≤T:=by rw[hT];exact HM1.o.size
 obtain⟨W2,hW2⟩:=ex_ ((W1.alloc (.cells #[.int .i64 v.1,.string (bs v.2)] 288)).drew)
 have hm2:MR bZ W2 G f at_ (v::st) rg eos pr tr (.slice (some ⟨g,0,none⟩) (st.length+1) cb) opv prv trv (X++[az R hRb 288 [.int .i64 0,.string ⟨#[]⟩]]++[az T hTb 288 [.int .i64 v.1,.string (bs v.2)]]):=by
  subst hT;rw[hW2];exact(HM1.o.add [.int .i64 v.1,.string (bs v.2)] 288).below (b_drew _)
 have HB2:=zH (show Below w.heap.size w W2 by rw[hW2];exact bt HB1.o (bt (af _ _) (b_drew _)));rw[←hW2,←hT];clear hW2 hT e0 e1 c6 hGl hgl HM1;have c6:W2.cell? ⟨G,6,none⟩=some (.slice (some ⟨g,0,none⟩) (st.length+1) cb):=hm2.cell (k:=6) rfl;have f6:=hm2.free (k:=6) (by decide);have hGl:G<W2.heap.size:=hm2.blk.lt;have ho:gM.Own W2 bZ (.slice (some ⟨g,0,none⟩) (v::st).reverse.length cb) (v::st).reverse:=by rw[List.length_reverse];exact hm2.os
 have hrun:=ho.shortRun 286 Tryz.underlying286 (by intro wx;kernel_rfl) st.length (by simp);rw[List.length_reverse,Du]at hrun
 have hsh:gM.Own W2.drew bZ (.slice (some ⟨g,0,none⟩) st.length cb) st.reverse:=by
  have:=(ho.below (b_drew W2)).short st.length (by simp)
  rwa [List.reverse_cons,List.take_append_of_le_length (by simp),DB (by simp)]at this
 have hn:=(hm2.below (b_drew W2)).newS (stv':=.slice (some ⟨g,0,none⟩) st.length cb) (l:=st) (Chg.refl _ _) (fun k hk=>by cases hk;exact .inl rfl) hsh;have HN:=zH hn;clear ho hsh hn hm2;go_wp2_with fail;go_region;obtain⟨W3,hW3⟩:=ex_ ((W2.setCell ⟨G,6,none⟩ (.slice (some ⟨g,0,none⟩) st.length cb)).drew);have hm3:MR bZ W3 G f at_ st rg eos pr tr (.slice (some ⟨g,0,none⟩) st.length cb) opv prv trv (X++[az R hRb 288 [.int .i64 0,.string ⟨#[]⟩]]++[az T hTb 288 [.int .i64 v.1,.string (bs v.2)]]):=by rw[hW3];exact HN.o.1
 have hb3:Below bZ w W3:=by rw[hW3];exact((bt HB2.o (b_drew W2)).mono HH.o.size).trans HN.o.2.1
 rw[←hW3];clear hW3 HN c6 f6 hGl hrun HB2;have hTk:Blk W3 T 288 [.int .i64 v.1,.string (bs v.2)]:=hm3.loc (p:=az T hTb 288 [.int .i64 v.1,.string (bs v.2)]) (by simp);have hRk:Blk W3 R 288 [.int .i64 0,.string ⟨#[]⟩]:=hm3.loc (p:=az R hRb 288 [.int .i64 0,.string ⟨#[]⟩]) (by simp);obtain⟨t0,t1⟩:=cl2 hTk;obtain⟨r0,r1⟩:=cl2 hRk;obtain⟨k0,k1⟩:=fr2 hRk;have HM3:=zH hm3;have HB3:=zH hb3;have HRK:=zH hRk;clear hm3 hb3 hRk hTk;go_wp2_with fail;obtain⟨hy,hc⟩:=iQ HRK.o (.int .i64 v.1) (.string (bs v.2));refine bodyPost_ret (jz rfl rfl (qd (hy.cell (k:=0) rfl) (hy.cell (k:=1) rfl))) rfl ?_;obtain⟨hm4,hb4⟩:=HM3.o.updX (i:=X.length) (p:=az R hRb 288 [.int .i64 0,.string ⟨#[]⟩]) (by simp) hc (fun k hk=>hk) (az R hRb 288 [.int .i64 v.1,.string (bs v.2)]) hy (fun k hk=>hk);exact⟨rfl,⟨_,hm4.pre (Al X _ _ _)⟩,HB3.o.trans hb4⟩
end
end
