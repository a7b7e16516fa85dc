/- Lemmas for DeltaJobs: walks, plain laws. -/
import Derived.RangeFuncNested
import Derived.RangeFuncBound
import Derived.RangeFuncCalls
import Derived.RangeFuncLeaves
import Derived.Shelf.Abstract
import Derived.OwnWalkIn
import Derived.TacticsInMore
import Derived.LoopNIn
import Derived.LoopIn
import Derived.Test.YtehllcbnheicoaaGreatDoorDeltaJobsK4
set_option linter.unusedSimpArgs false
set_option linter.unusedVariables false
set_option maxRecDepth 100000
set_option maxHeartbeats 16000000
namespace Go.Proofs.YtehllcbnheicoaaGreatDoor
open Go.RowKit Oct
section
def aL:Rec (LU_) where
 cell s:=[.string (bs s)]
 e:=9
 n:=1
 bytes:=16
 z:=.string ByteArray.empty
 len:=fun _=>rfl
 one:=by intro x u h;simp at h;subst h;rfl
 info:=by kernel_rfl
 zs:=rfl
 pos:=by decide
 bpos:=by decide
theorem an {w:World}{v:Value}{l:LL_}(h:aL.Row w v l):∃ a cap,v=.slice a l.length cap∧l.length≤cap∧∀ k (hk:k<l.length),∃ b off,a=some ⟨b,off,none⟩∧w.cell? ⟨b,off+k,none⟩=some (.string (bs l[k])):=by
 obtain⟨a,cap,hv,hle,hc⟩:=h.open;refine⟨a,cap,hv,hle,fun k hk=>?_⟩;obtain⟨b,off,ha,hu⟩:=hc k hk;have:=hu 0 _ rfl;rw[show aL.n=1 from rfl,Nat.mul_one,Nat.add_zero]at this;exact⟨b,off,ha,this⟩
end
section
structure Chg (X:Nat→Prop) (w w':World):Prop where
 os:w'.os=w.os
 tape:w'.tape=w.tape
 output:w'.output=w.output
 size:w.heap.size≤w'.heap.size
 block:∀ k,k<w.heap.size→¬X k→w'.heap[k]?=w.heap[k]?
theorem Chg.refl (X:Nat→Prop)(w:World):Chg X w w:=⟨rfl,rfl,rfl,Ei _,fun _ _ _=>rfl⟩
theorem Chg.trans {X:Nat→Prop}{a b c:World}(h:Chg X a b)(k:Chg X b c):Chg X a c :=
 ⟨k.os.trans h.os,k.tape.trans h.tape,k.output.trans h.output,En h.size k.size,fun i hi hx=>(k.block i (Eb hi h.size) hx).trans (h.block i hi hx)⟩
theorem Chg.mono {X X':Nat→Prop}{w w':World}(h:Chg X w w')(hx:∀ k,X k→X' k):Chg X' w w':=⟨h.os,h.tape,h.output,h.size,fun k hk hn=>h.block k hk fun hxk=>hn (hx k hxk)⟩
theorem DM {X:Nat→Prop}{w w':World}(h:Below w.heap.size w w'):Chg X w w':=⟨h.os,h.tape,h.output,h.size,fun k hk _=>h.block k hk⟩
theorem DZ {X:Nat→Prop}{B:Nat}{w w':World}(h:Below B w w')(hX:∀ k,B≤k→X k):Chg X w w' :=
 ⟨h.os,h.tape,h.output,h.size,fun k hk hn=>h.block k (Nat.lt_of_not_le fun hb=>hn (hX k hb))⟩
theorem Chg.below {X:Nat→Prop}{B:Nat}{w w':World}(h:Chg X w w')(hX:∀ k,X k→B≤k)(hB:B≤w.heap.size):Below B w w' :=
 ⟨h.os,h.tape,h.output,h.size,fun k hk=>h.block k (Eb hk hB) fun hx=>by have:=hX k hx;omega⟩
theorem Chg.alloc (X:Nat→Prop)(w:World)(o:Obj):Chg X w (w.alloc o):=DM (af w o)
theorem Chg.drew (X:Nat→Prop)(w:World):Chg X w w.drew:=DM (b_drew w)
theorem Chg.setCell {X:Nat→Prop}(w:World)(a:Addr)(u:Value)(h:X a.block):Chg X w (w.setCell a u) :=
 ⟨rfl,rfl,rfl,by simp[World.setCell],fun k _ hn=>Below.heap_setCell _ _ _ _ fun e=>hn (e▸h)⟩
theorem Chg.putObj {X:Nat→Prop}(w:World)(l:Nat)(o:Obj)(h:X l):Chg X w (w.putObj l o) :=
 ⟨rfl,rfl,rfl,by simp,fun k _ hn=>World.putObj_heap_other fun e=>hn (e▸h)⟩
theorem Chg.at {X:Nat→Prop}{w w':World}(h:Chg X w w'){k:Nat}{o:Obj}(hk:w.heap[k]?=some o)(hn:¬X k):w'.heap[k]?=some o :=
 (h.block k (Array.getElem?_eq_some_iff.1 hk).1 hn).trans hk
theorem Chg.cell {X:Nat→Prop}{w w':World}(h:Chg X w w'){a:Addr}{u:Value}(ha:w.cell? a=some u)(hn:¬X a.block):w'.cell? a=some u :=
 (World.cell?_of_block (w:=w) (h.block a.block (aD ha) hn)).trans ha
section
variable {F:Fence}{n:Nat}{P:Program}{α:Type}
def tJ (F:Fence)(n:Nat)(P:Program)(gf:Nat)(lb:Array Value)(X Y:Nat→Prop)(El:α→Array Value→World→Prop)(out:List α)(W:World):Prop :=
 ∀ (l:Nat) (J Jx:List α→World→Prop),
  (∀ pre U U',J pre U→Chg X U U'→J pre U')→(∀ pre U U',Jx pre U→Chg X U U'→Jx pre U') →
  (∀ pre x vs U,J pre U→El x vs U→pre++[x] <+: out→YieldAt F (n-1) P l vs U fun e U' =>
   (e=.returned (.bool true)∧J (pre++[x]) U'∧Chg (fun k=>¬Y k) U U')∨(e=.returned (.bool false)∧Jx (pre++[x]) U')) →
  J [] W→CallsIn F n P gf (#[.func (.yield l) #[] #[]]++lb) W fun e W'=>(∃ v,e=.returned v)∧(J out W'∨∃ pre,pre <+: out∧Jx pre W')
def rY (D:Nat)(Y:Nat→Prop)(I:List α→World→Prop)(Ix:Code→List α→World→Prop)(pre:List α)(U:World):Exit→Act→World→Prop
 | .normal,_,U'=>Chg (fun k=>¬(Y k∨k=D∨k=D+1)) U U'∧I pre U'
 | .ret,_,U'=>Chg (fun k=>¬(k=D∨k=D+1)) U U'∧Ix .ret pre U'
 | .exit id,_,U'=>Chg (fun k=>¬(k=D∨k=D+1)) U U'∧Ix (.exit id) pre U'
 | .goto t,_,U'=>Chg (fun k=>¬(k=D∨k=D+1)) U U'∧Ix (.goto t) pre U'
 | .panic _,_,_=>False
 | .outgrown,_,_=>False
theorem In {T:Prop} (h:T:=by
 intro f' hf';simp[Target.leads]at hf';subst hf';exact hFg
):T:=h
theorem Iv {T:Prop} (h:T:=by
 rw[←hW1,hrec];exact run_enterLoop_outer _ _ _ _ _
):T:=h
theorem tN {g:Operand}{ps:Array Tmp}{assign body:Code}{Q:Exit→Act→World→Prop}{a:Act}{w:World}(hro:F.round=none)(h1:1≤n){gf:Nat}{lb:Array Value}(hg:a.eval g=.func (.func gf) #[] lb)(hFg:F.fn gf)(eg:∀ args w,(callFunc gf args).run P w=.ok (.enter gf args) w){X Y:Nat→Prop}{El:α→Array Value→World→Prop}{out:List α}(hX:∀ k,X k→k<w.heap.size)(hY:∀ k,Y k→k<w.heap.size)(hseq:∀ W,Below w.heap.size w W→tJ F (n-1) P gf lb X Y El out W)(hps:∀ x vs U,El x vs U→vs.size=ps.size)(hEl:∀ x vs U U',El x vs U→Chg (fun k=>k=w.heap.size∨k=w.heap.size+1) U U'→El x vs U')(I:List α→World→Prop)(Ix:Code→List α→World→Prop)(hI:∀ pre U U',I pre U→Chg (fun k=>X k∨k=w.heap.size∨k=w.heap.size+1) U U'→I pre U')(hIx:∀ c pre U U',Ix c pre U→Chg (fun k=>X k∨k=w.heap.size∨k=w.heap.size+1) U U'→Ix c pre U')(h0:I [] w)(hround:∀ (l:Nat) (pre:List α) (x:α) (vs:Array Value) (U:World),w.heap.size+2≤U.heap.size→I pre U→El x vs U→pre++[x] <+: out → assign.wpIn (F.inRound l) (n-1-1) P (Exit.then (fun a' U1=>Below U.heap.size U U1∧∀ U2,w.heap.size+2≤U2.heap.size→I pre U2→El x vs U2→Chg (fun k=>k=w.heap.size∨k=w.heap.size+1) U1 U2 → body.wpIn (F.inRound l) (n-1-1) P (rY w.heap.size Y I Ix (pre++[x]) U2) a' U2) (fun _ _ _=>False)) { tmps:=(ps.zip vs).foldl (fun t (p,v)=>t.setIfInBounds p v) a.tmps,defers:=[] } U)(hdone:∀ W,w.heap.size+2≤W.heap.size→I out W→W.heap[w.heap.size]?=some (.deferred (some []))→Q .normal { a with defers:={ target:=.collected w.heap.size,args:=#[] }::a.defers } W)(hstop:∀ c pre W,w.heap.size+2≤W.heap.size→pre <+: out→Ix c pre W→W.heap[w.heap.size]?=some (.deferred (some []))→c.wpIn F n P Q { a with defers:={ target:=.collected w.heap.size,args:=#[] }::a.defers } W):(Code.rangeFunc g ps assign body).wpIn F n P Q a w:=by
 refine wpIn_rangeFunc fun fn hfn=>?_;rw[hro];obtain⟨rec,hrec⟩:∃ rec:LoopState→Option Code→Loop,rec=fun st pe=>{ state:=st,pending:=pe,fn,tmps:=a.tmps,params:=ps,assign,body,defers:=w.heap.size }:=⟨_,rfl⟩
 obtain⟨W1,hW1⟩:∃ W1,(w.alloc (.deferred (some []))).alloc (.loop (rec .ready none))=W1:=⟨_,rfl⟩
 obtain⟨hK1,hL1,hb1⟩:=mP w (.deferred (some [])) (.loop (rec .ready none));rw[hW1]at hK1 hL1 hb1;have hsz1:w.heap.size+2≤W1.heap.size:=by have:=(Array.getElem?_eq_some_iff.1 hL1).1;omega
 refine⟨w.heap.size+1,[{ target:=.collected w.heap.size,args:=#[] }],W1,{ target:=.fn (.func gf) lb,args:=#[.func (.yield (w.heap.size+1)) #[] #[]] },W1,gf,
  #[.func (.yield (w.heap.size+1)) #[] #[]]++lb,W1,?_,?_,?_,?_,fun _=>h1,?_⟩
 ·exact Iv
 ·simp only[resolve,hg]
  simp[go_sem]
 ·exact In
 ·simp[invoke,go_sem,eg]
 have xD:∀ k,X k→k≠w.heap.size∧k≠w.heap.size+1:=fun k hk=>by have:=hX k hk;omega
 have keep:∀ {U U':World} {o o':Obj},Chg X U U'→U.heap[w.heap.size+1]?=some o→U.heap[w.heap.size]?=some o'→U'.heap[w.heap.size+1]?=some o∧U'.heap[w.heap.size]?=some o' :=
  fun hc h h'=>⟨hc.at h fun hx=>(xD _ hx).2 rfl,hc.at h' fun hx=>(xD _ hx).1 rfl⟩
 refine(hseq W1 hb1 (w.heap.size+1)
  (fun pre U=>I pre U∧U.heap[w.heap.size+1]?=some (.loop (rec .ready none))∧U.heap[w.heap.size]?=some (.deferred (some [])))
  (fun pre U=>∃ c,Ix c pre U∧U.heap[w.heap.size+1]?=some (.loop (rec .done (some c)))∧U.heap[w.heap.size]?=some (.deferred (some [])))
  (fun pre U U' hs hc=>⟨hI _ _ _ hs.1 (hc.mono fun _ h=>.inl h),keep hc hs.2.1 hs.2.2⟩)
  (fun pre U U' ⟨c,hs,hl,hk⟩ hc=>⟨c,hIx _ _ _ _ hs (hc.mono fun _ h=>.inl h),keep hc hl hk⟩)
  ?_ ⟨hI _ _ _ h0 (DM hb1),hL1,hK1⟩).mono ?_
 ·rintro pre x vs U ⟨hi,hl,hk⟩ hel hpre
  have hy:=run_yield (P:=P) (args:=vs) hl (by rw[hrec];exact hps x vs U hel);rw[hrec]at hy;refine⟨fn,_,assign,body,hy,roundIn_of_wpIn hfn (wpIn_mono (hround _ pre x vs U (by have:=(Array.getElem?_eq_some_iff.1 hl).1;omega) hi hel hpre) ?_)⟩;clear hy;intro ea a' U1 hea
  cases ea with
  | normal=>?_
  | _=>exact hea
  obtain⟨hbel,hbody⟩:=hea;have c1:∀ {Z:Nat→Prop},Chg Z U U1:=fun {Z}=>DM hbel;replace hl:=c1.at (X:=fun _=>False) hl (fun h=>h);replace hk:=c1.at (X:=fun _=>False) hk (fun h=>h);replace hi:=hI _ _ _ hi c1;replace hel:=hEl _ _ _ _ hel c1;have hlt:=(Array.getElem?_eq_some_iff.1 hl).1;refine⟨_,run_beginRound hl (by rw[hrec]),?_⟩;obtain⟨U2,hU2⟩:∃ U2,U1.putObj (w.heap.size+1) (.loop { rec .ready none with state:=.busy })=U2:=⟨_,rfl⟩
  have hl2:U2.heap[w.heap.size+1]?=some (.loop { rec .ready none with state:=.busy }):=by rw[←hU2];exact World.putObj_heap_same hlt
  have hk2:U2.heap[w.heap.size]?=some (.deferred (some [])):=by rw[←hU2];exact(World.putObj_heap_other (by omega)).trans hk
  have c2:∀ {Z:Nat→Prop},Z (w.heap.size+1)→Chg Z U1 U2:=fun {Z} hz=>by rw[←hU2];exact Chg.putObj _ _ _ hz
  rw[hU2];refine wpIn_mono (hbody U2 (by have:=(Array.getElem?_eq_some_iff.1 hl2).1;omega) (hI _ _ _ hi (c2 (.inr (.inr rfl)))) (hEl _ _ _ _ hel (c2 (.inr rfl))) (c2 (.inr rfl))) ?_
  have fin:∀ (jump:Option Code) (U3:World),U3.heap[w.heap.size+1]?=some (.loop { rec .ready none with state:=.busy })→U3.heap[w.heap.size]?=some (.deferred (some [])) →
    (Instr.endRound (w.heap.size+1) jump).run P U3=.ok (.bool jump.isNone) (U3.putObj (w.heap.size+1) (.loop (rec (if jump.isNone then .ready else .done) jump))) ∧
    (U3.putObj (w.heap.size+1) (.loop (rec (if jump.isNone then .ready else .done) jump))).heap[w.heap.size+1]?=some (.loop (rec (if jump.isNone then .ready else .done) jump)) ∧
    (U3.putObj (w.heap.size+1) (.loop (rec (if jump.isNone then .ready else .done) jump))).heap[w.heap.size]?=some (.deferred (some [])):=fun jump U3 hl3 hk3=>by
   have:=run_endRound (P:=P) jump hl3;rw[hrec]at this⊢;exact⟨this,World.putObj_heap_same (Array.getElem?_eq_some_iff.1 hl3).1,(World.putObj_heap_other (by omega)).trans hk3⟩
  have stop:∀ (c:Code) (U3:World),Chg (fun k=>¬(k=w.heap.size∨k=w.heap.size+1)) U2 U3→Ix c (pre++[x]) U3→∃ v U4,(Instr.endRound (w.heap.size+1) (some c)).run P U3=.ok v U4 ∧
    ((Ending.returned v=.returned (.bool true)∧(I (pre++[x]) U4∧U4.heap[w.heap.size+1]?=some (.loop (rec .ready none))∧U4.heap[w.heap.size]?=some (.deferred (some [])))∧Chg (fun k=>¬Y k) U U4) ∨
     (Ending.returned v=.returned (.bool false)∧∃ c,Ix c (pre++[x]) U4∧U4.heap[w.heap.size+1]?=some (.loop (rec .done (some c)))∧U4.heap[w.heap.size]?=some (.deferred (some [])))):=fun c U3 hc hx=>by
   obtain⟨hr,hl4,hk4⟩:=fin (some c) U3 (hc.at hl2 fun h=>h (.inr rfl)) (hc.at hk2 fun h=>h (.inl rfl));exact⟨_,_,hr,.inr ⟨rfl,c,hIx _ _ _ _ hx (Chg.putObj _ _ _ (.inr (.inr rfl))),hl4,hk4⟩⟩
  rintro e a3 U3 hp
  cases e with
  | normal =>
   obtain⟨hc,hi3⟩:=hp;obtain⟨hr,hl4,hk4⟩:=fin none U3 (hc.at hl2 fun h=>h (.inr (.inr rfl))) (hc.at hk2 fun h=>h (.inr (.inl rfl)));have yD:¬Y (w.heap.size+1):=fun h=>by have:=hY _ h;omega
   exact⟨_,_,hr,.inl ⟨rfl,⟨hI _ _ _ hi3 (Chg.putObj _ _ _ (.inr (.inr rfl))),hl4,hk4⟩,
    (((c1.trans (c2 yD)).trans (hc.mono fun k hk hy=>hk (.inl hy))).trans (Chg.putObj _ _ _ yD))⟩⟩
  | ret=>exact stop .ret U3 hp.1 hp.2
  | exit id=>exact stop (.exit id) U3 hp.1 hp.2
  | goto t=>exact stop (.goto t) U3 hp.1 hp.2
  | panic ch=>exact hp.elim
  | outgrown=>exact hp.elim
 ·rintro e W2 ⟨⟨v,rfl⟩,(⟨hi,hl,hk⟩|⟨pre,hpre,c,hi,hl,hk⟩)⟩
  ·have hlt:=(Array.getElem?_eq_some_iff.1 hl).1
   exact⟨none,_,by have:=run_endLoop (P:=P) hl (by rw[hrec];simp);rw[hrec]at this;exact this,hdone _ (by simp;omega) (hI _ _ _ hi (Chg.putObj _ _ _ (.inr (.inr rfl)))) ((World.putObj_heap_other (by omega)).trans hk)⟩
  ·have hlt:=(Array.getElem?_eq_some_iff.1 hl).1
   exact⟨some c,_,by have:=run_endLoop (P:=P) hl (by rw[hrec];simp);rw[hrec]at this;exact this,hstop c pre _ (by simp;omega) hpre (hIx _ _ _ _ hi (Chg.putObj _ _ _ (.inr (.inr rfl)))) ((World.putObj_heap_other (by omega)).trans hk)⟩
theorem rd {g:Operand}{ps:Array Tmp}{assign body:Code}{Q:Exit→Act→World→Prop}{a:Act}{w:World}{D:Nat}(hD:w.heap.size=D){gf:Nat}{lb:Array Value}(hg:a.eval g=.func (.func gf) #[] lb)(eg:∀ args w,(callFunc gf args).run P w=.ok (.enter gf args) w){X Y:Nat→Prop}{El:α→Array Value→World→Prop}{out:List α}(hX:∀ k,X k→k<D)(hY:∀ k,Y k→k<D)(hseq:∀ W,Below D w W→tJ Fence.wide 2 P gf lb X Y El out W)(hps:∀ x vs U,El x vs U→vs.size=ps.size)(hEl:∀ x vs U U',El x vs U→Chg (fun k=>k=D∨k=D+1) U U'→El x vs U')(I:List α→World→Prop)(Ix:Code→List α→World→Prop)(hI:∀ pre U U',I pre U→Chg (fun k=>X k∨k=D∨k=D+1) U U'→I pre U')(hIx:∀ c pre U U',Ix c pre U→Chg (fun k=>X k∨k=D∨k=D+1) U U'→Ix c pre U')(h0:I [] w)(hround:∀ (l:Nat) (pre:List α) (x:α) (vs:Array Value) (U:World),D+2≤U.heap.size→I pre U→El x vs U→pre++[x] <+: out → assign.wpIn (Fence.wide.inRound l) 1 P (Exit.then (fun a' U1=>Below U.heap.size U U1∧∀ U2,D+2≤U2.heap.size→I pre U2→El x vs U2→Chg (fun k=>k=D∨k=D+1) U1 U2 → body.wpIn (Fence.wide.inRound l) 1 P (rY D Y I Ix (pre++[x]) U2) a' U2) (fun _ _ _=>False)) { tmps:=(ps.zip vs).foldl (fun t (p,v)=>t.setIfInBounds p v) a.tmps,defers:=[] } U)(hdone:∀ W,D+2≤W.heap.size→I out W→W.heap[D]?=some (.deferred (some []))→Q .normal { a with defers:={ target:=.collected D,args:=#[] }::a.defers } W)(hstop:∀ c pre W,D+2≤W.heap.size→pre <+: out→Ix c pre W→W.heap[D]?=some (.deferred (some []))→c.wp P Q { a with defers:={ target:=.collected D,args:=#[] }::a.defers } W):(Code.rangeFunc g ps assign body).wp P Q a w:=by
 subst hD;exact(wpIn_wide (n:=3)).1 (tN rfl (by decide) hg trivial eg hX hY hseq hps hEl I Ix hI hIx h0 hround hdone fun c pre W h1 h2 h3 h4=>wpIn_wide.2 (hstop c pre W h1 h2 h3 h4))
end
end
section
section
variable {P:Program}
theorem cE {X:Nat→Prop}{w w':World}{bZ:Nat}{e:TypeId}{size:Nat}{v:Value}{n:Nat}{xs:List Value}(h:w.ownsRow bZ e size v n xs)(hc:Chg X w w')(hX:∀ k,bZ≤k→¬X k):w'.ownsRow bZ e size v n xs:=by
 obtain⟨h1,h2⟩:=h;refine⟨h1,?_⟩;rcases h2 with h2|⟨g,cap,cur,hv,hg,hh,r⟩
 ·exact .inl h2
 ·exact .inr ⟨g,cap,cur,hv,hg,hc.at hh (hX g hg),r⟩
theorem p9 {F:Fence}{k:Nat}{ops:Array Oper}{rest:List Oper}{o:Oper}{a:Act}{Q:Exit→Act→World→Prop}(wr:World)(news:List Value)(e:TypeId)(hgd:o.guard=none)(s x:Operand)(t:TypeId)(ho:o.op=.call { callee:=.builtin .append,args:=#[s,x],argTypes:=#[t,t] })(bZ:Nat)(z:Value)(size bytes:Nat)(ht:P.underlying t=some (.slice e))(hinfo:(P.info? e).map (fun i=>(i.zero,i.size,i.bytes))=some (some z,size,bytes))(hzs:z.cells.size=size)(hsz:0<size)(v:Value)(n:Nat)(xs:List Value)(hs:a.eval s=v)(hown:wr.ownsRow bZ e size v n xs)(c:Nat)(hx:a.eval x=.slice (some ⟨wr.heap.size,0,none⟩) 1 c)(hl:news.length=size)(h1:∀ u∈news,u.oneCell'=true)(hbytes:(n+1)*bytes≤140737488355328)(hby:0<bytes)(hbase:bZ≤wr.heap.size)(h:∀ g cap w',w'.ownsRow bZ e size (.slice (some ⟨g,0,none⟩) (n+1) cap) (n+1) (xs++news)→Below bZ wr w'→wpListIn F k P ops Q rest (a.put o.dst (.slice (some ⟨g,0,none⟩) (n+1) cap)) w'):wpListIn F k P ops Q (o::rest) a (wr.alloc (.cells news.toArray e)):=by
 obtain⟨i,hi,hz,hi1,hi2⟩:=info_parts hinfo;have hn:n+1≤(n+1)*bytes:=Nat.le_mul_of_pos_right _ hby;refine wpListIn_append_own _ hgd s x t ho bZ e i z size bytes ht hi hz hi1 hi2 hzs hsz v n xs hs (hown.alloc _) ⟨wr.heap.size,0,none⟩ 1 c news hx (by simpa using hl) ?_ h1 (by unfold maxLen;omega) hbytes (by simp;omega) ?_
 ·exact Hj
 ·intro v' w' h2 h3 _
  obtain⟨g,cap,rfl⟩:=ownsRow_succ h2;exact Ij
def ew (s bZ:Nat)(t e:TypeId)(size:Nat)(U:World)(n:Nat)(cells:List Value):Prop:=∃ v,U.heap[s]?=some (.cells #[v] t (0,0))∧U.ownsRow bZ e size v n cells
theorem ew.chg {s bZ:Nat}{t e:TypeId}{size:Nat}{U U':World}{n:Nat}{cells:List Value}{X:Nat→Prop}(h:ew s bZ t e size U n cells)(hc:Chg X U U')(hX:∀ k,X k→k≠s∧k<bZ):ew s bZ t e size U' n cells:=by
 obtain⟨v,h1,h2⟩:=h;exact⟨v,hc.at h1 fun hx=>(hX s hx).1 rfl,cE h2 hc fun k hk hx=>by have:=(hX k hx).2;omega⟩
theorem ew.stored {s bZ g cap:Nat}{t e:TypeId}{size:Nat}{U W:World}{v:Value}{n:Nat}{cells:List Value}(hsb:s<bZ)(hs:U.heap[s]?=some (.cells #[v] t (0,0)))(hB:Below bZ U W)(hown:W.ownsRow bZ e size (.slice (some ⟨g,0,none⟩) n cap) n cells):ew s bZ t e size (W.setCell ⟨s,0,none⟩ (.slice (some ⟨g,0,none⟩) n cap)) n cells∧Chg (fun k=>k=s∨bZ≤k) U (W.setCell ⟨s,0,none⟩ (.slice (some ⟨g,0,none⟩) n cap)) :=
 ⟨⟨_,one_setCell (v:=v) ((hB.block s hsb).trans hs),ownsRow_setCell_below hown hsb _⟩,(DZ hB fun k hk=>.inr hk).trans (Chg.setCell _ _ _ (.inl rfl))⟩
def iP (n:Nat)(cells:List Value):aJ Bel:=⟨Option Addr×Nat,fun x=>.slice x.1 n x.2,fun x=>some fun w=>aZ w (.slice x.1 n x.2) n cells,fun _ _ h _ _ hφ hB=>by cases h;exact aZ.below hφ hB⟩
@[go_sem] theorem Co (n:Nat) (cells:List Value) (a:Option Addr) (c:Nat):(iP n cells).val (a,c)=.slice a n c:=rfl
theorem lI {w':World}{G:Value→World→Prop}{n:Nat}{cells:List Value}{cs:Array Value}{e:TypeId}(hG:∀ x w'',Bel w' w''→(∀ φ,(iP n cells).fact x=some φ→φ w'')→G ((iP n cells).val x) w'')(hcs:cs=cells.toArray):G (.slice (some ⟨w'.heap.size,0,none⟩) n n) (w'.alloc (.cells cs e)):=by
 subst hcs;exact hG (some ⟨w'.heap.size,0,none⟩,n) _ (af w' _) (fun φ h=>by cases h;exact aZ.new w' cells n e n)
theorem db {f:FuncId}{fn:Func}{c:Code}{args:Array Value}{w:World}{R:Ending→World→Prop}(hf:P.funcs[f]?=some fn)(hb:fn.body=some c)(h:c.wp P (bodyPostM Fence.wide 1 P fn R) { tmps:=args++Array.replicate (fn.ntmps-args.size) undef,defers:=[] } w):Calls P f args w R :=
 (callsIn_wide (n:=1)).1 (callsIn_of_wp_marks (F:=Fence.wide) hf hb trivial (wpIn_wide.2 h))
theorem gl {fn:Func}{R:Ending→World→Prop}{a:Act}{w:World}{D:Nat}{v:Value}(hd:a.defers=[{ target:=.collected D,args:=#[] }])(hK:w.heap[D]?=some (.deferred (some [])))(hr:(results fn a.tmps).run P (w.putObj D (.deferred none))=.ok v (w.putObj D (.deferred none)))(hR:R (.returned v) (w.putObj D (.deferred none))):bodyPostM Fence.wide 1 P fn R .ret a w:=by
 unfold bodyPostM;simp only[hd];exact⟨by simp,.inl ⟨_,_,rfl,run_takeDeferred hK,v,hr,hR⟩⟩
theorem uL {fn:Func}{R:Ending→World→Prop}{a:Act}{w:World}{v:Value}(hd:a.defers=[])(hr:(results fn a.tmps).run P w=.ok v w)(hR:R (.returned v) w):bodyPostM Fence.wide 1 P fn R .ret a w:=by
 unfold bodyPostM;simp only[hd];exact⟨v,hr,hR⟩
end
end
section
def qI (md:Region.Mode)(ops:Array Oper):Bool :=
 (List.range ops.size).all fun i=>match ops[i]? with
  | some o=>o.after.all fun e=>!Region.binds md e||decide (e.on<i)
  | none=>true
def lk (P:Program)(md:Region.Mode)(ops:Array Oper)(I:Array Bool→Act→World→Prop)(Q:Exit→Act→World→Prop):Nat→List Oper→Prop
 | _,[]=>True
 | k,o::rest=>(∀ listed a w,I listed a w→listed.getD k true=false→(∀ e∈o.after,Region.binds md e=true→listed.getD e.on false=true) →
   (if Region.wanted o (yielded ops a.tmps)=true then o.wp P a w (fun a' w'=>I (listed.setIfInBounds k true) a' w') Q else I (listed.setIfInBounds k true) (a.put o.dst undef) w))∧lk P md ops I Q (k+1) rest
section
variable {P:Program}{md:Region.Mode}{ops:Array Oper}{I:Array Bool→Act→World→Prop}{Q:Exit→Act→World→Prop}
theorem mC:∀ (l:List Oper) (k i:Nat) (o:Oper),lk P md ops I Q k l→l[i]?=some o → ∀ listed a w,I listed a w→listed.getD (k+i) true=false→(∀ e∈o.after,Region.binds md e=true→listed.getD e.on false=true) → (if Region.wanted o (yielded ops a.tmps)=true then o.wp P a w (fun a' w'=>I (listed.setIfInBounds (k+i) true) a' w') Q else I (listed.setIfInBounds (k+i) true) (a.put o.dst undef) w)
 | [],_,_,_,_,h=>by simp at h
 | o::l,k,0,o',hs,h=>by
  simp only[List.getElem?_cons_zero,Option.some.injEq]at h;subst h;exact hs.1
 | o::l,k,i+1,o',hs,h=>by
  have:=mC l (k+1) i o' hs.2 (by simpa using h);rw[show k+(i+1)=k+1+i by omega];exact this
theorem oE (hl:qI md ops=true){listed:Array Bool}(hs:listed.size=ops.size)(hr:Region.ready md ops listed=[]):∀ n i,i<n→i<ops.size→listed.getD i false=true:=by
 intro n
 induction n with
 | zero=>intro i h;omega
 | succ n ih =>
  intro i hi his;have ho:ops[i]?=some ops[i]:=Array.getElem?_eq_getElem his;have h1:=List.all_eq_true.1 hl i (List.mem_range.2 his);simp only[ho,Array.all_eq_true_iff_forall_mem]at h1
  cases hb:listed.getD i true with
  | true =>
   have hx:i<listed.size:=by omega
   simp only[Array.getD_eq_getD_getElem?,Array.getElem?_eq_getElem hx,Option.getD_some]at hb⊢;exact hb
  | false =>
   have:i∈Region.ready md ops listed:=mem_ready.2 ⟨hb,_,ho,fun e he hbi=>by
    have h2:=h1 e he;rw[hbi]at h2;have h3:e.on<i:=by simpa using h2
    exact ih e.on (by omega) (by omega)⟩
   rw[hr]at this
   cases this
theorem jJ:∀ (l:List Bool) (i:Nat),l[i]?=some false→(l.set i true).count false+1=l.count false
 | [],_,h=>by simp at h
 | b::l,0,h=>by simp at h;subst h;simp
 | b::l,i+1,h=>by
  have:=jJ l i (by simpa using h)
  cases b<;>simp[List.set_cons_succ,List.count_cons]<;>omega
theorem wF (hlex:qI md ops=true)(hend:∀ listed a w,I listed a w→listed.size=ops.size→(∀ i,i<ops.size→listed.getD i false=true)→Q .normal a w)(hstep:lk P md ops I Q 0 ops.toList):∀ (fuel:Nat) (listed:Array Bool) (a:Act) (w:World),listed.size=ops.size→listed.toList.count false≤fuel→I listed a w→wpAny P md ops Q fuel listed a w:=by
 intro fuel
 induction fuel with
 | zero =>
  intro listed a w hs hc hI
  have hr:Region.ready md ops listed=[]:=by
   rw[List.eq_nil_iff_forall_not_mem];intro j hj;obtain⟨h1,o,h2,_⟩:=mem_ready.1 hj;have hjs:j<listed.size:=by rw[hs];exact(Array.getElem?_eq_some_iff.1 h2).1
   have:false∈listed.toList:=by
    simp only[Array.getD_eq_getD_getElem?,Array.getElem?_eq_getElem hjs,Option.getD_some]at h1;rw[←h1];simp
   have:=List.count_pos_iff.2 this;omega
  exact⟨hr,hend listed a w hI hs fun i hi=>oE hlex hs hr (i+1) i (by omega) hi⟩
 | succ fuel ih =>
  intro listed a w hs hc hI;refine⟨fun hr=>hend listed a w hI hs fun i hi=>oE hlex hs hr (i+1) i (by omega) hi,fun i hi=>?_⟩;obtain⟨h1,o,h2,h3⟩:=mem_ready.1 hi;have his:i<listed.size:=by rw[hs];exact(Array.getElem?_eq_some_iff.1 h2).1
  have hget:listed.toList[i]?=some false:=by
   simp only[Array.getD_eq_getD_getElem?,Array.getElem?_eq_getElem his,Option.getD_some]at h1;rw[Array.getElem?_toList,Array.getElem?_eq_getElem his,h1]
  have hcc:=jJ _ _ hget
  have hnext:∀ a' w',I (listed.setIfInBounds i true) a' w'→wpAny P md ops Q fuel (listed.setIfInBounds i true) a' w':=fun a' w' hI' =>
   ih _ a' w' (by simpa using hs) (by rw[Array.toList_setIfInBounds];omega) hI'
  have hk:=mC ops.toList 0 i o hstep (by simpa using h2) listed a w hI (by simpa using h1) h3;rw[Ek]at hk;unfold wpOp;simp only[h2]
  split
  ·rename_i hw
   rw[if_pos hw]at hk;exact .inl (Oper.wp_mono hnext hk)
  ·rename_i hw
   rw[if_neg hw]at hk;exact hnext _ _ hk
theorem ny {id:Nat}{a:Act}{w:World}{l:List Oper}(I:Array Bool→Act→World→Prop)(hm:P.follows .mixedOrders=true)(hlex:qI .any l.toArray=true)(h0:I (Array.replicate l.length false) a w.drew)(hend:∀ listed a w,I listed a w→listed.size=l.length→(∀ i,i<l.length→listed.getD i false=true)→Q .normal a w)(hstep:lk P .any l.toArray I Q 0 l):(Code.region id l.toArray true).wp P Q a w :=
 wp_region_any hm (wF hlex (fun listed a w h hs hall=>hend listed a w h (by simpa using hs) (fun i hi=>hall i (by simpa using hi))) (by simpa using hstep) _ _ _ _ (by simp) (by simp) (by simpa using h0))
end
end
section
section
variable {F:Fence}{n:Nat}{P:Program}{α:Type}
def qe (F:Fence)(n:Nat)(P:Program)(gf:Nat)(lb:Array Value)(Xr Yr:World→World→Prop)(Fin:World→Prop)(El:α→Array Value→World→Prop)(out:List α)(W:World):Prop :=
 ∀ (l:Nat) (J Jx:List α→World→Prop),
  (∀ pre U U',J pre U→Xr U U'→J pre U')→(∀ pre U U',Jx pre U→Xr U U'→Jx pre U') →
  (∀ pre x vs U,J pre U→El x vs U→pre++[x] <+: out→YieldAt F (n-1) P l vs U fun e U' =>
   (e=.returned (.bool true)∧J (pre++[x]) U'∧Yr U U')∨(e=.returned (.bool false)∧Jx (pre++[x]) U')) →
  J [] W→CallsIn F n P gf (#[.func (.yield l) #[] #[]]++lb) W fun e W'=>(∃ v,e=.returned v)∧((J out W'∧Fin W')∨∃ pre,pre <+: out∧Jx pre W')
def ee (D:Nat)(U U':World):Prop:=∀ k,k=D∨k=D+1→k<U.heap.size→U'.heap[k]?=U.heap[k]?
theorem ee.at {D:Nat}{U U':World}(h:ee D U U'){k:Nat}{o:Obj}(hk:k=D∨k=D+1)(ho:U.heap[k]?=some o):U'.heap[k]?=some o :=
 (h k hk (Array.getElem?_eq_some_iff.1 ho).1).trans ho
theorem DS {D:Nat}{X:Nat→Prop}{U U':World}(h:Chg X U U')(hX:∀ k,k=D∨k=D+1→¬X k):ee D U U':=fun k hk hlt=>h.block k hlt (hX k hk)
def jU (D:Nat)(Yr:World→World→Prop)(I:List α→World→Prop)(Ix:Code→List α→World→Prop)(pre:List α)(U:World):Exit→Act→World→Prop
 | .normal,_,U'=>ee D U U'∧Yr U U'∧I pre U'
 | .ret,_,U'=>ee D U U'∧Ix .ret pre U'
 | .exit id,_,U'=>ee D U U'∧Ix (.exit id) pre U'
 | .goto t,_,U'=>ee D U U'∧Ix (.goto t) pre U'
 | .panic _,_,_=>False
 | .outgrown,_,_=>False
theorem G5 {T:Prop} (h:T:=by
 rintro pre x vs U ⟨hi,hl,hk⟩ hel hpre;have hy:=run_yield (P:=P) (args:=vs) hl (by rw[hrec];exact hps x vs U hel);rw[hrec]at hy;refine⟨fn,_,assign,body,hy,roundIn_of_wpIn hfn (wpIn_mono (hround _ pre x vs U hi hel hpre) ?_)⟩;clear hy;intro ea a' U1 hea
 cases ea with
 | normal=>?_
 | _=>exact hea
 obtain⟨hbel,hbody⟩:=hea;have c1:∀ {Z:Nat→Prop},Chg Z U U1:=fun {Z}=>DM hbel;replace hl:=c1.at (X:=fun _=>False) hl (fun h=>h);replace hk:=c1.at (X:=fun _=>False) hk (fun h=>h);replace hi:=hI _ _ _ hi c1;replace hel:=hEl _ _ _ _ hel c1;have hlt:=(Array.getElem?_eq_some_iff.1 hl).1;refine⟨_,run_beginRound hl (by rw[hrec]),?_⟩;obtain⟨U2,hU2⟩:∃ U2,U1.putObj (w.heap.size+1) (.loop { rec .ready none with state:=.busy })=U2:=⟨_,rfl⟩
 have hl2:U2.heap[w.heap.size+1]?=some (.loop { rec .ready none with state:=.busy }):=by rw[←hU2];exact World.putObj_heap_same hlt
 have hk2:U2.heap[w.heap.size]?=some (.deferred (some [])):=by rw[←hU2];exact(World.putObj_heap_other (by omega)).trans hk
 have c2:∀ {Z:Nat→Prop},Z (w.heap.size+1)→Chg Z U1 U2:=fun {Z} hz=>by rw[←hU2];exact Chg.putObj _ _ _ hz
 rw[hU2];refine wpIn_mono (hbody U2 (by have:=(Array.getElem?_eq_some_iff.1 hl2).1;omega) (hI _ _ _ hi (c2 (.inr rfl))) (hEl _ _ _ _ hel (c2 (.inr rfl))) (c2 (.inr rfl))) ?_
 have fin:∀ (jump:Option Code) (U3:World),U3.heap[w.heap.size+1]?=some (.loop { rec .ready none with state:=.busy })→U3.heap[w.heap.size]?=some (.deferred (some [])) →
   (Instr.endRound (w.heap.size+1) jump).run P U3=.ok (.bool jump.isNone) (U3.putObj (w.heap.size+1) (.loop (rec (if jump.isNone then .ready else .done) jump))) ∧
   (U3.putObj (w.heap.size+1) (.loop (rec (if jump.isNone then .ready else .done) jump))).heap[w.heap.size+1]?=some (.loop (rec (if jump.isNone then .ready else .done) jump)) ∧
   (U3.putObj (w.heap.size+1) (.loop (rec (if jump.isNone then .ready else .done) jump))).heap[w.heap.size]?=some (.deferred (some [])):=fun jump U3 hl3 hk3=>by
  have:=run_endRound (P:=P) jump hl3;rw[hrec]at this⊢;exact⟨this,World.putObj_heap_same (Array.getElem?_eq_some_iff.1 hl3).1,(World.putObj_heap_other (by omega)).trans hk3⟩
 have stop:∀ (c:Code) (U3:World),ee w.heap.size U2 U3→Ix c (pre++[x]) U3→∃ v U4,(Instr.endRound (w.heap.size+1) (some c)).run P U3=.ok v U4 ∧
   ((Ending.returned v=.returned (.bool true)∧(I (pre++[x]) U4∧U4.heap[w.heap.size+1]?=some (.loop (rec .ready none))∧U4.heap[w.heap.size]?=some (.deferred (some [])))∧Yr U U4) ∨
    (Ending.returned v=.returned (.bool false)∧∃ c,Ix c (pre++[x]) U4∧U4.heap[w.heap.size+1]?=some (.loop (rec .done (some c)))∧U4.heap[w.heap.size]?=some (.deferred (some [])))):=fun c U3 hc hx=>by
  obtain⟨hr,hl4,hk4⟩:=fin (some c) U3 (hc.at (.inr rfl) hl2) (hc.at (.inl rfl) hk2);exact⟨_,_,hr,.inr ⟨rfl,c,hIx _ _ _ _ hx (Chg.putObj _ _ _ (.inr rfl)),hl4,hk4⟩⟩
 rintro e a3 U3 hp
 cases e with
 | normal =>
  obtain⟨hc,hy3,hi3⟩:=hp;obtain⟨hr,hl4,hk4⟩:=fin none U3 (hc.at (.inr rfl) hl2) (hc.at (.inl rfl) hk2)
  exact⟨_,_,hr,.inl ⟨rfl,⟨hI _ _ _ hi3 (Chg.putObj _ _ _ (.inr rfl)),hl4,hk4⟩,
   hY _ _ _ _ (c1.trans (c2 (.inr rfl))) hy3 (Chg.putObj _ _ _ (.inr rfl))⟩⟩
 | ret=>exact stop .ret U3 hp.1 hp.2
 | exit id=>exact stop (.exit id) U3 hp.1 hp.2
 | goto t=>exact stop (.goto t) U3 hp.1 hp.2
 | panic ch=>exact hp.elim
 | outgrown=>exact hp.elim
):T:=h
theorem Hb {T:Prop} (h:T:=by
 rintro e W2 ⟨⟨v,rfl⟩,(⟨⟨hi,hl,hk⟩,hf⟩|⟨pre,hpre,c,hi,hl,hk⟩)⟩
 ·have hlt:=(Array.getElem?_eq_some_iff.1 hl).1
  exact⟨none,_,by have:=run_endLoop (P:=P) hl (by rw[hrec];simp);rw[hrec]at this;exact this,hdone _ (by simp;omega) (hI _ _ _ hi (Chg.putObj _ _ _ (.inr rfl))) (hFin _ _ hf (Chg.putObj _ _ _ (.inr rfl))) ((World.putObj_heap_other (by omega)).trans hk)⟩
 ·have hlt:=(Array.getElem?_eq_some_iff.1 hl).1
  exact⟨some c,_,by have:=run_endLoop (P:=P) hl (by rw[hrec];simp);rw[hrec]at this;exact this,hstop c pre _ (by simp;omega) hpre (hIx _ _ _ _ hi (Chg.putObj _ _ _ (.inr rfl))) ((World.putObj_heap_other (by omega)).trans hk)⟩
):T:=h
theorem rh {g:Operand}{ps:Array Tmp}{assign body:Code}{Q:Exit→Act→World→Prop}{a:Act}{w:World}(hro:F.round=none)(h1:1≤n){gf:Nat}{lb:Array Value}(hg:a.eval g=.func (.func gf) #[] lb)(hFg:F.fn gf)(eg:∀ args w,(callFunc gf args).run P w=.ok (.enter gf args) w){Xr Yr:World→World→Prop}{Fin:World→Prop}{El:α→Array Value→World→Prop}{out:List α}(hX:∀ U U',Xr U U'→ee w.heap.size U U')(hY:∀ a b c d,Chg (fun k=>k=w.heap.size∨k=w.heap.size+1) a b→Yr b c→Chg (fun k=>k=w.heap.size∨k=w.heap.size+1) c d→Yr a d)(hFin:∀ U U',Fin U→Chg (fun k=>k=w.heap.size∨k=w.heap.size+1) U U'→Fin U')(hseq:∀ W,Below w.heap.size w W→qe F (n-1) P gf lb Xr Yr Fin El out W)(hps:∀ x vs U,El x vs U→vs.size=ps.size)(hEl:∀ x vs U U',El x vs U→Chg (fun k=>k=w.heap.size∨k=w.heap.size+1) U U'→El x vs U')(I:List α→World→Prop)(Ix:Code→List α→World→Prop)(hIX:∀ pre U U',I pre U→Xr U U'→I pre U')(hI:∀ pre U U',I pre U→Chg (fun k=>k=w.heap.size∨k=w.heap.size+1) U U'→I pre U')(hIxX:∀ c pre U U',Ix c pre U→Xr U U'→Ix c pre U')(hIx:∀ c pre U U',Ix c pre U→Chg (fun k=>k=w.heap.size∨k=w.heap.size+1) U U'→Ix c pre U')(h0:I [] w)(hround:∀ (l:Nat) (pre:List α) (x:α) (vs:Array Value) (U:World),I pre U→El x vs U→pre++[x] <+: out → assign.wpIn (F.inRound l) (n-1-1) P (Exit.then (fun a' U1=>Below U.heap.size U U1∧∀ U2,w.heap.size+2≤U2.heap.size→I pre U2→El x vs U2→Chg (fun k=>k=w.heap.size∨k=w.heap.size+1) U1 U2 → body.wpIn (F.inRound l) (n-1-1) P (jU w.heap.size Yr I Ix (pre++[x]) U2) a' U2) (fun _ _ _=>False)) { tmps:=(ps.zip vs).foldl (fun t (p,v)=>t.setIfInBounds p v) a.tmps,defers:=[] } U)(hdone:∀ W,w.heap.size+2≤W.heap.size→I out W→Fin W→W.heap[w.heap.size]?=some (.deferred (some []))→Q .normal { a with defers:={ target:=.collected w.heap.size,args:=#[] }::a.defers } W)(hstop:∀ c pre W,w.heap.size+2≤W.heap.size→pre <+: out→Ix c pre W→W.heap[w.heap.size]?=some (.deferred (some []))→c.wpIn F n P Q { a with defers:={ target:=.collected w.heap.size,args:=#[] }::a.defers } W):(Code.rangeFunc g ps assign body).wpIn F n P Q a w:=by
 refine wpIn_rangeFunc fun fn hfn=>?_;rw[hro];obtain⟨rec,hrec⟩:∃ rec:LoopState→Option Code→Loop,rec=fun st pe=>{ state:=st,pending:=pe,fn,tmps:=a.tmps,params:=ps,assign,body,defers:=w.heap.size }:=⟨_,rfl⟩
 obtain⟨W1,hW1⟩:∃ W1,(w.alloc (.deferred (some []))).alloc (.loop (rec .ready none))=W1:=⟨_,rfl⟩
 obtain⟨hK1,hL1,hb1⟩:=mP w (.deferred (some [])) (.loop (rec .ready none));rw[hW1]at hK1 hL1 hb1;have hsz1:w.heap.size+2≤W1.heap.size:=by have:=(Array.getElem?_eq_some_iff.1 hL1).1;omega
 refine⟨w.heap.size+1,[{ target:=.collected w.heap.size,args:=#[] }],W1,{ target:=.fn (.func gf) lb,args:=#[.func (.yield (w.heap.size+1)) #[] #[]] },W1,gf,
  #[.func (.yield (w.heap.size+1)) #[] #[]]++lb,W1,?_,?_,?_,?_,fun _=>h1,?_⟩
 ·exact Iv
 ·simp only[resolve,hg]
  simp[go_sem]
 ·exact In
 ·simp[invoke,go_sem,eg]
 have keep:∀ {U U':World} {o o':Obj},Xr U U'→U.heap[w.heap.size+1]?=some o→U.heap[w.heap.size]?=some o'→U'.heap[w.heap.size+1]?=some o∧U'.heap[w.heap.size]?=some o' :=
  fun hc h h'=>⟨(hX _ _ hc).at (.inr rfl) h,(hX _ _ hc).at (.inl rfl) h'⟩
 refine(hseq W1 hb1 (w.heap.size+1)
  (fun pre U=>I pre U∧U.heap[w.heap.size+1]?=some (.loop (rec .ready none))∧U.heap[w.heap.size]?=some (.deferred (some [])))
  (fun pre U=>∃ c,Ix c pre U∧U.heap[w.heap.size+1]?=some (.loop (rec .done (some c)))∧U.heap[w.heap.size]?=some (.deferred (some [])))
  (fun pre U U' hs hc=>⟨hIX _ _ _ hs.1 hc,keep hc hs.2.1 hs.2.2⟩)
  (fun pre U U' ⟨c,hs,hl,hk⟩ hc=>⟨c,hIxX _ _ _ _ hs hc,keep hc hl hk⟩)
  ?_ ⟨hI _ _ _ h0 (DM hb1),hL1,hK1⟩).mono ?_
 ·exact G5
 ·exact Hb
theorem oY {g:Operand}{ps:Array Tmp}{assign body:Code}{Q:Exit→Act→World→Prop}{a:Act}{w:World}{D:Nat}(hD:w.heap.size=D){gf:Nat}{lb:Array Value}(hg:a.eval g=.func (.func gf) #[] lb)(eg:∀ args w,(callFunc gf args).run P w=.ok (.enter gf args) w){Xr Yr:World→World→Prop}{Fin:World→Prop}{El:α→Array Value→World→Prop}{out:List α}(hX:∀ U U',Xr U U'→ee D U U')(hY:∀ a b c d,Chg (fun k=>k=D∨k=D+1) a b→Yr b c→Chg (fun k=>k=D∨k=D+1) c d→Yr a d)(hFin:∀ U U',Fin U→Chg (fun k=>k=D∨k=D+1) U U'→Fin U')(hseq:∀ W,Below D w W→qe Fence.wide 2 P gf lb Xr Yr Fin El out W)(hps:∀ x vs U,El x vs U→vs.size=ps.size)(hEl:∀ x vs U U',El x vs U→Chg (fun k=>k=D∨k=D+1) U U'→El x vs U')(I:List α→World→Prop)(Ix:Code→List α→World→Prop)(hIX:∀ pre U U',I pre U→Xr U U'→I pre U')(hI:∀ pre U U',I pre U→Chg (fun k=>k=D∨k=D+1) U U'→I pre U')(hIxX:∀ c pre U U',Ix c pre U→Xr U U'→Ix c pre U')(hIx:∀ c pre U U',Ix c pre U→Chg (fun k=>k=D∨k=D+1) U U'→Ix c pre U')(h0:I [] w)(hround:∀ (l:Nat) (pre:List α) (x:α) (vs:Array Value) (U:World),I pre U→El x vs U→pre++[x] <+: out → assign.wpIn (Fence.wide.inRound l) 1 P (Exit.then (fun a' U1=>Below U.heap.size U U1∧∀ U2,D+2≤U2.heap.size→I pre U2→El x vs U2→Chg (fun k=>k=D∨k=D+1) U1 U2 → body.wpIn (Fence.wide.inRound l) 1 P (jU D Yr I Ix (pre++[x]) U2) a' U2) (fun _ _ _=>False)) { tmps:=(ps.zip vs).foldl (fun t (p,v)=>t.setIfInBounds p v) a.tmps,defers:=[] } U)(hdone:∀ W,D+2≤W.heap.size→I out W→Fin W→W.heap[D]?=some (.deferred (some []))→Q .normal { a with defers:={ target:=.collected D,args:=#[] }::a.defers } W)(hstop:∀ c pre W,D+2≤W.heap.size→pre <+: out→Ix c pre W→W.heap[D]?=some (.deferred (some []))→c.wp P Q { a with defers:={ target:=.collected D,args:=#[] }::a.defers } W):(Code.rangeFunc g ps assign body).wp P Q a w:=by
 subst hD;exact(wpIn_wide (n:=3)).1 (rh rfl (by decide) hg trivial eg hX hY hFin hseq hps hEl I Ix hIX hI hIxX hIx h0 hround hdone fun c pre W h1 h2 h3 h4=>wpIn_wide.2 (hstop c pre W h1 h2 h3 h4))
end
end
section


end
end Go.Proofs.YtehllcbnheicoaaGreatDoor
namespace Go.Proofs.YtehllcbnheicoaaGreatDoor.Oct
end Go.Proofs.YtehllcbnheicoaaGreatDoor.Oct
namespace Go.Proofs.YtehllcbnheicoaaGreatDoor.Oct
def text (l:List UInt8):List UInt8×Int:=if l.length≤65535 then (num l.length 2++l,0) else ([],5)
def texts:List (List UInt8)→List UInt8
 | []=>[]
 | l::r=>num l.length 2++l++texts r
def DB (r:List (List UInt8)):Bool:=r.all fun l=>decide (l.length≤65535)
def row (r:List (List UInt8)):List UInt8×Int :=
 if r.length≤65535 then if DB r then (num r.length 2++texts r,0) else ([],5) else ([],5)
end Go.Proofs.YtehllcbnheicoaaGreatDoor.Oct
namespace Go.Proofs.YtehllcbnheicoaaGreatDoor
open Go.RowKit Oct
section

end
