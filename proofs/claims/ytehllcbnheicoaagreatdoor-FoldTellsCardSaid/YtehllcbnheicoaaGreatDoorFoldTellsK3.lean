/- Lemmas for FoldTells, part 3: walks of the functions that it reaches, and the plain laws behind them. -/
import Derived.RangeFuncNested
import Derived.RangeFuncBound
import Derived.RangeFuncCalls
import Derived.RangeFuncLeaves
import Derived.Shelf.Abstract
import Derived.Laws.BitsAllLaws
import Derived.Deep.WholeRow
import Derived.Deep.MidRow
import Derived.Test.YtehllcbnheicoaaGreatDoorFoldTellsK1
set_option linter.unusedSimpArgs false
set_option linter.unusedVariables false
set_option maxRecDepth 100000
set_option maxHeartbeats 16000000
namespace Go.Proofs.YtehllcbnheicoaaGreatDoor
open Go.RowKit
structure Chg (X : Nat → Prop) (w w' : World) : Prop where
 os : w'.os = w.os
 tape : w'.tape = w.tape
 output : w'.output = w.output
 size : w.heap.size ≤ w'.heap.size
 block : ∀ k,k < w.heap.size → ¬ X k → w'.heap[k]? = w.heap[k]?
theorem Chg.refl (X : Nat → Prop) (w : World) : Chg X w w:=⟨rfl,rfl,rfl,Nat.le_refl _,fun _ _ _ => rfl⟩
theorem Chg.trans {X : Nat → Prop} {a b c : World} (h : Chg X a b) (k : Chg X b c) : Chg X a c :=
 ⟨k.os.trans h.os,k.tape.trans h.tape,k.output.trans h.output,Nat.le_trans h.size k.size,fun i hi hx => (k.block i (Nat.lt_of_lt_of_le hi h.size) hx).trans (h.block i hi hx)⟩
theorem Chg.mono {X X' : Nat → Prop} {w w' : World} (h : Chg X w w') (hx : ∀ k,X k → X' k) : Chg X' w w':=⟨h.os,h.tape,h.output,h.size,fun k hk hn => h.block k hk fun hxk => hn (hx k hxk)⟩
theorem Chg.of_below {X : Nat → Prop} {w w' : World} (h : Below w.heap.size w w') : Chg X w w':=⟨h.os,h.tape,h.output,h.size,fun k hk _ => h.block k hk⟩
theorem Chg.of_base {X : Nat → Prop} {B : Nat} {w w' : World} (h : Below B w w') (hX : ∀ k,B ≤ k → X k) : Chg X w w' :=
 ⟨h.os,h.tape,h.output,h.size,fun k hk hn => h.block k (Nat.lt_of_not_le fun hb => hn (hX k hb))⟩
theorem Chg.below {X : Nat → Prop} {B : Nat} {w w' : World} (h : Chg X w w') (hX : ∀ k,X k → B ≤ k) (hB : B ≤ w.heap.size) : Below B w w' :=
 ⟨h.os,h.tape,h.output,h.size,fun k hk => h.block k (Nat.lt_of_lt_of_le hk hB) fun hx => by have:=hX k hx; omega⟩
theorem Chg.alloc (X : Nat → Prop) (w : World) (o : Obj) : Chg X w (w.alloc o):=Chg.of_below (b_alloc w o)
theorem Chg.setCell {X : Nat → Prop} (w : World) (a : Addr) (u : Value) (h : X a.block) : Chg X w (w.setCell a u) :=
 ⟨rfl,rfl,rfl,by simp [World.setCell],fun k _ hn => Below.heap_setCell _ _ _ _ fun e => hn (e ▸ h)⟩
theorem Chg.putObj {X : Nat → Prop} (w : World) (l : Nat) (o : Obj) (h : X l) : Chg X w (w.putObj l o) :=
 ⟨rfl,rfl,rfl,by simp,fun k _ hn => World.putObj_heap_other fun e => hn (e ▸ h)⟩
theorem Chg.at {X : Nat → Prop} {w w' : World} (h : Chg X w w') {k : Nat} {o : Obj} (hk : w.heap[k]? = some o) (hn : ¬ X k) : w'.heap[k]? = some o :=
 (h.block k (Array.getElem?_eq_some_iff.1 hk).1 hn).trans hk
theorem Chg.cell {X : Nat → Prop} {w w' : World} (h : Chg X w w') {a : Addr} {u : Value} (ha : w.cell? a = some u) (hn : ¬ X a.block) : w'.cell? a = some u :=
 (World.cell?_of_block (w:=w) (h.block a.block (lt_of_cell ha) hn)).trans ha
section
variable {F : Fence} {n : Nat} {P : Program} {α : Type}
def IterC (F : Fence) (n : Nat) (P : Program) (gf : Nat) (lb : Array Value) (X Y : Nat → Prop) (El : α → Array Value → World → Prop) (out : List α) (W : World) : Prop :=
 ∀ (l : Nat) (J Jx : List α → World → Prop),
  (∀ pre U U',J pre U → Chg X U U' → J pre U') → (∀ pre U U',Jx pre U → Chg X U U' → Jx pre U') →
  (∀ pre x vs U,J pre U → El x vs U → pre ++ [x] <+: out → YieldAt F (n - 1) P l vs U fun e U' =>
   (e = .returned (.bool true) ∧ J (pre ++ [x]) U' ∧ Chg (fun k => ¬ Y k) U U') ∨ (e = .returned (.bool false) ∧ Jx (pre ++ [x]) U')) →
  J [] W → CallsIn F n P gf (#[.func (.yield l) #[] #[]] ++ lb) W fun e W' => (∃ v,e = .returned v) ∧ (J out W' ∨ ∃ pre,pre <+: out ∧ Jx pre W')
def rangeEnd (D : Nat) (Y : Nat → Prop) (I : List α → World → Prop) (Ix : Code → List α → World → Prop) (pre : List α) (U : World) : Exit → Act → World → Prop
 | .normal,_,U' => Chg (fun k => ¬ (Y k ∨ k = D ∨ k = D + 1)) U U' ∧ I pre U'
 | .ret,_,U' => Chg (fun k => ¬ (k = D ∨ k = D + 1)) U U' ∧ Ix .ret pre U'
 | .exit id,_,U' => Chg (fun k => ¬ (k = D ∨ k = D + 1)) U U' ∧ Ix (.exit id) pre U'
 | .goto t,_,U' => Chg (fun k => ¬ (k = D ∨ k = D + 1)) U U' ∧ Ix (.goto t) pre U'
 | .panic _,_,_ => False
 | .outgrown,_,_ => False
theorem wpIn_range {g : Operand} {ps : Array Tmp} {assign body : Code} {Q : Exit → Act → World → Prop} {a : Act} {w : World}
  (hro : F.round = none) (h1 : 1 ≤ n) {gf : Nat} {lb : Array Value} (hg : a.eval g = .func (.func gf) #[] lb) (hFg : F.fn gf) (eg : ∀ args w,(callFunc gf args).run P w = .ok (.enter gf args) w)
  {X Y : Nat → Prop} {El : α → Array Value → World → Prop} {out : List α} (hX : ∀ k,X k → k < w.heap.size) (hY : ∀ k,Y k → k < w.heap.size)
  (hseq : ∀ W,Below w.heap.size w W → IterC F (n - 1) P gf lb X Y El out W) (hps : ∀ x vs U,El x vs U → vs.size = ps.size)
  (hEl : ∀ x vs U U',El x vs U → Chg (fun k => k = w.heap.size ∨ k = w.heap.size + 1) U U' → El x vs U')
  (I : List α → World → Prop) (Ix : Code → List α → World → Prop)
  (hI : ∀ pre U U',I pre U → Chg (fun k => X k ∨ k = w.heap.size ∨ k = w.heap.size + 1) U U' → I pre U')
  (hIx : ∀ c pre U U',Ix c pre U → Chg (fun k => X k ∨ k = w.heap.size ∨ k = w.heap.size + 1) U U' → Ix c pre U') (h0 : I [] w)
  (hround : ∀ (l : Nat) (pre : List α) (x : α) (vs : Array Value) (U : World),w.heap.size + 2 ≤ U.heap.size → I pre U → El x vs U → pre ++ [x] <+: out →
   assign.wpIn (F.inRound l) (n - 1 - 1) P (Exit.then (fun a' U1 => Below U.heap.size U U1 ∧ ∀ U2,w.heap.size + 2 ≤ U2.heap.size → I pre U2 → El x vs U2 → Chg (fun k => k = w.heap.size ∨ k = w.heap.size + 1) U1 U2 →
    body.wpIn (F.inRound l) (n - 1 - 1) P (rangeEnd w.heap.size Y I Ix (pre ++ [x]) U2) a' U2) (fun _ _ _ => False)) { tmps:=(ps.zip vs).foldl (fun t (p,v) => t.setIfInBounds p v) a.tmps,defers:=[] } U)
  (hdone : ∀ W,w.heap.size + 2 ≤ W.heap.size → I out W → W.heap[w.heap.size]? = some (.deferred (some [])) → Q .normal { a with defers:={ target:=.collected w.heap.size,args:=#[] } :: a.defers } W)
  (hstop : ∀ c pre W,w.heap.size + 2 ≤ W.heap.size → pre <+: out → Ix c pre W → W.heap[w.heap.size]? = some (.deferred (some [])) → c.wpIn F n P Q { a with defers:={ target:=.collected w.heap.size,args:=#[] } :: a.defers } W) :
  (Code.rangeFunc g ps assign body).wpIn F n P Q a w:=by
 refine wpIn_rangeFunc fun fn hfn => ?_
 rw [hro]
 obtain ⟨rec,hrec⟩ : ∃ rec : LoopState → Option Code → Loop,rec = fun st pe => { state:=st,pending:=pe,fn,tmps:=a.tmps,params:=ps,assign,body,defers:=w.heap.size }:=⟨_,rfl⟩
 obtain ⟨W1,hW1⟩ : ∃ W1,(w.alloc (.deferred (some []))).alloc (.loop (rec .ready none)) = W1:=⟨_,rfl⟩
 obtain ⟨hK1,hL1,hb1⟩:=two_new w (.deferred (some [])) (.loop (rec .ready none))
 rw [hW1] at hK1 hL1 hb1
 have hsz1 : w.heap.size + 2 ≤ W1.heap.size:=by have:=(Array.getElem?_eq_some_iff.1 hL1).1; omega
 refine ⟨w.heap.size + 1,[{ target:=.collected w.heap.size,args:=#[] }],W1,{ target:=.fn (.func gf) lb,args:=#[.func (.yield (w.heap.size + 1)) #[] #[]] },W1,gf,
  #[.func (.yield (w.heap.size + 1)) #[] #[]] ++ lb,W1,?_,?_,?_,?_,fun _ => h1,?_⟩
 ·rw [← hW1,hrec]; exact run_enterLoop_outer _ _ _ _ _
 ·simp only [resolve,hg]
  simp [go_sem]
 ·intro f' hf'; simp [Target.leads] at hf'; subst hf'; exact hFg
 ·simp [invoke,go_sem,eg]
 have xD : ∀ k,X k → k ≠ w.heap.size ∧ k ≠ w.heap.size + 1:=fun k hk => by have:=hX k hk; omega
 have keep : ∀ {U U' : World} {o o' : Obj},Chg X U U' → U.heap[w.heap.size + 1]? = some o → U.heap[w.heap.size]? = some o' → U'.heap[w.heap.size + 1]? = some o ∧ U'.heap[w.heap.size]? = some o' :=
  fun hc h h' => ⟨hc.at h fun hx => (xD _ hx).2 rfl,hc.at h' fun hx => (xD _ hx).1 rfl⟩
 refine (hseq W1 hb1 (w.heap.size + 1)
  (fun pre U => I pre U ∧ U.heap[w.heap.size + 1]? = some (.loop (rec .ready none)) ∧ U.heap[w.heap.size]? = some (.deferred (some [])))
  (fun pre U => ∃ c,Ix c pre U ∧ U.heap[w.heap.size + 1]? = some (.loop (rec .done (some c))) ∧ U.heap[w.heap.size]? = some (.deferred (some [])))
  (fun pre U U' hs hc => ⟨hI _ _ _ hs.1 (hc.mono fun _ h => .inl h),keep hc hs.2.1 hs.2.2⟩)
  (fun pre U U' ⟨c,hs,hl,hk⟩ hc => ⟨c,hIx _ _ _ _ hs (hc.mono fun _ h => .inl h),keep hc hl hk⟩)
  ?_ ⟨hI _ _ _ h0 (Chg.of_below hb1),hL1,hK1⟩).mono ?_
 ·rintro pre x vs U ⟨hi,hl,hk⟩ hel hpre
  have hy:=run_yield (P:=P) (args:=vs) hl (by rw [hrec]; exact hps x vs U hel)
  rw [hrec] at hy
  refine ⟨fn,_,assign,body,hy,roundIn_of_wpIn hfn (wpIn_mono (hround _ pre x vs U (by have:=(Array.getElem?_eq_some_iff.1 hl).1; omega) hi hel hpre) ?_)⟩
  clear hy
  intro ea a' U1 hea
  cases ea with
  | normal => ?_
  | _ => exact hea
  obtain ⟨hbel,hbody⟩:=hea
  have c1 : ∀ {Z : Nat → Prop},Chg Z U U1:=fun {Z} => Chg.of_below hbel
  replace hl:=c1.at (X:=fun _ => False) hl (fun h => h)
  replace hk:=c1.at (X:=fun _ => False) hk (fun h => h)
  replace hi:=hI _ _ _ hi c1
  replace hel:=hEl _ _ _ _ hel c1
  have hlt:=(Array.getElem?_eq_some_iff.1 hl).1
  refine ⟨_,run_beginRound hl (by rw [hrec]),?_⟩
  obtain ⟨U2,hU2⟩ : ∃ U2,U1.putObj (w.heap.size + 1) (.loop { rec .ready none with state:=.busy }) = U2:=⟨_,rfl⟩
  have hl2 : U2.heap[w.heap.size + 1]? = some (.loop { rec .ready none with state:=.busy }):=by rw [← hU2]; exact World.putObj_heap_same hlt
  have hk2 : U2.heap[w.heap.size]? = some (.deferred (some [])):=by rw [← hU2]; exact (World.putObj_heap_other (by omega)).trans hk
  have c2 : ∀ {Z : Nat → Prop},Z (w.heap.size + 1) → Chg Z U1 U2:=fun {Z} hz => by rw [← hU2]; exact Chg.putObj _ _ _ hz
  rw [hU2]
  refine wpIn_mono (hbody U2 (by have:=(Array.getElem?_eq_some_iff.1 hl2).1; omega) (hI _ _ _ hi (c2 (.inr (.inr rfl)))) (hEl _ _ _ _ hel (c2 (.inr rfl))) (c2 (.inr rfl))) ?_
  have fin : ∀ (jump : Option Code) (U3 : World),U3.heap[w.heap.size + 1]? = some (.loop { rec .ready none with state:=.busy }) → U3.heap[w.heap.size]? = some (.deferred (some [])) →
    (Instr.endRound (w.heap.size + 1) jump).run P U3 = .ok (.bool jump.isNone) (U3.putObj (w.heap.size + 1) (.loop (rec (if jump.isNone then .ready else .done) jump))) ∧
    (U3.putObj (w.heap.size + 1) (.loop (rec (if jump.isNone then .ready else .done) jump))).heap[w.heap.size + 1]? = some (.loop (rec (if jump.isNone then .ready else .done) jump)) ∧
    (U3.putObj (w.heap.size + 1) (.loop (rec (if jump.isNone then .ready else .done) jump))).heap[w.heap.size]? = some (.deferred (some [])):=fun jump U3 hl3 hk3 => by
   have:=run_endRound (P:=P) jump hl3
   rw [hrec] at this ⊢
   exact ⟨this,World.putObj_heap_same (Array.getElem?_eq_some_iff.1 hl3).1,(World.putObj_heap_other (by omega)).trans hk3⟩
  have stop : ∀ (c : Code) (U3 : World),Chg (fun k => ¬ (k = w.heap.size ∨ k = w.heap.size + 1)) U2 U3 → Ix c (pre ++ [x]) U3 → ∃ v U4,(Instr.endRound (w.heap.size + 1) (some c)).run P U3 = .ok v U4 ∧
    ((Ending.returned v = .returned (.bool true) ∧ (I (pre ++ [x]) U4 ∧ U4.heap[w.heap.size + 1]? = some (.loop (rec .ready none)) ∧ U4.heap[w.heap.size]? = some (.deferred (some []))) ∧ Chg (fun k => ¬ Y k) U U4) ∨
     (Ending.returned v = .returned (.bool false) ∧ ∃ c,Ix c (pre ++ [x]) U4 ∧ U4.heap[w.heap.size + 1]? = some (.loop (rec .done (some c))) ∧ U4.heap[w.heap.size]? = some (.deferred (some [])))):=fun c U3 hc hx => by
   obtain ⟨hr,hl4,hk4⟩:=fin (some c) U3 (hc.at hl2 fun h => h (.inr rfl)) (hc.at hk2 fun h => h (.inl rfl))
   exact ⟨_,_,hr,.inr ⟨rfl,c,hIx _ _ _ _ hx (Chg.putObj _ _ _ (.inr (.inr rfl))),hl4,hk4⟩⟩
  rintro e a3 U3 hp
  cases e with
  | normal =>
   obtain ⟨hc,hi3⟩:=hp
   obtain ⟨hr,hl4,hk4⟩:=fin none U3 (hc.at hl2 fun h => h (.inr (.inr rfl))) (hc.at hk2 fun h => h (.inr (.inl rfl)))
   have yD : ¬ Y (w.heap.size + 1):=fun h => by have:=hY _ h; omega
   exact ⟨_,_,hr,.inl ⟨rfl,⟨hI _ _ _ hi3 (Chg.putObj _ _ _ (.inr (.inr rfl))),hl4,hk4⟩,
    (((c1.trans (c2 yD)).trans (hc.mono fun k hk hy => hk (.inl hy))).trans (Chg.putObj _ _ _ yD))⟩⟩
  | ret => exact stop .ret U3 hp.1 hp.2
  | exit id => exact stop (.exit id) U3 hp.1 hp.2
  | goto t => exact stop (.goto t) U3 hp.1 hp.2
  | panic ch => exact hp.elim
  | outgrown => exact hp.elim
 ·rintro e W2 ⟨⟨v,rfl⟩,(⟨hi,hl,hk⟩ | ⟨pre,hpre,c,hi,hl,hk⟩)⟩
  ·have hlt:=(Array.getElem?_eq_some_iff.1 hl).1
   exact ⟨none,_,by have:=run_endLoop (P:=P) hl (by rw [hrec]; simp); rw [hrec] at this; exact this,hdone _ (by simp; omega) (hI _ _ _ hi (Chg.putObj _ _ _ (.inr (.inr rfl)))) ((World.putObj_heap_other (by omega)).trans hk)⟩
  ·have hlt:=(Array.getElem?_eq_some_iff.1 hl).1
   exact ⟨some c,_,by have:=run_endLoop (P:=P) hl (by rw [hrec]; simp); rw [hrec] at this; exact this,hstop c pre _ (by simp; omega) hpre (hIx _ _ _ _ hi (Chg.putObj _ _ _ (.inr (.inr rfl)))) ((World.putObj_heap_other (by omega)).trans hk)⟩
theorem wp_range {g : Operand} {ps : Array Tmp} {assign body : Code} {Q : Exit → Act → World → Prop} {a : Act} {w : World} {D : Nat} (hD : w.heap.size = D)
  {gf : Nat} {lb : Array Value} (hg : a.eval g = .func (.func gf) #[] lb) (eg : ∀ args w,(callFunc gf args).run P w = .ok (.enter gf args) w)
  {X Y : Nat → Prop} {El : α → Array Value → World → Prop} {out : List α} (hX : ∀ k,X k → k < D) (hY : ∀ k,Y k → k < D)
  (hseq : ∀ W,Below D w W → IterC Fence.wide 2 P gf lb X Y El out W) (hps : ∀ x vs U,El x vs U → vs.size = ps.size)
  (hEl : ∀ x vs U U',El x vs U → Chg (fun k => k = D ∨ k = D + 1) U U' → El x vs U')
  (I : List α → World → Prop) (Ix : Code → List α → World → Prop)
  (hI : ∀ pre U U',I pre U → Chg (fun k => X k ∨ k = D ∨ k = D + 1) U U' → I pre U')
  (hIx : ∀ c pre U U',Ix c pre U → Chg (fun k => X k ∨ k = D ∨ k = D + 1) U U' → Ix c pre U') (h0 : I [] w)
  (hround : ∀ (l : Nat) (pre : List α) (x : α) (vs : Array Value) (U : World),D + 2 ≤ U.heap.size → I pre U → El x vs U → pre ++ [x] <+: out →
   assign.wpIn (Fence.wide.inRound l) 1 P (Exit.then (fun a' U1 => Below U.heap.size U U1 ∧ ∀ U2,D + 2 ≤ U2.heap.size → I pre U2 → El x vs U2 → Chg (fun k => k = D ∨ k = D + 1) U1 U2 →
    body.wpIn (Fence.wide.inRound l) 1 P (rangeEnd D Y I Ix (pre ++ [x]) U2) a' U2) (fun _ _ _ => False)) { tmps:=(ps.zip vs).foldl (fun t (p,v) => t.setIfInBounds p v) a.tmps,defers:=[] } U)
  (hdone : ∀ W,D + 2 ≤ W.heap.size → I out W → W.heap[D]? = some (.deferred (some [])) → Q .normal { a with defers:={ target:=.collected D,args:=#[] } :: a.defers } W)
  (hstop : ∀ c pre W,D + 2 ≤ W.heap.size → pre <+: out → Ix c pre W → W.heap[D]? = some (.deferred (some [])) → c.wp P Q { a with defers:={ target:=.collected D,args:=#[] } :: a.defers } W) :
  (Code.rangeFunc g ps assign body).wp P Q a w:=by
 subst hD
 exact (wpIn_wide (n:=3)).1 (wpIn_range rfl (by decide) hg trivial eg hX hY hseq hps hEl I Ix hI hIx h0 hround hdone fun c pre W h1 h2 h3 h4 => wpIn_wide.2 (hstop c pre W h1 h2 h3 h4))
end
end Go.Proofs.YtehllcbnheicoaaGreatDoor
namespace Go.Proofs.YtehllcbnheicoaaGreatDoor
open Go.RowKit
def U (x : UInt32) : Int:=(x.toNat : Int)
theorem U_nat (x : UInt32) : U x = (x.toNat : Int):=rfl
theorem U_lt (x : UInt32) : x.toNat < 4294967296:=x.toNat_lt
@[go_sem] theorem U_xor (a b : UInt32) : bits .xor .u32 (U a) (U b) = U (a ^^^ b):=by
 rw [U_nat,U_nat,u32_xor_nat _ _ (U_lt a) (U_lt b),U_nat,UInt32.toNat_xor]
@[go_sem] theorem U_and (a b : UInt32) : bits .and .u32 (U a) (U b) = U (a &&& b):=by
 rw [U_nat,U_nat,u32_and_nat _ _ (U_lt a) (U_lt b),U_nat,UInt32.toNat_and]
@[go_sem] theorem U_or (a b : UInt32) : bits .or .u32 (U a) (U b) = U (a ||| b):=by
 rw [U_nat,U_nat,u32_or_nat _ _ (U_lt a) (U_lt b),U_nat,UInt32.toNat_or]
theorem wrap_u32 (z : Int) : IntKind.u32.wrap z = z % (4294967296 : Int):=by
 simp [IntKind.wrap,IntKind.bits,IntKind.signed]
@[go_sem] theorem U_add (a b : UInt32) : IntKind.u32.wrap (U a + U b) = U (a + b):=by
 rw [wrap_u32,U_nat,U_nat,U_nat,UInt32.toNat_add]; omega
theorem U_shr (x : UInt32) (n : Nat) (h : n ≤ 31) : U x / 2 ^ n = U (x >>> UInt32.ofNat n):=by
 rw [U_nat,U_nat,UInt32.toNat_shiftRight,UInt32.toNat_ofNat_of_lt' (by show n < 4294967296; omega),Nat.mod_eq_of_lt (by omega),Nat.shiftRight_eq_div_pow]
 norm_cast
theorem U_shl (x : UInt32) (n : Nat) (h : n ≤ 31) : U x * 2 ^ n % 4294967296 = U (x <<< UInt32.ofNat n):=by
 rw [U_nat,U_nat,UInt32.toNat_shiftLeft,UInt32.toNat_ofNat_of_lt' (by show n < 4294967296; omega),Nat.mod_eq_of_lt (show n < 32 by omega),Nat.shiftLeft_eq]
 have e : (4294967296 : Int) = ((2 ^ 32 : Nat) : Int):=rfl
 have e2 : (2 : Int) ^ n = ((2 ^ n : Nat) : Int):=by norm_cast
 rw [e,e2,← Int.natCast_mul,← Int.natCast_emod]
@[go_sem] theorem U_shl24 (x : UInt32) : U x * (16777216 : Int) % (4294967296 : Int) = U (x <<< 24):=U_shl x 24 (by omega)
@[go_sem] theorem U_shl16 (x : UInt32) : U x * (65536 : Int) % (4294967296 : Int) = U (x <<< 16):=U_shl x 16 (by omega)
@[go_sem] theorem U_shl8 (x : UInt32) : U x * (256 : Int) % (4294967296 : Int) = U (x <<< 8):=U_shl x 8 (by omega)
@[go_sem] theorem U_shr3 (x : UInt32) : U x / (8 : Int) = U (x >>> 3):=U_shr x 3 (by omega)
@[go_sem] theorem U_shr10 (x : UInt32) : U x / (1024 : Int) = U (x >>> 10):=U_shr x 10 (by omega)
@[go_sem] theorem U_add' (a b : UInt32) : (U a + U b) % (4294967296 : Int) = U (a + b):=by rw [← wrap_u32,U_add]
@[go_sem] theorem U_add3 (a b c : UInt32) : (U a + U b + U c) % (4294967296 : Int) = U (a + b + c):=by
 simp only [U_nat,UInt32.toNat_add]; omega
@[go_sem] theorem U_add4 (a b c d : UInt32) : (U a + U b + U c + U d) % (4294967296 : Int) = U (a + b + c + d):=by
 simp only [U_nat,UInt32.toNat_add]; omega
@[go_sem] theorem U_add5 (a b c d e : UInt32) : (U a + U b + U c + U d + U e) % (4294967296 : Int) = U (a + b + c + d + e):=by
 simp only [U_nat,UInt32.toNat_add]; omega
@[go_sem] theorem U_byte (c : UInt8) : (c.toNat : Int) % (4294967296 : Int) = U c.toUInt32:=by
 have:=c.toNat_lt
 rw [U_nat,UInt8.toNat_toUInt32]; omega
def Blk (w : World) (b : Nat) (t : TypeId) (cs : List Value) : Prop:=w.heap[b]? = some (.cells cs.toArray t (0,0))
theorem Blk.lt {w : World} {b : Nat} {t : TypeId} {cs : List Value} (h : Blk w b t cs) : b < w.heap.size:=by
 rcases Nat.lt_or_ge b w.heap.size with hn | hn
 ·exact hn
 ·simp [Blk,Array.getElem?_eq_none hn] at h
theorem Blk.cell {w : World} {b : Nat} {t : TypeId} {cs : List Value} (h : Blk w b t cs) {k : Nat} {v : Value} (hv : cs[k]? = some v) : w.cell? ⟨b,k,none⟩ = some v:=by
 rw [cell_of_row w b k _ t _ h]; simpa using hv
theorem Blk.free {w : World} {b : Nat} {t : TypeId} {cs : List Value} (h : Blk w b t cs) {k : Nat} (hk : k < cs.length) : w.frozen? ⟨b,k,none⟩ = false:=by
 unfold Blk at h
 simp [World.frozen?,h]
theorem Blk.set {w : World} {b : Nat} {t : TypeId} {cs : List Value} (h : Blk w b t cs) (k : Nat) (v : Value) : Blk (w.setCell ⟨b,k,none⟩ v) b t (cs.set k v):=by
 unfold Blk at h ⊢
 simp [World.setCell,Array.getElem?_modify,h]
theorem Blk.row {w : World} {b : Nat} {t : TypeId} {cs : List Value} (h : Blk w b t cs) (cs' : List Value) : Blk (w.setRow b cs'.toArray) b t cs':=by
 unfold Blk at h ⊢
 simp [World.setRow,Array.getElem?_modify,h]
theorem Blk.below {w w' : World} {b : Nat} {t : TypeId} {cs : List Value} (h : Blk w b t cs) (hB : Below w.heap.size w w') : Blk w' b t cs:=by
 unfold Blk; rw [hB.block b h.lt]; exact h
theorem Blk.chg {X : Nat → Prop} {w w' : World} {b : Nat} {t : TypeId} {cs : List Value} (h : Blk w b t cs) (hB : Chg X w w') (hX : ¬ X b) : Blk w' b t cs:=hB.at h hX
theorem Blk.new (w : World) (cs : List Value) (t : TypeId) : Blk (w.alloc (.cells cs.toArray t)) w.heap.size t cs:=by
 exact heap_alloc_last w _
theorem heap_setRow_ne (w : World) (b : Nat) (cs : Array Value) (k : Nat) (h : k ≠ b) : (w.setRow b cs).heap[k]? = w.heap[k]?:=by
 unfold World.setRow
 rw [Array.getElem?_modify,if_neg (fun e => h e.symm)]
theorem setRow_size (w : World) (b : Nat) (cs : Array Value) : (w.setRow b cs).heap.size = w.heap.size:=by simp [World.setRow]
theorem chg_setRow {X : Nat → Prop} (w : World) (b : Nat) (cs : Array Value) (hX : X b) : Chg X w (w.setRow b cs) :=
 ⟨rfl,rfl,rfl,by rw [setRow_size]; exact Nat.le_refl _,fun k _ hn => heap_setRow_ne w b cs k fun e => hn (e ▸ hX)⟩
section
variable {P : Program} {ops : Array Oper} {rest : List Oper} {op : Oper} {a : Act} {w : World} {Q : Exit → Act → World → Prop}
theorem blk_load (b : Nat) (cs : List Value) {t : TypeId} (h : Blk w b t cs) (d : TypeDesc) (hgd : op.guard = none) (ty : TypeId) (x : Operand) (ho : op.op = .load ty x) (hx : a.eval x = .pointer (some ⟨b,0,none⟩))
  (hu : P.underlying ty = some d) (hd : (match d with | .struct _ | .array _ _ => true | _ => false) = true) (hi : (P.info? ty).map (·.size) = some cs.length)
  (k : wpList P ops Q rest (a.put op.dst (.agg cs.toArray)) w) : wpList P ops Q (op :: rest) a w :=
 wpList_plain hgd fun _ hK => wp_load_row ty x ho b hx t cs.toArray (0,0) d h hu hd (by simpa using hi) (hK _ _ k)
theorem blk_store (b : Nat) (cs cs' : List Value) {t : TypeId} (h : Blk w b t cs) (hgd : op.guard = none) (ty : TypeId) (x y : Operand) (ho : op.op = .store ty x y) (hx : a.eval x = .pointer (some ⟨b,0,none⟩))
  (hy : a.eval y = .agg cs'.toArray) (hi : (P.info? ty).map (·.size) = some cs'.length) (hl : cs.length = cs'.length) (h1 : cs'.toArray.all (·.oneCell') = true)
  (k : wpList P ops Q rest (a.put op.dst undef) (w.setRow b cs'.toArray)) : wpList P ops Q (op :: rest) a w :=
 wpList_plain hgd fun _ hK => wp_store_row ty x y ho b cs'.toArray hx hy t cs.toArray h (by simpa using hi) (by simpa using hl) h1 (hK _ _ k)
end
end Go.Proofs.YtehllcbnheicoaaGreatDoor
namespace Go.Proofs.YtehllcbnheicoaaGreatDoor
open Go.RowKit Oct
abbrev PR:=List UInt8 × List UInt8
def pcell (p : PR) : List Value:=[.string (bs p.1),.string (bs p.2)]
def pcells : List PR → List Value
 | [] => []
 | p :: l => .string (bs p.1) :: .string (bs p.2) :: pcells l
theorem pcells_length : ∀ l : List PR,(pcells l).length = l.length * 2
 | [] => rfl
 | p :: l => by simp [pcells,pcells_length l]; omega
theorem pcells_append : ∀ a b : List PR,pcells (a ++ b) = pcells a ++ pcells b
 | [],_ => rfl
 | p :: a,b => by simp [pcells,pcells_append a b]
theorem pcells_key : ∀ (l : List PR) (k : Nat) (h : k < l.length),(pcells l)[k * 2]? = some (.string (bs l[k].1))
 | p :: l,0,_ => rfl
 | p :: l,k + 1,h => by
  have:=pcells_key l k (by simpa using h)
  rw [show (k + 1) * 2 = k * 2 + 2 by omega]
  simpa [pcells] using this
theorem pcells_val : ∀ (l : List PR) (k : Nat) (h : k < l.length),(pcells l)[k * 2 + 1]? = some (.string (bs l[k].2))
 | p :: l,0,_ => rfl
 | p :: l,k + 1,h => by
  have:=pcells_val l k (by simpa using h)
  rw [show (k + 1) * 2 + 1 = k * 2 + 1 + 2 by omega]
  simpa [pcells] using this
theorem pcells_drop : ∀ (l : List PR) (k : Nat),(pcells l).drop (k * 2) = pcells (l.drop k)
 | l,0 => by simp
 | [],k + 1 => by simp [pcells]
 | p :: l,k + 1 => by
  rw [show (k + 1) * 2 = k * 2 + 2 by omega]
  simp [pcells,pcells_drop l k]
theorem pcells_take : ∀ (l : List PR) (k : Nat),(pcells l).take (k * 2) = pcells (l.take k)
 | l,0 => by simp [pcells]
 | [],k + 1 => by simp [pcells]
 | p :: l,k + 1 => by
  rw [show (k + 1) * 2 = k * 2 + 2 by omega]
  simp [pcells,pcells_take l k]
theorem pcells_one (l : List PR) : ∀ u ∈ pcells l,u.oneCell' = true:=by
 induction l with
 | nil => simp [pcells]
 | cons p l ih => intro u hu; simp [pcells] at hu; rcases hu with rfl | rfl | hu <;> first | rfl | exact ih u hu
def RP (w : World) (v : Value) (l : List PR) : Prop:=Reads w v l.length (pcells l) ∧ ∃ a cap,v = .slice a l.length cap ∧ l.length ≤ cap
theorem RP.below {w w' : World} {v : Value} {l : List PR} (h : RP w v l) (hB : Below w.heap.size w w') : RP w' v l:=⟨Reads.below h.1 hB,h.2⟩
def OP (w : World) (base : Nat) (v : Value) (l : List PR) : Prop:=w.ownsRow base 62 2 v l.length (pcells l)
theorem OP.reads {w : World} {base : Nat} {v : Value} {l : List PR} (h : OP w base v l) : RP w v l:=by
 refine ⟨Reads.owned h,?_⟩
 rcases h.2 with ⟨hv,h0⟩ | ⟨g,cap,cur,hv,_,_,hc,_⟩
 ·exact ⟨none,0,by rw [hv,h0],by omega⟩
 ·exact ⟨_,_,hv,hc⟩
theorem OP.below {w w' : World} {base : Nat} {v : Value} {l : List PR} (h : OP w base v l) (hB : Below w.heap.size w w') : OP w' base v l:=ownsRow_below h hB
theorem OP.nil (w : World) (base : Nat) : OP w base (.slice none 0 0) []:=⟨rfl,.inl ⟨rfl,rfl⟩⟩
theorem RP.new (w : World) (l : List PR) (e : TypeId) : RP (w.alloc (.cells (pcells l).toArray e)) (.slice (some ⟨w.heap.size,0,none⟩) l.length l.length) l:=⟨Reads.new w _ _ _ _,_,_,rfl,Nat.le_refl _⟩
theorem infoPair : (Tryz.prog.info? 62).map (fun i => (i.zero,i.size,i.bytes)) = some (some (.agg #[.string ByteArray.empty,.string ByteArray.empty]),2,32):=by kernel_rfl
theorem RP.open {w : World} {v : Value} {l : List PR} (h : RP w v l) : ∃ a cap,v = .slice a l.length cap ∧ l.length ≤ cap ∧
  ∀ k (hk : k < l.length),∃ b off,a = some ⟨b,off,none⟩ ∧ w.cell? ⟨b,off + k * 2,none⟩ = some (.string (bs l[k].1)) ∧ w.cell? ⟨b,off + k * 2 + 1,none⟩ = some (.string (bs l[k].2)):=by
 obtain ⟨⟨a,cap,rfl,hn,hc⟩,a',cap',hv,hle⟩:=h
 injection hv with _ _ h3
 subst h3
 refine ⟨a,cap,rfl,hle,fun k hk => ?_⟩
 obtain ⟨b,off,rfl,h1⟩:=hc _ _ (pcells_key l k hk)
 obtain ⟨b',off',hb,h2⟩:=hc _ _ (pcells_val l k hk)
 cases hb
 exact ⟨b,off,rfl,h1,h2⟩
theorem appendP {ops : Array Oper} {rest : List Oper} {o : Oper} {a : Act} {Q : Exit → Act → World → Prop} (w : World) (hgd : o.guard = none) (s x : Operand) (t : TypeId)
  (ho : o.op = .call { callee:=.builtin .append,args:=#[s,x],argTypes:=#[t,t] }) (ht : Tryz.prog.underlying t = some (.slice 62))
  (base : Nat) (v : Value) (xs : List PR) (hs : a.eval s = v) (hown : OP w base v xs)
  (vx : Value) (ys : List PR) (hx : a.eval x = vx) (hr : RP w vx ys) (hbytes : (xs.length + ys.length) * 32 ≤ 140737488355328) (hbase : base ≤ w.heap.size)
  (h : ∀ v' w',OP w' base v' (xs ++ ys) → Below base w w' → wpList Tryz.prog ops Q rest (a.put o.dst v') w') : wpList Tryz.prog ops Q (o :: rest) a w :=
 appendN w (pcells ys) 62 hgd s x t ho base (.agg #[.string ByteArray.empty,.string ByteArray.empty]) 2 32 ht infoPair rfl (by decide) v xs.length (pcells xs) hs hown vx ys.length hx hr.1 (pcells_length ys) (pcells_one ys) hbytes (by decide) hbase
  (fun v' w' h1 h2 => h v' w' (by unfold OP; rw [pcells_append,List.length_append]; exact h1) h2)
theorem append1P {ops : Array Oper} {rest : List Oper} {o : Oper} {a : Act} {Q : Exit → Act → World → Prop} (w : World) (p : PR) (hgd : o.guard = none) (s x : Operand) (t : TypeId)
  (ho : o.op = .call { callee:=.builtin .append,args:=#[s,x],argTypes:=#[t,t] }) (ht : Tryz.prog.underlying t = some (.slice 62))
  (base : Nat) (v : Value) (xs : List PR) (hs : a.eval s = v) (hown : OP w base v xs) (c : Nat) (hx : a.eval x = .slice (some ⟨w.heap.size,0,none⟩) 1 c)
  (hbytes : (xs.length + 1) * 32 ≤ 140737488355328) (hbase : base ≤ w.heap.size)
  (h : ∀ v' w',OP w' base v' (xs ++ [p]) → Below base w w' → wpList Tryz.prog ops Q rest (a.put o.dst v') w') : wpList Tryz.prog ops Q (o :: rest) a (w.alloc (.cells (pcell p).toArray 62)) :=
 append1 w (pcell p) 62 hgd s x t ho base (.agg #[.string ByteArray.empty,.string ByteArray.empty]) 2 32 ht infoPair rfl (by decide) v xs.length (pcells xs) hs hown c hx rfl (by simp [pcell,Value.oneCell']) hbytes (by decide) hbase
  (fun v' w' h1 h2 => h v' w' (by unfold OP; rw [pcells_append,List.length_append]; exact h1) h2)
theorem step_append1P {ops : Array Oper} {o : Oper} {a : Act} {K : Act → World → Prop} {Q : Exit → Act → World → Prop} {E : Prop} (w : World) (p : PR) (hgd : o.guard = none) (s x : Operand) (t : TypeId)
  (ho : o.op = .call { callee:=.builtin .append,args:=#[s,x],argTypes:=#[t,t] }) (ht : Tryz.prog.underlying t = some (.slice 62))
  (base : Nat) (v : Value) (xs : List PR) (hs : a.eval s = v) (hown : OP w base v xs) (c : Nat) (hx : a.eval x = .slice (some ⟨w.heap.size,0,none⟩) 1 c)
  (hbytes : (xs.length + 1) * 32 ≤ 140737488355328) (hbase : base ≤ w.heap.size)
  (h : ∀ g cap w',OP w' base (.slice (some ⟨g,0,none⟩) (xs.length + 1) cap) (xs ++ [p]) → Below base w w' → K (a.put o.dst (.slice (some ⟨g,0,none⟩) (xs.length + 1) cap)) w') :
  if Region.wanted o (yielded ops a.tmps) = true then Oper.wp Tryz.prog o a (w.alloc (.cells #[.string (bs p.1),.string (bs p.2)] 62)) K Q else E :=
 step_append1 w (pcell p) 62 hgd s x t ho base (.agg #[.string ByteArray.empty,.string ByteArray.empty]) 2 32 ht infoPair rfl (by decide) v xs.length (pcells xs) hs hown c hx rfl (by simp [pcell,Value.oneCell']) hbytes (by decide) hbase
  (fun g cap w' h1 h2 => h g cap w' (by unfold OP; rw [pcells_append,List.length_append]; exact h1) h2)
theorem Reads.mk {w : World} {a : Option Addr} {n cap : Nat} {xs : List Value} (h1 : a = none → n = 0 ∧ cap = 0) (h2 : ∀ j u,xs[j]? = some u → ∃ b off,a = some ⟨b,off,none⟩ ∧ w.cell? ⟨b,off + j,none⟩ = some u) : Reads w (.slice a n cap) n xs:=⟨a,cap,rfl,h1,h2⟩
theorem none_cap {w : World} {a : Option Addr} {n cap : Nat} {xs : List Value} (h : Reads w (.slice a n cap) n xs) : a = none → n = 0 ∧ cap = 0:=by
 obtain ⟨a',cap',hv,hn,_⟩:=h
 injection hv with h1 _ h3
 subst h1 h3
 exact hn
theorem RP.sub {w : World} {a : Option Addr} {cap : Nat} {l : List PR} (h : RP w (.slice a l.length cap) l) (lo hi : Nat) (h1 : lo ≤ hi) (h2 : hi ≤ l.length) :
  RP w (sliced a lo hi cap 2) ((l.drop lo).take (hi - lo)):=by
 have hlen : ((l.drop lo).take (hi - lo)).length = hi - lo:=by simp; omega
 obtain ⟨hr,a',cap',hv,hle⟩:=h
 injection hv with _ _ h3
 subst h3
 have hn:=none_cap hr
 obtain ⟨a',cap',hv,_,hc⟩:=hr
 injection hv with e1 _ e3
 subst e1 e3
 unfold sliced
 refine ⟨?_,_,_,by rw [hlen],by rw [hlen]; omega⟩
 rw [hlen]
 refine Reads.mk ?_ ?_
 ·intro ha
  by_cases e : cap = lo
  ·omega
  ·rw [if_neg e] at ha
   have : a = none:=by simpa using ha
   have:=hn this
   omega
 ·intro j u hj
  rw [← pcells_take,← pcells_drop,List.getElem?_take] at hj
  split at hj
  ·rename_i hlt
   rw [List.getElem?_drop] at hj
   obtain ⟨b,off,rfl,hu⟩:=hc _ _ hj
   rw [if_neg (by omega)]
   refine ⟨b,off + lo * 2,?_,?_⟩
   ·rw [Option.map_some,Addr.add_lit]
   ·rw [← hu,Nat.add_assoc]
  ·simp at hj
theorem RP.cut {w : World} {a : Option Addr} {cap : Nat} {l : List PR} (h : RP w (.slice a l.length cap) l) (k : Nat) (hk : k ≤ l.length) : RP w (sliced a k l.length cap 2) (l.drop k):=by
 have:=h.sub k l.length hk (Nat.le_refl _)
 rwa [List.take_of_length_le (by simp)] at this
theorem RP.head {w : World} {a : Option Addr} {cap : Nat} {l : List PR} (h : RP w (.slice a l.length cap) l) (k : Nat) (hk : k ≤ l.length) : RP w (sliced a 0 k cap 2) (l.take k):=by
 have:=h.sub 0 k (by omega) hk
 simpa using this
theorem RP.cutRun {w : World} {a : Option Addr} {cap : Nat} {l : List PR} (h : RP w (.slice a l.length cap) l) (k : Nat) (c : Int) (hc : c = (k : Int)) (hk : k ≤ l.length) :
  ∃ A C,(∀ wx,(Instr.slice 37 (.slice a l.length cap) (some (.int .i64 c)) none none).run Tryz.prog wx = .ok (.slice A (l.length - k) C) wx) ∧ RP w (.slice A (l.length - k) C) (l.drop k):=by
 subst hc
 refine ⟨_,_,fun wx => ?_,h.cut k hk⟩
 obtain ⟨i,hi,hz,hi1,hi2⟩:=info_parts infoPair
 rw [run_slice_l wx 37 a l.length cap (by kernel_rfl) .i64 k (by omega) (by omega)]
 have he : (sizeOf (Tryz.prog.elem 37)).run Tryz.prog wx = .ok 2 wx:=by kernel_rfl
 rw [he]
 simp [Result.andThen,sliced]
theorem RP.headRun {w : World} {a : Option Addr} {cap : Nat} {l : List PR} (h : RP w (.slice a l.length cap) l) (k : Nat) (c : Int) (hc : c = (k : Int)) (hk : k ≤ l.length) :
  ∃ A C,(∀ wx,(Instr.slice 37 (.slice a l.length cap) none (some (.int .i64 c)) none).run Tryz.prog wx = .ok (.slice A k C) wx) ∧ RP w (.slice A k C) (l.take k):=by
 subst hc
 obtain ⟨_,a',cap',hv,hle⟩:=id h
 injection hv with _ _ h3
 subst h3
 refine ⟨if cap = 0 then a else a.map (·.add (0 * 2)),cap - 0,fun wx => ?_,by have:=RP.head h k hk; simpa [sliced] using this⟩
 rw [run_slice_h wx 37 a l.length cap (by kernel_rfl) .i64 k (by omega) (by omega)]
 have he : (sizeOf (Tryz.prog.elem 37)).run Tryz.prog wx = .ok 2 wx:=by kernel_rfl
 rw [he]
 simp [Result.andThen,sliced]
end Go.Proofs.YtehllcbnheicoaaGreatDoor
