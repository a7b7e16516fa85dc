/- Lemmas for VerifyBlocks, part 2: walks of the functions that it reaches, and the plain laws behind them. -/
import Derived.RangeFuncNested
import Derived.RangeFuncBound
import Derived.RangeFuncCalls
import Derived.RangeFuncLeaves
import Derived.Shelf.Abstract
import Derived.Laws.BitsAllLaws
import Derived.Deep.WholeRow
import Derived.Deep.MidRow
import Derived.RangeFuncBox
import Derived.Deep.QuietTactic
import Derived.StillTail
import Derived.OrdersIn
import Derived.TacticsIn
import Derived.AtR
import Derived.BigQuiet
import Derived.Lib.Hide
import Derived.Test.YtahmacnmphjhgaaDoorVerifyBlocksK1
set_option linter.unusedSimpArgs false
set_option linter.unusedVariables false
namespace Go.Proofs.YtahmacnmphjhgaaDoor
open Go.RowKit

/-- blocks outside X lie as they lay -/
structure Chg (X : Nat → Prop) (w w' : World) : Prop where
  os : w'.os = w.os
  tape : w'.tape = w.tape
  output : w'.output = w.output
  size : w.heap.size ≤ w'.heap.size
  block : ∀ k, k < w.heap.size → ¬ X k → w'.heap[k]? = w.heap[k]?
theorem Chg.refl (X : Nat → Prop) (w : World) : Chg X w w := ⟨rfl, rfl, rfl, Nat.le_refl _, fun _ _ _ => rfl⟩
theorem Chg.trans {X : Nat → Prop} {a b c : World} (h : Chg X a b) (k : Chg X b c) : Chg X a c :=
  ⟨k.os.trans h.os, k.tape.trans h.tape, k.output.trans h.output, Nat.le_trans h.size k.size, fun i hi hx => (k.block i (Nat.lt_of_lt_of_le hi h.size) hx).trans (h.block i hi hx)⟩
theorem Chg.mono {X X' : Nat → Prop} {w w' : World} (h : Chg X w w') (hx : ∀ k, X k → X' k) : Chg X' w w' := ⟨h.os, h.tape, h.output, h.size, fun k hk hn => h.block k hk fun hxk => hn (hx k hxk)⟩
theorem Chg.of_below {X : Nat → Prop} {w w' : World} (h : Below w.heap.size w w') : Chg X w w' := ⟨h.os, h.tape, h.output, h.size, fun k hk _ => h.block k hk⟩
/-- what a growth of the caller's own leaves -/
theorem Chg.of_base {X : Nat → Prop} {B : Nat} {w w' : World} (h : Below B w w') (hX : ∀ k, B ≤ k → X k) : Chg X w w' :=
  ⟨h.os, h.tape, h.output, h.size, fun k hk hn => h.block k (Nat.lt_of_not_le fun hb => hn (hX k hb))⟩
theorem Chg.below {X : Nat → Prop} {B : Nat} {w w' : World} (h : Chg X w w') (hX : ∀ k, X k → B ≤ k) (hB : B ≤ w.heap.size) : Below B w w' :=
  ⟨h.os, h.tape, h.output, h.size, fun k hk => h.block k (Nat.lt_of_lt_of_le hk hB) fun hx => by have := hX k hx; omega⟩
theorem Chg.alloc (X : Nat → Prop) (w : World) (o : Obj) : Chg X w (w.alloc o) := Chg.of_below (b_alloc w o)
theorem Chg.drew (X : Nat → Prop) (w : World) : Chg X w w.drew := Chg.of_below (b_drew w)
theorem Chg.setCell {X : Nat → Prop} (w : World) (a : Addr) (u : Value) (h : X a.block) : Chg X w (w.setCell a u) :=
  ⟨rfl, rfl, rfl, by simp [World.setCell], fun k _ hn => Below.heap_setCell _ _ _ _ fun e => hn (e ▸ h)⟩
theorem Chg.putObj {X : Nat → Prop} (w : World) (l : Nat) (o : Obj) (h : X l) : Chg X w (w.putObj l o) :=
  ⟨rfl, rfl, rfl, by simp, fun k _ hn => World.putObj_heap_other fun e => hn (e ▸ h)⟩
theorem Chg.at {X : Nat → Prop} {w w' : World} (h : Chg X w w') {k : Nat} {o : Obj} (hk : w.heap[k]? = some o) (hn : ¬ X k) : w'.heap[k]? = some o :=
  (h.block k (Array.getElem?_eq_some_iff.1 hk).1 hn).trans hk
theorem Chg.cell {X : Nat → Prop} {w w' : World} (h : Chg X w w') {a : Addr} {u : Value} (ha : w.cell? a = some u) (hn : ¬ X a.block) : w'.cell? a = some u :=
  (World.cell?_of_block (w := w) (h.block a.block (lt_of_cell ha) hn)).trans ha

section
variable {F : Fence} {n : Nat} {P : Program} {α : Type}

/-- an iterator, captured values lb: it hands out what 'out' says, writes blocks of X alone, and wants the blocks of Y kept in a round that goes on -/
def IterC (F : Fence) (n : Nat) (P : Program) (gf : Nat) (lb : Array Value) (X Y : Nat → Prop) (El : α → Array Value → World → Prop) (out : List α) (W : World) : Prop :=
  ∀ (l : Nat) (J Jx : List α → World → Prop),
    (∀ pre U U', J pre U → Chg X U U' → J pre U') → (∀ pre U U', Jx pre U → Chg X U U' → Jx pre U') →
    (∀ pre x vs U, J pre U → El x vs U → pre ++ [x] <+: out → YieldAt F (n - 1) P l vs U fun e U' =>
      (e = .returned (.bool true) ∧ J (pre ++ [x]) U' ∧ Chg (fun k => ¬ Y k) U U') ∨ (e = .returned (.bool false) ∧ Jx (pre ++ [x]) U')) →
    J [] W → CallsIn F n P gf (#[.func (.yield l) #[] #[]] ++ lb) W fun e W' => (∃ v, e = .returned v) ∧ (J out W' ∨ ∃ pre, pre <+: out ∧ Jx pre W')

/-- how a round's body may be left; D: the loop's two blocks begin there -/
def rangeEnd (D : Nat) (Y : Nat → Prop) (I : List α → World → Prop) (Ix : Code → List α → World → Prop) (pre : List α) (U : World) : Exit → Act → World → Prop
  | .normal, _, U' => Chg (fun k => ¬ (Y k ∨ k = D ∨ k = D + 1)) U U' ∧ I pre U'
  | .ret, _, U' => Chg (fun k => ¬ (k = D ∨ k = D + 1)) U U' ∧ Ix .ret pre U'
  | .exit id, _, U' => Chg (fun k => ¬ (k = D ∨ k = D + 1)) U U' ∧ Ix (.exit id) pre U'
  | .goto t, _, U' => Chg (fun k => ¬ (k = D ∨ k = D + 1)) U U' ∧ Ix (.goto t) pre U'
  | .panic _, _, _ => False
  | .outgrown, _, _ => False

theorem wpIn_range {g : Operand} {ps : Array Tmp} {assign body : Code} {Q : Exit → Act → World → Prop} {a : Act} {w : World}
    (hro : F.round = none) (h1 : 1 ≤ n) {gf : Nat} {lb : Array Value} (hg : a.eval g = .func (.func gf) #[] lb) (hFg : F.fn gf) (eg : ∀ args w, (callFunc gf args).run P w = .ok (.enter gf args) w)
    {X Y : Nat → Prop} {El : α → Array Value → World → Prop} {out : List α} (hX : ∀ k, X k → k < w.heap.size) (hY : ∀ k, Y k → k < w.heap.size)
    (hseq : ∀ W, Below w.heap.size w W → IterC F (n - 1) P gf lb X Y El out W) (hps : ∀ x vs U, El x vs U → vs.size = ps.size)
    (hEl : ∀ x vs U U', El x vs U → Chg (fun k => k = w.heap.size ∨ k = w.heap.size + 1) U U' → El x vs U')
    (I : List α → World → Prop) (Ix : Code → List α → World → Prop)
    (hI : ∀ pre U U', I pre U → Chg (fun k => X k ∨ k = w.heap.size ∨ k = w.heap.size + 1) U U' → I pre U')
    (hIx : ∀ c pre U U', Ix c pre U → Chg (fun k => X k ∨ k = w.heap.size ∨ k = w.heap.size + 1) U U' → Ix c pre U') (h0 : I [] w)
    (hround : ∀ (l : Nat) (pre : List α) (x : α) (vs : Array Value) (U : World), w.heap.size + 2 ≤ U.heap.size → I pre U → El x vs U → pre ++ [x] <+: out →
      assign.wpIn (F.inRound l) (n - 1 - 1) P (Exit.then (fun a' U1 => Below U.heap.size U U1 ∧ ∀ U2, w.heap.size + 2 ≤ U2.heap.size → I pre U2 → El x vs U2 → Chg (fun k => k = w.heap.size ∨ k = w.heap.size + 1) U1 U2 →
        body.wpIn (F.inRound l) (n - 1 - 1) P (rangeEnd w.heap.size Y I Ix (pre ++ [x]) U2) a' U2) (fun _ _ _ => False)) { tmps := (ps.zip vs).foldl (fun t (p, v) => t.setIfInBounds p v) a.tmps, defers := [] } U)
    (hdone : ∀ W, w.heap.size + 2 ≤ W.heap.size → I out W → W.heap[w.heap.size]? = some (.deferred (some [])) → Q .normal { a with defers := { target := .collected w.heap.size, args := #[] } :: a.defers } W)
    (hstop : ∀ c pre W, w.heap.size + 2 ≤ W.heap.size → pre <+: out → Ix c pre W → W.heap[w.heap.size]? = some (.deferred (some [])) → c.wpIn F n P Q { a with defers := { target := .collected w.heap.size, args := #[] } :: a.defers } W) :
    (Code.rangeFunc g ps assign body).wpIn F n P Q a w := by
  refine wpIn_rangeFunc fun fn hfn => ?_
  rw [hro]
  obtain ⟨rec, hrec⟩ : ∃ rec : LoopState → Option Code → Loop, rec = fun st pe => { state := st, pending := pe, fn, tmps := a.tmps, params := ps, assign, body, defers := w.heap.size } := ⟨_, rfl⟩
  obtain ⟨W1, hW1⟩ : ∃ W1, (w.alloc (.deferred (some []))).alloc (.loop (rec .ready none)) = W1 := ⟨_, rfl⟩
  obtain ⟨hK1, hL1, hb1⟩ := two_new w (.deferred (some [])) (.loop (rec .ready none))
  rw [hW1] at hK1 hL1 hb1
  have hsz1 : w.heap.size + 2 ≤ W1.heap.size := by have := (Array.getElem?_eq_some_iff.1 hL1).1; omega
  refine ⟨w.heap.size + 1, [{ target := .collected w.heap.size, args := #[] }], W1, { target := .fn (.func gf) lb, args := #[.func (.yield (w.heap.size + 1)) #[] #[]] }, W1, gf,
    #[.func (.yield (w.heap.size + 1)) #[] #[]] ++ lb, W1, ?_, ?_, ?_, ?_, fun _ => h1, ?_⟩
  · rw [← hW1, hrec]; exact run_enterLoop_outer _ _ _ _ _
  · simp only [resolve, hg]
    simp [go_sem]
  · intro f' hf'; simp [Target.leads] at hf'; subst hf'; exact hFg
  · simp [invoke, go_sem, eg]
  have xD : ∀ k, X k → k ≠ w.heap.size ∧ k ≠ w.heap.size + 1 := fun k hk => by have := hX k hk; omega
  have keep : ∀ {U U' : World} {o o' : Obj}, Chg X U U' → U.heap[w.heap.size + 1]? = some o → U.heap[w.heap.size]? = some o' → U'.heap[w.heap.size + 1]? = some o ∧ U'.heap[w.heap.size]? = some o' :=
    fun hc h h' => ⟨hc.at h fun hx => (xD _ hx).2 rfl, hc.at h' fun hx => (xD _ hx).1 rfl⟩
  refine (hseq W1 hb1 (w.heap.size + 1)
    (fun pre U => I pre U ∧ U.heap[w.heap.size + 1]? = some (.loop (rec .ready none)) ∧ U.heap[w.heap.size]? = some (.deferred (some [])))
    (fun pre U => ∃ c, Ix c pre U ∧ U.heap[w.heap.size + 1]? = some (.loop (rec .done (some c))) ∧ U.heap[w.heap.size]? = some (.deferred (some [])))
    (fun pre U U' hs hc => ⟨hI _ _ _ hs.1 (hc.mono fun _ h => .inl h), keep hc hs.2.1 hs.2.2⟩)
    (fun pre U U' ⟨c, hs, hl, hk⟩ hc => ⟨c, hIx _ _ _ _ hs (hc.mono fun _ h => .inl h), keep hc hl hk⟩)
    ?_ ⟨hI _ _ _ h0 (Chg.of_below hb1), hL1, hK1⟩).mono ?_
  · rintro pre x vs U ⟨hi, hl, hk⟩ hel hpre
    have hy := run_yield (P := P) (args := vs) hl (by rw [hrec]; exact hps x vs U hel)
    rw [hrec] at hy
    refine ⟨fn, _, assign, body, hy, roundIn_of_wpIn hfn (wpIn_mono (hround _ pre x vs U (by have := (Array.getElem?_eq_some_iff.1 hl).1; omega) hi hel hpre) ?_)⟩
    clear hy
    intro ea a' U1 hea
    cases ea with
    | normal => ?_
    | _ => exact hea
    obtain ⟨hbel, hbody⟩ := hea
    have c1 : ∀ {Z : Nat → Prop}, Chg Z U U1 := fun {Z} => Chg.of_below hbel
    replace hl := c1.at (X := fun _ => False) hl (fun h => h)
    replace hk := c1.at (X := fun _ => False) hk (fun h => h)
    replace hi := hI _ _ _ hi c1
    replace hel := hEl _ _ _ _ hel c1
    have hlt := (Array.getElem?_eq_some_iff.1 hl).1
    refine ⟨_, run_beginRound hl (by rw [hrec]), ?_⟩
    obtain ⟨U2, hU2⟩ : ∃ U2, U1.putObj (w.heap.size + 1) (.loop { rec .ready none with state := .busy }) = U2 := ⟨_, rfl⟩
    have hl2 : U2.heap[w.heap.size + 1]? = some (.loop { rec .ready none with state := .busy }) := by rw [← hU2]; exact World.putObj_heap_same hlt
    have hk2 : U2.heap[w.heap.size]? = some (.deferred (some [])) := by rw [← hU2]; exact (World.putObj_heap_other (by omega)).trans hk
    have c2 : ∀ {Z : Nat → Prop}, Z (w.heap.size + 1) → Chg Z U1 U2 := fun {Z} hz => by rw [← hU2]; exact Chg.putObj _ _ _ hz
    rw [hU2]
    refine wpIn_mono (hbody U2 (by have := (Array.getElem?_eq_some_iff.1 hl2).1; omega) (hI _ _ _ hi (c2 (.inr (.inr rfl)))) (hEl _ _ _ _ hel (c2 (.inr rfl))) (c2 (.inr rfl))) ?_
    have fin : ∀ (jump : Option Code) (U3 : World), U3.heap[w.heap.size + 1]? = some (.loop { rec .ready none with state := .busy }) → U3.heap[w.heap.size]? = some (.deferred (some [])) →
        (Instr.endRound (w.heap.size + 1) jump).run P U3 = .ok (.bool jump.isNone) (U3.putObj (w.heap.size + 1) (.loop (rec (if jump.isNone then .ready else .done) jump))) ∧
        (U3.putObj (w.heap.size + 1) (.loop (rec (if jump.isNone then .ready else .done) jump))).heap[w.heap.size + 1]? = some (.loop (rec (if jump.isNone then .ready else .done) jump)) ∧
        (U3.putObj (w.heap.size + 1) (.loop (rec (if jump.isNone then .ready else .done) jump))).heap[w.heap.size]? = some (.deferred (some [])) := fun jump U3 hl3 hk3 => by
      have := run_endRound (P := P) jump hl3
      rw [hrec] at this ⊢
      exact ⟨this, World.putObj_heap_same (Array.getElem?_eq_some_iff.1 hl3).1, (World.putObj_heap_other (by omega)).trans hk3⟩
    have stop : ∀ (c : Code) (U3 : World), Chg (fun k => ¬ (k = w.heap.size ∨ k = w.heap.size + 1)) U2 U3 → Ix c (pre ++ [x]) U3 → ∃ v U4, (Instr.endRound (w.heap.size + 1) (some c)).run P U3 = .ok v U4 ∧
        ((Ending.returned v = .returned (.bool true) ∧ (I (pre ++ [x]) U4 ∧ U4.heap[w.heap.size + 1]? = some (.loop (rec .ready none)) ∧ U4.heap[w.heap.size]? = some (.deferred (some []))) ∧ Chg (fun k => ¬ Y k) U U4) ∨
         (Ending.returned v = .returned (.bool false) ∧ ∃ c, Ix c (pre ++ [x]) U4 ∧ U4.heap[w.heap.size + 1]? = some (.loop (rec .done (some c))) ∧ U4.heap[w.heap.size]? = some (.deferred (some [])))) := fun c U3 hc hx => by
      obtain ⟨hr, hl4, hk4⟩ := fin (some c) U3 (hc.at hl2 fun h => h (.inr rfl)) (hc.at hk2 fun h => h (.inl rfl))
      exact ⟨_, _, hr, .inr ⟨rfl, c, hIx _ _ _ _ hx (Chg.putObj _ _ _ (.inr (.inr rfl))), hl4, hk4⟩⟩
    rintro e a3 U3 hp
    cases e with
    | normal =>
      obtain ⟨hc, hi3⟩ := hp
      obtain ⟨hr, hl4, hk4⟩ := fin none U3 (hc.at hl2 fun h => h (.inr (.inr rfl))) (hc.at hk2 fun h => h (.inr (.inl rfl)))
      have yD : ¬ Y (w.heap.size + 1) := fun h => by have := hY _ h; omega
      exact ⟨_, _, hr, .inl ⟨rfl, ⟨hI _ _ _ hi3 (Chg.putObj _ _ _ (.inr (.inr rfl))), hl4, hk4⟩,
        (((c1.trans (c2 yD)).trans (hc.mono fun k hk hy => hk (.inl hy))).trans (Chg.putObj _ _ _ yD))⟩⟩
    | ret => exact stop .ret U3 hp.1 hp.2
    | exit id => exact stop (.exit id) U3 hp.1 hp.2
    | goto t => exact stop (.goto t) U3 hp.1 hp.2
    | panic ch => exact hp.elim
    | outgrown => exact hp.elim
  · rintro e W2 ⟨⟨v, rfl⟩, (⟨hi, hl, hk⟩ | ⟨pre, hpre, c, hi, hl, hk⟩)⟩
    · have hlt := (Array.getElem?_eq_some_iff.1 hl).1
      exact ⟨none, _, by have := run_endLoop (P := P) hl (by rw [hrec]; simp); rw [hrec] at this; exact this, hdone _ (by simp; omega) (hI _ _ _ hi (Chg.putObj _ _ _ (.inr (.inr rfl)))) ((World.putObj_heap_other (by omega)).trans hk)⟩
    · have hlt := (Array.getElem?_eq_some_iff.1 hl).1
      exact ⟨some c, _, by have := run_endLoop (P := P) hl (by rw [hrec]; simp); rw [hrec] at this; exact this, hstop c pre _ (by simp; omega) hpre (hIx _ _ _ _ hi (Chg.putObj _ _ _ (.inr (.inr rfl)))) ((World.putObj_heap_other (by omega)).trans hk)⟩

/-- .. a function that is walked with no fence -/
theorem wp_range {g : Operand} {ps : Array Tmp} {assign body : Code} {Q : Exit → Act → World → Prop} {a : Act} {w : World} {D : Nat} (hD : w.heap.size = D)
    {gf : Nat} {lb : Array Value} (hg : a.eval g = .func (.func gf) #[] lb) (eg : ∀ args w, (callFunc gf args).run P w = .ok (.enter gf args) w)
    {X Y : Nat → Prop} {El : α → Array Value → World → Prop} {out : List α} (hX : ∀ k, X k → k < D) (hY : ∀ k, Y k → k < D)
    (hseq : ∀ W, Below D w W → IterC Fence.wide 2 P gf lb X Y El out W) (hps : ∀ x vs U, El x vs U → vs.size = ps.size)
    (hEl : ∀ x vs U U', El x vs U → Chg (fun k => k = D ∨ k = D + 1) U U' → El x vs U')
    (I : List α → World → Prop) (Ix : Code → List α → World → Prop)
    (hI : ∀ pre U U', I pre U → Chg (fun k => X k ∨ k = D ∨ k = D + 1) U U' → I pre U')
    (hIx : ∀ c pre U U', Ix c pre U → Chg (fun k => X k ∨ k = D ∨ k = D + 1) U U' → Ix c pre U') (h0 : I [] w)
    (hround : ∀ (l : Nat) (pre : List α) (x : α) (vs : Array Value) (U : World), D + 2 ≤ U.heap.size → I pre U → El x vs U → pre ++ [x] <+: out →
      assign.wpIn (Fence.wide.inRound l) 1 P (Exit.then (fun a' U1 => Below U.heap.size U U1 ∧ ∀ U2, D + 2 ≤ U2.heap.size → I pre U2 → El x vs U2 → Chg (fun k => k = D ∨ k = D + 1) U1 U2 →
        body.wpIn (Fence.wide.inRound l) 1 P (rangeEnd D Y I Ix (pre ++ [x]) U2) a' U2) (fun _ _ _ => False)) { tmps := (ps.zip vs).foldl (fun t (p, v) => t.setIfInBounds p v) a.tmps, defers := [] } U)
    (hdone : ∀ W, D + 2 ≤ W.heap.size → I out W → W.heap[D]? = some (.deferred (some [])) → Q .normal { a with defers := { target := .collected D, args := #[] } :: a.defers } W)
    (hstop : ∀ c pre W, D + 2 ≤ W.heap.size → pre <+: out → Ix c pre W → W.heap[D]? = some (.deferred (some [])) → c.wp P Q { a with defers := { target := .collected D, args := #[] } :: a.defers } W) :
    (Code.rangeFunc g ps assign body).wp P Q a w := by
  subst hD
  exact (wpIn_wide (n := 3)).1 (wpIn_range rfl (by decide) hg trivial eg hX hY hseq hps hEl I Ix hI hIx h0 hround hdone fun c pre W h1 h2 h3 h4 => wpIn_wide.2 (hstop c pre W h1 h2 h3 h4))
end
end Go.Proofs.YtahmacnmphjhgaaDoor
namespace Go.Proofs.YtahmacnmphjhgaaDoor
open Go.RowKit

/-- a word, as a value holds it -/
def U (x : UInt32) : Int := (x.toNat : Int)
theorem U_nat (x : UInt32) : U x = (x.toNat : Int) := rfl
theorem U_lt (x : UInt32) : x.toNat < 4294967296 := x.toNat_lt
@[go_sem] theorem U_xor (a b : UInt32) : bits .xor .u32 (U a) (U b) = U (a ^^^ b) := by
  rw [U_nat, U_nat, u32_xor_nat _ _ (U_lt a) (U_lt b), U_nat, UInt32.toNat_xor]
@[go_sem] theorem U_and (a b : UInt32) : bits .and .u32 (U a) (U b) = U (a &&& b) := by
  rw [U_nat, U_nat, u32_and_nat _ _ (U_lt a) (U_lt b), U_nat, UInt32.toNat_and]
@[go_sem] theorem U_or (a b : UInt32) : bits .or .u32 (U a) (U b) = U (a ||| b) := by
  rw [U_nat, U_nat, u32_or_nat _ _ (U_lt a) (U_lt b), U_nat, UInt32.toNat_or]
theorem wrap_u32 (z : Int) : IntKind.u32.wrap z = z % (4294967296 : Int) := by
  simp [IntKind.wrap, IntKind.bits, IntKind.signed]
@[go_sem] theorem U_add (a b : UInt32) : IntKind.u32.wrap (U a + U b) = U (a + b) := by
  rw [wrap_u32, U_nat, U_nat, U_nat, UInt32.toNat_add]; omega
theorem U_shr (x : UInt32) (n : Nat) (h : n ≤ 31) : U x / 2 ^ n = U (x >>> UInt32.ofNat n) := by
  rw [U_nat, U_nat, UInt32.toNat_shiftRight, UInt32.toNat_ofNat_of_lt' (by show n < 4294967296; omega), Nat.mod_eq_of_lt (by omega), Nat.shiftRight_eq_div_pow]
  norm_cast
theorem U_shl (x : UInt32) (n : Nat) (h : n ≤ 31) : U x * 2 ^ n % 4294967296 = U (x <<< UInt32.ofNat n) := by
  rw [U_nat, U_nat, UInt32.toNat_shiftLeft, UInt32.toNat_ofNat_of_lt' (by show n < 4294967296; omega), Nat.mod_eq_of_lt (show n < 32 by omega), Nat.shiftLeft_eq]
  have e : (4294967296 : Int) = ((2 ^ 32 : Nat) : Int) := rfl
  have e2 : (2 : Int) ^ n = ((2 ^ n : Nat) : Int) := by norm_cast
  rw [e, e2, ← Int.natCast_mul, ← Int.natCast_emod]
@[go_sem] theorem U_shl24 (x : UInt32) : U x * (16777216 : Int) % (4294967296 : Int) = U (x <<< 24) := U_shl x 24 (by omega)
@[go_sem] theorem U_shl16 (x : UInt32) : U x * (65536 : Int) % (4294967296 : Int) = U (x <<< 16) := U_shl x 16 (by omega)
@[go_sem] theorem U_shl8 (x : UInt32) : U x * (256 : Int) % (4294967296 : Int) = U (x <<< 8) := U_shl x 8 (by omega)
@[go_sem] theorem U_shr3 (x : UInt32) : U x / (8 : Int) = U (x >>> 3) := U_shr x 3 (by omega)
@[go_sem] theorem U_shr10 (x : UInt32) : U x / (1024 : Int) = U (x >>> 10) := U_shr x 10 (by omega)
@[go_sem] theorem U_add' (a b : UInt32) : (U a + U b) % (4294967296 : Int) = U (a + b) := by rw [← wrap_u32, U_add]
@[go_sem] theorem U_add3 (a b c : UInt32) : (U a + U b + U c) % (4294967296 : Int) = U (a + b + c) := by
  simp only [U_nat, UInt32.toNat_add]; omega
@[go_sem] theorem U_add4 (a b c d : UInt32) : (U a + U b + U c + U d) % (4294967296 : Int) = U (a + b + c + d) := by
  simp only [U_nat, UInt32.toNat_add]; omega
@[go_sem] theorem U_add5 (a b c d e : UInt32) : (U a + U b + U c + U d + U e) % (4294967296 : Int) = U (a + b + c + d + e) := by
  simp only [U_nat, UInt32.toNat_add]; omega
@[go_sem] theorem U_byte (c : UInt8) : (c.toNat : Int) % (4294967296 : Int) = U c.toUInt32 := by
  have := c.toNat_lt
  rw [U_nat, UInt8.toNat_toUInt32]; omega
theorem wf_U (x : UInt32) : IntKind.u32.wrap (U x) = U x := by
  have := U_lt x
  rw [wrap_u32, U_nat]; omega
/-- the cells of a row of words -/
def ucells (l : List UInt32) : List Value := l.map fun x => .int .u32 (U x)
theorem ucells_length (l : List UInt32) : (ucells l).length = l.length := by simp [ucells]
theorem ucells_at (l : List UInt32) (k : Nat) (h : k < l.length) : (ucells l)[k]? = some (.int .u32 (U l[k])) := by simp [ucells, h]
theorem ucells_set (l : List UInt32) (k : Nat) (x : UInt32) : (ucells l).set k (.int .u32 (U x)) = ucells (l.set k x) := by simp [ucells, List.map_set]
theorem ucells_one (l : List UInt32) : (ucells l).toArray.all (·.oneCell') = true := by
  rw [List.all_toArray, List.all_eq_true]; intro v hv
  simp only [ucells, List.mem_map] at hv
  obtain ⟨x, _, rfl⟩ := hv; rfl

/-- block b is this row of cells, that may be written -/
def Blk (w : World) (b : Nat) (t : TypeId) (cs : List Value) : Prop := w.heap[b]? = some (.cells cs.toArray t (0, 0))
theorem Blk.lt {w : World} {b : Nat} {t : TypeId} {cs : List Value} (h : Blk w b t cs) : b < w.heap.size := by
  rcases Nat.lt_or_ge b w.heap.size with hn | hn
  · exact hn
  · simp [Blk, Array.getElem?_eq_none hn] at h
theorem Blk.cell {w : World} {b : Nat} {t : TypeId} {cs : List Value} (h : Blk w b t cs) {k : Nat} {v : Value} (hv : cs[k]? = some v) : w.cell? ⟨b, k, none⟩ = some v := by
  rw [cell_of_row w b k _ t _ h]; simpa using hv
theorem Blk.free {w : World} {b : Nat} {t : TypeId} {cs : List Value} (h : Blk w b t cs) {k : Nat} (hk : k < cs.length) : w.frozen? ⟨b, k, none⟩ = false := by
  unfold Blk at h
  simp [World.frozen?, h]
theorem Blk.set {w : World} {b : Nat} {t : TypeId} {cs : List Value} (h : Blk w b t cs) (k : Nat) (v : Value) : Blk (w.setCell ⟨b, k, none⟩ v) b t (cs.set k v) := by
  unfold Blk at h ⊢
  simp [World.setCell, Array.getElem?_modify, h]
theorem Blk.row {w : World} {b : Nat} {t : TypeId} {cs : List Value} (h : Blk w b t cs) (cs' : List Value) : Blk (w.setRow b cs'.toArray) b t cs' := by
  unfold Blk at h ⊢
  simp [World.setRow, Array.getElem?_modify, h]
theorem Blk.below {w w' : World} {b : Nat} {t : TypeId} {cs : List Value} (h : Blk w b t cs) (hB : Below w.heap.size w w') : Blk w' b t cs := by
  unfold Blk; rw [hB.block b h.lt]; exact h
theorem Blk.chg {X : Nat → Prop} {w w' : World} {b : Nat} {t : TypeId} {cs : List Value} (h : Blk w b t cs) (hB : Chg X w w') (hX : ¬ X b) : Blk w' b t cs := hB.at h hX
theorem Blk.new (w : World) (cs : List Value) (t : TypeId) : Blk (w.alloc (.cells cs.toArray t)) w.heap.size t cs := by
  exact heap_alloc_last w _
theorem Blk.range {w : World} {b : Nat} {t : TypeId} {cs : List Value} (h : Blk w b t cs) : w.rangeAt b 0 cs := fun j v hv => by rw [Nat.zero_add]; exact h.cell hv
theorem heap_setRow_ne (w : World) (b : Nat) (cs : Array Value) (k : Nat) (h : k ≠ b) : (w.setRow b cs).heap[k]? = w.heap[k]? := by
  unfold World.setRow
  rw [Array.getElem?_modify, if_neg (fun e => h e.symm)]
theorem setRow_size (w : World) (b : Nat) (cs : Array Value) : (w.setRow b cs).heap.size = w.heap.size := by simp [World.setRow]
theorem below_setRow {B : Nat} {a w : World} (h : Below B a w) {b : Nat} (hb : B ≤ b) (cs : Array Value) : Below B a (w.setRow b cs) :=
  ⟨h.os, h.tape, h.output, by rw [setRow_size]; exact h.size, fun k hk => by rw [heap_setRow_ne w b cs k (by omega)]; exact h.block k hk⟩
theorem chg_setRow {X : Nat → Prop} (w : World) (b : Nat) (cs : Array Value) (hX : X b) : Chg X w (w.setRow b cs) :=
  ⟨rfl, rfl, rfl, by rw [setRow_size]; exact Nat.le_refl _, fun k _ hn => heap_setRow_ne w b cs k fun e => hn (e ▸ hX)⟩

section
variable {P : Program} {ops : Array Oper} {rest : List Oper} {op : Oper} {a : Act} {w : World} {Q : Exit → Act → World → Prop}
/-- a whole block is read -/
theorem blk_load (b : Nat) (cs : List Value) {t : TypeId} (h : Blk w b t cs) (d : TypeDesc) (hgd : op.guard = none) (ty : TypeId) (x : Operand) (ho : op.op = .load ty x) (hx : a.eval x = .pointer (some ⟨b, 0, none⟩))
    (hu : P.underlying ty = some d) (hd : (match d with | .struct _ | .array _ _ => true | _ => false) = true) (hi : (P.info? ty).map (·.size) = some cs.length)
    (k : wpList P ops Q rest (a.put op.dst (.agg cs.toArray)) w) : wpList P ops Q (op :: rest) a w :=
  wpList_plain hgd fun _ hK => wp_load_row ty x ho b hx t cs.toArray (0, 0) d h hu hd (by simpa using hi) (hK _ _ k)
/-- a whole block is written -/
theorem blk_store (b : Nat) (cs cs' : List Value) {t : TypeId} (h : Blk w b t cs) (hgd : op.guard = none) (ty : TypeId) (x y : Operand) (ho : op.op = .store ty x y) (hx : a.eval x = .pointer (some ⟨b, 0, none⟩))
    (hy : a.eval y = .agg cs'.toArray) (hi : (P.info? ty).map (·.size) = some cs'.length) (hl : cs.length = cs'.length) (h1 : cs'.toArray.all (·.oneCell') = true)
    (k : wpList P ops Q rest (a.put op.dst undef) (w.setRow b cs'.toArray)) : wpList P ops Q (op :: rest) a w :=
  wpList_plain hgd fun _ hK => wp_store_row ty x y ho b cs'.toArray hx hy t cs.toArray h (by simpa using hi) (by simpa using hl) h1 (hK _ _ k)
/-- a literal, as it is built -/
theorem blk_build (cs' : List Value) (hgd : op.guard = none) (t : TypeId) (parts : Array (Nat × Operand)) (ho : op.op = .build t parts)
    (hb : P.built t (parts.map fun (i, x) => (i, a.eval x)).toList = some cs'.toArray)
    (k : wpList P ops Q rest (a.put op.dst (.agg cs'.toArray)) w) : wpList P ops Q (op :: rest) a w :=
  wpList_build hgd t parts ho (by rw [hb]; rfl) (by rw [hb]; exact k)
/-- a result that lies in a block -/
theorem blk_result {fn : Func} {p : Tmp} {ty t : TypeId} {tmps : Array Value} {cs : List Value} {b : Nat} (hr : fn.results = #[.cell p ty]) (hp : tmps.getD p undef = .pointer (some ⟨b, 0, none⟩)) (h : Blk w b t cs) (d : TypeDesc)
    (hu : P.underlying ty = some d) (hd : (match d with | .struct _ | .array _ _ => true | _ => false) = true) (hi : (P.info? ty).map (·.size) = some cs.length) : (results fn tmps).run P w = .ok (.agg cs.toArray) w := by
  have := run_loadVar_row w b t ty cs.toArray (0, 0) d h hu hd (by simpa using hi)
  simp only [Array.getD_eq_getD_getElem?] at hp
  simp [results, hr, Sem.run_bind, Result.andThen, hp, asAddr, this]
end
end Go.Proofs.YtahmacnmphjhgaaDoor
namespace Go.Proofs.YtahmacnmphjhgaaDoor
open Go.RowKit Oct

abbrev PR := List UInt8 × List UInt8
/-- a pair's cells -/
def pcell (p : PR) : List Value := [.string (bs p.1), .string (bs p.2)]
def pcells : List PR → List Value
  | [] => []
  | p :: l => .string (bs p.1) :: .string (bs p.2) :: pcells l
theorem pcells_length : ∀ l : List PR, (pcells l).length = l.length * 2
  | [] => rfl
  | p :: l => by simp [pcells, pcells_length l]; omega
theorem pcells_append : ∀ a b : List PR, pcells (a ++ b) = pcells a ++ pcells b
  | [], _ => rfl
  | p :: a, b => by simp [pcells, pcells_append a b]
theorem pcells_snoc (l : List PR) (p : PR) : pcells l ++ [.string (bs p.1), .string (bs p.2)] = pcells (l ++ [p]) := by rw [pcells_append]; rfl
theorem pcells_key : ∀ (l : List PR) (k : Nat) (h : k < l.length), (pcells l)[k * 2]? = some (.string (bs l[k].1))
  | p :: l, 0, _ => rfl
  | p :: l, k + 1, h => by
    have := pcells_key l k (by simpa using h)
    rw [show (k + 1) * 2 = k * 2 + 2 by omega]
    simpa [pcells] using this
theorem pcells_val : ∀ (l : List PR) (k : Nat) (h : k < l.length), (pcells l)[k * 2 + 1]? = some (.string (bs l[k].2))
  | p :: l, 0, _ => rfl
  | p :: l, k + 1, h => by
    have := pcells_val l k (by simpa using h)
    rw [show (k + 1) * 2 + 1 = k * 2 + 1 + 2 by omega]
    simpa [pcells] using this
theorem pcells_drop : ∀ (l : List PR) (k : Nat), (pcells l).drop (k * 2) = pcells (l.drop k)
  | l, 0 => by simp
  | [], k + 1 => by simp [pcells]
  | p :: l, k + 1 => by
    rw [show (k + 1) * 2 = k * 2 + 2 by omega]
    simp [pcells, pcells_drop l k]
theorem pcells_take : ∀ (l : List PR) (k : Nat), (pcells l).take (k * 2) = pcells (l.take k)
  | l, 0 => by simp [pcells]
  | [], k + 1 => by simp [pcells]
  | p :: l, k + 1 => by
    rw [show (k + 1) * 2 = k * 2 + 2 by omega]
    simp [pcells, pcells_take l k]
theorem pcells_one (l : List PR) : ∀ u ∈ pcells l, u.oneCell' = true := by
  induction l with
  | nil => simp [pcells]
  | cons p l ih => intro u hu; simp [pcells] at hu; rcases hu with rfl | rfl | hu <;> first | rfl | exact ih u hu

/-- the slice value v is a row of pairs -/
def RP (w : World) (v : Value) (l : List PR) : Prop := Reads w v l.length (pcells l) ∧ ∃ a cap, v = .slice a l.length cap ∧ l.length ≤ cap
theorem RP.below {w w' : World} {v : Value} {l : List PR} (h : RP w v l) (hB : Below w.heap.size w w') : RP w' v l := ⟨Reads.below h.1 hB, h.2⟩
theorem RP.nil (w : World) : RP w (.slice none 0 0) [] := ⟨Reads.nil w, none, 0, rfl, Nat.le_refl _⟩
theorem RP.new (w : World) (l : List PR) (e : TypeId) : RP (w.alloc (.cells (pcells l).toArray e)) (.slice (some ⟨w.heap.size, 0, none⟩) l.length l.length) l := ⟨Reads.new w _ _ _ _, _, _, rfl, Nat.le_refl _⟩
/-- a row, opened -/
theorem RP.open {w : World} {v : Value} {l : List PR} (h : RP w v l) : ∃ a cap, v = .slice a l.length cap ∧ l.length ≤ cap ∧
    ∀ k (hk : k < l.length), ∃ b off, a = some ⟨b, off, none⟩ ∧ w.cell? ⟨b, off + k * 2, none⟩ = some (.string (bs l[k].1)) ∧ w.cell? ⟨b, off + k * 2 + 1, none⟩ = some (.string (bs l[k].2)) := by
  obtain ⟨⟨a, cap, rfl, hn, hc⟩, a', cap', hv, hle⟩ := h
  injection hv with _ _ h3
  subst h3
  refine ⟨a, cap, rfl, hle, fun k hk => ?_⟩
  obtain ⟨b, off, rfl, h1⟩ := hc _ _ (pcells_key l k hk)
  obtain ⟨b', off', hb, h2⟩ := hc _ _ (pcells_val l k hk)
  cases hb
  exact ⟨b, off, rfl, h1, h2⟩
theorem Reads.mk {w : World} {a : Option Addr} {n cap : Nat} {xs : List Value} (h1 : a = none → n = 0 ∧ cap = 0) (h2 : ∀ j u, xs[j]? = some u → ∃ b off, a = some ⟨b, off, none⟩ ∧ w.cell? ⟨b, off + j, none⟩ = some u) : Reads w (.slice a n cap) n xs := ⟨a, cap, rfl, h1, h2⟩
theorem none_cap {w : World} {a : Option Addr} {n cap : Nat} {xs : List Value} (h : Reads w (.slice a n cap) n xs) : a = none → n = 0 ∧ cap = 0 := by
  obtain ⟨a', cap', hv, hn, _⟩ := h
  injection hv with h1 _ h3
  subst h1 h3
  exact hn
/-- s[lo:hi], read -/
theorem RP.sub {w : World} {a : Option Addr} {cap : Nat} {l : List PR} (h : RP w (.slice a l.length cap) l) (lo hi : Nat) (h1 : lo ≤ hi) (h2 : hi ≤ l.length) :
    RP w (sliced a lo hi cap 2) ((l.drop lo).take (hi - lo)) := by
  have hlen : ((l.drop lo).take (hi - lo)).length = hi - lo := by simp; omega
  obtain ⟨hr, a', cap', hv, hle⟩ := h
  injection hv with _ _ h3
  subst h3
  have hn := none_cap hr
  obtain ⟨a', cap', hv, _, hc⟩ := hr
  injection hv with e1 _ e3
  subst e1 e3
  unfold sliced
  refine ⟨?_, _, _, by rw [hlen], by rw [hlen]; omega⟩
  rw [hlen]
  refine Reads.mk ?_ ?_
  · intro ha
    by_cases e : cap = lo
    · omega
    · rw [if_neg e] at ha
      have : a = none := by simpa using ha
      have := hn this
      omega
  · intro j u hj
    rw [← pcells_take, ← pcells_drop, List.getElem?_take] at hj
    split at hj
    · rename_i hlt
      rw [List.getElem?_drop] at hj
      obtain ⟨b, off, rfl, hu⟩ := hc _ _ hj
      rw [if_neg (by omega)]
      refine ⟨b, off + lo * 2, ?_, ?_⟩
      · rw [Option.map_some, Addr.add_lit]
      · rw [← hu, Nat.add_assoc]
    · simp at hj
theorem RP.cut {w : World} {a : Option Addr} {cap : Nat} {l : List PR} (h : RP w (.slice a l.length cap) l) (k : Nat) (hk : k ≤ l.length) : RP w (sliced a k l.length cap 2) (l.drop k) := by
  have := h.sub k l.length hk (Nat.le_refl _)
  rwa [List.take_of_length_le (by simp)] at this
theorem RP.head {w : World} {a : Option Addr} {cap : Nat} {l : List PR} (h : RP w (.slice a l.length cap) l) (k : Nat) (hk : k ≤ l.length) : RP w (sliced a 0 k cap 2) (l.take k) := by
  have := h.sub 0 k (by omega) hk
  simpa using this
end Go.Proofs.YtahmacnmphjhgaaDoor
namespace Go.Proofs.YtahmacnmphjhgaaDoor
open Go.RowKit Oct

/-- how a struct lies in memory -/
structure Rec (α : Type) where
  cell : α → List Value
  e : TypeId
  n : Nat
  bytes : Nat
  z : Value
  len : ∀ x, (cell x).length = n
  one : ∀ x, ∀ u ∈ cell x, u.oneCell' = true
  info : (Tryd.prog.info? e).map (fun i => (i.zero, i.size, i.bytes)) = some (some z, n, bytes)
  zs : z.cells.size = n
  pos : 0 < n
  bpos : 0 < bytes

section
variable {α : Type}
def Rec.cells (R : Rec α) : List α → List Value
  | [] => []
  | x :: l => R.cell x ++ R.cells l
theorem Rec.cells_length (R : Rec α) : ∀ l : List α, (R.cells l).length = l.length * R.n
  | [] => by simp [Rec.cells]
  | x :: l => by rw [Rec.cells, List.length_append, R.len, R.cells_length l, List.length_cons, Nat.add_mul]; omega
theorem Rec.cells_append (R : Rec α) : ∀ a b : List α, R.cells (a ++ b) = R.cells a ++ R.cells b
  | [], _ => rfl
  | x :: a, b => by rw [List.cons_append, Rec.cells, Rec.cells, R.cells_append a b, List.append_assoc]
theorem Rec.cells_one (R : Rec α) (l : List α) : ∀ u ∈ R.cells l, u.oneCell' = true := by
  induction l with
  | nil => intro u h; simp [Rec.cells] at h
  | cons x l ih =>
    intro u h
    rw [Rec.cells, List.mem_append] at h
    rcases h with h | h
    · exact R.one x u h
    · exact ih u h
theorem Rec.cells_at (R : Rec α) : ∀ (l : List α) (k : Nat) (h : k < l.length) (j : Nat) (u : Value), (R.cell l[k])[j]? = some u → (R.cells l)[k * R.n + j]? = some u
  | x :: l, 0, _, j, u, hu => by
    rw [List.getElem_cons_zero] at hu
    rw [Nat.zero_mul, Nat.zero_add, Rec.cells, List.getElem?_append_left (List.getElem?_eq_some_iff.1 hu).1]
    exact hu
  | x :: l, k + 1, h, j, u, hu => by
    have := R.cells_at l k (by simpa using h) j u hu
    rw [Rec.cells, List.getElem?_append_right (by rw [R.len, Nat.add_mul]; omega), R.len, show (k + 1) * R.n + j - R.n = k * R.n + j by rw [Nat.add_mul]; omega]
    exact this
theorem Rec.cells_drop (R : Rec α) : ∀ (l : List α) (k : Nat), (R.cells l).drop (k * R.n) = R.cells (l.drop k)
  | l, 0 => by simp
  | [], k + 1 => by simp [Rec.cells]
  | x :: l, k + 1 => by
    rw [List.drop_succ_cons, ← R.cells_drop l k, Rec.cells, show (k + 1) * R.n = (R.cell x).length + k * R.n by rw [R.len, Nat.add_mul]; omega, ← List.drop_drop, List.drop_left]
theorem Rec.cells_take (R : Rec α) : ∀ (l : List α) (k : Nat), (R.cells l).take (k * R.n) = R.cells (l.take k)
  | l, 0 => by simp [Rec.cells]
  | [], k + 1 => by simp [Rec.cells]
  | x :: l, k + 1 => by
    rw [List.take_succ_cons, Rec.cells, Rec.cells, ← R.cells_take l k, show (k + 1) * R.n = (R.cell x).length + k * R.n by rw [R.len, Nat.add_mul]; omega, List.take_length_add_append]

/-- the slice value v is a row -/
def Rec.Row (R : Rec α) (w : World) (v : Value) (l : List α) : Prop := Reads w v l.length (R.cells l) ∧ ∃ a cap, v = .slice a l.length cap ∧ l.length ≤ cap
/-- .. of the call's own -/
def Rec.Own (R : Rec α) (w : World) (base : Nat) (v : Value) (l : List α) : Prop := w.ownsRow base R.e R.n v l.length (R.cells l)
variable {R : Rec α} {w w' : World} {v : Value} {l : List α}
theorem Rec.Row.below (h : R.Row w v l) (hB : Below w.heap.size w w') : R.Row w' v l := ⟨Reads.below h.1 hB, h.2⟩
theorem Rec.Own.row {base : Nat} (h : R.Own w base v l) : R.Row w v l := by
  refine ⟨Reads.owned h, ?_⟩
  rcases h.2 with ⟨hv, h0⟩ | ⟨g, cap, cur, hv, _, _, hc, _⟩
  · exact ⟨none, 0, by rw [hv, h0], by omega⟩
  · exact ⟨_, _, hv, hc⟩
theorem Rec.Own.below {base : Nat} (h : R.Own w base v l) (hB : Below w.heap.size w w') : R.Own w' base v l := ownsRow_below h hB
theorem Rec.Own.mono {base base' : Nat} (h : R.Own w base v l) (hb : base' ≤ base) : R.Own w base' v l := owns_mono h hb
theorem Rec.Row.nil (w : World) : R.Row w (.slice none 0 0) [] := ⟨Reads.nil w, none, 0, rfl, Nat.le_refl _⟩
theorem Rec.Own.nil (w : World) (base : Nat) : R.Own w base (.slice none 0 0) [] := ⟨by simp [Rec.cells], .inl ⟨rfl, rfl⟩⟩
theorem Rec.Row.new (w : World) (l : List α) (e : TypeId) : R.Row (w.alloc (.cells (R.cells l).toArray e)) (.slice (some ⟨w.heap.size, 0, none⟩) l.length l.length) l := ⟨Reads.new w _ _ _ _, _, _, rfl, Nat.le_refl _⟩
/-- a row, opened -/
theorem Rec.Row.open (h : R.Row w v l) : ∃ a cap, v = .slice a l.length cap ∧ l.length ≤ cap ∧
    ∀ k (hk : k < l.length), ∃ b off, a = some ⟨b, off, none⟩ ∧ ∀ j u, (R.cell l[k])[j]? = some u → w.cell? ⟨b, off + k * R.n + j, none⟩ = some u := by
  obtain ⟨⟨a, cap, rfl, hn, hc⟩, a', cap', hv, hle⟩ := h
  injection hv with _ _ h3
  subst h3
  refine ⟨a, cap, rfl, hle, fun k hk => ?_⟩
  obtain ⟨u0, hu0⟩ : ∃ u, (R.cell l[k])[0]? = some u := ⟨_, List.getElem?_eq_getElem (l := R.cell l[k]) (i := 0) (by rw [R.len]; exact R.pos)⟩
  obtain ⟨b, off, rfl, h1⟩ := hc _ _ (R.cells_at l k hk 0 u0 hu0)
  refine ⟨b, off, rfl, fun j u hu => ?_⟩
  obtain ⟨b', off', hb, h2⟩ := hc _ _ (R.cells_at l k hk j u hu)
  cases hb
  rw [Nat.add_assoc]
  exact h2
/-- append(s, x...): s the call's own -/
theorem Rec.append {ops : Array Oper} {rest : List Oper} {o : Oper} {a : Act} {Q : Exit → Act → World → Prop} (R : Rec α) (w : World) (hgd : o.guard = none) (s x : Operand) (t : TypeId)
    (ho : o.op = .call { callee := .builtin .append, args := #[s, x], argTypes := #[t, t] }) (ht : Tryd.prog.underlying t = some (.slice R.e))
    (base : Nat) (v : Value) (xs : List α) (hown : R.Own w base v xs) (hs : a.eval s = v)
    (vx : Value) (ys : List α) (hr : R.Row w vx ys) (hx : a.eval x = vx) (hbytes : (xs.length + ys.length) * R.bytes ≤ 140737488355328) (hbase : base ≤ w.heap.size)
    (h : ∀ v' w', R.Own w' base v' (xs ++ ys) → Below base w w' → wpList Tryd.prog ops Q rest (a.put o.dst v') w') : wpList Tryd.prog ops Q (o :: rest) a w :=
  appendN w (R.cells ys) R.e hgd s x t ho base R.z R.n R.bytes ht R.info R.zs R.pos v xs.length (R.cells xs) hs hown vx ys.length hx hr.1 (R.cells_length ys) (R.cells_one ys) hbytes R.bpos hbase
    (fun v' w' h1 h2 => h v' w' (by unfold Rec.Own; rw [R.cells_append, List.length_append]; exact h1) h2)
theorem Rec.append1 {ops : Array Oper} {rest : List Oper} {o : Oper} {a : Act} {Q : Exit → Act → World → Prop} (R : Rec α) (w : World) (p : α) (hgd : o.guard = none) (s x : Operand) (t : TypeId)
    (ho : o.op = .call { callee := .builtin .append, args := #[s, x], argTypes := #[t, t] }) (ht : Tryd.prog.underlying t = some (.slice R.e))
    (base : Nat) (v : Value) (xs : List α) (hown : R.Own w base v xs) (hs : a.eval s = v) (c : Nat) (hx : a.eval x = .slice (some ⟨w.heap.size, 0, none⟩) 1 c)
    (cs : Array Value) (hcs : cs = (R.cell p).toArray) (e : TypeId) (he : e = R.e)
    (hbytes : (xs.length + 1) * R.bytes ≤ 140737488355328) (hbase : base ≤ w.heap.size)
    (h : ∀ g cap w', R.Own w' base (.slice (some ⟨g, 0, none⟩) (xs.length + 1) cap) (xs ++ [p]) → Below base w w' → wpList Tryd.prog ops Q rest (a.put o.dst (.slice (some ⟨g, 0, none⟩) (xs.length + 1) cap)) w') : wpList Tryd.prog ops Q (o :: rest) a (w.alloc (.cells cs e)) := by
  subst hcs he
  exact Go.Proofs.YtahmacnmphjhgaaDoor.append1 w (R.cell p) R.e hgd s x t ho base R.z R.n R.bytes ht R.info R.zs R.pos v xs.length (R.cells xs) hs hown c hx (R.len p) (R.one p) hbytes R.bpos hbase
    (fun v' w' h1 h2 => by
      obtain ⟨g, cap, rfl⟩ := ownsRow_succ h1
      exact h g cap w' (by unfold Rec.Own; rw [R.cells_append, List.length_append, Rec.cells, Rec.cells, List.append_nil]; exact h1) h2)
theorem Rec.step_append1 {ops : Array Oper} {o : Oper} {a : Act} {K : Act → World → Prop} {Q : Exit → Act → World → Prop} {E : Prop} (R : Rec α) (w : World) (p : α) (hgd : o.guard = none) (s x : Operand) (t : TypeId)
    (ho : o.op = .call { callee := .builtin .append, args := #[s, x], argTypes := #[t, t] }) (ht : Tryd.prog.underlying t = some (.slice R.e))
    (base : Nat) (v : Value) (xs : List α) (hown : R.Own w base v xs) (hs : a.eval s = v) (c : Nat) (hx : a.eval x = .slice (some ⟨w.heap.size, 0, none⟩) 1 c)
    (cs : Array Value) (hcs : cs = (R.cell p).toArray) (e : TypeId) (he : e = R.e)
    (hbytes : (xs.length + 1) * R.bytes ≤ 140737488355328) (hbase : base ≤ w.heap.size)
    (h : ∀ g cap w', R.Own w' base (.slice (some ⟨g, 0, none⟩) (xs.length + 1) cap) (xs ++ [p]) → Below base w w' → K (a.put o.dst (.slice (some ⟨g, 0, none⟩) (xs.length + 1) cap)) w') :
    if Region.wanted o (yielded ops a.tmps) = true then Oper.wp Tryd.prog o a (w.alloc (.cells cs e)) K Q else E := by
  subst hcs he
  exact Go.Proofs.YtahmacnmphjhgaaDoor.step_append1 w (R.cell p) R.e hgd s x t ho base R.z R.n R.bytes ht R.info R.zs R.pos v xs.length (R.cells xs) hs hown c hx (R.len p) (R.one p) hbytes R.bpos hbase
    (fun g cap w' h1 h2 => h g cap w' (by unfold Rec.Own; rw [R.cells_append, List.length_append, Rec.cells, Rec.cells, List.append_nil]; exact h1) h2)
/-- s[lo:hi], read -/
theorem Rec.Row.sub {a : Option Addr} {cap : Nat} (h : R.Row w (.slice a l.length cap) l) (lo hi : Nat) (h1 : lo ≤ hi) (h2 : hi ≤ l.length) :
    R.Row w (sliced a lo hi cap R.n) ((l.drop lo).take (hi - lo)) := by
  have hlen : ((l.drop lo).take (hi - lo)).length = hi - lo := by simp; omega
  obtain ⟨hr, a', cap', hv, hle⟩ := h
  injection hv with _ _ h3
  subst h3
  have hn := none_cap hr
  obtain ⟨a', cap', hv, _, hc⟩ := hr
  injection hv with e1 _ e3
  subst e1 e3
  unfold sliced
  refine ⟨?_, _, _, by rw [hlen], by rw [hlen]; omega⟩
  rw [hlen]
  refine Reads.mk ?_ ?_
  · intro ha
    by_cases e : cap = lo
    · omega
    · rw [if_neg e] at ha
      have : a = none := by simpa using ha
      have := hn this
      omega
  · intro j u hj
    rw [← Rec.cells_take, ← Rec.cells_drop, List.getElem?_take] at hj
    split at hj
    · rename_i hlt
      rw [List.getElem?_drop] at hj
      obtain ⟨b, off, rfl, hu⟩ := hc _ _ hj
      have hne : cap ≠ lo := by
        intro e
        have : hi - lo = 0 := by omega
        rw [this, Nat.zero_mul] at hlt
        omega
      rw [if_neg hne]
      refine ⟨b, off + lo * R.n, ?_, ?_⟩
      · rw [Option.map_some, Addr.add_lit]
      · rw [← hu, Nat.add_assoc]
    · simp at hj
theorem Rec.Row.cut {a : Option Addr} {cap : Nat} (h : R.Row w (.slice a l.length cap) l) (k : Nat) (hk : k ≤ l.length) : R.Row w (sliced a k l.length cap R.n) (l.drop k) := by
  have := h.sub k l.length hk (Nat.le_refl _)
  rwa [List.take_of_length_le (by simp)] at this
theorem Rec.Row.head {a : Option Addr} {cap : Nat} (h : R.Row w (.slice a l.length cap) l) (k : Nat) (hk : k ≤ l.length) : R.Row w (sliced a 0 k cap R.n) (l.take k) := by
  have := h.sub 0 k (by omega) hk
  simpa using this
/-- s[k:], run -/
theorem Rec.Row.cutRun {a : Option Addr} {cap : Nat} (h : R.Row w (.slice a l.length cap) l) (st : TypeId) (hst : Tryd.prog.underlying st = some (.slice (Tryd.prog.elem st))) (hsz : ∀ wx, (sizeOf (Tryd.prog.elem st)).run Tryd.prog wx = .ok R.n wx) (k : Nat) (c : Int) (hc : c = (k : Int)) (hk : k ≤ l.length) :
    ∃ A C, (∀ wx, (Instr.slice st (.slice a l.length cap) (some (.int .i64 c)) none none).run Tryd.prog wx = .ok (.slice A (l.length - k) C) wx) ∧ R.Row w (.slice A (l.length - k) C) (l.drop k) := by
  subst hc
  refine ⟨_, _, fun wx => ?_, h.cut k hk⟩
  rw [run_slice_l wx st a l.length cap hst .i64 k (by omega) (by omega), hsz]
  simp [Result.andThen, sliced]
/-- s[:k], run -/
theorem Rec.Row.headRun {a : Option Addr} {cap : Nat} (h : R.Row w (.slice a l.length cap) l) (st : TypeId) (hst : Tryd.prog.underlying st = some (.slice (Tryd.prog.elem st))) (hsz : ∀ wx, (sizeOf (Tryd.prog.elem st)).run Tryd.prog wx = .ok R.n wx) (k : Nat) (c : Int) (hc : c = (k : Int)) (hk : k ≤ l.length) :
    ∃ A C, (∀ wx, (Instr.slice st (.slice a l.length cap) none (some (.int .i64 c)) none).run Tryd.prog wx = .ok (.slice A k C) wx) ∧ R.Row w (.slice A k C) (l.take k) := by
  subst hc
  obtain ⟨_, a', cap', hv, hle⟩ := id h
  injection hv with _ _ h3
  subst h3
  refine ⟨if cap = 0 then a else a.map (·.add (0 * R.n)), cap - 0, fun wx => ?_, by have := Rec.Row.head h k hk; simpa [sliced] using this⟩
  rw [run_slice_h wx st a l.length cap hst .i64 k (by omega) (by omega), hsz]
  simp [Result.andThen, sliced]
/-- s[lo:hi], run -/
theorem Rec.Row.subRun {a : Option Addr} {cap : Nat} (h : R.Row w (.slice a l.length cap) l) (st : TypeId) (hst : Tryd.prog.underlying st = some (.slice (Tryd.prog.elem st))) (hsz : ∀ wx, (sizeOf (Tryd.prog.elem st)).run Tryd.prog wx = .ok R.n wx) (lo hi : Nat) (h1 : lo ≤ hi) (h2 : hi ≤ l.length) :
    ∃ A C, (∀ wx, (Instr.slice st (.slice a l.length cap) (some (.int .i64 (lo : Int))) (some (.int .i64 (hi : Int))) none).run Tryd.prog wx = .ok (.slice A (hi - lo) C) wx) ∧ R.Row w (.slice A (hi - lo) C) ((l.drop lo).take (hi - lo)) := by
  obtain ⟨_, a', cap', hv, hle⟩ := id h
  injection hv with _ _ h3
  subst h3
  refine ⟨_, _, fun wx => ?_, h.sub lo hi h1 h2⟩
  rw [run_slice_lh wx st a l.length cap hst .i64 .i64 lo hi (by omega) (by omega) (by omega), hsz]
  simp [Result.andThen, sliced]
end
end Go.Proofs.YtahmacnmphjhgaaDoor
namespace Go.Proofs.YtahmacnmphjhgaaDoor
open Go.RowKit Oct

def recS : Rec (List UInt8) where
  cell s := [.string (bs s)]
  e := 9
  n := 1
  bytes := 16
  z := .string ByteArray.empty
  len := fun _ => rfl
  one := by intro x u h; simp at h; subst h; rfl
  info := by kernel_rfl
  zs := rfl
  pos := by decide
  bpos := by decide
theorem recS_open {w : World} {v : Value} {l : List (List UInt8)} (h : recS.Row w v l) : ∃ a cap, v = .slice a l.length cap ∧ l.length ≤ cap ∧ ∀ k (hk : k < l.length), ∃ b off, a = some ⟨b, off, none⟩ ∧ w.cell? ⟨b, off + k, none⟩ = some (.string (bs l[k])) := by
  obtain ⟨a, cap, hv, hle, hc⟩ := h.open
  refine ⟨a, cap, hv, hle, fun k hk => ?_⟩
  obtain ⟨b, off, ha, hu⟩ := hc k hk
  have := hu 0 _ rfl
  rw [show recS.n = 1 from rfl, Nat.mul_one, Nat.add_zero] at this
  exact ⟨b, off, ha, this⟩
/-- is a text an identity? -/
def isId (s : List UInt8) : Bool := s.length == 32
def allIds (l : List (List UInt8)) : Bool := l.all isId
theorem allIds_false {l : List (List UInt8)} (k : Nat) (h : k < l.length) (hk : isId l[k] = false) : allIds l = false := by
  unfold allIds
  rw [List.all_eq_false]
  exact ⟨l[k], List.getElem_mem h, by rw [hk]; simp⟩
theorem allIds_true {l : List (List UInt8)} (h : ∀ k (hk : k < l.length), isId l[k] = true) : allIds l = true := by
  unfold allIds
  rw [List.all_eq_true]
  intro t ht
  obtain ⟨k, hk, rfl⟩ := List.getElem_of_mem ht
  exact h k hk
end Go.Proofs.YtahmacnmphjhgaaDoor
namespace Go.Proofs.YtahmacnmphjhgaaDoor
open Go.RowKit Oct

theorem count_kind (s : List UInt8) (w : World) : Calls Tryd.prog 51 #[.string (bs s), .string (bs [82])] w fun e w' => e = .returned (.int .i64 (Lib.countByte s 82)) ∧ w' = w := by
  have := Tryd.strings_Count_one (bs s) 82 w
  rwa [bs_data] at this
theorem index_kind (s : List UInt8) (w : World) : Calls Tryd.prog 53 #[.string (bs s), .string (bs [82])] w fun e w' => e = .returned (.int .i64 (Lib.indexByte s 82)) ∧ w' = w := by
  have := Tryd.strings_Index_one (bs s) 82 w
  rwa [bs_data] at this
theorem grow_kind (B b : Nat) (w : World) (hB : B ≤ b) (hbk : w.heap[b]? = some (.cells #[.pointer none, .slice none 0 0] 94 (0, 0))) (hBw : B ≤ w.heap.size) :
    Calls Tryd.prog 52 #[.pointer (some ⟨b, 0, none⟩), .int .i64 1] w fun e w' => e = .returned (.tuple #[]) ∧ Bld B b [] w' ∧ Below B w w' := by
  refine (Tryd.Builder_Grow_fresh B b 1 w hB hbk hBw (by decide)).mono ?_
  rintro e w' ⟨rfl, h1, h2⟩
  exact ⟨rfl, ⟨Nat.le_trans hBw h2.size, .inr h1⟩, h2⟩

set_option maxRecDepth 100000 in
set_option maxHeartbeats 4000000 in
theorem Replace_no (s r : List UInt8) (w : World) (h0 : Lib.countByte s 82 = 0) (hr : r = [84] ∨ r = [78]) :
    Calls Tryd.prog 50 #[.string (bs s), .string (bs [82]), .string (bs r), .int .i64 (-1)] w fun e w' => e = .returned (.string (bs s)) ∧ Below w.heap.size w w' := by
  have HC := Lib.hid (count_kind s w)
  rw [h0] at HC
  clear h0
  rcases hr with rfl | rfl
  · go_enter Tryd.func50, Tryd.ntmps50
    go_wp2_with fail
    refine HC.out.mono ?_
    rintro e w1 ⟨rfl, rfl⟩
    go_wp2_with fail
    go_ret
    exact ⟨rfl, Below.refl _ _⟩
  · go_enter Tryd.func50, Tryd.ntmps50
    go_wp2_with fail
    refine HC.out.mono ?_
    rintro e w1 ⟨rfl, rfl⟩
    go_wp2_with fail
    go_ret
    exact ⟨rfl, Below.refl _ _⟩
set_option maxRecDepth 100000 in
set_option maxHeartbeats 4000000 in
theorem Replace_one (r : List UInt8) (w : World) (hr : r = [84] ∨ r = [78]) :
    Calls Tryd.prog 50 #[.string (bs [82]), .string (bs [82]), .string (bs r), .int .i64 (-1)] w fun e w' => e = .returned (.string (bs r)) ∧ Below w.heap.size w w' := by
  have HC := Lib.hid (count_kind [82] w)
  rw [show Lib.countByte [82] 82 = 1 from rfl] at HC
  have HI := Lib.hid (fun w => index_kind [82] w)
  have hl : r.length = 1 := by rcases hr with rfl | rfl <;> rfl
  have hne : ((82 : UInt8) :: [] == r) = false := by rcases hr with rfl | rfl <;> rfl
  have hl1 : (r.length : Int) = 1 := by omega
  clear hr
  go_enter Tryd.func50, Tryd.ntmps50
  go_wp2_with fail
  refine HC.out.mono ?_
  rintro e w1 ⟨rfl, rfl⟩
  go_wp2_with fail
  refine (grow_kind w1.heap.size w1.heap.size _ (Nat.le_refl _) (World.alloc_heap_new w1 _) (by simp)).mono ?_
  rintro e w2 ⟨rfl, hb2, hB2⟩
  have HB2 := Lib.hid hb2
  have HW2 := Lib.hid ((b_alloc w1 _).trans hB2)
  clear hb2 hB2
  have hs0 : ∀ wx, (Instr.slice 9 (.string (bs [82])) (some (.int .i64 0)) none none).run Tryd.prog wx = .ok (.string (bs [82])) wx := by intro wx; kernel_rfl
  have hs1 : ∀ wx, (Instr.slice 9 (.string (bs [82])) (some (.int .i64 0)) (some (.int .i64 0)) none).run Tryd.prog wx = .ok (.string (bs [])) wx := by intro wx; kernel_rfl
  have hs2 : ∀ wx, (Instr.slice 9 (.string (bs [82])) (some (.int .i64 1)) none none).run Tryd.prog wx = .ok (.string (bs [])) wx := by intro wx; kernel_rfl
  have H0 := Lib.hid hs0
  have H1 := Lib.hid hs1
  have H2 := Lib.hid hs2
  clear hs0 hs1 hs2
  go_wp2
  go_loopw [11, 53] (fun t11 t53 wr => (t11 = .int .i64 0 ∧ t53 = .int .i64 0 ∧ Hid (Bld w1.heap.size w1.heap.size [] wr) ∧ Hid (Below w1.heap.size w1 wr)) ∨ (t11 = .int .i64 1 ∧ t53 = .int .i64 1 ∧ Hid (Bld w1.heap.size w1.heap.size r wr) ∧ Hid (Below w1.heap.size w1 wr))) (fun _ t53 _ => 1 - (intOf t53).toNat)
  case atStart => exact .inl ⟨rfl, rfl, HB2.out, HW2.out⟩
  case round =>
    rcases hrel with ⟨rfl, rfl, HB, HW⟩ | ⟨rfl, rfl, HB, HW⟩
    · have hs0 := H0.out
      go_wp2_with fail
      refine (HI.out _).mono ?_
      rw [show Lib.indexByte [82] 82 = 0 from rfl]
      rintro e w3 ⟨rfl, rfl⟩
      have hs1 := H1.out
      clear hs0
      go_wp2_with fail
      refine (WriteString_any _ _ [] [] _ HB.out (by decide)).mono ?_
      rintro e w4 ⟨rfl, hb4, hB4⟩
      have HB4 := Lib.hid hb4
      have HW4 := Lib.hid (HW.out.trans hB4)
      clear hb4 hB4 hs1
      go_wp2_with fail
      refine (WriteString_any _ _ [] r _ HB4.out (by simp; omega)).mono ?_
      rintro e w5 ⟨rfl, hb5, hB5⟩
      have HB5 := Lib.hid hb5
      have HW5 := Lib.hid (HW4.out.trans hB5)
      clear hb5 hB5
      go_wp2
      exact ⟨.inr ⟨rfl, rfl, HB5.out, HW5.out⟩, by simp [intOf]⟩
    · have hs2 := H2.out
      go_wp2_with fail
      refine (WriteString_any _ _ r [] _ HB.out (by simp; omega)).mono ?_
      rintro e w4 ⟨rfl, hb4, hB4⟩
      rw [List.append_nil] at hb4
      have HB4 := Lib.hid hb4
      have HW4 := Lib.hid (HW.out.trans hB4)
      clear hb4 hB4 hs2
      go_wp2_with fail
      refine (BString_any _ _ r _ HB4.out).mono ?_
      rintro e w5 ⟨rfl, hB5⟩
      go_wp2_with fail
      go_ret
      exact ⟨rfl, HW4.out.trans hB5⟩

/-- strings.ReplaceAll of a row of kinds -/
theorem ReplaceAll_any (s r : List UInt8) (w : World) (hs : Lib.countByte s 82 = 0 ∨ s = [82]) (hr : r = [84] ∨ r = [78]) :
    Calls Tryd.prog 47 #[.string (bs s), .string (bs [82]), .string (bs r)] w fun e w' => e = .returned (.string (bs (replV s r))) ∧ Below w.heap.size w w' := by
  rcases hs with hs | rfl
  · have hne : s ≠ [82] := by rintro rfl; exact absurd hs (by decide)
    have HR := Lib.hid (Replace_no s r w hs hr)
    have HE := Lib.hid (show replV s r = s by unfold replV; rw [if_neg hne])
    clear hs hr hne
    go_enter Tryd.func47, Tryd.ntmps47
    go_wp2_with fail
    refine HR.out.mono ?_
    rintro e w1 ⟨rfl, hB⟩
    go_wp2_with fail
    go_ret
    exact ⟨by rw [HE.out]; rfl, hB⟩
  · have HR := Lib.hid (Replace_one r w hr)
    clear hr
    go_enter Tryd.func47, Tryd.ntmps47
    go_wp2_with fail
    refine HR.out.mono ?_
    rintro e w1 ⟨rfl, hB⟩
    go_wp2_with fail
    go_ret
    exact ⟨rfl, hB⟩
end Go.Proofs.YtahmacnmphjhgaaDoor
namespace Go.Proofs.YtahmacnmphjhgaaDoor
open Go.RowKit

section
variable {P : Program} {ops : Array Oper} {md : Region.Mode} {C : World → Prop} {R : World → World → Prop}

/-- what is known of a slot's value, whatever the order -/
structure Known (R : World → World → Prop) where
  α : Type
  val : α → Value
  fact : α → Option (World → Prop)
  stable : ∀ x φ, fact x = some φ → ∀ w w', φ w → R w w' → φ w'
def Known.exact (R : World → World → Prop) (v : Value) : Known R := ⟨Unit, fun _ => v, fun _ => none, fun _ _ h => by cases h⟩

abbrev Facts := (Oper × (World → Prop)) → Prop
def Facts.none : Facts := fun _ => False
def Facts.add (o : Oper) (φ : Option (World → Prop)) (S : Facts) : Facts := fun q => (∃ ψ, φ = some ψ ∧ q = (o, ψ)) ∨ S q
def Facts.all (S : Facts) (w : World) : Prop := ∀ p, S p → p.2 w
/-- the facts that an operation may lean on: of those slots that it waits for -/
def Facts.at (S : Facts) (ops : Array Oper) (o : Oper) (w : World) : Prop := ∀ p, S p → p.1.apart ops o = false → p.2 w
def Facts.kept (R : World → World → Prop) (S : Facts) : Prop := ∀ p, S p → ∀ w w', p.2 w → R w w' → p.2 w'

theorem Facts.add_none (o : Oper) (S : Facts) : S.add o Option.none = S := by
  funext q; simp [Facts.add]
theorem Facts.add_comm (o o' : Oper) (φ φ' : Option (World → Prop)) (S : Facts) : (S.add o φ).add o' φ' = (S.add o' φ').add o φ := by
  funext q; simp only [Facts.add, eq_iff_iff]; grind
theorem Facts.all_add {S : Facts} {o : Oper} {φ : Option (World → Prop)} {w : World} : (S.add o φ).all w ↔ (∀ ψ, φ = some ψ → ψ w) ∧ S.all w := by
  constructor
  · intro h; exact ⟨fun ψ hψ => h (o, ψ) (.inl ⟨ψ, hψ, rfl⟩), fun p hp => h p (.inr hp)⟩
  · rintro ⟨h1, h2⟩ p (⟨ψ, hψ, rfl⟩ | hp)
    · exact h1 ψ hψ
    · exact h2 p hp
theorem Facts.all_some {S : Facts} {o : Oper} {φ : World → Prop} {w : World} : (S.add o (some φ)).all w ↔ φ w ∧ S.all w := by
  rw [Facts.all_add]; simp
theorem Facts.all_none {w : World} : Facts.none.all w ↔ True := by simp [Facts.all, Facts.none]
theorem Facts.at_some {S : Facts} {o o' : Oper} {φ : World → Prop} {w : World} (h : (S.add o (some φ)).at ops o' w) : (o.apart ops o' = false → φ w) ∧ S.at ops o' w :=
  ⟨fun ha => h (o, φ) (.inl ⟨φ, rfl, rfl⟩) ha, fun p hp => h p (.inr hp)⟩
theorem Facts.at_of_all {S : Facts} {o : Oper} {w : World} (h : S.all w) : S.at ops o w := fun p hp _ => h p hp
theorem Facts.kept_add {S : Facts} (h : S.kept R) (o : Oper) (g : Known R) (x : g.α) : (S.add o (g.fact x)).kept R := by
  rintro p (⟨ψ, hψ, rfl⟩ | hp)
  · exact g.stable x ψ hψ
  · exact h p hp
theorem Facts.all_kept {S : Facts} (h : S.kept R) {w w' : World} (ha : S.all w) (hR : R w w') : S.all w' := fun p hp => h p hp w w' (ha p hp) hR

def growUpon (P : Program) (w : World) (G : Value → World → Prop) : Result Next → Prop
  | .ok (.value u) w' => G u w'
  | .ok .skip w' => G undef w'
  | .ok (.enter f args) w' => w' = w ∧ Calls P f args w fun e w'' => ∃ u, e = .returned u ∧ G u w''
  | _ => False
def growAt (P : Program) (o : Oper) (a : Act) (w : World) (G : Value → World → Prop) : Prop := growUpon P w G ((execOp a.eval o).run P w)
def readUpon (w : World) (v : Value) : Result Next → Prop
  | .ok (.value u) w' => w' = w ∧ u = v
  | .ok .skip w' => w' = w ∧ v = undef
  | _ => False
def readAt (P : Program) (o : Oper) (a : Act) (w : World) (v : Value) : Prop := readUpon w v ((execOp a.eval o).run P w)

/-- what operation 'i' yields in state 'a' -/
def okFor (P : Program) (ops : Array Oper) (C : World → Prop) (R : World → World → Prop) (F : Nat → Option (Known R)) (i : Nat) (o : Oper) (S : Facts) (a : Act) (g : Known R) : Prop :=
  if Region.wanted o (yielded ops a.tmps) = true then
    match F i with
    | none => ∃ v, g = .exact R v ∧ ∀ w, C w → S.at ops o w → readAt P o a w v
    | some g' => g = g' ∧ ∀ w, C w → S.at ops o w → growAt P o a w fun u w' => R w w' ∧ ∃ x, u = g'.val x ∧ ∀ φ, g'.fact x = some φ → φ w'
  else g = .exact R undef

def gOp (P : Program) (ops : Array Oper) (C : World → Prop) (R : World → World → Prop) (F : Nat → Option (Known R)) (i : Nat) (K : Facts → Act → Prop) (S : Facts) (a : Act) : Prop :=
  match ops[i]? with
  | none => K S a
  | some o => ∃ g, okFor P ops C R F i o S a g ∧ ∀ x, K (S.add o (g.fact x)) (a.put o.dst (g.val x))

def Inh (C : World → Prop) (S : Facts) : Prop := ∃ w, C w ∧ S.all w

def wpAnyG (P : Program) (md : Region.Mode) (ops : Array Oper) (C : World → Prop) (R : World → World → Prop) (F : Nat → Option (Known R)) (Q : Array Bool → Facts → Act → Prop) : Nat → Array Bool → Facts → Act → Prop
  | 0, listed, S, a => Inh C S → Q listed S a
  | fuel + 1, listed, S, a => Inh C S →
    Region.ready md ops listed ≠ [] ∧
    ∀ i ∈ Region.ready md ops listed, gOp P ops C R F i (wpAnyG P md ops C R F Q fuel (listed.setIfInBounds i true)) S a

variable {F : Nat → Option (Known R)} {Q : Array Bool → Facts → Act → Prop}

theorem wpAnyG_inh {n : Nat} {listed : Array Bool} {S : Facts} {a : Act} (h : Inh C S → wpAnyG P md ops C R F Q n listed S a) : wpAnyG P md ops C R F Q n listed S a := by
  cases n <;> exact fun hi => h hi hi

/-- what an operation may come to, and where it goes on -/
theorem grow_on {i : Nat} {o : Oper} {S : Facts} {a : Act} {w : World} {g : Known R} {K : Facts → Act → Prop} {N : Act → World → Prop} (hCR : ∀ w w', C w → R w w' → C w') (hk : S.kept R) (hw : C w) (hS : S.all w)
    (hwant : Region.wanted o (yielded ops a.tmps) = true) (hok : okFor P ops C R F i o S a g) (hK : ∀ x, K (S.add o (g.fact x)) (a.put o.dst (g.val x)))
    (hN : ∀ S' a' w', S'.kept R → C w' → S'.all w' → K S' a' → N a' w') :
    growAt P o a w fun u w' => N (a.put o.dst u) w' := by
  unfold okFor at hok
  rw [if_pos hwant] at hok
  cases hF : F i with
  | none =>
    simp only [hF] at hok
    obtain ⟨v, rfl, hr⟩ := hok
    have hr := hr w hw (Facts.at_of_all hS)
    have hK := hK ()
    simp only [Known.exact, Facts.add_none] at hK
    unfold readAt at hr
    unfold growAt
    generalize (execOp a.eval o).run P w = r at *
    cases r with
    | ok n w' =>
      cases n <;> simp only [readUpon] at hr <;> simp only [growUpon]
      case value u => obtain ⟨rfl, rfl⟩ := hr; exact hN S _ _ hk hw hS hK
      case skip => obtain ⟨rfl, rfl⟩ := hr; exact hN S _ _ hk hw hS hK
    | halt x w' => simp only [readUpon] at hr
  | some g' =>
    simp only [hF] at hok
    obtain ⟨rfl, hr⟩ := hok
    have hr := hr w hw (Facts.at_of_all hS)
    have on : ∀ u w', (R w w' ∧ ∃ x, u = g.val x ∧ ∀ φ, g.fact x = some φ → φ w') → N (a.put o.dst u) w' := by
      rintro u w' ⟨hR, x, rfl, hx⟩
      exact hN _ _ _ (Facts.kept_add hk o g x) (hCR _ _ hw hR) (Facts.all_add.2 ⟨hx, Facts.all_kept hk hS hR⟩) (hK x)
    unfold growAt at hr ⊢
    generalize (execOp a.eval o).run P w = r at *
    cases r with
    | ok n w' =>
      cases n <;> simp only [growUpon] at hr ⊢
      case value u => exact on _ _ hr
      case skip => exact on _ _ hr
      case enter f args =>
        obtain ⟨rfl, hc⟩ := hr
        exact ⟨rfl, hc.mono fun e w'' ⟨u, he, hG⟩ => ⟨u, he, on _ _ hG⟩⟩
    | halt x w' => simp only [growUpon] at hr
theorem wp_of_grow {o : Oper} {a : Act} {w : World} {N : Act → World → Prop} {Q' : Exit → Act → World → Prop} (h : growAt P o a w fun u w' => N (a.put o.dst u) w') : o.wp P a w N Q' := by
  unfold growAt at h
  unfold Oper.wp
  generalize (execOp a.eval o).run P w = r at *
  cases r with
  | ok n w' =>
    cases n <;> simp only [growUpon] at h <;> simp only [Oper.upon]
    case value u => exact h
    case skip => exact h
    case enter f args =>
      obtain ⟨rfl, hc⟩ := h
      refine hc.mono fun e w'' ⟨u, he, hG⟩ => ?_
      subst he
      exact hG
  | halt x w' => simp only [growUpon] at h
def noDefer (o : Oper) : Bool := match o.op with | .defer _ => false | _ => true
theorem wpIn_of_grow {l n : Nat} {o : Oper} {a : Act} {w : World} {N : Act → World → Prop} {Q' : Exit → Act → World → Prop} (hd : noDefer o = true) (h : growAt P o a w fun u w' => N (a.put o.dst u) w') : o.wpIn (Fence.wide.inRound l) n P a w N Q' := by
  refine ⟨fun _ _ => trivial, ?_⟩
  rw [Oper.semAt_eq _ _ _ (fun c hc => by unfold noDefer at hd; rw [hc] at hd; cases hd)]
  unfold growAt at h
  generalize (execOp a.eval o).run P w = r at *
  cases r with
  | ok m w' =>
    cases m <;> simp only [growUpon] at h <;> simp only [Oper.uponIn]
    case value u => exact h
    case skip => exact h
    case enter f args =>
      obtain ⟨rfl, hc⟩ := h
      refine ⟨fun hx => (by cases hx), ?_⟩
      show CallsIn Fence.wide (n - 1) P f args w' _
      refine callsIn_wide.2 (hc.mono fun e w'' ⟨u, he, hG⟩ => ?_)
      subst he
      exact hG
  | halt x w' => simp only [growUpon] at h

theorem ready_fuel {listed : Array Bool} {X : Prop} (h : Region.ready md ops listed ≠ []) : Region.ready md ops listed = [] → X := fun e => absurd e h

theorem wpAny_of_G {Q' : Exit → Act → World → Prop} (hCR : ∀ w w', C w → R w w' → C w') (rest : Nat) (hQ : ∀ listed S a w, C w → S.all w → Q listed S a → wpAny P md ops Q' rest listed a w) :
    ∀ (fuel : Nat) (listed : Array Bool) (S : Facts) (a : Act) (w : World), S.kept R → C w → S.all w → wpAnyG P md ops C R F Q fuel listed S a → wpAny P md ops Q' (fuel + rest) listed a w
  | 0, _, _, _, w, _, hw, hS, h => by rw [Nat.zero_add]; exact hQ _ _ _ _ hw hS (h ⟨w, hw, hS⟩)
  | fuel + 1, listed, S, a, w, hk, hw, hS, h => by
    have h := h ⟨w, hw, hS⟩
    rw [show fuel + 1 + rest = (fuel + rest) + 1 by omega]
    refine ⟨ready_fuel h.1, fun i hi => ?_⟩
    have h2 := h.2 i hi
    unfold gOp at h2
    unfold wpOp
    cases ho : ops[i]? with
    | none => simp only [ho] at h2 ⊢; exact wpAny_of_G hCR rest hQ fuel _ S a w hk hw hS h2
    | some o =>
      simp only [ho] at h2 ⊢
      obtain ⟨g, hok, hK⟩ := h2
      by_cases hwant : Region.wanted o (yielded ops a.tmps) = true
      · rw [if_pos hwant]
        exact .inl (wp_of_grow (grow_on hCR hk hw hS hwant hok hK fun S' a' w' hk' hw' hS' hA => wpAny_of_G hCR rest hQ fuel _ S' a' w' hk' hw' hS' hA))
      · unfold okFor at hok
        rw [if_neg hwant] at hok ⊢
        subst hok
        have hK := hK ()
        simp only [Known.exact, Facts.add_none] at hK
        exact wpAny_of_G hCR rest hQ fuel _ S _ w hk hw hS hK
theorem wpAnyIn_of_G {l n : Nat} {Q' : Exit → Act → World → Prop} (hd : ∀ (j : Nat) (o : Oper), ops[j]? = some o → noDefer o = true) (hCR : ∀ w w', C w → R w w' → C w') (rest : Nat) (hQ : ∀ listed S a w, C w → S.all w → Q listed S a → wpAnyIn (Fence.wide.inRound l) n P md ops Q' rest listed a w) :
    ∀ (fuel : Nat) (listed : Array Bool) (S : Facts) (a : Act) (w : World), S.kept R → C w → S.all w → wpAnyG P md ops C R F Q fuel listed S a → wpAnyIn (Fence.wide.inRound l) n P md ops Q' (fuel + rest) listed a w
  | 0, _, _, _, w, _, hw, hS, h => by rw [Nat.zero_add]; exact hQ _ _ _ _ hw hS (h ⟨w, hw, hS⟩)
  | fuel + 1, listed, S, a, w, hk, hw, hS, h => by
    have h := h ⟨w, hw, hS⟩
    rw [show fuel + 1 + rest = (fuel + rest) + 1 by omega]
    refine ⟨ready_fuel h.1, fun i hi => ?_⟩
    have h2 := h.2 i hi
    unfold gOp at h2
    unfold wpOpIn
    cases ho : ops[i]? with
    | none => simp only [ho] at h2 ⊢; exact wpAnyIn_of_G hd hCR rest hQ fuel _ S a w hk hw hS h2
    | some o =>
      simp only [ho] at h2 ⊢
      obtain ⟨g, hok, hK⟩ := h2
      by_cases hwant : Region.wanted o (yielded ops a.tmps) = true
      · rw [if_pos hwant]
        exact wpIn_of_grow (hd i o ho) (grow_on hCR hk hw hS hwant hok hK fun S' a' w' hk' hw' hS' hA => wpAnyIn_of_G hd hCR rest hQ fuel _ S' a' w' hk' hw' hS' hA)
      · unfold okFor at hok
        rw [if_neg hwant] at hok ⊢
        subst hok
        have hK := hK ()
        simp only [Known.exact, Facts.add_none] at hK
        exact ⟨fun _ _ => trivial, wpAnyIn_of_G hd hCR rest hQ fuel _ S _ w hk hw hS hK⟩

/-- an operation that may run has an outcome -/
theorem okFor_out (hCR : ∀ w w', C w → R w w' → C w') {i : Nat} {o : Oper} {S : Facts} {a : Act} {g : Known R} (hk : S.kept R) (h : okFor P ops C R F i o S a g) (hI : Inh C S) : ∃ x, Inh C (S.add o (g.fact x)) := by
  obtain ⟨w, hw, hS⟩ := hI
  unfold okFor at h
  by_cases hwant : Region.wanted o (yielded ops a.tmps) = true
  · rw [if_pos hwant] at h
    cases hF : F i with
    | none =>
      simp only [hF] at h
      obtain ⟨v, rfl, _⟩ := h
      exact ⟨(), w, hw, by simp only [Known.exact, Facts.add_none]; exact hS⟩
    | some g' =>
      simp only [hF] at h
      obtain ⟨rfl, hr⟩ := h
      have hr := hr w hw (Facts.at_of_all hS)
      unfold growAt at hr
      have on : ∀ u w', (R w w' ∧ ∃ x, u = g.val x ∧ ∀ φ, g.fact x = some φ → φ w') → ∃ x, Inh C (S.add o (g.fact x)) := by
        rintro u w' ⟨hR, x, rfl, hx⟩
        exact ⟨x, w', hCR _ _ hw hR, Facts.all_add.2 ⟨hx, Facts.all_kept hk hS hR⟩⟩
      generalize (execOp a.eval o).run P w = r at *
      cases r with
      | ok n w' =>
        cases n <;> simp only [growUpon] at hr
        case value u => exact on _ _ hr
        case skip => exact on _ _ hr
        case enter f args =>
          obtain ⟨rfl, hc⟩ := hr
          obtain ⟨e, w'', _, ⟨u, _, hG⟩, _⟩ := hc []
          exact on _ _ hG
      | halt x w' => simp only [growUpon] at hr
  · rw [if_neg hwant] at h
    subst h
    exact ⟨(), w, hw, by simp only [Known.exact, Facts.add_none]; exact hS⟩

theorem okFor_one {i : Nat} {o : Oper} {S : Facts} {a : Act} {g g' : Known R} (h : okFor P ops C R F i o S a g) (h' : okFor P ops C R F i o S a g') (hI : Inh C S) : g = g' := by
  obtain ⟨w, hw, hS⟩ := hI
  unfold okFor at h h'
  by_cases hwant : Region.wanted o (yielded ops a.tmps) = true
  · rw [if_pos hwant] at h h'
    cases hF : F i with
    | none =>
      simp only [hF] at h h'
      obtain ⟨v, rfl, hv⟩ := h
      obtain ⟨v', rfl, hv'⟩ := h'
      have hv := hv w hw (Facts.at_of_all hS)
      have hv' := hv' w hw (Facts.at_of_all hS)
      unfold readAt at hv hv'
      have : v = v' := by
        generalize (execOp a.eval o).run P w = r at *
        cases r with
        | ok n w' => cases n <;> simp only [readUpon] at hv hv' <;> grind
        | halt x w' => simp only [readUpon] at hv
      rw [this]
    | some q =>
      simp only [hF] at h h'
      rw [h.1, h'.1]
  · rw [if_neg hwant] at h h'
    rw [h, h']

theorem okFor_more {i : Nat} {o : Oper} {S S' : Facts} {a : Act} {g : Known R} (h : okFor P ops C R F i o S a g) (hS : ∀ p, S p → S' p) : okFor P ops C R F i o S' a g := by
  have hat : ∀ w, S'.at ops o w → S.at ops o w := fun w hw p hp => hw p (hS p hp)
  unfold okFor at *
  split
  · rename_i hwant
    rw [if_pos hwant] at h
    cases hF : F i with
    | none => simp only [hF] at h ⊢; obtain ⟨v, e, hv⟩ := h; exact ⟨v, e, fun w hw ha => hv w hw (hat w ha)⟩
    | some q => simp only [hF] at h ⊢; exact ⟨h.1, fun w hw ha => h.2 w hw (hat w ha)⟩
  · rename_i hwant
    rw [if_neg hwant] at h; exact h

/-- state and facts of an operation that stands apart make no difference -/
theorem okFor_apart {j : Nat} {oi oj : Oper} {S : Facts} {a : Act} {u : Value} {φ : Option (World → Prop)} {g : Known R} (hap : oi.apart ops oj = true) (hsj : ∀ cs b, oj.op ≠ .select cs b)
    (h : okFor P ops C R F j oj (S.add oi φ) (a.put oi.dst u) g) : okFor P ops C R F j oj S a g := by
  obtain ⟨h1, h2, h3⟩ := Oper.apart_spec hap
  have hat : ∀ w, S.at ops oj w → (S.add oi φ).at ops oj w := by
    rintro w hw p (⟨ψ, hψ, rfl⟩ | hp) hap'
    · simp only [hap] at hap'; cases hap'
    · exact hw p hp hap'
  unfold okFor growAt readAt at *
  rw [wanted_put oj a oi.dst u h1, execOp_put oj hsj a oi.dst u h1] at h
  split
  · rename_i hwant
    rw [if_pos hwant] at h
    cases hF : F j with
    | none => simp only [hF] at h ⊢; obtain ⟨v, e, hv⟩ := h; exact ⟨v, e, fun w hw ha => hv w hw (hat w ha)⟩
    | some q => simp only [hF] at h ⊢; exact ⟨h.1, fun w hw ha => h.2 w hw (hat w ha)⟩
  · rename_i hwant
    rw [if_neg hwant] at h; exact h
theorem okFor_keep {i : Nat} {oi oj : Oper} {S : Facts} {a : Act} {u : Value} {g : Known R} (hap : oi.apart ops oj = true) (hsi : ∀ cs b, oi.op ≠ .select cs b)
    (h : okFor P ops C R F i oi S a g) : okFor P ops C R F i oi S (a.put oj.dst u) g := by
  obtain ⟨h1, h2, h3⟩ := Oper.apart_spec hap
  unfold okFor growAt readAt at *
  rw [wanted_put oi a oj.dst u h3, execOp_put oi hsi a oj.dst u h3]
  exact h

theorem wpAnyG_first (hCR : ∀ w w', C w → R w w' → C w') {n i : Nat} {oi : Oper} (hi : ops[i]? = some oi) (hsel : ∀ (j : Nat) (o : Oper) cs b, ops[j]? = some o → o.op ≠ .select cs b) (hin : i < n)
    (htail : ∀ listed, HeadInv md ops n listed → ∀ i, i < n → listed.getD i true = false → ∀ j ∈ Region.ready md ops listed, j < n)
    (hdone : ∀ listed S a, Q listed S a → ∀ j ∈ Region.ready md ops listed, n ≤ j) :
    ∀ (fuel : Nat) (listed : Array Bool) (S : Facts) (a : Act) (g : Known R), S.kept R → HeadInv md ops n listed →
      (∀ j oj, ops[j]? = some oj → j ≠ i → listed.getD j true = false → (∀ e ∈ oj.after, Region.binds md e = true → e.on ≠ i) → oi.apart ops oj = true) →
      i ∈ Region.ready md ops listed → okFor P ops C R F i oi S a g →
      (∀ x, wpAnyG P md ops C R F Q fuel (listed.setIfInBounds i true) (S.add oi (g.fact x)) (a.put oi.dst (g.val x))) → wpAnyG P md ops C R F Q (fuel + 1) listed S a := by
  intro fuel
  induction fuel with
  | zero =>
    intro listed S a g hk inv _ hr hok H hI
    have hun := (mem_ready.1 hr).1
    refine ⟨fun h => (by rw [h] at hr; cases hr), fun j hj => ?_⟩
    have hjn := htail listed inv i hin hun j hj
    by_cases hji : j = i
    · subst hji; unfold gOp; simp only [hi]; exact ⟨g, hok, H⟩
    · obtain ⟨x, hx⟩ := okFor_out hCR hk hok hI
      have := hdone _ _ _ (H x hx) j (ready_mono hj hji)
      omega
  | succ fuel ih =>
    intro listed S a g hk inv hfree hr hok H hI
    have hun := (mem_ready.1 hr).1
    refine ⟨fun h => (by rw [h] at hr; cases hr), fun j hj => ?_⟩
    have hjn := htail listed inv i hin hun j hj
    by_cases hji : j = i
    · subst hji; unfold gOp; simp only [hi]; exact ⟨g, hok, H⟩
    · obtain ⟨hjun, oj, hoj, hall⟩ := mem_ready.1 hj
      have hnot : ∀ e ∈ oj.after, Region.binds md e = true → e.on ≠ i := fun e he hb heq => by
        have h1 := hall e he hb
        rw [heq, getD_both hun] at h1
        cases h1
      have hap := hfree j oj hoj hji hjun hnot
      have hsi : ∀ cs b, oi.op ≠ .select cs b := fun cs b => hsel i oi cs b hi
      have hsj : ∀ cs b, oj.op ≠ .select cs b := fun cs b => hsel j oj cs b hoj
      have hfree' : ∀ k ok, ops[k]? = some ok → k ≠ i → (listed.setIfInBounds j true).getD k true = false →
          (∀ e ∈ ok.after, Region.binds md e = true → e.on ≠ i) → oi.apart ops ok = true := fun k ok hk hki hun hno => by
        refine hfree k ok hk hki ?_ hno
        by_cases hjk : j = k
        · subst hjk; exact hjun
        · rw [getD_set_ne true hjk] at hun; exact hun
      have step : ∀ x, Inh C (S.add oi (g.fact x)) → ∃ gj, okFor P ops C R F j oj S a gj ∧ ∀ y, wpAnyG P md ops C R F Q fuel ((listed.setIfInBounds i true).setIfInBounds j true) ((S.add oi (g.fact x)).add oj (gj.fact y)) ((a.put oi.dst (g.val x)).put oj.dst (gj.val y)) := by
        intro x hx
        have h2 := (H x hx).2 j (ready_mono hj hji)
        unfold gOp at h2
        simp only [hoj] at h2
        obtain ⟨gj, hgj, hK⟩ := h2
        exact ⟨gj, okFor_apart hap hsj hgj, hK⟩
      obtain ⟨x1, hx1⟩ := okFor_out hCR hk hok hI
      obtain ⟨gj, hgj, _⟩ := step x1 hx1
      unfold gOp
      simp only [hoj]
      refine ⟨gj, hgj, fun y => ?_⟩
      refine ih (listed.setIfInBounds j true) (S.add oj (gj.fact y)) (a.put oj.dst (gj.val y)) g (Facts.kept_add hk oj gj y) (inv.set hj hjn) hfree' (ready_mono hr (Ne.symm hji))
        (okFor_keep hap hsi (okFor_more hok fun p hp => .inr hp)) fun x => wpAnyG_inh fun hI2 => ?_
      have hx : Inh C (S.add oi (g.fact x)) := by
        obtain ⟨w, hw, hS⟩ := hI2
        rw [Facts.add_comm] at hS
        exact ⟨w, hw, (Facts.all_add.1 hS).2⟩
      obtain ⟨gj', hgj', hK⟩ := step x hx
      obtain rfl := okFor_one hgj hgj' hI
      have := hK y
      rw [Facts.add_comm, Act.put_comm a _ _ (fun d hd => (Oper.apart_spec hap).2.1 d hd), Array.setIfInBounds_comm _ _ (Ne.symm hji)] at this
      exact this

/-- the lexical walk -/
def wpG (P : Program) (ops : Array Oper) (C : World → Prop) (R : World → World → Prop) (F : Nat → Option (Known R)) (Q : Facts → Act → Prop) : Nat → List Oper → Facts → Act → Prop
  | _, [], S, a => Q S a
  | k, o :: rest, S, a => if Region.wanted o (yielded ops a.tmps) = true then
      match F k with
      | none => ∃ v, (∀ w, C w → S.at ops o w → readAt P o a w v) ∧ wpG P ops C R F Q (k + 1) rest S (a.put o.dst v)
      | some g => (∀ w, C w → S.at ops o w → growAt P o a w fun u w' => R w w' ∧ ∃ x, u = g.val x ∧ ∀ φ, g.fact x = some φ → φ w') ∧ ∀ x, wpG P ops C R F Q (k + 1) rest (S.add o (g.fact x)) (a.put o.dst (g.val x))
    else wpG P ops C R F Q (k + 1) rest S (a.put o.dst undef)

theorem wpG_out {Q : Facts → Act → Prop} {k : Nat} {o : Oper} {rest : List Oper} {S : Facts} {a : Act} (h : wpG P ops C R F Q k (o :: rest) S a) :
    ∃ g, okFor P ops C R F k o S a g ∧ ∀ x, wpG P ops C R F Q (k + 1) rest (S.add o (g.fact x)) (a.put o.dst (g.val x)) := by
  unfold wpG at h
  unfold okFor
  split at h
  · rename_i hwant
    simp only [hwant, if_true]
    cases hF : F k with
    | none => simp only [hF] at h; obtain ⟨v, h1, h2⟩ := h; exact ⟨.exact R v, ⟨v, rfl, h1⟩, fun _ => by simpa only [Known.exact, Facts.add_none] using h2⟩
    | some g => simp only [hF] at h; exact ⟨g, ⟨rfl, h.1⟩, h.2⟩
  · rename_i hwant
    exact ⟨.exact R undef, by rw [if_neg hwant], fun _ => by simpa only [Known.exact, Facts.add_none] using h⟩

/-- the order of the text, up to the tail -/
theorem wpAnyG_lex {Q : Facts → Act → Prop} (hCR : ∀ w w', C w → R w w' → C w') {n g : Nat} (hs : Region.noSelect ops = true)
    (htail : ∀ listed, HeadInv md ops n listed → ∀ i, i < n → listed.getD i true = false → ∀ j ∈ Region.ready md ops listed, j < n) :
    ∀ (l : List Oper) (k : Nat) (listed : Array Bool) (S : Facts) (a : Act), S.kept R → (∀ j, j < l.length → l[j]? = ops[k + j]?) → k + l.length = n → HeadInv md ops n listed →
    Region.lexHead md ops g l.length k listed = true → wpG P ops C R F Q k l S a → wpAnyG P md ops C R F (fun listed' S' a' => Region.seqB md ops g n listed' = true ∧ Q S' a') l.length listed S a
  | [], k, listed, _, _, _, _, hk, _, hB, h => fun _ => by
    have : k = n := by simpa using hk
    subst this
    exact ⟨by simpa [Region.lexHead] using hB, h⟩
  | o :: l, k, listed, S, a, hk, hl, hkn, inv, hB, h => by
    have h0 : ops[k]? = some o := by simpa using (hl 0 (by simp)).symm
    simp only [List.length_cons, Region.lexHead, Bool.and_eq_true] at hB
    obtain ⟨⟨hr, hf⟩, hB'⟩ := hB
    have hkn' : k < n := by simp only [List.length_cons] at hkn; omega
    have hr' : k ∈ Region.ready md ops listed := by simpa using hr
    obtain ⟨gg, hg, hK⟩ := wpG_out h
    exact wpAnyG_first hCR h0 (Region.noSelect_spec hs) hkn' htail (fun listed' S' a' hL => seqB_ready hL.1) l.length listed S a gg hk inv (Region.free_spec h0 hf) hr' hg
      fun x => wpAnyG_lex hCR hs htail l (k + 1) _ _ _ (Facts.kept_add hk o gg x) (fun j hj => by have := hl (j + 1) (by simp; omega); simpa [Nat.add_assoc, Nat.add_comm 1 j] using this) (by simp only [List.length_cons] at hkn; omega) (inv.set hr' hkn') hB' (hK x)

theorem wpAnyIn_of_seq {F : Fence} {m : Nat} {Q' : Exit → Act → World → Prop} : ∀ (l : List Oper) (k : Nat) (listed : Array Bool) (a : Act) (w : World), (∀ j, l[j]? = ops[k + j]?) →
    Region.seqB md ops l.length k listed = true → wpListIn F m P ops Q' l a w → wpAnyIn F m P md ops Q' l.length listed a w
  | [], _, _, _, _, _, hB, h => ⟨by simpa [Region.seqB] using hB, h⟩
  | o :: l, k, listed, a, w, hl, hB, h => by
    have h0 : ops[k]? = some o := by simpa using (hl 0).symm
    simp only [List.length_cons, Region.seqB, Bool.and_eq_true, decide_eq_true_eq] at hB
    refine ⟨fun h1 => (by rw [hB.1] at h1; cases h1), fun i hi => ?_⟩
    rw [hB.1] at hi
    have hik : i = k := by simpa using hi
    subst hik
    have ih := fun a' w' h' => wpAnyIn_of_seq (F := F) (m := m) (Q' := Q') l (i + 1) (listed.setIfInBounds i true) a' w' (fun j => by have := hl (j + 1); simpa [Nat.add_assoc, Nat.add_comm 1 j] using this) hB.2 h'
    unfold wpOpIn
    simp only [h0]
    unfold wpListIn at h
    split
    · rename_i hw
      rw [if_pos hw] at h
      exact Oper.wpIn_mono (fun a' w' h' => ih a' w' h') h
    · rename_i hw
      rw [if_neg hw] at h
      exact ⟨h.1, ih _ _ h.2⟩

/-- what is asked of a region whose first n operations are taken in the text's order, the others one behind the other -/
def splitB (ops : Array Oper) (n : Nat) : Bool :=
  Region.noSelect ops && (decide (n = ops.size) || (decide (n < ops.size) && Region.sinkB .any ops n && Region.chainB .any ops n)) && Region.lexHead .any ops (ops.size - n) n 0 (Array.replicate ops.size false)
theorem split_tail {n : Nat} (h : splitB ops n = true) : Region.noSelect ops = true ∧ n ≤ ops.size ∧ Region.lexHead .any ops (ops.size - n) n 0 (Array.replicate ops.size false) = true ∧
    ∀ listed, HeadInv .any ops n listed → ∀ i, i < n → listed.getD i true = false → ∀ j ∈ Region.ready .any ops listed, j < n := by
  simp only [splitB, Bool.and_eq_true, Bool.or_eq_true, decide_eq_true_eq] at h
  obtain ⟨⟨hs, hn⟩, hl⟩ := h
  rcases hn with rfl | ⟨⟨hn, h1⟩, h2⟩
  · exact ⟨hs, Nat.le_refl _, hl, fun listed _ i _ _ j hj => by obtain ⟨_, o, ho, _⟩ := mem_ready.1 hj; exact (Array.getElem?_eq_some_iff.1 ho).1⟩
  · refine ⟨hs, Nat.le_of_lt hn, hl, fun listed inv i hi hun j hj => ?_⟩
    rcases Nat.lt_or_ge j n with h | h
    · exact h
    · exact absurd hj (tail_waits h1 h2 hn inv _ i rfl hi hun j h)

/-- ONE WALK OF THE TEXT'S ORDER, the tail one operation behind the other -/
theorem wp_region_grown {id : Nat} {Q : Exit → Act → World → Prop} {a : Act} {w : World} {l : List Oper} (F : Nat → Option (Known R)) (n : Nat) (hm : P.follows .mixedOrders = true) (hB : splitB l.toArray n = true)
    (hCR : ∀ w w', C w → R w w' → C w') (hC : C w.drew)
    (h : wpG P l.toArray C R F (fun S a' => ∀ w', C w' → S.all w' → wpList P l.toArray Q (l.drop n) a' w') 0 (l.take n) Facts.none a) : (Code.region id l.toArray true).wp P Q a w := by
  obtain ⟨hs, hn, hlex, htail⟩ := split_tail hB
  have hk : Facts.none.kept R := fun p hp => hp.elim
  have ha : ∀ w', Facts.none.all w' := fun w' p hp => hp.elim
  have hn' : n ≤ l.length := by simpa using hn
  have htl : (l.take n).length = n := by simp; omega
  have hdl : (l.drop n).length = l.toArray.size - n := by simp
  have inv0 : HeadInv .any l.toArray n (Array.replicate l.toArray.size false) :=
    ⟨by simp, fun j oj _ hl => (by rw [getD_replicate_false] at hl; cases hl), fun t _ ht => getD_in (by simpa using ht) (getD_replicate_false _ _)⟩
  have H := wpAnyG_lex hCR hs htail (l.take n) 0 _ Facts.none a hk (fun j hj => by
    have hj' : j < n := by rw [htl] at hj; exact hj
    simp [hj']) (by simpa using htl) inv0 (by rw [htl]; exact hlex) h
  have := wpAny_of_G (Q' := Q) hCR (l.toArray.size - n) (fun listed S a' w' hw hS hL => by
    have := wpAny_of_seq (md := .any) (Q' := Q) (l.drop n) n listed a' w' (fun j => by simp [List.getElem?_drop]) (by rw [hdl]; exact hL.1) (hL.2 w' hw hS)
    rwa [hdl] at this) _ _ _ _ _ hk hC (ha _) H
  rw [htl, show n + (l.toArray.size - n) = l.toArray.size by omega] at this
  exact wp_region_any hm this

/-- .. in a round of a range over a function -/
theorem wpIn_region_grown {id k r : Nat} {Q : Exit → Act → World → Prop} {a : Act} {w : World} {l : List Oper} (F : Nat → Option (Known R)) (n : Nat) (hm : P.follows .mixedOrders = true) (hB : splitB l.toArray n = true) (hd : l.all noDefer = true)
    (hCR : ∀ w w', C w → R w w' → C w') (hC : C w.drew)
    (h : wpG P l.toArray C R F (fun S a' => ∀ w', C w' → S.all w' → wpListIn (Fence.wide.inRound r) k P l.toArray Q (l.drop n) a' w') 0 (l.take n) Facts.none a) : (Code.region id l.toArray true).wpIn (Fence.wide.inRound r) k P Q a w := by
  obtain ⟨hs, hn, hlex, htail⟩ := split_tail hB
  have hk : Facts.none.kept R := fun p hp => hp.elim
  have ha : ∀ w', Facts.none.all w' := fun w' p hp => hp.elim
  have hn' : n ≤ l.length := by simpa using hn
  have htl : (l.take n).length = n := by simp; omega
  have hdl : (l.drop n).length = l.toArray.size - n := by simp
  have inv0 : HeadInv .any l.toArray n (Array.replicate l.toArray.size false) :=
    ⟨by simp, fun j oj _ hl => (by rw [getD_replicate_false] at hl; cases hl), fun t _ ht => getD_in (by simpa using ht) (getD_replicate_false _ _)⟩
  have H := wpAnyG_lex hCR hs htail (l.take n) 0 _ Facts.none a hk (fun j hj => by
    have hj' : j < n := by rw [htl] at hj; exact hj
    simp [hj']) (by simpa using htl) inv0 (by rw [htl]; exact hlex) h
  have := wpAnyIn_of_G (l := r) (n := k) (Q' := Q) (fun j o ho => List.all_eq_true.1 hd o (List.mem_of_getElem? (by simpa using ho))) hCR (l.toArray.size - n) (fun listed S a' w' hw hS hL => by
    have := wpAnyIn_of_seq (md := .any) (F := Fence.wide.inRound r) (m := k) (Q' := Q) (l.drop n) n listed a' w' (fun j => by simp [List.getElem?_drop]) (by rw [hdl]; exact hL.1) (hL.2 w' hw hS)
    rwa [hdl] at this) _ _ _ _ _ hk hC (ha _) H
  rw [htl, show n + (l.toArray.size - n) = l.toArray.size by omega] at this
  exact wpIn_region_any hm this
end
end Go.Proofs.YtahmacnmphjhgaaDoor
