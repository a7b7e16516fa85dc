/- A range over a function whose iterator keeps cells of its own. Over any program. -/
import Derived.RangeFuncNested
import Derived.RangeFuncBound
import Derived.RangeFuncCalls
import Derived.RangeFuncLeaves
import Derived.Shelf.Abstract
import Derived.Test.YtdebgkjekcppmaaP0
namespace Go.Proofs.Ytdebgkjekcppmaa
open Go.RowKit

/-- blocks outside X lie as they lay -/
structure Chg (X : Nat → Prop) (w w' : World) : Prop where
  os : w'.os = w.os
  tape : w'.tape = w.tape
  output : w'.output = w.output
  size : w.heap.size ≤ w'.heap.size
  block : ∀ k, k < w.heap.size → ¬ X k → w'.heap[k]? = w.heap[k]?
theorem Chg.refl (X : Nat → Prop) (w : World) : Chg X w w := ⟨rfl, rfl, rfl, Nat.le_refl _, fun _ _ _ => rfl⟩
theorem Chg.trans {X : Nat → Prop} {a b c : World} (h : Chg X a b) (k : Chg X b c) : Chg X a c :=
  ⟨k.os.trans h.os, k.tape.trans h.tape, k.output.trans h.output, Nat.le_trans h.size k.size, fun i hi hx => (k.block i (Nat.lt_of_lt_of_le hi h.size) hx).trans (h.block i hi hx)⟩
theorem Chg.mono {X X' : Nat → Prop} {w w' : World} (h : Chg X w w') (hx : ∀ k, X k → X' k) : Chg X' w w' := ⟨h.os, h.tape, h.output, h.size, fun k hk hn => h.block k hk fun hxk => hn (hx k hxk)⟩
theorem Chg.of_below {X : Nat → Prop} {w w' : World} (h : Below w.heap.size w w') : Chg X w w' := ⟨h.os, h.tape, h.output, h.size, fun k hk _ => h.block k hk⟩
/-- what a growth of the caller's own leaves -/
theorem Chg.of_base {X : Nat → Prop} {B : Nat} {w w' : World} (h : Below B w w') (hX : ∀ k, B ≤ k → X k) : Chg X w w' :=
  ⟨h.os, h.tape, h.output, h.size, fun k hk hn => h.block k (Nat.lt_of_not_le fun hb => hn (hX k hb))⟩
theorem Chg.below {X : Nat → Prop} {B : Nat} {w w' : World} (h : Chg X w w') (hX : ∀ k, X k → B ≤ k) (hB : B ≤ w.heap.size) : Below B w w' :=
  ⟨h.os, h.tape, h.output, h.size, fun k hk => h.block k (Nat.lt_of_lt_of_le hk hB) fun hx => by have := hX k hx; omega⟩
theorem Chg.alloc (X : Nat → Prop) (w : World) (o : Obj) : Chg X w (w.alloc o) := Chg.of_below (b_alloc w o)
theorem Chg.drew (X : Nat → Prop) (w : World) : Chg X w w.drew := Chg.of_below (b_drew w)
theorem Chg.setCell {X : Nat → Prop} (w : World) (a : Addr) (u : Value) (h : X a.block) : Chg X w (w.setCell a u) :=
  ⟨rfl, rfl, rfl, by simp [World.setCell], fun k _ hn => Below.heap_setCell _ _ _ _ fun e => hn (e ▸ h)⟩
theorem Chg.putObj {X : Nat → Prop} (w : World) (l : Nat) (o : Obj) (h : X l) : Chg X w (w.putObj l o) :=
  ⟨rfl, rfl, rfl, by simp, fun k _ hn => World.putObj_heap_other fun e => hn (e ▸ h)⟩
theorem Chg.at {X : Nat → Prop} {w w' : World} (h : Chg X w w') {k : Nat} {o : Obj} (hk : w.heap[k]? = some o) (hn : ¬ X k) : w'.heap[k]? = some o :=
  (h.block k (Array.getElem?_eq_some_iff.1 hk).1 hn).trans hk
theorem Chg.cell {X : Nat → Prop} {w w' : World} (h : Chg X w w') {a : Addr} {u : Value} (ha : w.cell? a = some u) (hn : ¬ X a.block) : w'.cell? a = some u :=
  (World.cell?_of_block (w := w) (h.block a.block (lt_of_cell ha) hn)).trans ha

section
variable {F : Fence} {n : Nat} {P : Program} {α : Type}

/-- an iterator, captured values lb: it hands out what 'out' says, writes blocks of X alone, and wants the blocks of Y kept in a round that goes on -/
def IterC (F : Fence) (n : Nat) (P : Program) (gf : Nat) (lb : Array Value) (X Y : Nat → Prop) (El : α → Array Value → World → Prop) (out : List α) (W : World) : Prop :=
  ∀ (l : Nat) (J Jx : List α → World → Prop),
    (∀ pre U U', J pre U → Chg X U U' → J pre U') → (∀ pre U U', Jx pre U → Chg X U U' → Jx pre U') →
    (∀ pre x vs U, J pre U → El x vs U → pre ++ [x] <+: out → YieldAt F (n - 1) P l vs U fun e U' =>
      (e = .returned (.bool true) ∧ J (pre ++ [x]) U' ∧ Chg (fun k => ¬ Y k) U U') ∨ (e = .returned (.bool false) ∧ Jx (pre ++ [x]) U')) →
    J [] W → CallsIn F n P gf (#[.func (.yield l) #[] #[]] ++ lb) W fun e W' => (∃ v, e = .returned v) ∧ (J out W' ∨ ∃ pre, pre <+: out ∧ Jx pre W')

/-- how a round's body may be left; D: the loop's two blocks begin there -/
def rangeEnd (D : Nat) (Y : Nat → Prop) (I : List α → World → Prop) (Ix : Code → List α → World → Prop) (pre : List α) (U : World) : Exit → Act → World → Prop
  | .normal, _, U' => Chg (fun k => ¬ (Y k ∨ k = D ∨ k = D + 1)) U U' ∧ I pre U'
  | .ret, _, U' => Chg (fun k => ¬ (k = D ∨ k = D + 1)) U U' ∧ Ix .ret pre U'
  | .exit id, _, U' => Chg (fun k => ¬ (k = D ∨ k = D + 1)) U U' ∧ Ix (.exit id) pre U'
  | .goto t, _, U' => Chg (fun k => ¬ (k = D ∨ k = D + 1)) U U' ∧ Ix (.goto t) pre U'
  | .panic _, _, _ => False
  | .outgrown, _, _ => False

theorem wpIn_range {g : Operand} {ps : Array Tmp} {assign body : Code} {Q : Exit → Act → World → Prop} {a : Act} {w : World}
    (hro : F.round = none) (h1 : 1 ≤ n) {gf : Nat} {lb : Array Value} (hg : a.eval g = .func (.func gf) #[] lb) (hFg : F.fn gf) (eg : ∀ args w, (callFunc gf args).run P w = .ok (.enter gf args) w)
    {X Y : Nat → Prop} {El : α → Array Value → World → Prop} {out : List α} (hX : ∀ k, X k → k < w.heap.size) (hY : ∀ k, Y k → k < w.heap.size)
    (hseq : ∀ W, Below w.heap.size w W → IterC F (n - 1) P gf lb X Y El out W) (hps : ∀ x vs U, El x vs U → vs.size = ps.size)
    (hEl : ∀ x vs U U', El x vs U → Chg (fun k => k = w.heap.size ∨ k = w.heap.size + 1) U U' → El x vs U')
    (I : List α → World → Prop) (Ix : Code → List α → World → Prop)
    (hI : ∀ pre U U', I pre U → Chg (fun k => X k ∨ k = w.heap.size ∨ k = w.heap.size + 1) U U' → I pre U')
    (hIx : ∀ c pre U U', Ix c pre U → Chg (fun k => X k ∨ k = w.heap.size ∨ k = w.heap.size + 1) U U' → Ix c pre U') (h0 : I [] w)
    (hround : ∀ (l : Nat) (pre : List α) (x : α) (vs : Array Value) (U : World), I pre U → El x vs U → pre ++ [x] <+: out →
      assign.wpIn (F.inRound l) (n - 1 - 1) P (Exit.then (fun a' U1 => Below U.heap.size U U1 ∧ ∀ U2, w.heap.size + 2 ≤ U2.heap.size → I pre U2 → El x vs U2 → Chg (fun k => k = w.heap.size ∨ k = w.heap.size + 1) U1 U2 →
        body.wpIn (F.inRound l) (n - 1 - 1) P (rangeEnd w.heap.size Y I Ix (pre ++ [x]) U2) a' U2) (fun _ _ _ => False)) { tmps := (ps.zip vs).foldl (fun t (p, v) => t.setIfInBounds p v) a.tmps, defers := [] } U)
    (hdone : ∀ W, w.heap.size + 2 ≤ W.heap.size → I out W → W.heap[w.heap.size]? = some (.deferred (some [])) → Q .normal { a with defers := { target := .collected w.heap.size, args := #[] } :: a.defers } W)
    (hstop : ∀ c pre W, w.heap.size + 2 ≤ W.heap.size → pre <+: out → Ix c pre W → W.heap[w.heap.size]? = some (.deferred (some [])) → c.wpIn F n P Q { a with defers := { target := .collected w.heap.size, args := #[] } :: a.defers } W) :
    (Code.rangeFunc g ps assign body).wpIn F n P Q a w := by
  refine wpIn_rangeFunc fun fn hfn => ?_
  rw [hro]
  obtain ⟨rec, hrec⟩ : ∃ rec : LoopState → Option Code → Loop, rec = fun st pe => { state := st, pending := pe, fn, tmps := a.tmps, params := ps, assign, body, defers := w.heap.size } := ⟨_, rfl⟩
  obtain ⟨W1, hW1⟩ : ∃ W1, (w.alloc (.deferred (some []))).alloc (.loop (rec .ready none)) = W1 := ⟨_, rfl⟩
  obtain ⟨hK1, hL1, hb1⟩ := two_new w (.deferred (some [])) (.loop (rec .ready none))
  rw [hW1] at hK1 hL1 hb1
  have hsz1 : w.heap.size + 2 ≤ W1.heap.size := by have := (Array.getElem?_eq_some_iff.1 hL1).1; omega
  refine ⟨w.heap.size + 1, [{ target := .collected w.heap.size, args := #[] }], W1, { target := .fn (.func gf) lb, args := #[.func (.yield (w.heap.size + 1)) #[] #[]] }, W1, gf,
    #[.func (.yield (w.heap.size + 1)) #[] #[]] ++ lb, W1, ?_, ?_, ?_, ?_, fun _ => h1, ?_⟩
  · rw [← hW1, hrec]; exact run_enterLoop_outer _ _ _ _ _
  · simp only [resolve, hg]
    simp [go_sem]
  · intro f' hf'; simp [Target.leads] at hf'; subst hf'; exact hFg
  · simp [invoke, go_sem, eg]
  have xD : ∀ k, X k → k ≠ w.heap.size ∧ k ≠ w.heap.size + 1 := fun k hk => by have := hX k hk; omega
  have keep : ∀ {U U' : World} {o o' : Obj}, Chg X U U' → U.heap[w.heap.size + 1]? = some o → U.heap[w.heap.size]? = some o' → U'.heap[w.heap.size + 1]? = some o ∧ U'.heap[w.heap.size]? = some o' :=
    fun hc h h' => ⟨hc.at h fun hx => (xD _ hx).2 rfl, hc.at h' fun hx => (xD _ hx).1 rfl⟩
  refine (hseq W1 hb1 (w.heap.size + 1)
    (fun pre U => I pre U ∧ U.heap[w.heap.size + 1]? = some (.loop (rec .ready none)) ∧ U.heap[w.heap.size]? = some (.deferred (some [])))
    (fun pre U => ∃ c, Ix c pre U ∧ U.heap[w.heap.size + 1]? = some (.loop (rec .done (some c))) ∧ U.heap[w.heap.size]? = some (.deferred (some [])))
    (fun pre U U' hs hc => ⟨hI _ _ _ hs.1 (hc.mono fun _ h => .inl h), keep hc hs.2.1 hs.2.2⟩)
    (fun pre U U' ⟨c, hs, hl, hk⟩ hc => ⟨c, hIx _ _ _ _ hs (hc.mono fun _ h => .inl h), keep hc hl hk⟩)
    ?_ ⟨hI _ _ _ h0 (Chg.of_below hb1), hL1, hK1⟩).mono ?_
  · rintro pre x vs U ⟨hi, hl, hk⟩ hel hpre
    have hy := run_yield (P := P) (args := vs) hl (by rw [hrec]; exact hps x vs U hel)
    rw [hrec] at hy
    refine ⟨fn, _, assign, body, hy, roundIn_of_wpIn hfn (wpIn_mono (hround _ pre x vs U hi hel hpre) ?_)⟩
    clear hy
    intro ea a' U1 hea
    cases ea with
    | normal => ?_
    | _ => exact hea
    obtain ⟨hbel, hbody⟩ := hea
    have c1 : ∀ {Z : Nat → Prop}, Chg Z U U1 := fun {Z} => Chg.of_below hbel
    replace hl := c1.at (X := fun _ => False) hl (fun h => h)
    replace hk := c1.at (X := fun _ => False) hk (fun h => h)
    replace hi := hI _ _ _ hi c1
    replace hel := hEl _ _ _ _ hel c1
    have hlt := (Array.getElem?_eq_some_iff.1 hl).1
    refine ⟨_, run_beginRound hl (by rw [hrec]), ?_⟩
    obtain ⟨U2, hU2⟩ : ∃ U2, U1.putObj (w.heap.size + 1) (.loop { rec .ready none with state := .busy }) = U2 := ⟨_, rfl⟩
    have hl2 : U2.heap[w.heap.size + 1]? = some (.loop { rec .ready none with state := .busy }) := by rw [← hU2]; exact World.putObj_heap_same hlt
    have hk2 : U2.heap[w.heap.size]? = some (.deferred (some [])) := by rw [← hU2]; exact (World.putObj_heap_other (by omega)).trans hk
    have c2 : ∀ {Z : Nat → Prop}, Z (w.heap.size + 1) → Chg Z U1 U2 := fun {Z} hz => by rw [← hU2]; exact Chg.putObj _ _ _ hz
    rw [hU2]
    refine wpIn_mono (hbody U2 (by have := (Array.getElem?_eq_some_iff.1 hl2).1; omega) (hI _ _ _ hi (c2 (.inr (.inr rfl)))) (hEl _ _ _ _ hel (c2 (.inr rfl))) (c2 (.inr rfl))) ?_
    have fin : ∀ (jump : Option Code) (U3 : World), U3.heap[w.heap.size + 1]? = some (.loop { rec .ready none with state := .busy }) → U3.heap[w.heap.size]? = some (.deferred (some [])) →
        (Instr.endRound (w.heap.size + 1) jump).run P U3 = .ok (.bool jump.isNone) (U3.putObj (w.heap.size + 1) (.loop (rec (if jump.isNone then .ready else .done) jump))) ∧
        (U3.putObj (w.heap.size + 1) (.loop (rec (if jump.isNone then .ready else .done) jump))).heap[w.heap.size + 1]? = some (.loop (rec (if jump.isNone then .ready else .done) jump)) ∧
        (U3.putObj (w.heap.size + 1) (.loop (rec (if jump.isNone then .ready else .done) jump))).heap[w.heap.size]? = some (.deferred (some [])) := fun jump U3 hl3 hk3 => by
      have := run_endRound (P := P) jump hl3
      rw [hrec] at this ⊢
      exact ⟨this, World.putObj_heap_same (Array.getElem?_eq_some_iff.1 hl3).1, (World.putObj_heap_other (by omega)).trans hk3⟩
    have stop : ∀ (c : Code) (U3 : World), Chg (fun k => ¬ (k = w.heap.size ∨ k = w.heap.size + 1)) U2 U3 → Ix c (pre ++ [x]) U3 → ∃ v U4, (Instr.endRound (w.heap.size + 1) (some c)).run P U3 = .ok v U4 ∧
        ((Ending.returned v = .returned (.bool true) ∧ (I (pre ++ [x]) U4 ∧ U4.heap[w.heap.size + 1]? = some (.loop (rec .ready none)) ∧ U4.heap[w.heap.size]? = some (.deferred (some []))) ∧ Chg (fun k => ¬ Y k) U U4) ∨
         (Ending.returned v = .returned (.bool false) ∧ ∃ c, Ix c (pre ++ [x]) U4 ∧ U4.heap[w.heap.size + 1]? = some (.loop (rec .done (some c))) ∧ U4.heap[w.heap.size]? = some (.deferred (some [])))) := fun c U3 hc hx => by
      obtain ⟨hr, hl4, hk4⟩ := fin (some c) U3 (hc.at hl2 fun h => h (.inr rfl)) (hc.at hk2 fun h => h (.inl rfl))
      exact ⟨_, _, hr, .inr ⟨rfl, c, hIx _ _ _ _ hx (Chg.putObj _ _ _ (.inr (.inr rfl))), hl4, hk4⟩⟩
    rintro e a3 U3 hp
    cases e with
    | normal =>
      obtain ⟨hc, hi3⟩ := hp
      obtain ⟨hr, hl4, hk4⟩ := fin none U3 (hc.at hl2 fun h => h (.inr (.inr rfl))) (hc.at hk2 fun h => h (.inr (.inl rfl)))
      have yD : ¬ Y (w.heap.size + 1) := fun h => by have := hY _ h; omega
      exact ⟨_, _, hr, .inl ⟨rfl, ⟨hI _ _ _ hi3 (Chg.putObj _ _ _ (.inr (.inr rfl))), hl4, hk4⟩,
        (((c1.trans (c2 yD)).trans (hc.mono fun k hk hy => hk (.inl hy))).trans (Chg.putObj _ _ _ yD))⟩⟩
    | ret => exact stop .ret U3 hp.1 hp.2
    | exit id => exact stop (.exit id) U3 hp.1 hp.2
    | goto t => exact stop (.goto t) U3 hp.1 hp.2
    | panic ch => exact hp.elim
    | outgrown => exact hp.elim
  · rintro e W2 ⟨⟨v, rfl⟩, (⟨hi, hl, hk⟩ | ⟨pre, hpre, c, hi, hl, hk⟩)⟩
    · have hlt := (Array.getElem?_eq_some_iff.1 hl).1
      exact ⟨none, _, by have := run_endLoop (P := P) hl (by rw [hrec]; simp); rw [hrec] at this; exact this, hdone _ (by simp; omega) (hI _ _ _ hi (Chg.putObj _ _ _ (.inr (.inr rfl)))) ((World.putObj_heap_other (by omega)).trans hk)⟩
    · have hlt := (Array.getElem?_eq_some_iff.1 hl).1
      exact ⟨some c, _, by have := run_endLoop (P := P) hl (by rw [hrec]; simp); rw [hrec] at this; exact this, hstop c pre _ (by simp; omega) hpre (hIx _ _ _ _ hi (Chg.putObj _ _ _ (.inr (.inr rfl)))) ((World.putObj_heap_other (by omega)).trans hk)⟩

/-- .. a function that is walked with no fence -/
theorem wp_range {g : Operand} {ps : Array Tmp} {assign body : Code} {Q : Exit → Act → World → Prop} {a : Act} {w : World} {D : Nat} (hD : w.heap.size = D)
    {gf : Nat} {lb : Array Value} (hg : a.eval g = .func (.func gf) #[] lb) (eg : ∀ args w, (callFunc gf args).run P w = .ok (.enter gf args) w)
    {X Y : Nat → Prop} {El : α → Array Value → World → Prop} {out : List α} (hX : ∀ k, X k → k < D) (hY : ∀ k, Y k → k < D)
    (hseq : ∀ W, Below D w W → IterC Fence.wide 2 P gf lb X Y El out W) (hps : ∀ x vs U, El x vs U → vs.size = ps.size)
    (hEl : ∀ x vs U U', El x vs U → Chg (fun k => k = D ∨ k = D + 1) U U' → El x vs U')
    (I : List α → World → Prop) (Ix : Code → List α → World → Prop)
    (hI : ∀ pre U U', I pre U → Chg (fun k => X k ∨ k = D ∨ k = D + 1) U U' → I pre U')
    (hIx : ∀ c pre U U', Ix c pre U → Chg (fun k => X k ∨ k = D ∨ k = D + 1) U U' → Ix c pre U') (h0 : I [] w)
    (hround : ∀ (l : Nat) (pre : List α) (x : α) (vs : Array Value) (U : World), I pre U → El x vs U → pre ++ [x] <+: out →
      assign.wpIn (Fence.wide.inRound l) 1 P (Exit.then (fun a' U1 => Below U.heap.size U U1 ∧ ∀ U2, D + 2 ≤ U2.heap.size → I pre U2 → El x vs U2 → Chg (fun k => k = D ∨ k = D + 1) U1 U2 →
        body.wpIn (Fence.wide.inRound l) 1 P (rangeEnd D Y I Ix (pre ++ [x]) U2) a' U2) (fun _ _ _ => False)) { tmps := (ps.zip vs).foldl (fun t (p, v) => t.setIfInBounds p v) a.tmps, defers := [] } U)
    (hdone : ∀ W, D + 2 ≤ W.heap.size → I out W → W.heap[D]? = some (.deferred (some [])) → Q .normal { a with defers := { target := .collected D, args := #[] } :: a.defers } W)
    (hstop : ∀ c pre W, D + 2 ≤ W.heap.size → pre <+: out → Ix c pre W → W.heap[D]? = some (.deferred (some [])) → c.wp P Q { a with defers := { target := .collected D, args := #[] } :: a.defers } W) :
    (Code.rangeFunc g ps assign body).wp P Q a w := by
  subst hD
  exact (wpIn_wide (n := 3)).1 (wpIn_range rfl (by decide) hg trivial eg hX hY hseq hps hEl I Ix hI hIx h0 hround hdone fun c pre W h1 h2 h3 h4 => wpIn_wide.2 (hstop c pre W h1 h2 h3 h4))
end
end Go.Proofs.Ytdebgkjekcppmaa
