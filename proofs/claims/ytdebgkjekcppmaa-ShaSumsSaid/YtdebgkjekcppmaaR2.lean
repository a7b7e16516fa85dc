/- A range over a function whose iterator and whose rounds share a block: what each may do is a relation between worlds. Over any program. -/
import Derived.Test.YtdebgkjekcppmaaR0
namespace Go.Proofs.Ytdebgkjekcppmaa
open Go.RowKit

section
variable {F : Fence} {n : Nat} {P : Program} {α : Type}

/-- an iterator, captured values lb: it hands out what 'out' says; between two yields it does what Xr says, and wants of a round that goes on what Yr says; when it ends by itself Fin holds -/
def IterG (F : Fence) (n : Nat) (P : Program) (gf : Nat) (lb : Array Value) (Xr Yr : World → World → Prop) (Fin : World → Prop) (El : α → Array Value → World → Prop) (out : List α) (W : World) : Prop :=
  ∀ (l : Nat) (J Jx : List α → World → Prop),
    (∀ pre U U', J pre U → Xr U U' → J pre U') → (∀ pre U U', Jx pre U → Xr U U' → Jx pre U') →
    (∀ pre x vs U, J pre U → El x vs U → pre ++ [x] <+: out → YieldAt F (n - 1) P l vs U fun e U' =>
      (e = .returned (.bool true) ∧ J (pre ++ [x]) U' ∧ Yr U U') ∨ (e = .returned (.bool false) ∧ Jx (pre ++ [x]) U')) →
    J [] W → CallsIn F n P gf (#[.func (.yield l) #[] #[]] ++ lb) W fun e W' => (∃ v, e = .returned v) ∧ ((J out W' ∧ Fin W') ∨ ∃ pre, pre <+: out ∧ Jx pre W')

/-- the loop's two blocks stand -/
def KeepD (D : Nat) (U U' : World) : Prop := ∀ k, k = D ∨ k = D + 1 → k < U.heap.size → U'.heap[k]? = U.heap[k]?
theorem KeepD.at {D : Nat} {U U' : World} (h : KeepD D U U') {k : Nat} {o : Obj} (hk : k = D ∨ k = D + 1) (ho : U.heap[k]? = some o) : U'.heap[k]? = some o :=
  (h k hk (Array.getElem?_eq_some_iff.1 ho).1).trans ho
theorem KeepD.of_chg {D : Nat} {X : Nat → Prop} {U U' : World} (h : Chg X U U') (hX : ∀ k, k = D ∨ k = D + 1 → ¬ X k) : KeepD D U U' := fun k hk hlt => h.block k hlt (hX k hk)
def rangeEndG (D : Nat) (Yr : World → World → Prop) (I : List α → World → Prop) (Ix : Code → List α → World → Prop) (pre : List α) (U : World) : Exit → Act → World → Prop
  | .normal, _, U' => KeepD D U U' ∧ Yr U U' ∧ I pre U'
  | .ret, _, U' => KeepD D U U' ∧ Ix .ret pre U'
  | .exit id, _, U' => KeepD D U U' ∧ Ix (.exit id) pre U'
  | .goto t, _, U' => KeepD D U U' ∧ Ix (.goto t) pre U'
  | .panic _, _, _ => False
  | .outgrown, _, _ => False

theorem wpIn_rangeG {g : Operand} {ps : Array Tmp} {assign body : Code} {Q : Exit → Act → World → Prop} {a : Act} {w : World}
    (hro : F.round = none) (h1 : 1 ≤ n) {gf : Nat} {lb : Array Value} (hg : a.eval g = .func (.func gf) #[] lb) (hFg : F.fn gf) (eg : ∀ args w, (callFunc gf args).run P w = .ok (.enter gf args) w)
    {Xr Yr : World → World → Prop} {Fin : World → Prop} {El : α → Array Value → World → Prop} {out : List α} (hX : ∀ U U', Xr U U' → KeepD w.heap.size U U')
    (hY : ∀ a b c d, Chg (fun k => k = w.heap.size ∨ k = w.heap.size + 1) a b → Yr b c → Chg (fun k => k = w.heap.size ∨ k = w.heap.size + 1) c d → Yr a d)
    (hFin : ∀ U U', Fin U → Chg (fun k => k = w.heap.size ∨ k = w.heap.size + 1) U U' → Fin U')
    (hseq : ∀ W, Below w.heap.size w W → IterG F (n - 1) P gf lb Xr Yr Fin El out W) (hps : ∀ x vs U, El x vs U → vs.size = ps.size)
    (hEl : ∀ x vs U U', El x vs U → Chg (fun k => k = w.heap.size ∨ k = w.heap.size + 1) U U' → El x vs U')
    (I : List α → World → Prop) (Ix : Code → List α → World → Prop)
    (hIX : ∀ pre U U', I pre U → Xr U U' → I pre U') (hI : ∀ pre U U', I pre U → Chg (fun k => k = w.heap.size ∨ k = w.heap.size + 1) U U' → I pre U')
    (hIxX : ∀ c pre U U', Ix c pre U → Xr U U' → Ix c pre U') (hIx : ∀ c pre U U', Ix c pre U → Chg (fun k => k = w.heap.size ∨ k = w.heap.size + 1) U U' → Ix c pre U') (h0 : I [] w)
    (hround : ∀ (l : Nat) (pre : List α) (x : α) (vs : Array Value) (U : World), I pre U → El x vs U → pre ++ [x] <+: out →
      assign.wpIn (F.inRound l) (n - 1 - 1) P (Exit.then (fun a' U1 => Below U.heap.size U U1 ∧ ∀ U2, w.heap.size + 2 ≤ U2.heap.size → I pre U2 → El x vs U2 → Chg (fun k => k = w.heap.size ∨ k = w.heap.size + 1) U1 U2 →
        body.wpIn (F.inRound l) (n - 1 - 1) P (rangeEndG w.heap.size Yr I Ix (pre ++ [x]) U2) a' U2) (fun _ _ _ => False)) { tmps := (ps.zip vs).foldl (fun t (p, v) => t.setIfInBounds p v) a.tmps, defers := [] } U)
    (hdone : ∀ W, w.heap.size + 2 ≤ W.heap.size → I out W → Fin W → W.heap[w.heap.size]? = some (.deferred (some [])) → Q .normal { a with defers := { target := .collected w.heap.size, args := #[] } :: a.defers } W)
    (hstop : ∀ c pre W, w.heap.size + 2 ≤ W.heap.size → pre <+: out → Ix c pre W → W.heap[w.heap.size]? = some (.deferred (some [])) → c.wpIn F n P Q { a with defers := { target := .collected w.heap.size, args := #[] } :: a.defers } W) :
    (Code.rangeFunc g ps assign body).wpIn F n P Q a w := by
  refine wpIn_rangeFunc fun fn hfn => ?_
  rw [hro]
  obtain ⟨rec, hrec⟩ : ∃ rec : LoopState → Option Code → Loop, rec = fun st pe => { state := st, pending := pe, fn, tmps := a.tmps, params := ps, assign, body, defers := w.heap.size } := ⟨_, rfl⟩
  obtain ⟨W1, hW1⟩ : ∃ W1, (w.alloc (.deferred (some []))).alloc (.loop (rec .ready none)) = W1 := ⟨_, rfl⟩
  obtain ⟨hK1, hL1, hb1⟩ := two_new w (.deferred (some [])) (.loop (rec .ready none))
  rw [hW1] at hK1 hL1 hb1
  have hsz1 : w.heap.size + 2 ≤ W1.heap.size := by have := (Array.getElem?_eq_some_iff.1 hL1).1; omega
  refine ⟨w.heap.size + 1, [{ target := .collected w.heap.size, args := #[] }], W1, { target := .fn (.func gf) lb, args := #[.func (.yield (w.heap.size + 1)) #[] #[]] }, W1, gf,
    #[.func (.yield (w.heap.size + 1)) #[] #[]] ++ lb, W1, ?_, ?_, ?_, ?_, fun _ => h1, ?_⟩
  · rw [← hW1, hrec]; exact run_enterLoop_outer _ _ _ _ _
  · simp only [resolve, hg]
    simp [go_sem]
  · intro f' hf'; simp [Target.leads] at hf'; subst hf'; exact hFg
  · simp [invoke, go_sem, eg]
  have keep : ∀ {U U' : World} {o o' : Obj}, Xr U U' → U.heap[w.heap.size + 1]? = some o → U.heap[w.heap.size]? = some o' → U'.heap[w.heap.size + 1]? = some o ∧ U'.heap[w.heap.size]? = some o' :=
    fun hc h h' => ⟨(hX _ _ hc).at (.inr rfl) h, (hX _ _ hc).at (.inl rfl) h'⟩
  refine (hseq W1 hb1 (w.heap.size + 1)
    (fun pre U => I pre U ∧ U.heap[w.heap.size + 1]? = some (.loop (rec .ready none)) ∧ U.heap[w.heap.size]? = some (.deferred (some [])))
    (fun pre U => ∃ c, Ix c pre U ∧ U.heap[w.heap.size + 1]? = some (.loop (rec .done (some c))) ∧ U.heap[w.heap.size]? = some (.deferred (some [])))
    (fun pre U U' hs hc => ⟨hIX _ _ _ hs.1 hc, keep hc hs.2.1 hs.2.2⟩)
    (fun pre U U' ⟨c, hs, hl, hk⟩ hc => ⟨c, hIxX _ _ _ _ hs hc, keep hc hl hk⟩)
    ?_ ⟨hI _ _ _ h0 (Chg.of_below hb1), hL1, hK1⟩).mono ?_
  · rintro pre x vs U ⟨hi, hl, hk⟩ hel hpre
    have hy := run_yield (P := P) (args := vs) hl (by rw [hrec]; exact hps x vs U hel)
    rw [hrec] at hy
    refine ⟨fn, _, assign, body, hy, roundIn_of_wpIn hfn (wpIn_mono (hround _ pre x vs U hi hel hpre) ?_)⟩
    clear hy
    intro ea a' U1 hea
    cases ea with
    | normal => ?_
    | _ => exact hea
    obtain ⟨hbel, hbody⟩ := hea
    have c1 : ∀ {Z : Nat → Prop}, Chg Z U U1 := fun {Z} => Chg.of_below hbel
    replace hl := c1.at (X := fun _ => False) hl (fun h => h)
    replace hk := c1.at (X := fun _ => False) hk (fun h => h)
    replace hi := hI _ _ _ hi c1
    replace hel := hEl _ _ _ _ hel c1
    have hlt := (Array.getElem?_eq_some_iff.1 hl).1
    refine ⟨_, run_beginRound hl (by rw [hrec]), ?_⟩
    obtain ⟨U2, hU2⟩ : ∃ U2, U1.putObj (w.heap.size + 1) (.loop { rec .ready none with state := .busy }) = U2 := ⟨_, rfl⟩
    have hl2 : U2.heap[w.heap.size + 1]? = some (.loop { rec .ready none with state := .busy }) := by rw [← hU2]; exact World.putObj_heap_same hlt
    have hk2 : U2.heap[w.heap.size]? = some (.deferred (some [])) := by rw [← hU2]; exact (World.putObj_heap_other (by omega)).trans hk
    have c2 : ∀ {Z : Nat → Prop}, Z (w.heap.size + 1) → Chg Z U1 U2 := fun {Z} hz => by rw [← hU2]; exact Chg.putObj _ _ _ hz
    rw [hU2]
    refine wpIn_mono (hbody U2 (by have := (Array.getElem?_eq_some_iff.1 hl2).1; omega) (hI _ _ _ hi (c2 (.inr rfl))) (hEl _ _ _ _ hel (c2 (.inr rfl))) (c2 (.inr rfl))) ?_
    have fin : ∀ (jump : Option Code) (U3 : World), U3.heap[w.heap.size + 1]? = some (.loop { rec .ready none with state := .busy }) → U3.heap[w.heap.size]? = some (.deferred (some [])) →
        (Instr.endRound (w.heap.size + 1) jump).run P U3 = .ok (.bool jump.isNone) (U3.putObj (w.heap.size + 1) (.loop (rec (if jump.isNone then .ready else .done) jump))) ∧
        (U3.putObj (w.heap.size + 1) (.loop (rec (if jump.isNone then .ready else .done) jump))).heap[w.heap.size + 1]? = some (.loop (rec (if jump.isNone then .ready else .done) jump)) ∧
        (U3.putObj (w.heap.size + 1) (.loop (rec (if jump.isNone then .ready else .done) jump))).heap[w.heap.size]? = some (.deferred (some [])) := fun jump U3 hl3 hk3 => by
      have := run_endRound (P := P) jump hl3
      rw [hrec] at this ⊢
      exact ⟨this, World.putObj_heap_same (Array.getElem?_eq_some_iff.1 hl3).1, (World.putObj_heap_other (by omega)).trans hk3⟩
    have stop : ∀ (c : Code) (U3 : World), KeepD w.heap.size U2 U3 → Ix c (pre ++ [x]) U3 → ∃ v U4, (Instr.endRound (w.heap.size + 1) (some c)).run P U3 = .ok v U4 ∧
        ((Ending.returned v = .returned (.bool true) ∧ (I (pre ++ [x]) U4 ∧ U4.heap[w.heap.size + 1]? = some (.loop (rec .ready none)) ∧ U4.heap[w.heap.size]? = some (.deferred (some []))) ∧ Yr U U4) ∨
         (Ending.returned v = .returned (.bool false) ∧ ∃ c, Ix c (pre ++ [x]) U4 ∧ U4.heap[w.heap.size + 1]? = some (.loop (rec .done (some c))) ∧ U4.heap[w.heap.size]? = some (.deferred (some [])))) := fun c U3 hc hx => by
      obtain ⟨hr, hl4, hk4⟩ := fin (some c) U3 (hc.at (.inr rfl) hl2) (hc.at (.inl rfl) hk2)
      exact ⟨_, _, hr, .inr ⟨rfl, c, hIx _ _ _ _ hx (Chg.putObj _ _ _ (.inr rfl)), hl4, hk4⟩⟩
    rintro e a3 U3 hp
    cases e with
    | normal =>
      obtain ⟨hc, hy3, hi3⟩ := hp
      obtain ⟨hr, hl4, hk4⟩ := fin none U3 (hc.at (.inr rfl) hl2) (hc.at (.inl rfl) hk2)
      exact ⟨_, _, hr, .inl ⟨rfl, ⟨hI _ _ _ hi3 (Chg.putObj _ _ _ (.inr rfl)), hl4, hk4⟩,
        hY _ _ _ _ (c1.trans (c2 (.inr rfl))) hy3 (Chg.putObj _ _ _ (.inr rfl))⟩⟩
    | ret => exact stop .ret U3 hp.1 hp.2
    | exit id => exact stop (.exit id) U3 hp.1 hp.2
    | goto t => exact stop (.goto t) U3 hp.1 hp.2
    | panic ch => exact hp.elim
    | outgrown => exact hp.elim
  · rintro e W2 ⟨⟨v, rfl⟩, (⟨⟨hi, hl, hk⟩, hf⟩ | ⟨pre, hpre, c, hi, hl, hk⟩)⟩
    · have hlt := (Array.getElem?_eq_some_iff.1 hl).1
      exact ⟨none, _, by have := run_endLoop (P := P) hl (by rw [hrec]; simp); rw [hrec] at this; exact this, hdone _ (by simp; omega) (hI _ _ _ hi (Chg.putObj _ _ _ (.inr rfl))) (hFin _ _ hf (Chg.putObj _ _ _ (.inr rfl))) ((World.putObj_heap_other (by omega)).trans hk)⟩
    · have hlt := (Array.getElem?_eq_some_iff.1 hl).1
      exact ⟨some c, _, by have := run_endLoop (P := P) hl (by rw [hrec]; simp); rw [hrec] at this; exact this, hstop c pre _ (by simp; omega) hpre (hIx _ _ _ _ hi (Chg.putObj _ _ _ (.inr rfl))) ((World.putObj_heap_other (by omega)).trans hk)⟩

/-- .. a function that is walked with no fence -/
theorem wp_rangeG {g : Operand} {ps : Array Tmp} {assign body : Code} {Q : Exit → Act → World → Prop} {a : Act} {w : World} {D : Nat} (hD : w.heap.size = D)
    {gf : Nat} {lb : Array Value} (hg : a.eval g = .func (.func gf) #[] lb) (eg : ∀ args w, (callFunc gf args).run P w = .ok (.enter gf args) w)
    {Xr Yr : World → World → Prop} {Fin : World → Prop} {El : α → Array Value → World → Prop} {out : List α} (hX : ∀ U U', Xr U U' → KeepD D U U')
    (hY : ∀ a b c d, Chg (fun k => k = D ∨ k = D + 1) a b → Yr b c → Chg (fun k => k = D ∨ k = D + 1) c d → Yr a d)
    (hFin : ∀ U U', Fin U → Chg (fun k => k = D ∨ k = D + 1) U U' → Fin U')
    (hseq : ∀ W, Below D w W → IterG Fence.wide 2 P gf lb Xr Yr Fin El out W) (hps : ∀ x vs U, El x vs U → vs.size = ps.size)
    (hEl : ∀ x vs U U', El x vs U → Chg (fun k => k = D ∨ k = D + 1) U U' → El x vs U')
    (I : List α → World → Prop) (Ix : Code → List α → World → Prop)
    (hIX : ∀ pre U U', I pre U → Xr U U' → I pre U') (hI : ∀ pre U U', I pre U → Chg (fun k => k = D ∨ k = D + 1) U U' → I pre U')
    (hIxX : ∀ c pre U U', Ix c pre U → Xr U U' → Ix c pre U') (hIx : ∀ c pre U U', Ix c pre U → Chg (fun k => k = D ∨ k = D + 1) U U' → Ix c pre U') (h0 : I [] w)
    (hround : ∀ (l : Nat) (pre : List α) (x : α) (vs : Array Value) (U : World), I pre U → El x vs U → pre ++ [x] <+: out →
      assign.wpIn (Fence.wide.inRound l) 1 P (Exit.then (fun a' U1 => Below U.heap.size U U1 ∧ ∀ U2, D + 2 ≤ U2.heap.size → I pre U2 → El x vs U2 → Chg (fun k => k = D ∨ k = D + 1) U1 U2 →
        body.wpIn (Fence.wide.inRound l) 1 P (rangeEndG D Yr I Ix (pre ++ [x]) U2) a' U2) (fun _ _ _ => False)) { tmps := (ps.zip vs).foldl (fun t (p, v) => t.setIfInBounds p v) a.tmps, defers := [] } U)
    (hdone : ∀ W, D + 2 ≤ W.heap.size → I out W → Fin W → W.heap[D]? = some (.deferred (some [])) → Q .normal { a with defers := { target := .collected D, args := #[] } :: a.defers } W)
    (hstop : ∀ c pre W, D + 2 ≤ W.heap.size → pre <+: out → Ix c pre W → W.heap[D]? = some (.deferred (some [])) → c.wp P Q { a with defers := { target := .collected D, args := #[] } :: a.defers } W) :
    (Code.rangeFunc g ps assign body).wp P Q a w := by
  subst hD
  exact (wpIn_wide (n := 3)).1 (wpIn_rangeG rfl (by decide) hg trivial eg hX hY hFin hseq hps hEl I Ix hIX hI hIxX hIx h0 hround hdone fun c pre W h1 h2 h3 h4 => wpIn_wide.2 (hstop c pre W h1 h2 h3 h4))
end
end Go.Proofs.Ytdebgkjekcppmaa
