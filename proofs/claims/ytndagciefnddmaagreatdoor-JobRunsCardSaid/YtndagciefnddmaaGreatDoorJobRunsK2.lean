/- Lemmas for JobRuns, part 2: walks of the functions that it reaches, and the plain laws behind them. -/
import Derived.Deep.QuietTactic
import Derived.StillTail
import Derived.OrdersIn
import Derived.TacticsIn
import Derived.AtR
import Derived.BigQuiet
import Derived.Lib.Hide
import Derived.OwnWalkIn
import Derived.TacticsInMore
import Derived.LoopNIn
import Derived.LoopIn
import Derived.RangeFuncBox
import Derived.Laws.EntriesVeiled
import Derived.Maps.OwnIn
import Derived.Maps.AppendAt
import Derived.Test.YtndagciefnddmaaGreatDoorJobRunsK1
set_option linter.unusedSimpArgs false
set_option linter.unusedVariables false
namespace Go.Proofs.YtndagciefnddmaaGreatDoor
open Go.RowKit
section
variable {P : Program} {ops : Array Oper} {md : Region.Mode} {C : World → Prop} {R : World → World → Prop}
structure Known (R : World → World → Prop) where
  α : Type
  val : α → Value
  fact : α → Option (World → Prop)
  stable : ∀ x φ, fact x = some φ → ∀ w w', φ w → R w w' → φ w'
def Known.exact (R : World → World → Prop) (v : Value) : Known R := ⟨Unit, fun _ => v, fun _ => none, fun _ _ h => by cases h⟩
abbrev Facts := (Oper × (World → Prop)) → Prop
def Facts.none : Facts := fun _ => False
def Facts.add (o : Oper) (φ : Option (World → Prop)) (S : Facts) : Facts := fun q => (∃ ψ, φ = some ψ ∧ q = (o, ψ)) ∨ S q
def Facts.all (S : Facts) (w : World) : Prop := ∀ p, S p → p.2 w
def Facts.at (S : Facts) (ops : Array Oper) (o : Oper) (w : World) : Prop := ∀ p, S p → p.1.apart ops o = false → p.2 w
def Facts.kept (R : World → World → Prop) (S : Facts) : Prop := ∀ p, S p → ∀ w w', p.2 w → R w w' → p.2 w'
theorem Facts.add_none (o : Oper) (S : Facts) : S.add o Option.none = S := by
  funext q; simp [Facts.add]
theorem Facts.add_comm (o o' : Oper) (φ φ' : Option (World → Prop)) (S : Facts) : (S.add o φ).add o' φ' = (S.add o' φ').add o φ := by
  funext q; simp only [Facts.add, eq_iff_iff]; grind
theorem Facts.all_add {S : Facts} {o : Oper} {φ : Option (World → Prop)} {w : World} : (S.add o φ).all w ↔ (∀ ψ, φ = some ψ → ψ w) ∧ S.all w := by
  constructor
  · intro h; exact ⟨fun ψ hψ => h (o, ψ) (.inl ⟨ψ, hψ, rfl⟩), fun p hp => h p (.inr hp)⟩
  · rintro ⟨h1, h2⟩ p (⟨ψ, hψ, rfl⟩ | hp)
    · exact h1 ψ hψ
    · exact h2 p hp
theorem Facts.all_some {S : Facts} {o : Oper} {φ : World → Prop} {w : World} : (S.add o (some φ)).all w ↔ φ w ∧ S.all w := by
  rw [Facts.all_add]; simp
theorem Facts.all_none {w : World} : Facts.none.all w ↔ True := by simp [Facts.all, Facts.none]
theorem Facts.at_some {S : Facts} {o o' : Oper} {φ : World → Prop} {w : World} (h : (S.add o (some φ)).at ops o' w) : (o.apart ops o' = false → φ w) ∧ S.at ops o' w :=
  ⟨fun ha => h (o, φ) (.inl ⟨φ, rfl, rfl⟩) ha, fun p hp => h p (.inr hp)⟩
theorem Facts.at_of_all {S : Facts} {o : Oper} {w : World} (h : S.all w) : S.at ops o w := fun p hp _ => h p hp
theorem Facts.kept_add {S : Facts} (h : S.kept R) (o : Oper) (g : Known R) (x : g.α) : (S.add o (g.fact x)).kept R := by
  rintro p (⟨ψ, hψ, rfl⟩ | hp)
  · exact g.stable x ψ hψ
  · exact h p hp
theorem Facts.all_kept {S : Facts} (h : S.kept R) {w w' : World} (ha : S.all w) (hR : R w w') : S.all w' := fun p hp => h p hp w w' (ha p hp) hR
def growUpon (P : Program) (w : World) (G : Value → World → Prop) : Result Next → Prop
  | .ok (.value u) w' => G u w'
  | .ok .skip w' => G undef w'
  | .ok (.enter f args) w' => w' = w ∧ Calls P f args w fun e w'' => ∃ u, e = .returned u ∧ G u w''
  | _ => False
def growAt (P : Program) (o : Oper) (a : Act) (w : World) (G : Value → World → Prop) : Prop := growUpon P w G ((execOp a.eval o).run P w)
def readUpon (w : World) (v : Value) : Result Next → Prop
  | .ok (.value u) w' => w' = w ∧ u = v
  | .ok .skip w' => w' = w ∧ v = undef
  | _ => False
def readAt (P : Program) (o : Oper) (a : Act) (w : World) (v : Value) : Prop := readUpon w v ((execOp a.eval o).run P w)
def okFor (P : Program) (ops : Array Oper) (C : World → Prop) (R : World → World → Prop) (F : Nat → Option (Known R)) (i : Nat) (o : Oper) (S : Facts) (a : Act) (g : Known R) : Prop :=
  if Region.wanted o (yielded ops a.tmps) = true then
    match F i with
    | none => ∃ v, g = .exact R v ∧ ∀ w, C w → S.at ops o w → readAt P o a w v
    | some g' => g = g' ∧ ∀ w, C w → S.at ops o w → growAt P o a w fun u w' => R w w' ∧ ∃ x, u = g'.val x ∧ ∀ φ, g'.fact x = some φ → φ w'
  else g = .exact R undef
def gOp (P : Program) (ops : Array Oper) (C : World → Prop) (R : World → World → Prop) (F : Nat → Option (Known R)) (i : Nat) (K : Facts → Act → Prop) (S : Facts) (a : Act) : Prop :=
  match ops[i]? with
  | none => K S a
  | some o => ∃ g, okFor P ops C R F i o S a g ∧ ∀ x, K (S.add o (g.fact x)) (a.put o.dst (g.val x))
def Inh (C : World → Prop) (S : Facts) : Prop := ∃ w, C w ∧ S.all w
def wpAnyG (P : Program) (md : Region.Mode) (ops : Array Oper) (C : World → Prop) (R : World → World → Prop) (F : Nat → Option (Known R)) (Q : Array Bool → Facts → Act → Prop) : Nat → Array Bool → Facts → Act → Prop
  | 0, listed, S, a => Inh C S → Q listed S a
  | fuel + 1, listed, S, a => Inh C S →
    Region.ready md ops listed ≠ [] ∧
    ∀ i ∈ Region.ready md ops listed, gOp P ops C R F i (wpAnyG P md ops C R F Q fuel (listed.setIfInBounds i true)) S a
variable {F : Nat → Option (Known R)} {Q : Array Bool → Facts → Act → Prop}
theorem wpAnyG_inh {n : Nat} {listed : Array Bool} {S : Facts} {a : Act} (h : Inh C S → wpAnyG P md ops C R F Q n listed S a) : wpAnyG P md ops C R F Q n listed S a := by
  cases n <;> exact fun hi => h hi hi
theorem grow_on {i : Nat} {o : Oper} {S : Facts} {a : Act} {w : World} {g : Known R} {K : Facts → Act → Prop} {N : Act → World → Prop} (hCR : ∀ w w', C w → R w w' → C w') (hk : S.kept R) (hw : C w) (hS : S.all w)
    (hwant : Region.wanted o (yielded ops a.tmps) = true) (hok : okFor P ops C R F i o S a g) (hK : ∀ x, K (S.add o (g.fact x)) (a.put o.dst (g.val x)))
    (hN : ∀ S' a' w', S'.kept R → C w' → S'.all w' → K S' a' → N a' w') :
    growAt P o a w fun u w' => N (a.put o.dst u) w' := by
  unfold okFor at hok
  rw [if_pos hwant] at hok
  cases hF : F i with
  | none =>
    simp only [hF] at hok
    obtain ⟨v, rfl, hr⟩ := hok
    have hr := hr w hw (Facts.at_of_all hS)
    have hK := hK ()
    simp only [Known.exact, Facts.add_none] at hK
    unfold readAt at hr
    unfold growAt
    generalize (execOp a.eval o).run P w = r at *
    cases r with
    | ok n w' =>
      cases n <;> simp only [readUpon] at hr <;> simp only [growUpon]
      case value u => obtain ⟨rfl, rfl⟩ := hr; exact hN S _ _ hk hw hS hK
      case skip => obtain ⟨rfl, rfl⟩ := hr; exact hN S _ _ hk hw hS hK
    | halt x w' => simp only [readUpon] at hr
  | some g' =>
    simp only [hF] at hok
    obtain ⟨rfl, hr⟩ := hok
    have hr := hr w hw (Facts.at_of_all hS)
    have on : ∀ u w', (R w w' ∧ ∃ x, u = g.val x ∧ ∀ φ, g.fact x = some φ → φ w') → N (a.put o.dst u) w' := by
      rintro u w' ⟨hR, x, rfl, hx⟩
      exact hN _ _ _ (Facts.kept_add hk o g x) (hCR _ _ hw hR) (Facts.all_add.2 ⟨hx, Facts.all_kept hk hS hR⟩) (hK x)
    unfold growAt at hr ⊢
    generalize (execOp a.eval o).run P w = r at *
    cases r with
    | ok n w' =>
      cases n <;> simp only [growUpon] at hr ⊢
      case value u => exact on _ _ hr
      case skip => exact on _ _ hr
      case enter f args =>
        obtain ⟨rfl, hc⟩ := hr
        exact ⟨rfl, hc.mono fun e w'' ⟨u, he, hG⟩ => ⟨u, he, on _ _ hG⟩⟩
    | halt x w' => simp only [growUpon] at hr
theorem wp_of_grow {o : Oper} {a : Act} {w : World} {N : Act → World → Prop} {Q' : Exit → Act → World → Prop} (h : growAt P o a w fun u w' => N (a.put o.dst u) w') : o.wp P a w N Q' := by
  unfold growAt at h
  unfold Oper.wp
  generalize (execOp a.eval o).run P w = r at *
  cases r with
  | ok n w' =>
    cases n <;> simp only [growUpon] at h <;> simp only [Oper.upon]
    case value u => exact h
    case skip => exact h
    case enter f args =>
      obtain ⟨rfl, hc⟩ := h
      refine hc.mono fun e w'' ⟨u, he, hG⟩ => ?_
      subst he
      exact hG
  | halt x w' => simp only [growUpon] at h
theorem ready_fuel {listed : Array Bool} {X : Prop} (h : Region.ready md ops listed ≠ []) : Region.ready md ops listed = [] → X := fun e => absurd e h
theorem wpAny_of_G {Q' : Exit → Act → World → Prop} (hCR : ∀ w w', C w → R w w' → C w') (rest : Nat) (hQ : ∀ listed S a w, C w → S.all w → Q listed S a → wpAny P md ops Q' rest listed a w) :
    ∀ (fuel : Nat) (listed : Array Bool) (S : Facts) (a : Act) (w : World), S.kept R → C w → S.all w → wpAnyG P md ops C R F Q fuel listed S a → wpAny P md ops Q' (fuel + rest) listed a w
  | 0, _, _, _, w, _, hw, hS, h => by rw [Nat.zero_add]; exact hQ _ _ _ _ hw hS (h ⟨w, hw, hS⟩)
  | fuel + 1, listed, S, a, w, hk, hw, hS, h => by
    have h := h ⟨w, hw, hS⟩
    rw [show fuel + 1 + rest = (fuel + rest) + 1 by omega]
    refine ⟨ready_fuel h.1, fun i hi => ?_⟩
    have h2 := h.2 i hi
    unfold gOp at h2
    unfold wpOp
    cases ho : ops[i]? with
    | none => simp only [ho] at h2 ⊢; exact wpAny_of_G hCR rest hQ fuel _ S a w hk hw hS h2
    | some o =>
      simp only [ho] at h2 ⊢
      obtain ⟨g, hok, hK⟩ := h2
      by_cases hwant : Region.wanted o (yielded ops a.tmps) = true
      · rw [if_pos hwant]
        exact .inl (wp_of_grow (grow_on hCR hk hw hS hwant hok hK fun S' a' w' hk' hw' hS' hA => wpAny_of_G hCR rest hQ fuel _ S' a' w' hk' hw' hS' hA))
      · unfold okFor at hok
        rw [if_neg hwant] at hok ⊢
        subst hok
        have hK := hK ()
        simp only [Known.exact, Facts.add_none] at hK
        exact wpAny_of_G hCR rest hQ fuel _ S _ w hk hw hS hK
theorem okFor_out (hCR : ∀ w w', C w → R w w' → C w') {i : Nat} {o : Oper} {S : Facts} {a : Act} {g : Known R} (hk : S.kept R) (h : okFor P ops C R F i o S a g) (hI : Inh C S) : ∃ x, Inh C (S.add o (g.fact x)) := by
  obtain ⟨w, hw, hS⟩ := hI
  unfold okFor at h
  by_cases hwant : Region.wanted o (yielded ops a.tmps) = true
  · rw [if_pos hwant] at h
    cases hF : F i with
    | none =>
      simp only [hF] at h
      obtain ⟨v, rfl, _⟩ := h
      exact ⟨(), w, hw, by simp only [Known.exact, Facts.add_none]; exact hS⟩
    | some g' =>
      simp only [hF] at h
      obtain ⟨rfl, hr⟩ := h
      have hr := hr w hw (Facts.at_of_all hS)
      unfold growAt at hr
      have on : ∀ u w', (R w w' ∧ ∃ x, u = g.val x ∧ ∀ φ, g.fact x = some φ → φ w') → ∃ x, Inh C (S.add o (g.fact x)) := by
        rintro u w' ⟨hR, x, rfl, hx⟩
        exact ⟨x, w', hCR _ _ hw hR, Facts.all_add.2 ⟨hx, Facts.all_kept hk hS hR⟩⟩
      generalize (execOp a.eval o).run P w = r at *
      cases r with
      | ok n w' =>
        cases n <;> simp only [growUpon] at hr
        case value u => exact on _ _ hr
        case skip => exact on _ _ hr
        case enter f args =>
          obtain ⟨rfl, hc⟩ := hr
          obtain ⟨e, w'', _, ⟨u, _, hG⟩, _⟩ := hc []
          exact on _ _ hG
      | halt x w' => simp only [growUpon] at hr
  · rw [if_neg hwant] at h
    subst h
    exact ⟨(), w, hw, by simp only [Known.exact, Facts.add_none]; exact hS⟩
theorem okFor_one {i : Nat} {o : Oper} {S : Facts} {a : Act} {g g' : Known R} (h : okFor P ops C R F i o S a g) (h' : okFor P ops C R F i o S a g') (hI : Inh C S) : g = g' := by
  obtain ⟨w, hw, hS⟩ := hI
  unfold okFor at h h'
  by_cases hwant : Region.wanted o (yielded ops a.tmps) = true
  · rw [if_pos hwant] at h h'
    cases hF : F i with
    | none =>
      simp only [hF] at h h'
      obtain ⟨v, rfl, hv⟩ := h
      obtain ⟨v', rfl, hv'⟩ := h'
      have hv := hv w hw (Facts.at_of_all hS)
      have hv' := hv' w hw (Facts.at_of_all hS)
      unfold readAt at hv hv'
      have : v = v' := by
        generalize (execOp a.eval o).run P w = r at *
        cases r with
        | ok n w' => cases n <;> simp only [readUpon] at hv hv' <;> grind
        | halt x w' => simp only [readUpon] at hv
      rw [this]
    | some q =>
      simp only [hF] at h h'
      rw [h.1, h'.1]
  · rw [if_neg hwant] at h h'
    rw [h, h']
theorem okFor_more {i : Nat} {o : Oper} {S S' : Facts} {a : Act} {g : Known R} (h : okFor P ops C R F i o S a g) (hS : ∀ p, S p → S' p) : okFor P ops C R F i o S' a g := by
  have hat : ∀ w, S'.at ops o w → S.at ops o w := fun w hw p hp => hw p (hS p hp)
  unfold okFor at *
  split
  · rename_i hwant
    rw [if_pos hwant] at h
    cases hF : F i with
    | none => simp only [hF] at h ⊢; obtain ⟨v, e, hv⟩ := h; exact ⟨v, e, fun w hw ha => hv w hw (hat w ha)⟩
    | some q => simp only [hF] at h ⊢; exact ⟨h.1, fun w hw ha => h.2 w hw (hat w ha)⟩
  · rename_i hwant
    rw [if_neg hwant] at h; exact h
theorem okFor_apart {j : Nat} {oi oj : Oper} {S : Facts} {a : Act} {u : Value} {φ : Option (World → Prop)} {g : Known R} (hap : oi.apart ops oj = true) (hsj : ∀ cs b, oj.op ≠ .select cs b)
    (h : okFor P ops C R F j oj (S.add oi φ) (a.put oi.dst u) g) : okFor P ops C R F j oj S a g := by
  obtain ⟨h1, h2, h3⟩ := Oper.apart_spec hap
  have hat : ∀ w, S.at ops oj w → (S.add oi φ).at ops oj w := by
    rintro w hw p (⟨ψ, hψ, rfl⟩ | hp) hap'
    · simp only [hap] at hap'; cases hap'
    · exact hw p hp hap'
  unfold okFor growAt readAt at *
  rw [wanted_put oj a oi.dst u h1, execOp_put oj hsj a oi.dst u h1] at h
  split
  · rename_i hwant
    rw [if_pos hwant] at h
    cases hF : F j with
    | none => simp only [hF] at h ⊢; obtain ⟨v, e, hv⟩ := h; exact ⟨v, e, fun w hw ha => hv w hw (hat w ha)⟩
    | some q => simp only [hF] at h ⊢; exact ⟨h.1, fun w hw ha => h.2 w hw (hat w ha)⟩
  · rename_i hwant
    rw [if_neg hwant] at h; exact h
theorem okFor_keep {i : Nat} {oi oj : Oper} {S : Facts} {a : Act} {u : Value} {g : Known R} (hap : oi.apart ops oj = true) (hsi : ∀ cs b, oi.op ≠ .select cs b)
    (h : okFor P ops C R F i oi S a g) : okFor P ops C R F i oi S (a.put oj.dst u) g := by
  obtain ⟨h1, h2, h3⟩ := Oper.apart_spec hap
  unfold okFor growAt readAt at *
  rw [wanted_put oi a oj.dst u h3, execOp_put oi hsi a oj.dst u h3]
  exact h
theorem wpAnyG_first (hCR : ∀ w w', C w → R w w' → C w') {n i : Nat} {oi : Oper} (hi : ops[i]? = some oi) (hsel : ∀ (j : Nat) (o : Oper) cs b, ops[j]? = some o → o.op ≠ .select cs b) (hin : i < n)
    (htail : ∀ listed, HeadInv md ops n listed → ∀ i, i < n → listed.getD i true = false → ∀ j ∈ Region.ready md ops listed, j < n)
    (hdone : ∀ listed S a, Q listed S a → ∀ j ∈ Region.ready md ops listed, n ≤ j) :
    ∀ (fuel : Nat) (listed : Array Bool) (S : Facts) (a : Act) (g : Known R), S.kept R → HeadInv md ops n listed →
      (∀ j oj, ops[j]? = some oj → j ≠ i → listed.getD j true = false → (∀ e ∈ oj.after, Region.binds md e = true → e.on ≠ i) → oi.apart ops oj = true) →
      i ∈ Region.ready md ops listed → okFor P ops C R F i oi S a g →
      (∀ x, wpAnyG P md ops C R F Q fuel (listed.setIfInBounds i true) (S.add oi (g.fact x)) (a.put oi.dst (g.val x))) → wpAnyG P md ops C R F Q (fuel + 1) listed S a := by
  intro fuel
  induction fuel with
  | zero =>
    intro listed S a g hk inv _ hr hok H hI
    have hun := (mem_ready.1 hr).1
    refine ⟨fun h => (by rw [h] at hr; cases hr), fun j hj => ?_⟩
    have hjn := htail listed inv i hin hun j hj
    by_cases hji : j = i
    · subst hji; unfold gOp; simp only [hi]; exact ⟨g, hok, H⟩
    · obtain ⟨x, hx⟩ := okFor_out hCR hk hok hI
      have := hdone _ _ _ (H x hx) j (ready_mono hj hji)
      omega
  | succ fuel ih =>
    intro listed S a g hk inv hfree hr hok H hI
    have hun := (mem_ready.1 hr).1
    refine ⟨fun h => (by rw [h] at hr; cases hr), fun j hj => ?_⟩
    have hjn := htail listed inv i hin hun j hj
    by_cases hji : j = i
    · subst hji; unfold gOp; simp only [hi]; exact ⟨g, hok, H⟩
    · obtain ⟨hjun, oj, hoj, hall⟩ := mem_ready.1 hj
      have hnot : ∀ e ∈ oj.after, Region.binds md e = true → e.on ≠ i := fun e he hb heq => by
        have h1 := hall e he hb
        rw [heq, getD_both hun] at h1
        cases h1
      have hap := hfree j oj hoj hji hjun hnot
      have hsi : ∀ cs b, oi.op ≠ .select cs b := fun cs b => hsel i oi cs b hi
      have hsj : ∀ cs b, oj.op ≠ .select cs b := fun cs b => hsel j oj cs b hoj
      have hfree' : ∀ k ok, ops[k]? = some ok → k ≠ i → (listed.setIfInBounds j true).getD k true = false →
          (∀ e ∈ ok.after, Region.binds md e = true → e.on ≠ i) → oi.apart ops ok = true := fun k ok hk hki hun hno => by
        refine hfree k ok hk hki ?_ hno
        by_cases hjk : j = k
        · subst hjk; exact hjun
        · rw [getD_set_ne true hjk] at hun; exact hun
      have step : ∀ x, Inh C (S.add oi (g.fact x)) → ∃ gj, okFor P ops C R F j oj S a gj ∧ ∀ y, wpAnyG P md ops C R F Q fuel ((listed.setIfInBounds i true).setIfInBounds j true) ((S.add oi (g.fact x)).add oj (gj.fact y)) ((a.put oi.dst (g.val x)).put oj.dst (gj.val y)) := by
        intro x hx
        have h2 := (H x hx).2 j (ready_mono hj hji)
        unfold gOp at h2
        simp only [hoj] at h2
        obtain ⟨gj, hgj, hK⟩ := h2
        exact ⟨gj, okFor_apart hap hsj hgj, hK⟩
      obtain ⟨x1, hx1⟩ := okFor_out hCR hk hok hI
      obtain ⟨gj, hgj, _⟩ := step x1 hx1
      unfold gOp
      simp only [hoj]
      refine ⟨gj, hgj, fun y => ?_⟩
      refine ih (listed.setIfInBounds j true) (S.add oj (gj.fact y)) (a.put oj.dst (gj.val y)) g (Facts.kept_add hk oj gj y) (inv.set hj hjn) hfree' (ready_mono hr (Ne.symm hji))
        (okFor_keep hap hsi (okFor_more hok fun p hp => .inr hp)) fun x => wpAnyG_inh fun hI2 => ?_
      have hx : Inh C (S.add oi (g.fact x)) := by
        obtain ⟨w, hw, hS⟩ := hI2
        rw [Facts.add_comm] at hS
        exact ⟨w, hw, (Facts.all_add.1 hS).2⟩
      obtain ⟨gj', hgj', hK⟩ := step x hx
      obtain rfl := okFor_one hgj hgj' hI
      have := hK y
      rw [Facts.add_comm, Act.put_comm a _ _ (fun d hd => (Oper.apart_spec hap).2.1 d hd), Array.setIfInBounds_comm _ _ (Ne.symm hji)] at this
      exact this
def wpG (P : Program) (ops : Array Oper) (C : World → Prop) (R : World → World → Prop) (F : Nat → Option (Known R)) (Q : Facts → Act → Prop) : Nat → List Oper → Facts → Act → Prop
  | _, [], S, a => Q S a
  | k, o :: rest, S, a => if Region.wanted o (yielded ops a.tmps) = true then
      match F k with
      | none => ∃ v, (∀ w, C w → S.at ops o w → readAt P o a w v) ∧ wpG P ops C R F Q (k + 1) rest S (a.put o.dst v)
      | some g => (∀ w, C w → S.at ops o w → growAt P o a w fun u w' => R w w' ∧ ∃ x, u = g.val x ∧ ∀ φ, g.fact x = some φ → φ w') ∧ ∀ x, wpG P ops C R F Q (k + 1) rest (S.add o (g.fact x)) (a.put o.dst (g.val x))
    else wpG P ops C R F Q (k + 1) rest S (a.put o.dst undef)
theorem wpG_out {Q : Facts → Act → Prop} {k : Nat} {o : Oper} {rest : List Oper} {S : Facts} {a : Act} (h : wpG P ops C R F Q k (o :: rest) S a) :
    ∃ g, okFor P ops C R F k o S a g ∧ ∀ x, wpG P ops C R F Q (k + 1) rest (S.add o (g.fact x)) (a.put o.dst (g.val x)) := by
  unfold wpG at h
  unfold okFor
  split at h
  · rename_i hwant
    simp only [hwant, if_true]
    cases hF : F k with
    | none => simp only [hF] at h; obtain ⟨v, h1, h2⟩ := h; exact ⟨.exact R v, ⟨v, rfl, h1⟩, fun _ => by simpa only [Known.exact, Facts.add_none] using h2⟩
    | some g => simp only [hF] at h; exact ⟨g, ⟨rfl, h.1⟩, h.2⟩
  · rename_i hwant
    exact ⟨.exact R undef, by rw [if_neg hwant], fun _ => by simpa only [Known.exact, Facts.add_none] using h⟩
theorem wpAnyG_lex {Q : Facts → Act → Prop} (hCR : ∀ w w', C w → R w w' → C w') {n g : Nat} (hs : Region.noSelect ops = true)
    (htail : ∀ listed, HeadInv md ops n listed → ∀ i, i < n → listed.getD i true = false → ∀ j ∈ Region.ready md ops listed, j < n) :
    ∀ (l : List Oper) (k : Nat) (listed : Array Bool) (S : Facts) (a : Act), S.kept R → (∀ j, j < l.length → l[j]? = ops[k + j]?) → k + l.length = n → HeadInv md ops n listed →
    Region.lexHead md ops g l.length k listed = true → wpG P ops C R F Q k l S a → wpAnyG P md ops C R F (fun listed' S' a' => Region.seqB md ops g n listed' = true ∧ Q S' a') l.length listed S a
  | [], k, listed, _, _, _, _, hk, _, hB, h => fun _ => by
    have : k = n := by simpa using hk
    subst this
    exact ⟨by simpa [Region.lexHead] using hB, h⟩
  | o :: l, k, listed, S, a, hk, hl, hkn, inv, hB, h => by
    have h0 : ops[k]? = some o := by simpa using (hl 0 (by simp)).symm
    simp only [List.length_cons, Region.lexHead, Bool.and_eq_true] at hB
    obtain ⟨⟨hr, hf⟩, hB'⟩ := hB
    have hkn' : k < n := by simp only [List.length_cons] at hkn; omega
    have hr' : k ∈ Region.ready md ops listed := by simpa using hr
    obtain ⟨gg, hg, hK⟩ := wpG_out h
    exact wpAnyG_first hCR h0 (Region.noSelect_spec hs) hkn' htail (fun listed' S' a' hL => seqB_ready hL.1) l.length listed S a gg hk inv (Region.free_spec h0 hf) hr' hg
      fun x => wpAnyG_lex hCR hs htail l (k + 1) _ _ _ (Facts.kept_add hk o gg x) (fun j hj => by have := hl (j + 1) (by simp; omega); simpa [Nat.add_assoc, Nat.add_comm 1 j] using this) (by simp only [List.length_cons] at hkn; omega) (inv.set hr' hkn') hB' (hK x)
def splitB (ops : Array Oper) (n : Nat) : Bool :=
  Region.noSelect ops && (decide (n = ops.size) || (decide (n < ops.size) && Region.sinkB .any ops n && Region.chainB .any ops n)) && Region.lexHead .any ops (ops.size - n) n 0 (Array.replicate ops.size false)
theorem split_tail {n : Nat} (h : splitB ops n = true) : Region.noSelect ops = true ∧ n ≤ ops.size ∧ Region.lexHead .any ops (ops.size - n) n 0 (Array.replicate ops.size false) = true ∧
    ∀ listed, HeadInv .any ops n listed → ∀ i, i < n → listed.getD i true = false → ∀ j ∈ Region.ready .any ops listed, j < n := by
  simp only [splitB, Bool.and_eq_true, Bool.or_eq_true, decide_eq_true_eq] at h
  obtain ⟨⟨hs, hn⟩, hl⟩ := h
  rcases hn with rfl | ⟨⟨hn, h1⟩, h2⟩
  · exact ⟨hs, Nat.le_refl _, hl, fun listed _ i _ _ j hj => by obtain ⟨_, o, ho, _⟩ := mem_ready.1 hj; exact (Array.getElem?_eq_some_iff.1 ho).1⟩
  · refine ⟨hs, Nat.le_of_lt hn, hl, fun listed inv i hi hun j hj => ?_⟩
    rcases Nat.lt_or_ge j n with h | h
    · exact h
    · exact absurd hj (tail_waits h1 h2 hn inv _ i rfl hi hun j h)
theorem wp_region_grown {id : Nat} {Q : Exit → Act → World → Prop} {a : Act} {w : World} {l : List Oper} (F : Nat → Option (Known R)) (n : Nat) (hm : P.follows .mixedOrders = true) (hB : splitB l.toArray n = true)
    (hCR : ∀ w w', C w → R w w' → C w') (hC : C w.drew)
    (h : wpG P l.toArray C R F (fun S a' => ∀ w', C w' → S.all w' → wpList P l.toArray Q (l.drop n) a' w') 0 (l.take n) Facts.none a) : (Code.region id l.toArray true).wp P Q a w := by
  obtain ⟨hs, hn, hlex, htail⟩ := split_tail hB
  have hk : Facts.none.kept R := fun p hp => hp.elim
  have ha : ∀ w', Facts.none.all w' := fun w' p hp => hp.elim
  have hn' : n ≤ l.length := by simpa using hn
  have htl : (l.take n).length = n := by simp; omega
  have hdl : (l.drop n).length = l.toArray.size - n := by simp
  have inv0 : HeadInv .any l.toArray n (Array.replicate l.toArray.size false) :=
    ⟨by simp, fun j oj _ hl => (by rw [getD_replicate_false] at hl; cases hl), fun t _ ht => getD_in (by simpa using ht) (getD_replicate_false _ _)⟩
  have H := wpAnyG_lex hCR hs htail (l.take n) 0 _ Facts.none a hk (fun j hj => by
    have hj' : j < n := by rw [htl] at hj; exact hj
    simp [hj']) (by simpa using htl) inv0 (by rw [htl]; exact hlex) h
  have := wpAny_of_G (Q' := Q) hCR (l.toArray.size - n) (fun listed S a' w' hw hS hL => by
    have := wpAny_of_seq (md := .any) (Q' := Q) (l.drop n) n listed a' w' (fun j => by simp [List.getElem?_drop]) (by rw [hdl]; exact hL.1) (hL.2 w' hw hS)
    rwa [hdl] at this) _ _ _ _ _ hk hC (ha _) H
  rw [htl, show n + (l.toArray.size - n) = l.toArray.size by omega] at this
  exact wp_region_any hm this
end
end Go.Proofs.YtndagciefnddmaaGreatDoor
namespace Go.Proofs.YtndagciefnddmaaGreatDoor
open Go.RowKit
attribute [go_sem] growAt growUpon
def Bel (w w' : World) : Prop := Below w.heap.size w w'
theorem Bel.refl (w : World) : Bel w w := Below.refl _ _
theorem Bel.trans {a b c : World} (h : Bel a b) (k : Bel b c) : Bel a c := bt h k
def knownAt {R : World → World → Prop} : List (Nat × Known R) → Nat → Option (Known R)
  | [], _ => none
  | (n, g) :: l, k => if n = k then some g else knownAt l k
def plainOp : Op → Bool
  | .move _ | .assign _ | .pick .. | .load .. | .binOp .. | .unOp .. | .convert .. | .slice .. | .fieldAddr .. | .field .. | .indexAddr .. | .index .. | .extract .. | .build .. | .makeInterface .. | .makeFunc .. => true
  | .call { callee := .builtin .len, .. } | .call { callee := .builtin .cap, .. } | .call { callee := .builtin .min, .. } | .call { callee := .builtin .max, .. } => true
  | _ => false
section
variable {P : Program} {ops : Array Oper} {C : World → Prop} {R : World → World → Prop} {F : Nat → Option (Known R)} {Q : Facts → Act → Prop}
theorem no_enter {α : Type} {r : Result α} {g : α → Value} {f : FuncId} {args : Array Value} {w : World} : r.andThen (fun x w => .ok (Next.value (g x)) w) ≠ .ok (.enter f args) w := by
  cases r <;> simp [Result.andThen]
theorem plain_no_enter {ρ : Operand → Value} {o : Oper} (h : plainOp o.op = true) {w w' : World} {f : FuncId} {args : Array Value} : (execOp ρ o).run P w ≠ .ok (.enter f args) w' := by
  unfold execOp
  unfold plainOp at h
  split at h
  all_goals first
    | (rename_i he; simp only [he]; simp only [Sem.run_bind, Sem.run_pure]; first | exact no_enter | exact no_enter (g := fun x => x) | (simp; done))
    | (rename_i he; simp only [he, resolve, invoke, builtin, Sem.run_bind, Sem.run_pure, Result.andThen_ok]; exact no_enter (g := fun x => x))
    | cases h
theorem readAt_of_quiet {o : Oper} {a : Act} {C' : World → Prop} {w : World} {v : Value} (hp : plainOp o.op = true) (h : o.quietAt P a C' w v) : readAt P o a w v := by
  unfold Oper.quietAt at h
  unfold readAt
  have hne := fun f args w' => plain_no_enter (P := P) (ρ := a.eval) hp (w := w) (w' := w') (f := f) (args := args)
  generalize (execOp a.eval o).run P w = r at *
  cases r with
  | ok n w' =>
    cases n <;> simp only [Oper.quietUpon] at h <;> simp only [readUpon]
    case value u => exact h
    case skip => exact h
    case enter f args => exact absurd rfl (hne f args w')
  | halt x w' => simp only [Oper.quietUpon] at h
theorem wpG_skip {k : Nat} {o : Oper} {rest : List Oper} {S : Facts} {a : Act} (hw : Region.wanted o (yielded ops a.tmps) = false)
    (h : ∀ K : Act → Prop, (∀ a, wpG P ops C R F Q (k + 1) rest S a → K a) → wpQuiet P ops C K [o] a) : wpG P ops C R F Q k (o :: rest) S a := by
  have := h _ fun _ h => h
  unfold wpQuiet at this
  rw [if_neg (by rw [hw]; exact Bool.false_ne_true)] at this
  unfold wpG
  rw [if_neg (by rw [hw]; exact Bool.false_ne_true)]
  exact this
theorem wpG_quiet {k : Nat} {o : Oper} {rest : List Oper} {S : Facts} {a : Act} (hF : F k = none) (hp : plainOp o.op = true)
    (h : ∀ K : Act → Prop, (∀ a, wpG P ops C R F Q (k + 1) rest S a → K a) → wpQuiet P ops (fun _ => True) K [o] a) : wpG P ops C R F Q k (o :: rest) S a := by
  have := h _ fun _ h => h
  unfold wpQuiet at this
  unfold wpG
  split
  · rename_i hw
    rw [if_pos hw] at this
    obtain ⟨v, h1, h2⟩ := this
    simp only [hF]
    exact ⟨v, fun w hw _ => readAt_of_quiet hp (h1 w trivial), h2⟩
  · rename_i hw
    rw [if_neg hw] at this
    exact this
theorem wpG_known {k : Nat} {o : Oper} {rest : List Oper} {S : Facts} {a : Act} (g : Known R) (hF : F k = some g) (hw : Region.wanted o (yielded ops a.tmps) = true)
    (h1 : ∀ (w' : World) (G : Value → World → Prop), C w' → S.at ops o w' → (∀ x w'', R w' w'' → (∀ φ, g.fact x = some φ → φ w'') → G (g.val x) w'') → growAt P o a w' G)
    (h2 : ∀ x (K : Act → Prop), (∀ a, wpG P ops C R F Q (k + 1) rest (S.add o (g.fact x)) a → K a) → K (a.put o.dst (g.val x))) : wpG P ops C R F Q k (o :: rest) S a := by
  unfold wpG
  rw [if_pos hw]
  simp only [hF]
  exact ⟨fun w' hC hS => h1 w' _ hC hS fun x w'' hR hφ => ⟨hR, x, rfl, hφ⟩, fun x => h2 x _ fun _ h => h⟩
theorem wpG_exact {k : Nat} {o : Oper} {rest : List Oper} {S : Facts} {a : Act} {v : Value} (hF : F k = some (.exact R v)) (hw : Region.wanted o (yielded ops a.tmps) = true)
    (h1 : ∀ (w' : World) (G : Value → World → Prop), C w' → S.at ops o w' → (∀ w'', R w' w'' → G v w'') → growAt P o a w' G)
    (h2 : ∀ (K : Act → Prop), (∀ a, wpG P ops C R F Q (k + 1) rest S a → K a) → K (a.put o.dst v)) : wpG P ops C R F Q k (o :: rest) S a := by
  refine wpG_known (.exact R v) hF hw (fun w' G hC hS hG => h1 w' G hC hS fun w'' hR => hG () w'' hR (fun _ h => by cases h)) (fun x K hK => h2 K fun a ha => hK a ?_)
  simp only [Known.exact, Facts.add_none]
  exact ha
theorem wpG_nilOk {k : Nat} {o : Oper} {rest : List Oper} {S : Facts} {a : Act} {x : Operand} {p : Addr} (hF : F k = none) (ho : o.op = .nilCheck x) (hx : a.eval x = .pointer (some p)) (hw : Region.wanted o (yielded ops a.tmps) = true)
    (h : ∀ (K : Act → Prop), (∀ a, wpG P ops C R F Q (k + 1) rest S a → K a) → K (a.put o.dst (.pointer (some p)))) : wpG P ops C R F Q k (o :: rest) S a := by
  unfold wpG
  rw [if_pos hw]
  simp only [hF]
  refine ⟨.pointer (some p), fun w _ _ => ?_, h _ fun _ h => h⟩
  unfold readAt execOp
  rw [ho]
  simp only [hx, Sem.run_pure, readUpon, and_self]
theorem at0 {S : Facts} {o o' : Oper} {φ : World → Prop} {w : World} (h : (S.add o (some φ)).at ops o' w) (ha : o.apart ops o' = false) : φ w := (Facts.at_some h).1 ha
theorem at_on {S : Facts} {o o' : Oper} {φ : Option (World → Prop)} {w : World} (h : (S.add o φ).at ops o' w) : S.at ops o' w := fun p hp => h p (.inr hp)
theorem at1 {S : Facts} {o o' o1 : Oper} {φ : World → Prop} {φ1 : Option (World → Prop)} {w : World} (h : ((S.add o (some φ)).add o1 φ1).at ops o' w) (ha : o.apart ops o' = false) : φ w := at0 (at_on h) ha
theorem all0 {S : Facts} {o : Oper} {φ : World → Prop} {w : World} (h : (S.add o (some φ)).all w) : φ w := (Facts.all_some.1 h).1
theorem region_known {id : Nat} {Q : Exit → Act → World → Prop} {a : Act} {w : World} {l : List Oper} (L : List (Nat × Known Bel)) (hm : P.follows .mixedOrders = true) (hB : splitB l.toArray l.length = true)
    (h : wpG P l.toArray (Bel w) Bel (knownAt L) (fun S a' => ∀ w', Bel w w' → S.all w' → Q .normal a' w') 0 l Facts.none a) : (Code.region id l.toArray true).wp P Q a w :=
  wp_region_grown (knownAt L) l.length hm hB (fun _ _ h k => Bel.trans h k) (b_drew w) (by rw [List.take_length, List.drop_length]; exact h)
theorem region_tail {id : Nat} {Q : Exit → Act → World → Prop} {a : Act} {w : World} {l : List Oper} (n : Nat) (L : List (Nat × Known Bel)) (hm : P.follows .mixedOrders = true) (hB : splitB l.toArray n = true)
    (h : wpG P l.toArray (Bel w) Bel (knownAt L) (fun S a' => ∀ w', Bel w w' → S.all w' → wpList P l.toArray Q (l.drop n) a' w') 0 (l.take n) Facts.none a) : (Code.region id l.toArray true).wp P Q a w :=
  wp_region_grown (knownAt L) n hm hB (fun _ _ h k => Bel.trans h k) (b_drew w) h
theorem calls_told {f : FuncId} {args : Array Value} {w : World} {v : Value} {G : Value → World → Prop} (hG : ∀ w'', Bel w w'' → G v w'') (h : Calls P f args w fun e w' => e = .returned v ∧ Below w.heap.size w w') :
    Calls P f args w fun e w'' => ∃ u, e = .returned u ∧ G u w'' := h.mono fun _ _ ⟨he, hb⟩ => ⟨v, he, hG _ hb⟩
end
end Go.Proofs.YtndagciefnddmaaGreatDoor
namespace Go.Proofs.YtndagciefnddmaaGreatDoor
open Go.RowKit Oct
def recIns : Rec VI where
  cell x := [.int .u8 (x.1.toNat : Int), .int .u8 (x.2.toNat : Int)]
  e := 92
  n := 2
  bytes := 2
  z := .agg #[.int .u8 0, .int .u8 0]
  len := fun _ => rfl
  one := by intro x u h; simp at h; rcases h with rfl | rfl <;> rfl
  info := by kernel_rfl
  zs := rfl
  pos := by decide
  bpos := by decide
def recJ : Rec Int where
  cell x := [.int .i64 x]
  e := 3
  n := 1
  bytes := 8
  z := .int .i64 0
  len := fun _ => rfl
  one := by intro x u h; simp at h; subst h; rfl
  info := by kernel_rfl
  zs := rfl
  pos := by decide
  bpos := by decide
def recVb : Rec Vb where
  cell b := [.int .u8 (b.op.toNat : Int), .string (bs b.want), .string (bs b.opn), .int .i64 (b.at_ : Int), .bool b.did]
  e := 214
  n := 5
  bytes := 56
  z := .agg #[.int .u8 0, .string ByteArray.empty, .string ByteArray.empty, .int .i64 0, .bool false]
  len := fun _ => rfl
  one := by intro x u h; simp at h; rcases h with rfl | rfl | rfl | rfl | rfl <;> rfl
  info := by kernel_rfl
  zs := rfl
  pos := by decide
  bpos := by decide
section
variable {α : Type} {R : Rec α}
theorem Rec.cells_set (R : Rec α) {j : Nat} (hj : j < R.n) {u : Value} {y : α} : ∀ (l : List α) (k : Nat) (hk : k < l.length), R.cell y = (R.cell l[k]).set j u → (R.cells l).set (k * R.n + j) u = R.cells (l.set k y)
  | x :: l, 0, _, hy => by
    simp only [Rec.cells, Nat.zero_mul, Nat.zero_add, List.set_cons_zero]
    rw [List.set_append_left _ _ (by rw [R.len]; exact hj)]
    rw [show R.cell y = (R.cell x).set j u from hy]
  | x :: l, k + 1, hk, hy => by
    simp only [Rec.cells, List.set_cons_succ]
    have hge : R.n ≤ (k + 1) * R.n := Nat.le_mul_of_pos_left R.n (Nat.succ_pos k)
    rw [List.set_append_right _ _ (by rw [R.len]; omega), R.len]
    rw [show (k + 1) * R.n + j - R.n = k * R.n + j by rw [Nat.add_mul]; omega]
    rw [Rec.cells_set R hj l k (by simpa using hk) hy]
theorem Rec.Own.setCell {w : World} {base g n c : Nat} {l : List α} (h : R.Own w base (.slice (some ⟨g, 0, none⟩) n c) l) {k : Nat} (hk : k < l.length) {y : α} {j : Nat} (hj : j < R.n) {u : Value} (hy : R.cell y = (R.cell l[k]).set j u) :
    R.Own (w.setCell ⟨g, k * R.n + j, none⟩ u) base (.slice (some ⟨g, 0, none⟩) n c) (l.set k y) := by
  obtain ⟨h1, h2⟩ := h
  refine ⟨by rw [Rec.cells_length], ?_⟩
  rcases h2 with ⟨hv, _⟩ | ⟨g', cap, cur, hv, hb, hh, r1, r2, r3, r4⟩
  · cases hv
  · cases hv
    have hb2 : Blk w g R.e cur.toList := by unfold Blk; rw [hh]
    have hs := hb2.set (k * R.n + j) u
    refine .inr ⟨g, c, (cur.toList.set (k * R.n + j) u).toArray, by rw [List.length_set], hb, hs, by rw [List.length_set]; exact r1, r2, by simpa using r3, ?_⟩
    rw [List.length_set]
    simp only [List.toList_toArray]
    rw [List.take_set, r4]
    exact Rec.cells_set R hj l k hk hy
theorem Rec.Own.short {w : World} {base n c : Nat} {a : Option Addr} {l : List α} (h : R.Own w base (.slice a n c) l) (m : Nat) (hm : m ≤ l.length) : R.Own w base (.slice a m c) (l.take m) := by
  obtain ⟨h1, h2⟩ := h
  have hl : (l.take m).length = m := by rw [List.length_take]; omega
  refine ⟨by rw [Rec.cells_length], ?_⟩
  rcases h2 with ⟨hv, h0⟩ | ⟨g', cap, cur, hv, hb, hh, r1, r2, r3, r4⟩
  · have hz : l.length = 0 := h0
    obtain rfl : m = 0 := by omega
    cases hv
    exact .inl ⟨rfl, hl⟩
  · cases hv
    refine .inr ⟨g', c, cur, by rw [hl], hb, hh, by rw [hl]; omega, r2, r3, ?_⟩
    rw [hl, ← R.cells_take, ← r4, List.take_take, Nat.min_eq_left (Nat.mul_le_mul_right _ hm)]
end
structure VG (w : World) (base G : Nat) (tv cv : Value) (inp : Nat) (role : UInt8) (s : Vs) (bv sv ev : Value) : Prop where
  blk : Blk w G 184 [tv, cv, .int .i64 (inp : Int), .int .u8 (role.toNat : Int), .string (bs s.kinds), bv, sv, ev, .int .i64 (s.deep : Int)]
  ob : recVb.Own w base bv s.blocks
  os : recS.Own w base sv s.seen
  oe : recJ.Own w base ev s.ends
  gb : base ≤ G
  a1 : ∀ b, bv.ownBlock = some b → b ≠ G ∧ sv.ownBlock ≠ some b ∧ ev.ownBlock ≠ some b
  a2 : ∀ b, sv.ownBlock = some b → b ≠ G ∧ ev.ownBlock ≠ some b
  a3 : ∀ b, ev.ownBlock = some b → b ≠ G
section
variable {w w' : World} {base G : Nat} {tv cv bv sv ev : Value} {inp : Nat} {role : UInt8} {s : Vs}
theorem VG.below (h : VG w base G tv cv inp role s bv sv ev) (hB : Below w.heap.size w w') : VG w' base G tv cv inp role s bv sv ev :=
  ⟨h.blk.below hB, h.ob.below hB, h.os.below hB, h.oe.below hB, h.gb, h.a1, h.a2, h.a3⟩
theorem VG.cell (h : VG w base G tv cv inp role s bv sv ev) {k : Nat} {v : Value} (hv : [tv, cv, .int .i64 (inp : Int), .int .u8 (role.toNat : Int), .string (bs s.kinds), bv, sv, ev, .int .i64 (s.deep : Int)][k]? = some v) : w.cell? ⟨G, k, none⟩ = some v := h.blk.cell hv
theorem VG.free (h : VG w base G tv cv inp role s bv sv ev) {k : Nat} (hk : k < 9) : w.frozen? ⟨G, k, none⟩ = false := h.blk.free hk
theorem VG.setG (h : VG w base G tv cv inp role s bv sv ev) (k : Nat) (v : Value) {kinds : List UInt8} {deep : Nat}
    (hs : [tv, cv, .int .i64 (inp : Int), .int .u8 (role.toNat : Int), .string (bs s.kinds), bv, sv, ev, .int .i64 (s.deep : Int)].set k v = [tv, cv, .int .i64 (inp : Int), .int .u8 (role.toNat : Int), .string (bs kinds), bv, sv, ev, .int .i64 (deep : Int)]) :
    VG (w.setCell ⟨G, k, none⟩ v) base G tv cv inp role { s with kinds := kinds, deep := deep } bv sv ev ∧ Below base w (w.setCell ⟨G, k, none⟩ v) := by
  have hc : Chg (fun x => x = G) w (w.setCell ⟨G, k, none⟩ v) := Chg.setCell _ _ _ rfl
  have key : ∀ {β : Type} (R : Rec β) (x : Value) (l : List β), R.Own w base x l → (∀ b, x.ownBlock = some b → b ≠ G) → R.Own (w.setCell ⟨G, k, none⟩ v) base x l := fun R x l ho hn => by
    obtain ⟨h1, h2⟩ := ho
    refine ⟨h1, ?_⟩
    rcases h2 with h2 | ⟨g, cap, cur, rfl, hg, hh, r⟩
    · exact .inl h2
    · exact .inr ⟨g, cap, cur, rfl, hg, hc.at hh (hn g rfl), r⟩
  have hb := h.blk.set k v
  rw [hs] at hb
  exact ⟨⟨hb, key _ _ _ h.ob (fun b hb => (h.a1 b hb).1), key _ _ _ h.os (fun b hb => (h.a2 b hb).1), key _ _ _ h.oe h.a3, h.gb, h.a1, h.a2, h.a3⟩, hc.below (fun x hx => by have := h.gb; omega) (Nat.le_trans h.gb (Nat.le_of_lt h.blk.lt))⟩
theorem VG.kinds (h : VG w base G tv cv inp role s bv sv ev) (k : List UInt8) : VG (w.setCell ⟨G, 4, none⟩ (.string (bs k))) base G tv cv inp role { s with kinds := k } bv sv ev ∧ Below base w (w.setCell ⟨G, 4, none⟩ (.string (bs k))) := h.setG 4 _ rfl
theorem VG.deep (h : VG w base G tv cv inp role s bv sv ev) (d : Nat) : VG (w.setCell ⟨G, 8, none⟩ (.int .i64 (d : Int))) base G tv cv inp role { s with deep := d } bv sv ev ∧ Below base w (w.setCell ⟨G, 8, none⟩ (.int .i64 (d : Int))) := h.setG 8 _ rfl
end
end Go.Proofs.YtndagciefnddmaaGreatDoor
namespace Go.Proofs.YtndagciefnddmaaGreatDoor
open Go.RowKit Oct
theorem wpG_nilV3 {P : Program} {ops : Array Oper} {C : World → Prop} {R : World → World → Prop} {F : Nat → Option (Known R)} {Q : Facts → Act → Prop} {k : Nat} {S : Facts} {a : Act} (h : Q S a) : wpG P ops C R F Q k [] S a := h
attribute [local irreducible] wpG
section
variable {α : Type} {R : Rec α}
theorem Rec.Own.chgV {X : Nat → Prop} {w w' : World} {base : Nat} {v : Value} {l : List α} (h : R.Own w base v l) (hc : Chg X w w') (hX : ∀ k, v.ownBlock = some k → ¬ X k) : R.Own w' base v l := by
  obtain ⟨h1, h2⟩ := h
  refine ⟨h1, ?_⟩
  rcases h2 with h2 | ⟨g, cap, cur, rfl, hg, hh, r⟩
  · exact .inl h2
  · exact .inr ⟨g, cap, cur, rfl, hg, hc.at hh (hX g rfl), r⟩
theorem Rec.Own.ltV {w : World} {base : Nat} {v : Value} {l : List α} (h : R.Own w base v l) : ∀ b, v.ownBlock = some b → base ≤ b ∧ b < w.heap.size := fun b hb => World.ownsRow.lt h b hb
end
section
variable {w w' w3 : World} {base G : Nat} {tv cv bv sv ev bv' sv' : Value} {inp : Nat} {role : UInt8} {s : Vs}
theorem VG.newB (h : VG w base G tv cv inp role s bv sv ev) {l : List Vb} (hc : Chg (fun k => bv.ownBlock = some k) w w3) (hg : ∀ k, bv'.ownBlock = some k → bv.ownBlock = some k ∨ w.heap.size ≤ k) (ho : recVb.Own w3 base bv' l) :
    VG (w3.setCell ⟨G, 5, none⟩ bv') base G tv cv inp role { s with blocks := l } bv' sv ev ∧ Below base w (w3.setCell ⟨G, 5, none⟩ bv') := by
  have hs : Chg (fun k => k = G) w3 (w3.setCell ⟨G, 5, none⟩ bv') := Chg.setCell _ _ _ rfl
  have hlt := h.blk.lt
  have nb : ∀ b, bv'.ownBlock = some b → b ≠ G ∧ sv.ownBlock ≠ some b ∧ ev.ownBlock ≠ some b := fun b hb => by
    rcases hg b hb with e | e
    · exact h.a1 b e
    · refine ⟨by omega, fun e2 => ?_, fun e2 => ?_⟩
      · have := (h.os.ltV b e2).2; omega
      · have := (h.oe.ltV b e2).2; omega
  have hb3 : Blk w3 G 184 _ := h.blk.chg hc (fun e => (h.a1 G e).1 rfl)
  have o1 := (h.os.chgV hc (fun k hk e => (h.a1 k e).2.1 hk)).chgV hs (fun k hk => (h.a2 k hk).1)
  have o2 := (h.oe.chgV hc (fun k hk e => (h.a1 k e).2.2 hk)).chgV hs (fun k hk => h.a3 k hk)
  refine ⟨⟨hb3.set 5 bv', ho.chgV hs (fun k hk => (nb k hk).1), o1, o2, h.gb, nb, h.a2, h.a3⟩, ?_⟩
  exact (hc.below (fun k hk => (h.ob.ltV k hk).1) (Nat.le_trans h.gb (Nat.le_of_lt hlt))).trans (hs.below (fun k hk => by have := h.gb; omega) (by have := hc.size; have := h.gb; omega))
theorem VG.newS (h : VG w base G tv cv inp role s bv sv ev) {l : List (List UInt8)} (hc : Chg (fun k => sv.ownBlock = some k) w w3) (hg : ∀ k, sv'.ownBlock = some k → sv.ownBlock = some k ∨ w.heap.size ≤ k) (ho : recS.Own w3 base sv' l) :
    VG (w3.setCell ⟨G, 6, none⟩ sv') base G tv cv inp role { s with seen := l } bv sv' ev ∧ Below base w (w3.setCell ⟨G, 6, none⟩ sv') := by
  have hs : Chg (fun k => k = G) w3 (w3.setCell ⟨G, 6, none⟩ sv') := Chg.setCell _ _ _ rfl
  have hlt := h.blk.lt
  have nb : ∀ b, sv'.ownBlock = some b → b ≠ G ∧ ev.ownBlock ≠ some b ∧ bv.ownBlock ≠ some b := fun b hb => by
    rcases hg b hb with e | e
    · exact ⟨(h.a2 b e).1, (h.a2 b e).2, fun e2 => (h.a1 b e2).2.1 e⟩
    · refine ⟨by omega, fun e2 => ?_, fun e2 => ?_⟩
      · have := (h.oe.ltV b e2).2; omega
      · have := (h.ob.ltV b e2).2; omega
  have hb3 : Blk w3 G 184 _ := h.blk.chg hc (fun e => (h.a2 G e).1 rfl)
  have o1 := (h.ob.chgV hc (fun k hk e => (h.a1 k hk).2.1 e)).chgV hs (fun k hk => (h.a1 k hk).1)
  have o2 := (h.oe.chgV hc (fun k hk e => (h.a2 k e).2 hk)).chgV hs (fun k hk => h.a3 k hk)
  refine ⟨⟨hb3.set 6 sv', o1, ho.chgV hs (fun k hk => (nb k hk).1), o2, h.gb, fun b hb => ⟨(h.a1 b hb).1, fun e => (nb b e).2.2 hb, (h.a1 b hb).2.2⟩, fun b hb => ⟨(nb b hb).1, (nb b hb).2.1⟩, h.a3⟩, ?_⟩
  exact (hc.below (fun k hk => (h.os.ltV k hk).1) (Nat.le_trans h.gb (Nat.le_of_lt hlt))).trans (hs.below (fun k hk => by have := h.gb; omega) (by have := hc.size; have := h.gb; omega))
theorem VG.chgB (h : VG w base G tv cv inp role s bv sv ev) {l : List Vb} (hc : Chg (fun k => bv.ownBlock = some k) w w') (ho : recVb.Own w' base bv l) : VG w' base G tv cv inp role { s with blocks := l } bv sv ev ∧ Below base w w' :=
  ⟨⟨h.blk.chg hc (fun e => (h.a1 G e).1 rfl), ho, h.os.chgV hc (fun k hk e => (h.a1 k e).2.1 hk), h.oe.chgV hc (fun k hk e => (h.a1 k e).2.2 hk), h.gb, h.a1, h.a2, h.a3⟩, hc.below (fun k hk => (h.ob.ltV k hk).1) (Nat.le_trans h.gb (Nat.le_of_lt h.blk.lt))⟩
theorem VG.chgE (h : VG w base G tv cv inp role s bv sv ev) {l : List Int} (hc : Chg (fun k => ev.ownBlock = some k) w w') (ho : recJ.Own w' base ev l) : VG w' base G tv cv inp role { s with ends := l } bv sv ev ∧ Below base w w' :=
  ⟨⟨h.blk.chg hc (fun e => h.a3 G e rfl), h.ob.chgV hc (fun k hk e => (h.a1 k hk).2.2 e), h.os.chgV hc (fun k hk e => (h.a2 k hk).2 e), ho, h.gb, h.a1, h.a2, h.a3⟩, hc.below (fun k hk => (h.oe.ltV k hk).1) (Nat.le_trans h.gb (Nat.le_of_lt h.blk.lt))⟩
theorem VG.slices (h : VG w base G tv cv inp role s bv sv ev) : (∃ ab cb, bv = .slice ab s.blocks.length cb) ∧ (∃ a1 c1, sv = .slice a1 s.seen.length c1) ∧ ∃ ae ce, ev = .slice ae s.ends.length ce := ⟨owns_slice h.ob, owns_slice h.os, owns_slice h.oe⟩
theorem Rec.Own.at0 {α : Type} {R : Rec α} {a : Option Addr} {n c : Nat} {l : List α} (h : R.Own w base (.slice a n c) l) (hl : 0 < l.length) : ∃ g, a = some ⟨g, 0, none⟩ := by
  rcases h.2 with ⟨_, h0⟩ | ⟨g, cap, cur, hv, _⟩
  · have : l.length = 0 := h0
    omega
  · cases hv; exact ⟨g, rfl⟩
set_option maxRecDepth 100000 in
set_option maxHeartbeats 1000000 in
theorem slen_any (h : VG w base G tv cv inp role s bv sv ev) :
    Calls Tryz.prog 125 #[.pointer (some ⟨G, 5, none⟩)] w fun e w' => e = .returned (.int .i64 (s.blocks.length : Int)) ∧ w' = w := by
  obtain ⟨⟨ab, cb, rfl⟩, _, _⟩ := h.slices
  have c5 := h.cell (k := 5) rfl
  clear h
  go_enter Tryz.func125, Tryz.ntmps125
  go_wp2
  go_ret
  exact ⟨rfl, rfl⟩
set_option maxRecDepth 100000 in
set_option maxHeartbeats 1000000 in
theorem stop_any (h : VG w base G tv cv inp role s bv sv ev) (hl : s.blocks.length ≤ 1000) :
    Calls Tryz.prog 143 #[.pointer (some ⟨G, 5, none⟩)] w fun e w' => ((s.blocks = [] ∧ e = .returned (.pointer none)) ∨ ∃ g c m, bv = .slice (some ⟨g, 0, none⟩) s.blocks.length c ∧ s.blocks.length = m + 1 ∧ e = .returned (.pointer (some ⟨g, m * 5, none⟩))) ∧ Below w.heap.size w w' := by
  obtain ⟨⟨ab, cb, rfl⟩, _, _⟩ := h.slices
  have c5 := h.cell (k := 5) rfl
  rcases Nat.eq_zero_or_pos s.blocks.length with h0 | h0
  · have hb0 : s.blocks = [] := List.eq_nil_of_length_eq_zero h0
    have h1 : ((s.blocks.length : Int) == 0) = true := by rw [beq_iff_eq]; omega
    have HB := Lib.hid hb0
    clear h h0 hb0
    go_enter Tryz.func143, Tryz.ntmps143
    go_wp2
    go_ret
    exact ⟨.inl ⟨HB.out, rfl⟩, Below.refl _ _⟩
  · obtain ⟨g, rfl⟩ := h.ob.at0 h0
    have h1 : ((s.blocks.length : Int) == 0) = false := by rw [beq_eq_false_iff_ne]; omega
    obtain ⟨m, hm⟩ : ∃ m, s.blocks.length = m + 1 := ⟨s.blocks.length - 1, by omega⟩
    have hm1 : (s.blocks.length : Int) - 1 = (m : Int) := by omega
    have hm2 : (m : Int) < (s.blocks.length : Int) := by omega
    have hm3 : (0 : Int) ≤ (m : Int) := by omega
    have hm4 : (s.blocks.length : Int) ≤ 1000 := by omega
    have HM := Lib.hid hm
    clear h h0 hm
    go_enter Tryz.func143, Tryz.ntmps143
    go_wp2
    refine region_known [(3, .exact _ (.slice (some ⟨g, 0, none⟩) s.blocks.length cb)), (7, .exact _ (.slice (some ⟨g, 0, none⟩) s.blocks.length cb))] (by kernel_rfl) (by kernel_rfl) ?_
    (repeat (first | (refine wpG_skip (by kernel_rfl) (fun K hK => ?_); go_big_quiet_skip; refine wpQuiet_nil (hK _ ?_); clear hK K) | (refine wpG_quiet (by rfl) (by rfl) (fun K hK => ?_); go_big_quiet_want; go_big_quiet_op; go_big_quiet_on; refine wpQuiet_nil (hK _ ?_); clear hK K) | (refine wpG_nilOk rfl rfl rfl (by kernel_rfl) (fun K hK => ?_); go_simp; refine hK _ ?_; clear hK K)))
    refine wpG_exact rfl (by kernel_rfl) (fun w' G hB hS hG => ?_) (fun K hK => ?_)
    · have y := Below.keeps hB c5
      go_simp; exact hG _ (Bel.refl _)
    go_simp; refine hK _ ?_; clear hK K; (repeat (first | (refine wpG_skip (by kernel_rfl) (fun K hK => ?_); go_big_quiet_skip; refine wpQuiet_nil (hK _ ?_); clear hK K) | (refine wpG_quiet (by rfl) (by rfl) (fun K hK => ?_); go_big_quiet_want; go_big_quiet_op; go_big_quiet_on; refine wpQuiet_nil (hK _ ?_); clear hK K) | (refine wpG_nilOk rfl rfl rfl (by kernel_rfl) (fun K hK => ?_); go_simp; refine hK _ ?_; clear hK K)))
    refine wpG_exact rfl (by kernel_rfl) (fun w' G hB hS hG => ?_) (fun K hK => ?_)
    · have y := Below.keeps hB c5
      go_simp; exact hG _ (Bel.refl _)
    go_simp; refine hK _ ?_; clear hK K; (repeat (first | (refine wpG_skip (by kernel_rfl) (fun K hK => ?_); go_big_quiet_skip; refine wpQuiet_nil (hK _ ?_); clear hK K) | (refine wpG_quiet (by rfl) (by rfl) (fun K hK => ?_); go_big_quiet_want; go_big_quiet_op; go_big_quiet_on; refine wpQuiet_nil (hK _ ?_); clear hK K) | (refine wpG_nilOk rfl rfl rfl (by kernel_rfl) (fun K hK => ?_); go_simp; refine hK _ ?_; clear hK K)))
    refine wpG_nilV3 ?_
    intro w' hB hA
    go_wp2
    go_ret
    exact ⟨.inr ⟨g, cb, m, rfl, HM.out, by simp⟩, hB⟩
end
end Go.Proofs.YtndagciefnddmaaGreatDoor
namespace Go.Proofs.YtndagciefnddmaaGreatDoor
open Go.RowKit
section
variable {P : Program}
theorem ownsRow_chg {X : Nat → Prop} {w w' : World} {base : Nat} {e : TypeId} {size : Nat} {v : Value} {n : Nat} {xs : List Value} (h : w.ownsRow base e size v n xs) (hc : Chg X w w') (hX : ∀ k, base ≤ k → ¬ X k) : w'.ownsRow base e size v n xs := by
  obtain ⟨h1, h2⟩ := h
  refine ⟨h1, ?_⟩
  rcases h2 with h2 | ⟨g, cap, cur, hv, hg, hh, r⟩
  · exact .inl h2
  · exact .inr ⟨g, cap, cur, hv, hg, hc.at hh (hX g hg), r⟩
def BoxRow (s base : Nat) (t e : TypeId) (size : Nat) (U : World) (n : Nat) (cells : List Value) : Prop := ∃ v, U.heap[s]? = some (.cells #[v] t (0, 0)) ∧ U.ownsRow base e size v n cells
theorem BoxRow.chg {s base : Nat} {t e : TypeId} {size : Nat} {U U' : World} {n : Nat} {cells : List Value} {X : Nat → Prop} (h : BoxRow s base t e size U n cells) (hc : Chg X U U') (hX : ∀ k, X k → k ≠ s ∧ k < base) : BoxRow s base t e size U' n cells := by
  obtain ⟨v, h1, h2⟩ := h
  exact ⟨v, hc.at h1 fun hx => (hX s hx).1 rfl, ownsRow_chg h2 hc fun k hk hx => by have := (hX k hx).2; omega⟩
def kReads (n : Nat) (cells : List Value) : Known Bel := ⟨Option Addr × Nat, fun x => .slice x.1 n x.2, fun x => some fun w => Reads w (.slice x.1 n x.2) n cells, fun _ _ h _ _ hφ hB => by cases h; exact Reads.below hφ hB⟩
@[go_sem] theorem kReads_val (n : Nat) (cells : List Value) (a : Option Addr) (c : Nat) : (kReads n cells).val (a, c) = .slice a n c := rfl
theorem reads_new {w' : World} {G : Value → World → Prop} {n : Nat} {cells : List Value} {cs : Array Value} {e : TypeId} (hG : ∀ x w'', Bel w' w'' → (∀ φ, (kReads n cells).fact x = some φ → φ w'') → G ((kReads n cells).val x) w'') (hcs : cs = cells.toArray) :
    G (.slice (some ⟨w'.heap.size, 0, none⟩) n n) (w'.alloc (.cells cs e)) := by
  subst hcs
  exact hG (some ⟨w'.heap.size, 0, none⟩, n) _ (b_alloc w' _) (fun φ h => by cases h; exact Reads.new w' cells n e n)
end
end Go.Proofs.YtndagciefnddmaaGreatDoor
namespace Go.Proofs.YtndagciefnddmaaGreatDoor
open Go.RowKit Oct
attribute [local irreducible] wpG
theorem Rec.append1V {α : Type} {ops : Array Oper} {rest : List Oper} {o : Oper} {a : Act} {Q : Exit → Act → World → Prop} (R : Rec α) (w : World) (p : α) (hgd : o.guard = none) (s x : Operand) (t : TypeId)
    (ho : o.op = .call { callee := .builtin .append, args := #[s, x], argTypes := #[t, t] }) (ht : Tryz.prog.underlying t = some (.slice R.e))
    (base : Nat) (v : Value) (xs : List α) (hown : R.Own w base v xs) (hs : a.eval s = v) (vx : Value) (hx : a.eval x = vx) (hr : Reads w vx 1 (R.cell p))
    (hbytes : (xs.length + 1) * R.bytes ≤ 140737488355328) (hbase : base ≤ w.heap.size)
    (h : ∀ g cap w', R.Own w' base (.slice (some ⟨g, 0, none⟩) (xs.length + 1) cap) (xs ++ [p]) → Chg (fun k => v.ownBlock = some k) w w' → (v.ownBlock = some g ∨ w.heap.size ≤ g) →
      wpList Tryz.prog ops Q rest (a.put o.dst (.slice (some ⟨g, 0, none⟩) (xs.length + 1) cap)) w') : wpList Tryz.prog ops Q (o :: rest) a w := by
  obtain ⟨i, hi, hz, hi1, hi2⟩ := info_parts R.info
  have hn : xs.length + 1 ≤ (xs.length + 1) * R.bytes := Nat.le_mul_of_pos_right _ R.bpos
  obtain ⟨ax, c, rfl, hnone, hc⟩ := hr
  cases ax with
  | none => have := (hnone rfl).1; omega
  | some ad =>
    refine wpList_append_lies _ hgd s x t ho base R.e i R.z R.n R.bytes ht hi hz hi1 hi2 R.zs R.pos v xs.length (R.cells xs) hs hown ad 1 c (R.cell p) hx (by simpa using R.len p) ?_ (R.one p) (by decide) (by unfold maxLen; omega) hbytes hbase _ rfl ?_
    · intro j u hj
      obtain ⟨b, off, ha, hu⟩ := hc j u hj
      cases ha
      rw [Addr.add_lit]; exact hu
    · intro g cap w' h2 h3 h4 h5
      have hB : Below base w w' := (Below.refl base w).grown h3 hbase (fun k hk => (Rec.Own.ltV hown k hk).1)
      refine h g cap w' ?_ ⟨hB.os, hB.tape, hB.output, hB.size, fun j hj hne => h3.block j hj (fun e => hne e.symm)⟩ ?_
      · unfold Rec.Own; rw [R.cells_append, List.length_append, Rec.cells, Rec.cells, List.append_nil]; exact h2
      · rcases h4 with h4 | h4
        · exact .inl h4
        · exact .inr (by omega)
theorem Rec.step_append1V {α : Type} {ops : Array Oper} {o : Oper} {a : Act} {K : Act → World → Prop} {Q : Exit → Act → World → Prop} {E : Prop} (R : Rec α) (wr : World) (p : α) (hgd : o.guard = none) (s x : Operand) (t : TypeId)
    (ho : o.op = .call { callee := .builtin .append, args := #[s, x], argTypes := #[t, t] }) (ht : Tryz.prog.underlying t = some (.slice R.e))
    (base : Nat) (v : Value) (xs : List α) (hs : a.eval s = v) (hown : R.Own wr base v xs) (c : Nat) (hx : a.eval x = .slice (some ⟨wr.heap.size, 0, none⟩) 1 c)
    (cs : Array Value) (hcs : cs = (R.cell p).toArray) (e : TypeId) (he : e = R.e)
    (hbytes : (xs.length + 1) * R.bytes ≤ 140737488355328) (hbase : base ≤ wr.heap.size)
    (h : ∀ g cap w', R.Own w' base (.slice (some ⟨g, 0, none⟩) (xs.length + 1) cap) (xs ++ [p]) → Chg (fun k => v.ownBlock = some k) wr w' → (v.ownBlock = some g ∨ wr.heap.size ≤ g) → K (a.put o.dst (.slice (some ⟨g, 0, none⟩) (xs.length + 1) cap)) w') :
    if Region.wanted o (yielded ops a.tmps) = true then Oper.wp Tryz.prog o a (wr.alloc (.cells cs e)) K Q else E := by
  subst hcs he
  obtain ⟨i, hi, hz, hi1, hi2⟩ := info_parts R.info
  have hn : xs.length + 1 ≤ (xs.length + 1) * R.bytes := Nat.le_mul_of_pos_right _ R.bpos
  refine step_append_lies _ hgd s x t ho base R.e i R.z R.n R.bytes ht hi hz hi1 hi2 R.zs R.pos v xs.length (R.cells xs) hs (World.ownsRow.alloc hown _) ⟨wr.heap.size, 0, none⟩ 1 c (R.cell p) hx (by simpa using R.len p) ?_ (R.one p) (by decide) (by unfold maxLen; omega) hbytes (by simp; omega) _ rfl ?_
  · intro j u hj
    have : j < (R.cell p).length := by
      rcases Nat.lt_or_ge j (R.cell p).length with h | h
      · exact h
      · simp [List.getElem?_eq_none h] at hj
    rw [Addr.add_lit, Nat.zero_add, World.cell?_alloc_new]
    simpa using hj
  · intro g cap w' h2 h3 h4 h5
    have hB : Below base wr w' := ((Below.refl base wr).alloc hbase _).grown h3 (by simp; omega) (fun k hk => (Rec.Own.ltV hown k hk).1)
    refine h g cap w' ?_ ⟨hB.os, hB.tape, hB.output, hB.size, fun j hj hne => ?_⟩ ?_
    · unfold Rec.Own; rw [R.cells_append, List.length_append, Rec.cells, Rec.cells, List.append_nil]; exact h2
    · rw [h3.block j (by simp; omega) (fun e => hne e.symm)]
      exact Below.heap_alloc _ _ _ hj
    · rcases h4 with h4 | h4
      · exact .inl h4
      · exact .inr (by simp at h4; omega)
set_option maxRecDepth 100000 in
theorem Rec.Own.shortRun {α : Type} {R : Rec α} {w : World} {base g c : Nat} {l : List α} (h : R.Own w base (.slice (some ⟨g, 0, none⟩) l.length c) l) (st : TypeId) (hst : Tryz.prog.underlying st = some (.slice (Tryz.prog.elem st))) (hsz : ∀ wx, (sizeOf (Tryz.prog.elem st)).run Tryz.prog wx = .ok R.n wx) (k : Nat) (hk : k ≤ l.length) :
    ∀ wx, (Instr.slice st (.slice (some ⟨g, 0, none⟩) l.length c) none (some (.int .i64 (k : Int))) none).run Tryz.prog wx = .ok (.slice (some ⟨g, 0, none⟩) k c) wx := by
  intro wx
  obtain ⟨_, a', cap', hv, hle⟩ := id h.row
  injection hv with _ _ h3
  subst h3
  have hr := run_slice_h wx st (some ⟨g, 0, none⟩) l.length c hst .i64 k (by omega) (by omega)
  rw [hsz] at hr
  rw [hr]
  simp only [Result.andThen, sliced]
  split <;> simp [Addr.add]
def vbV (b : Vb) : Value := .agg #[.int .u8 (b.op.toNat : Int), .string (bs b.want), .string (bs b.opn), .int .i64 (b.at_ : Int), .bool b.did]
section
variable {w w' w3 : World} {base G : Nat} {tv cv bv sv ev bv' sv' : Value} {inp : Nat} {role : UInt8} {s : Vs}
set_option maxRecDepth 100000 in
set_option maxHeartbeats 2000000 in
theorem spush_any (b : Vb) (h : VG w base G tv cv inp role s bv sv ev) (hl : s.blocks.length ≤ 1000) :
    Calls Tryz.prog 145 #[.pointer (some ⟨G, 5, none⟩), vbV b] w fun e w' => (∃ v, e = .returned v) ∧ (∃ bv', VG w' base G tv cv inp role { s with blocks := s.blocks ++ [b] } bv' sv ev) ∧ Below base w w' := by
  obtain ⟨⟨ab, cb, rfl⟩, _, _⟩ := h.slices
  have HH := Lib.hid h
  obtain ⟨W1, hW1⟩ : ∃ W1, W1 = w.alloc (.cells #[.int .u8 (b.op.toNat : Int), .string (bs b.want), .string (bs b.opn), .int .i64 (b.at_ : Int), .bool b.did] 214) := ⟨_, rfl⟩
  have hb1 : Below w.heap.size w W1 := by rw [hW1]; exact b_alloc _ _
  have hx : Blk W1 w.heap.size 214 [.int .u8 (b.op.toNat : Int), .string (bs b.want), .string (bs b.opn), .int .i64 (b.at_ : Int), .bool b.did] := by rw [hW1]; exact Blk.new w _ _
  have h1 := h.below hb1
  have c5 := h1.cell (k := 5) rfl
  have x0 := hx.cell (k := 0) rfl
  have x1 := hx.cell (k := 1) rfl
  have x2 := hx.cell (k := 2) rfl
  have x3 := hx.cell (k := 3) rfl
  have x4 := hx.cell (k := 4) rfl
  have H1 := Lib.hid h1
  have HB1 := Lib.hid hb1
  clear h h1 hx hb1
  unfold vbV
  go_enter Tryz.func145, Tryz.ntmps145
  go_upto_region 1 with fail
  rw [← hW1]
  clear hW1
  have h1d := H1.out.below (b_drew W1)
  have hgb : base ≤ W1.drew.heap.size := Nat.le_trans h1d.gb (Nat.le_of_lt h1d.blk.lt)
  have hby : (s.blocks.length + 1) * 56 ≤ 140737488355328 := by omega
  have H1D := Lib.hid h1d
  have hod := h1d.ob
  have hGl : G < W1.heap.size := H1.out.blk.lt
  have hwl : w.heap.size < W1.heap.size := lt_of_cell x0
  clear h1d
  go_region_law (refine recVb.step_append1V W1.drew b rfl _ _ 180 rfl Tryz.underlying180 base (.slice ab s.blocks.length cb) s.blocks rfl hod _ rfl _ rfl _ rfl hby hgb ?_; intro g gc w3 hown3 hc3 hg3; have hn := H1D.out.newB (bv' := .slice (some ⟨g, 0, none⟩) (s.blocks.length + 1) gc) hc3 (fun k hk => by cases hk; exact hg3) hown3; have hb3 : Blk w3 G 184 _ := H1D.out.blk.chg hc3 (fun e => (H1D.out.a1 G e).1 rfl); have f5 := hb3.free (k := 5) (by simp); have c5' := hb3.cell (k := 5) rfl; have HN := Lib.hid hn; clear hn hb3 hown3 hc3 hg3)
  all_goals
    refine bodyPost_end (results_none rfl _ _ _) rfl ?_
    exact ⟨⟨_, rfl⟩, ⟨_, HN.out.1⟩, ((bt HB1.out (b_drew W1)).mono (Nat.le_trans HH.out.gb (Nat.le_of_lt HH.out.blk.lt))).trans HN.out.2⟩
set_option maxRecDepth 100000 in
set_option maxHeartbeats 2000000 in
theorem spop_any (h : VG w base G tv cv inp role s bv sv ev) (hl : s.blocks.length ≤ 1000) (h0 : 0 < s.blocks.length) :
    Calls Tryz.prog 146 #[.pointer (some ⟨G, 5, none⟩)] w fun e w' => (∃ v, e = .returned v) ∧ (∃ bv', VG w' base G tv cv inp role { s with blocks := s.blocks.dropLast } bv' sv ev) ∧ Below base w w' := by
  obtain ⟨⟨ab, cb, rfl⟩, _, _⟩ := h.slices
  obtain ⟨m, hm⟩ : ∃ m, s.blocks.length = m + 1 := ⟨s.blocks.length - 1, by omega⟩
  have hm1 : (s.blocks.length : Int) - 1 = (m : Int) := by omega
  have hm2 : (m : Int) < (s.blocks.length : Int) := by omega
  have hm3 : (0 : Int) ≤ (m : Int) := by omega
  have hm4 : (s.blocks.length : Int) ≤ 1000 := by omega
  have hd : s.blocks.dropLast = s.blocks.take m := by rw [List.dropLast_eq_take]; congr 1; omega
  have HD := Lib.hid hd
  have HM := Lib.hid hm
  have c5 := h.cell (k := 5) rfl
  have HH := Lib.hid h
  obtain ⟨g, rfl⟩ := h.ob.at0 h0
  have hrun := h.ob.shortRun 180 Tryz.underlying180 (by intro wx; kernel_rfl) m (by omega)
  clear h h0 hd hm
  go_enter Tryz.func146, Tryz.ntmps146
  go_wp2
  refine region_tail 12 [(4, .exact _ (.slice (some ⟨g, 0, none⟩) s.blocks.length cb)), (8, .exact _ (.slice (some ⟨g, 0, none⟩) s.blocks.length cb))] (by kernel_rfl) (by kernel_rfl) ?_
  simp only [List.take_succ_cons, List.take_zero, List.drop_succ_cons, List.drop_zero]
  (repeat (first | (refine wpG_skip (by kernel_rfl) (fun K hK => ?_); go_big_quiet_skip; refine wpQuiet_nil (hK _ ?_); clear hK K) | (refine wpG_quiet (by rfl) (by rfl) (fun K hK => ?_); go_big_quiet_want; go_big_quiet_op; go_big_quiet_on; refine wpQuiet_nil (hK _ ?_); clear hK K) | (refine wpG_nilOk rfl rfl rfl (by kernel_rfl) (fun K hK => ?_); go_simp; refine hK _ ?_; clear hK K)))
  refine wpG_exact rfl (by kernel_rfl) (fun w' G hB hS hG => ?_) (fun K hK => ?_)
  · have y := Below.keeps hB c5
    go_simp; exact hG _ (Bel.refl _)
  go_simp; refine hK _ ?_; clear hK K; (repeat (first | (refine wpG_skip (by kernel_rfl) (fun K hK => ?_); go_big_quiet_skip; refine wpQuiet_nil (hK _ ?_); clear hK K) | (refine wpG_quiet (by rfl) (by rfl) (fun K hK => ?_); go_big_quiet_want; go_big_quiet_op; go_big_quiet_on; refine wpQuiet_nil (hK _ ?_); clear hK K) | (refine wpG_nilOk rfl rfl rfl (by kernel_rfl) (fun K hK => ?_); go_simp; refine hK _ ?_; clear hK K)))
  refine wpG_exact rfl (by kernel_rfl) (fun w' G hB hS hG => ?_) (fun K hK => ?_)
  · have y := Below.keeps hB c5
    go_simp; exact hG _ (Bel.refl _)
  go_simp; refine hK _ ?_; clear hK K; (repeat (first | (refine wpG_skip (by kernel_rfl) (fun K hK => ?_); go_big_quiet_skip; refine wpQuiet_nil (hK _ ?_); clear hK K) | (refine wpG_quiet (by rfl) (by rfl) (fun K hK => ?_); go_big_quiet_want; go_big_quiet_op; go_big_quiet_on; refine wpQuiet_nil (hK _ ?_); clear hK K) | (refine wpG_nilOk rfl rfl rfl (by kernel_rfl) (fun K hK => ?_); go_simp; refine hK _ ?_; clear hK K)))
  refine wpG_nilV3 ?_
  intro w5 hB5 hA5
  have h5 := HH.out.below hB5
  have f5 := h5.free (k := 5) (by decide)
  have c5' := h5.cell (k := 5) rfl
  have hn := h5.newB (bv' := .slice (some ⟨g, 0, none⟩) m cb) (l := s.blocks.take m) (Chg.refl _ _) (fun k hk => by cases hk; exact .inl rfl) (h5.ob.short m (by have := HM.out; omega))
  have HN := Lib.hid hn
  have HB5 := Lib.hid hB5
  clear hB5 hA5 h5 hn c5
  go_wp2
  refine bodyPost_end (results_none rfl _ _ _) rfl ?_
  rw [HD.out]
  exact ⟨⟨_, rfl⟩, ⟨_, HN.out.1⟩, (HB5.out.mono (Nat.le_trans HH.out.gb (Nat.le_of_lt HH.out.blk.lt))).trans HN.out.2⟩
end
end Go.Proofs.YtndagciefnddmaaGreatDoor
namespace Go.Proofs.YtndagciefnddmaaGreatDoor
open Go.RowKit Oct
structure Pt (base : Nat) where
  fp : Nat → Prop
  P : World → Prop
  frame : ∀ {X : Nat → Prop} {w w' : World}, P w → Chg X w w' → (∀ k, fp k → ¬ X k) → P w'
  lt : ∀ {w : World}, P w → ∀ k, fp k → base ≤ k ∧ k < w.heap.size
def Sep (base : Nat) (w : World) (L : List (Pt base)) : Prop := (∀ p ∈ L, p.P w) ∧ L.Pairwise fun p q => ∀ k, p.fp k → ¬ q.fp k
def blkPt {base : Nat} (G : Nat) (hG : base ≤ G) (t : TypeId) (cs : List Value) : Pt base :=
  ⟨fun k => k = G, fun w => Blk w G t cs, fun h hc hX => h.chg hc (hX _ rfl), fun h k hk => by subst hk; exact ⟨hG, h.lt⟩⟩
def ownPt {base : Nat} {α : Type} (R : Rec α) (v : Value) (l : List α) : Pt base :=
  ⟨fun k => v.ownBlock = some k, fun w => R.Own w base v l, fun h hc hX => h.chgV hc hX, fun h k hk => h.ltV k hk⟩
section
variable {base : Nat} {w w' : World} {L : List (Pt base)} {X : Nat → Prop}
theorem Sep.get (h : Sep base w L) {i : Nat} {p : Pt base} (hi : L[i]? = some p) : p.P w := h.1 p (List.mem_of_getElem? hi)
theorem Sep.apart (h : Sep base w L) {i j : Nat} {p q : Pt base} (hi : L[i]? = some p) (hj : L[j]? = some q) (hij : i ≠ j) : ∀ k, p.fp k → ¬ q.fp k := by
  obtain ⟨hi', ei⟩ := List.getElem?_eq_some_iff.1 hi
  obtain ⟨hj', ej⟩ := List.getElem?_eq_some_iff.1 hj
  have hp := List.pairwise_iff_getElem.1 h.2
  rcases Nat.lt_or_gt_of_ne hij with hlt | hlt
  · have := hp i j hi' hj' hlt
    rw [ei, ej] at this
    exact this
  · have := hp j i hj' hi' hlt
    rw [ei, ej] at this
    exact fun k hk hk' => this k hk' hk
theorem Sep.below (h : Sep base w L) (hB : Below w.heap.size w w') : Sep base w' L :=
  ⟨fun p hp => p.frame (h.1 p hp) (X := fun _ => False) ⟨hB.os, hB.tape, hB.output, hB.size, fun k hk _ => hB.block k hk⟩ (fun _ _ hx => hx), h.2⟩
theorem Sep.upd (h : Sep base w L) {i : Nat} {p : Pt base} (hi : L[i]? = some p) (hc : Chg X w w') (hX : ∀ k, X k → p.fp k) (q : Pt base) (hq : q.P w') (hf : ∀ k, q.fp k → p.fp k ∨ w.heap.size ≤ k) : Sep base w' (L.set i q) := by
  obtain ⟨hi', ei⟩ := List.getElem?_eq_some_iff.1 hi
  have hp := List.pairwise_iff_getElem.1 h.2
  refine ⟨fun r hr => ?_, List.pairwise_iff_getElem.2 fun a b ha hb hab => ?_⟩
  · obtain ⟨j, hj⟩ := List.mem_iff_getElem?.1 hr
    rw [List.getElem?_set] at hj
    split at hj
    · rename_i hij
      injection hj with hj
      subst hj
      exact hq
    · rename_i hij
      exact r.frame (h.get hj) hc fun k hk hx => h.apart hj hi (fun e => hij e.symm) k hk (hX k hx)
  · rw [List.length_set] at ha hb
    rw [List.getElem_set, List.getElem_set]
    have lt : ∀ j (hj : j < L.length), ∀ k, (L[j]).fp k → k < w.heap.size := fun j hj k hk => ((L[j]).lt (h.1 _ (List.getElem_mem hj)) k hk).2
    split
    · rename_i hia
      rw [if_neg (by omega)]
      intro k hk hk'
      rcases hf k hk with hk | hk
      · exact h.apart hi (List.getElem?_eq_getElem hb) (by omega) k hk hk'
      · have := lt b hb k hk'; omega
    · rename_i hia
      split
      · intro k hk hk'
        rcases hf k hk' with hk' | hk'
        · exact h.apart (List.getElem?_eq_getElem ha) hi (by omega) k hk hk'
        · have := lt a ha k hk; omega
      · exact hp a b ha hb hab
theorem Sep.updB (h : Sep base w L) {i : Nat} {p : Pt base} (hi : L[i]? = some p) (hc : Chg X w w') (hX : ∀ k, X k → p.fp k) (hb : base ≤ w.heap.size) : Below base w w' := by
  refine hc.below (fun k hk => ?_) hb
  exact (p.lt (h.get hi) k (hX k hk)).1
theorem Sep.same (h : Sep base w L) {i : Nat} {p : Pt base} (hi : L[i]? = some p) (q : Pt base) (hq : q.P w) (hf : ∀ k, q.fp k → p.fp k) : Sep base w (L.set i q) :=
  h.upd hi (X := fun _ => False) (Chg.refl _ _) (fun _ hx => hx.elim) q hq fun k hk => .inl (hf k hk)
theorem Sep.size (h : Sep base w L) {i : Nat} {p : Pt base} (hi : L[i]? = some p) {k : Nat} (hk : p.fp k) : base ≤ w.heap.size := by
  obtain ⟨a, b⟩ := p.lt (h.get hi) k hk; omega
theorem Sep.snoc (h : Sep base w L) (hB : Below w.heap.size w w') (p : Pt base) (hp : p.P w') (hf : ∀ k, p.fp k → w.heap.size ≤ k) : Sep base w' (L ++ [p]) := by
  have h' := h.below hB
  refine ⟨fun q hq => ?_, List.pairwise_append.2 ⟨h.2, List.pairwise_singleton _ _, fun a ha b hb k hk hk' => ?_⟩⟩
  · rcases List.mem_append.1 hq with hq | hq
    · exact h'.1 q hq
    · rw [List.mem_singleton] at hq
      subst hq
      exact hp
  · rw [List.mem_singleton] at hb
    subst hb
    have h1 := (a.lt (h.1 a ha) k hk).2
    have h2 := hf k hk'
    omega
theorem Sep.init {p : List (Pt base)} (h : Sep base w (L ++ p)) : Sep base w L := ⟨fun q hq => h.1 q (List.mem_append_left _ hq), (List.pairwise_append.1 h.2).1⟩
end
end Go.Proofs.YtndagciefnddmaaGreatDoor
namespace Go.Proofs.YtndagciefnddmaaGreatDoor
theorem runV_nil (nt inp : Nat) (role : UInt8) (i : Nat) (s : Vs) : runV nt inp role i [] s = (i, overV role s, s) := rfl
theorem runV_ok {nt inp : Nat} {role : UInt8} {i : Nat} {x : VI} {r : List VI} {s : Vs} (h : (oneV nt inp role i x s).1 = 0) : runV nt inp role i (x :: r) s = runV nt inp role (i + 1) r (oneV nt inp role i x s).2 := by rw [runV, if_pos h]
theorem runV_bad {nt inp : Nat} {role : UInt8} {i : Nat} {x : VI} {r : List VI} {s : Vs} (h : (oneV nt inp role i x s).1 ≠ 0) : runV nt inp role i (x :: r) s = (i, (oneV nt inp role i x s).1, (oneV nt inp role i x s).2) := by rw [runV, if_neg h]
theorem effs_len : effs.length = 24 := by decide
end Go.Proofs.YtndagciefnddmaaGreatDoor
namespace Go.Proofs.YtndagciefnddmaaGreatDoor
theorem oneV_there {nt inp : Nat} {role : UInt8} {i : Nat} {x : VI} {s : Vs} (h : (oneV nt inp role i x s).1 = 0) : thereV nt inp role s.blocks x = 0 := by
  unfold oneV at h
  split at h
  · rename_i h0; exact absurd h h0
  · rename_i h0; simpa using h0
theorem throughV_ok {texts : List (List UInt8)} {code : List VI} {role : UInt8} (h : (throughV texts code role).2.1 = 0) : mayV texts code = true ∧ roleOk role = true ∧ ∃ n, runV texts.length (inputsV role) role 0 code (startV code.length) = (n, 0, (throughV texts code role).2.2) := by
  unfold throughV at h ⊢
  split at h
  · rename_i hm
    rw [Bool.and_eq_true] at hm
    refine ⟨hm.1, hm.2, ?_⟩
    rw [if_pos (by rw [hm.1, hm.2]; rfl)]
    split at h
    · rename_i h0
      rw [if_pos h0]
      exact ⟨_, Prod.ext rfl (Prod.ext h0 rfl)⟩
    · rename_i h0
      exact absurd h h0
  · cases h
end Go.Proofs.YtndagciefnddmaaGreatDoor
namespace Go.Proofs.YtndagciefnddmaaGreatDoor
def opensV (op : UInt8) : Bool := op == 19 || op == 22 || op == 20
def stV (nt inp : Nat) (role : UInt8) (code : List VI) : Nat → Vs
  | 0 => startV code.length
  | i + 1 => (oneV nt inp role i (code.getD i (0, 0)) (stV nt inp role code i)).2
theorem runV_st {nt inp : Nat} {role : UInt8} {code : List VI} {n : Nat} {t : Vs} : ∀ (r : List VI) (i : Nat), r = code.drop i → i ≤ code.length → runV nt inp role i r (stV nt inp role code i) = (n, 0, t) →
    (∀ j, i ≤ j → j < code.length → (oneV nt inp role j (code.getD j (0, 0)) (stV nt inp role code j)).1 = 0) ∧ stV nt inp role code code.length = t ∧ overV role t = 0
  | [], i, hr, hi, h => by
    have hl : i = code.length := by
      have := congrArg List.length hr
      simp at this; omega
    subst hl
    rw [runV_nil] at h
    injection h with _ h
    injection h with h1 h2
    exact ⟨fun j h1 h2 => by omega, h2, by rw [← h2]; exact h1⟩
  | x :: r, i, hr, hi, h => by
    have hlt : i < code.length := by
      rcases Nat.lt_or_ge i code.length with h' | h'
      · exact h'
      · rw [List.drop_of_length_le h'] at hr; cases hr
    rw [List.drop_eq_getElem_cons hlt] at hr
    injection hr with hx hr
    have hx' : code.getD i (0, 0) = x := by rw [List.getD, List.getElem?_eq_getElem hlt, hx]; rfl
    by_cases h0 : (oneV nt inp role i x (stV nt inp role code i)).1 = 0
    · rw [runV_ok h0] at h
      have hst : stV nt inp role code (i + 1) = (oneV nt inp role i x (stV nt inp role code i)).2 := by rw [stV, hx']
      rw [← hst] at h
      obtain ⟨g1, g2⟩ := runV_st r (i + 1) hr hlt h
      refine ⟨fun j h1 h2 => ?_, g2⟩
      by_cases e : j = i
      · subst e; rw [hx']; exact h0
      · exact g1 j (by omega) h2
    · rw [runV_bad h0] at h
      injection h with _ h
      injection h with h1 h2
      exact absurd h1 h0
theorem effV_none (x : VI) (h : x.1 = 20 ∨ x.1 = 21) : effV x = ([], []) := by
  obtain ⟨p, a⟩ := x
  rcases h with h | h
  · obtain rfl : p = 20 := h
    rfl
  · obtain rfl : p = 21 := h
    rfl
theorem effV_one (x : VI) (h : x.1 = 19 ∨ x.1 = 22) : (effV x).1.length = 1 ∧ (effV x).2 = [] := by
  obtain ⟨p, a⟩ := x
  rcases h with h | h
  · obtain rfl : p = 19 := h
    exact ⟨rfl, rfl⟩
  · obtain rfl : p = 22 := h
    exact ⟨rfl, rfl⟩
theorem valuesV_none {k : List UInt8} {x : VI} (h : x.1 = 20 ∨ x.1 = 21) : (valuesV k x).2 = k := by
  have he := effV_none x h
  unfold valuesV
  rw [he]
  split
  · rfl
  split
  · rfl
  split
  · rfl
  simp [givesV]
theorem valuesV_one {k : List UInt8} {x : VI} (h : x.1 = 19 ∨ x.1 = 22) (h0 : (valuesV k x).1 = 0) : (valuesV k x).2 = k.take (k.length - min 1 k.length) := by
  obtain ⟨h1, h2⟩ := effV_one x h
  unfold valuesV at h0 ⊢
  rw [h1, h2] at h0 ⊢
  split at h0
  · cases h0
  rename_i hl
  rw [if_neg hl]
  split at h0
  · cases h0
  rename_i hf
  rw [if_neg hf]
  split at h0
  · cases h0
  rename_i hm
  rw [if_neg hm]
  show k.take (k.length - 1) ++ [] = _
  rw [List.append_nil]
  congr 1
  omega
theorem valuesV_le {k : List UInt8} {x : VI} (h0 : (valuesV k x).1 = 0) : (valuesV k x).2.length ≤ 16 ∧ (x.1 = 22 → (valuesV k x).2.length < 16) := by
  unfold valuesV at h0 ⊢
  split at h0
  · cases h0
  rename_i hl
  rw [if_neg hl]
  split at h0
  · cases h0
  rename_i hf
  rw [if_neg hf]
  split at h0
  · cases h0
  rename_i hm
  rw [if_neg hm]
  obtain ⟨r, hr⟩ : ∃ r, r = k.take (k.length - (effV x).1.length) ++ givesV (k.drop (k.length - (effV x).1.length)) (effV x).2 := ⟨_, rfl⟩
  rw [← hr] at hm ⊢
  refine ⟨?_, fun e => ?_⟩
  · show r.length ≤ 16
    omega
  · show r.length < 16
    have : ¬ 16 ≤ r.length := fun h => hm (.inl ⟨e, h⟩)
    omega
inductive StepB (i : Nat) (x : VI) (s s' : Vs) : Prop where
  | push (h : x.1 = 19 ∨ x.1 = 22) (k : List UInt8) (hk : k = s.kinds.take (s.kinds.length - min 1 s.kinds.length)) (hb : s'.blocks = s.blocks ++ [⟨x.1, k, k, i, false⟩]) (he : s'.ends = s.ends)
  | turn (h : x.1 = 20) (r : List Vb) (b : Vb) (hl : s.blocks = r ++ [b]) (hb : s'.blocks = r ++ [{ b with want := s.kinds, at_ := i, did := true }]) (he : s'.ends = s.ends.set b.at_ (i : Int))
  | pop (h : x.1 = 21) (r : List Vb) (b : Vb) (hl : s.blocks = r ++ [b]) (hk : s.kinds = b.want) (hb : s'.blocks = r) (he : s'.ends = s.ends.set b.at_ (i : Int))
  | rest (h : opensV x.1 = false ∧ x.1 ≠ 21) (hb : s'.blocks = s.blocks) (he : s'.ends = s.ends)
theorem getLast_split {α : Type} {l : List α} {b : α} (h : l.getLast? = some b) : l = l.dropLast ++ [b] := by
  obtain ⟨ys, rfl⟩ := List.getLast?_eq_some_iff.1 h
  rw [List.dropLast_concat]
theorem oneV_step {nt inp : Nat} {role : UInt8} {i : Nat} {x : VI} {s : Vs} (hk : s.kinds.length ≤ 16) (h0 : (oneV nt inp role i x s).1 = 0) :
    StepB i x s (oneV nt inp role i x s).2 ∧ (oneV nt inp role i x s).2.seen = s.seen ++ [s.kinds] ∧ (oneV nt inp role i x s).2.deep = max s.deep (oneV nt inp role i x s).2.kinds.length := by
  have ht := oneV_there h0
  have hbl : x.1 = 20 ∨ x.1 = 21 → s.blocks ≠ [] := by
    intro e hb
    unfold thereV at ht
    rw [hb] at ht
    rcases e with e | e
    · rw [e] at ht
      revert ht
      simp [elseBad]
    · rw [e] at ht
      revert ht
      simp
  unfold oneV at h0 ⊢
  rw [if_neg (by rw [ht]; simp)] at h0 ⊢
  split at h0
  · rename_i hv; exact absurd h0 hv
  rename_i hv
  rw [if_neg hv]
  have hv0 : (valuesV s.kinds x).1 = 0 := by simpa using hv
  clear hv
  have hcn := @valuesV_none s.kinds x
  have hco : x.1 = 19 ∨ x.1 = 22 → _ := fun h => valuesV_one (k := s.kinds) h hv0
  obtain ⟨k', hk'⟩ : ∃ k', k' = (valuesV s.kinds x).2 := ⟨_, rfl⟩
  rw [← hk'] at hcn hco h0
  simp only [← hk']
  unfold turnsV at h0 ⊢
  by_cases h19 : x.1 = 19
  · simp only [h19, if_true] at h0 ⊢
    exact ⟨.push (.inl h19) k' (hco (.inl h19)) (by rw [h19]) rfl, (by first | trivial | rfl), (by first | trivial | rfl)⟩
  by_cases h22 : x.1 = 22
  · rw [if_neg h19, if_pos h22]
    exact ⟨.push (.inr h22) k' (hco (.inr h22)) (by rw [h22]) rfl, (by first | trivial | rfl), (by first | trivial | rfl)⟩
  rw [if_neg h19, if_neg h22] at h0 ⊢
  by_cases h20 : x.1 = 20
  · have hk2 := hcn (.inl h20)
    have hne := hbl (.inl h20)
    rw [if_pos h20] at h0 ⊢
    cases hb : s.blocks.getLast? with
    | none => exact absurd (List.getLast?_eq_none_iff.1 hb) hne
    | some b =>
      refine ⟨.turn h20 s.blocks.dropLast b (getLast_split hb) ?_ rfl, (by first | trivial | rfl), (by first | trivial | rfl)⟩
      simp only [hk2]
  rw [if_neg h20] at h0 ⊢
  by_cases h21 : x.1 = 21
  · have hk2 := hcn (.inr h21)
    have hne := hbl (.inr h21)
    rw [if_pos h21] at h0 ⊢
    cases hb : s.blocks.getLast? with
    | none => exact absurd (List.getLast?_eq_none_iff.1 hb) hne
    | some b =>
      simp only [hb] at h0 ⊢
      by_cases hw : k' = b.want
      · rw [if_pos hw]
        exact ⟨.pop h21 s.blocks.dropLast b (getLast_split hb) (by rw [← hk2]; exact hw) rfl rfl, (by first | trivial | rfl), (by first | trivial | rfl)⟩
      · rw [if_neg hw] at h0; cases h0
  rw [if_neg h21]
  refine ⟨.rest ⟨?_, h21⟩ rfl rfl, (by first | trivial | rfl), (by first | trivial | rfl)⟩
  unfold opensV
  simp [h19, h22, h20]
end Go.Proofs.YtndagciefnddmaaGreatDoor
namespace Go.Proofs.YtndagciefnddmaaGreatDoor
def opV (code : List VI) (j : Nat) : UInt8 := (code.getD j (0, 0)).1
def shortK (k : List UInt8) : List UInt8 := k.take (k.length - min 1 k.length)
structure InvB (code : List VI) (i : Nat) (s : Vs) : Prop where
  sl : s.seen.length = i
  el : s.ends.length = code.length
  sk : ∀ k ∈ s.seen, k.length ≤ 16
  st : (s.blocks.map Vb.at_).Pairwise (· < ·)
  bl : ∀ b ∈ s.blocks, b.at_ < i ∧ opensV (opV code b.at_) = true ∧ (b.did = true ↔ opV code b.at_ = 20) ∧ b.want = (if b.did = true then s.seen.getD b.at_ [] else shortK (s.seen.getD b.at_ []))
  en : ∀ j, j < code.length → (s.ends.getD j 0 = 0 ∧ (j < i → opensV (opV code j) = true → j ∈ s.blocks.map Vb.at_)) ∨ (j < i ∧ opensV (opV code j) = true ∧ (j : Int) < s.ends.getD j 0 ∧ s.ends.getD j 0 < (i : Int) ∧ j ∉ s.blocks.map Vb.at_)
theorem getD_leftB {α : Type} {l r : List α} {j : Nat} {d : α} (h : j < l.length) : (l ++ r).getD j d = l.getD j d := by
  simp [List.getD, List.getElem?_append_left h]
theorem getD_midB {α : Type} {l : List α} {x d : α} : (l ++ [x]).getD l.length d = x := by simp [List.getD]
theorem getD_setNeB {l : List Int} {a j : Nat} {v : Int} (h : a ≠ j) : (l.set a v).getD j 0 = l.getD j 0 := by simp [List.getD, List.getElem?_set, h]
theorem getD_setEqB {l : List Int} {a : Nat} {v : Int} (h : a < l.length) : (l.set a v).getD a 0 = v := by simp [List.getD, h]
theorem InvB.old {code : List VI} {i : Nat} {s : Vs} (h : InvB code i s) {b : Vb} (hb : b ∈ s.blocks) {k : List UInt8} : b.at_ < i + 1 ∧ opensV (opV code b.at_) = true ∧ (b.did = true ↔ opV code b.at_ = 20) ∧ b.want = (if b.did = true then (s.seen ++ [k]).getD b.at_ [] else shortK ((s.seen ++ [k]).getD b.at_ [])) := by
  obtain ⟨h1, h2, h3, h4⟩ := h.bl b hb
  rw [getD_leftB (by rw [h.sl]; exact h1)]
  exact ⟨by omega, h2, h3, h4⟩
theorem st_split {r : List Vb} {b : Vb} (h : ((r ++ [b]).map Vb.at_).Pairwise (· < ·)) : (r.map Vb.at_).Pairwise (· < ·) ∧ ∀ a ∈ r.map Vb.at_, a < b.at_ := by
  rw [List.map_append, List.pairwise_append] at h
  exact ⟨h.1, fun a ha => h.2.2 a ha b.at_ (by simp)⟩
theorem InvB.step {code : List VI} {i : Nat} {s s' : Vs} (h : InvB code i s) (hi : i < code.length) (hk : s.kinds.length ≤ 16) (hs : StepB i (code.getD i (0, 0)) s s') (hseen : s'.seen = s.seen ++ [s.kinds]) : InvB code (i + 1) s' := by
  have hop : opV code i = (code.getD i (0, 0)).1 := rfl
  have hsl : s'.seen.length = i + 1 := by rw [hseen, List.length_append, h.sl]; rfl
  have hsk : ∀ k ∈ s'.seen, k.length ≤ 16 := by
    intro k hk'
    rw [hseen] at hk'
    rcases List.mem_append.1 hk' with h1 | h1
    · exact h.sk k h1
    · rw [List.mem_singleton] at h1; subst h1; exact hk
  have hmid : (s.seen ++ [s.kinds]).getD i [] = s.kinds := by rw [← h.sl]; exact getD_midB
  have hlt : ∀ a ∈ s.blocks.map Vb.at_, a < i := by
    intro a ha
    obtain ⟨b, hb, rfl⟩ := List.mem_map.1 ha
    exact (h.bl b hb).1
  rcases hs with ⟨hx, k, hkk, hb, he⟩ | ⟨hx, r, b, hl, hb, he⟩ | ⟨hx, r, b, hl, hkw, hb, he⟩ | ⟨hx, hb, he⟩
  · refine ⟨hsl, by rw [he]; exact h.el, hsk, ?_, ?_, ?_⟩
    · rw [hb, List.map_append, List.pairwise_append]
      exact ⟨h.st, by simp, fun a ha c hc => by simp at hc; subst hc; exact hlt a ha⟩
    · intro c hc
      rw [hb] at hc
      rw [hseen]
      rcases List.mem_append.1 hc with hc | hc
      · exact h.old hc
      · rw [List.mem_singleton] at hc; subst hc
        refine ⟨Nat.lt_succ_self i, ?_, ?_, ?_⟩
        · show opensV (opV code i) = true
          rw [hop]; unfold opensV; rcases hx with e | e <;> rw [e] <;> rfl
        · show false = true ↔ opV code i = 20
          rw [hop]; rcases hx with e | e <;> rw [e] <;> simp
        · show k = if false = true then _ else shortK ((s.seen ++ [s.kinds]).getD i [])
          rw [hmid, hkk]; rfl
    · intro j hj
      rw [he, hb, List.map_append]
      rcases h.en j hj with ⟨h1, h2⟩ | ⟨h1, h2, h3, h4, h5⟩
      · refine .inl ⟨h1, fun h3 h4 => List.mem_append.2 ?_⟩
        by_cases e : j = i
        · exact .inr (by simp [e])
        · exact .inl (h2 (by omega) h4)
      · refine .inr ⟨by omega, h2, h3, by omega, fun hm => ?_⟩
        rcases List.mem_append.1 hm with hm | hm
        · exact h5 hm
        · simp at hm; omega
  · have hbm : b ∈ s.blocks := by rw [hl]; simp
    obtain ⟨b1, b2, b3, b4⟩ := h.bl b hbm
    obtain ⟨st1, st2⟩ := st_split (by rw [← hl]; exact h.st)
    have hrm : ∀ a ∈ r.map Vb.at_, a ∈ s.blocks.map Vb.at_ := fun a ha => by rw [hl, List.map_append]; exact List.mem_append.2 (.inl ha)
    refine ⟨hsl, by rw [he, List.length_set]; exact h.el, hsk, ?_, ?_, ?_⟩
    · rw [hb, List.map_append, List.pairwise_append]
      exact ⟨st1, by simp, fun a ha c hc => by simp at hc; subst hc; exact hlt a (hrm a ha)⟩
    · intro c hc
      rw [hb] at hc
      rw [hseen]
      rcases List.mem_append.1 hc with hc | hc
      · exact h.old (by rw [hl]; exact List.mem_append.2 (.inl hc))
      · rw [List.mem_singleton] at hc; subst hc
        refine ⟨Nat.lt_succ_self i, ?_, ?_, ?_⟩
        · show opensV (opV code i) = true
          rw [hop, hx]; rfl
        · show true = true ↔ opV code i = 20
          rw [hop, hx]; simp
        · show s.kinds = if true = true then (s.seen ++ [s.kinds]).getD i [] else _
          rw [hmid]; rfl
    · intro j hj
      rw [he, hb, List.map_append]
      by_cases ej : b.at_ = j
      · subst ej
        rw [getD_setEqB (by rw [h.el]; exact hj)]
        refine .inr ⟨by omega, b2, by omega, by omega, fun hm => ?_⟩
        rcases List.mem_append.1 hm with hm | hm
        · have := st2 _ hm; omega
        · simp at hm; omega
      · rw [getD_setNeB ej]
        rcases h.en j hj with ⟨h1, h2⟩ | ⟨h1, h2, h3, h4, h5⟩
        · refine .inl ⟨h1, fun h3 h4 => List.mem_append.2 ?_⟩
          by_cases e : j = i
          · exact .inr (by simp [e])
          · have := h2 (by omega) h4
            rw [hl, List.map_append] at this
            rcases List.mem_append.1 this with hm | hm
            · exact .inl hm
            · simp at hm; exact absurd hm.symm ej
        · refine .inr ⟨by omega, h2, h3, by omega, fun hm => ?_⟩
          rcases List.mem_append.1 hm with hm | hm
          · exact h5 (hrm j hm)
          · simp at hm; omega
  · have hbm : b ∈ s.blocks := by rw [hl]; simp
    obtain ⟨b1, b2, b3, b4⟩ := h.bl b hbm
    obtain ⟨st1, st2⟩ := st_split (by rw [← hl]; exact h.st)
    have hrm : ∀ a ∈ r.map Vb.at_, a ∈ s.blocks.map Vb.at_ := fun a ha => by rw [hl, List.map_append]; exact List.mem_append.2 (.inl ha)
    refine ⟨hsl, by rw [he, List.length_set]; exact h.el, hsk, by rw [hb]; exact st1, ?_, ?_⟩
    · intro c hc
      rw [hb] at hc
      rw [hseen]
      exact h.old (by rw [hl]; exact List.mem_append.2 (.inl hc))
    · intro j hj
      rw [he, hb]
      by_cases ej : b.at_ = j
      · subst ej
        rw [getD_setEqB (by rw [h.el]; exact hj)]
        refine .inr ⟨by omega, b2, by omega, by omega, fun hm => ?_⟩
        have := st2 _ hm; omega
      · rw [getD_setNeB ej]
        rcases h.en j hj with ⟨h1, h2⟩ | ⟨h1, h2, h3, h4, h5⟩
        · refine .inl ⟨h1, fun h3 h4 => ?_⟩
          by_cases e : j = i
          · subst e
            rw [hop, hx] at h4; cases h4
          · have := h2 (by omega) h4
            rw [hl, List.map_append] at this
            rcases List.mem_append.1 this with hm | hm
            · exact hm
            · simp at hm; exact absurd hm.symm ej
        · exact .inr ⟨by omega, h2, h3, by omega, fun hm => h5 (hrm j hm)⟩
  · refine ⟨hsl, by rw [he]; exact h.el, hsk, by rw [hb]; exact h.st, ?_, ?_⟩
    · intro c hc
      rw [hb] at hc
      rw [hseen]
      exact h.old hc
    · intro j hj
      rw [he, hb]
      rcases h.en j hj with ⟨h1, h2⟩ | ⟨h1, h2, h3, h4, h5⟩
      · refine .inl ⟨h1, fun h3 h4 => ?_⟩
        by_cases e : j = i
        · subst e
          rw [hop, hx.1] at h4; cases h4
        · exact h2 (by omega) h4
      · exact .inr ⟨by omega, h2, h3, by omega, h5⟩
theorem StepB.keep {i : Nat} {x : VI} {s s' : Vs} (hs : StepB i x s s') {j : Nat} (hj : j < i) (hn : j ∉ s.blocks.map Vb.at_) : s'.ends.getD j 0 = s.ends.getD j 0 ∧ j ∉ s'.blocks.map Vb.at_ := by
  rcases hs with ⟨_, k, _, hb, he⟩ | ⟨_, r, b, hl, hb, he⟩ | ⟨_, r, b, hl, _, hb, he⟩ | ⟨_, hb, he⟩
  · rw [he, hb, List.map_append]
    refine ⟨rfl, fun hm => ?_⟩
    rcases List.mem_append.1 hm with hm | hm
    · exact hn hm
    · simp at hm; omega
  · rw [hl, List.map_append] at hn
    rw [he, hb, List.map_append]
    refine ⟨getD_setNeB (fun e => hn (List.mem_append.2 (.inr (by simp [e])))), fun hm => ?_⟩
    rcases List.mem_append.1 hm with hm | hm
    · exact hn (List.mem_append.2 (.inl hm))
    · simp at hm; omega
  · rw [hl, List.map_append] at hn
    rw [he, hb]
    exact ⟨getD_setNeB (fun e => hn (List.mem_append.2 (.inr (by simp [e])))), fun hm => hn (List.mem_append.2 (.inl hm))⟩
  · rw [he, hb]
    exact ⟨rfl, hn⟩
end Go.Proofs.YtndagciefnddmaaGreatDoor
namespace Go.Proofs.YtndagciefnddmaaGreatDoor
theorem startV_inv (code : List VI) : InvB code 0 (startV code.length) := by
  refine ⟨rfl, by simp [startV], fun k hk => by simp [startV] at hk, by simp [startV], fun b hb => by simp [startV] at hb, fun j hj => .inl ⟨?_, fun h => by omega⟩⟩
  simp [startV, List.getD, List.getElem?_replicate, hj]
theorem oneV_kinds {nt inp : Nat} {role : UInt8} {i : Nat} {x : VI} {s : Vs} (hw : ∀ b ∈ s.blocks, b.opn.length ≤ 16) (h0 : (oneV nt inp role i x s).1 = 0) :
    (oneV nt inp role i x s).2.kinds.length ≤ 16 ∧ ∀ b ∈ (oneV nt inp role i x s).2.blocks, b.opn.length ≤ 16 := by
  have ht := oneV_there h0
  unfold oneV at h0 ⊢
  rw [if_neg (by rw [ht]; simp)] at h0 ⊢
  split at h0
  · rename_i hv; exact absurd h0 hv
  rename_i hv
  rw [if_neg hv]
  have hv0 : (valuesV s.kinds x).1 = 0 := by simpa using hv
  clear hv
  obtain ⟨hle, hlt⟩ := valuesV_le hv0
  obtain ⟨k', hk'⟩ : ∃ k', k' = (valuesV s.kinds x).2 := ⟨_, rfl⟩
  rw [← hk'] at hle hlt h0
  simp only [← hk']
  unfold turnsV at h0 ⊢
  by_cases h19 : x.1 = 19
  · simp only [h19, if_true] at h0 ⊢
    refine ⟨hle, fun b hb => ?_⟩
    rcases List.mem_append.1 hb with hb | hb
    · exact hw b hb
    · rw [List.mem_singleton] at hb; subst hb; exact hle
  by_cases h22 : x.1 = 22
  · rw [if_neg h19, if_pos h22]
    refine ⟨by have := hlt h22; simp; omega, fun b hb => ?_⟩
    rcases List.mem_append.1 hb with hb | hb
    · exact hw b hb
    · rw [List.mem_singleton] at hb; subst hb; exact hle
  rw [if_neg h19, if_neg h22] at h0 ⊢
  by_cases h20 : x.1 = 20
  · rw [if_pos h20] at h0 ⊢
    cases hb : s.blocks.getLast? with
    | none => exact ⟨hle, hw⟩
    | some b =>
      have hbm : b ∈ s.blocks := by rw [getLast_split hb]; simp
      refine ⟨hw b hbm, fun c hc => ?_⟩
      rcases List.mem_append.1 hc with hc | hc
      · exact hw c (List.dropLast_subset _ hc)
      · rw [List.mem_singleton] at hc; subst hc; exact hw b hbm
  rw [if_neg h20] at h0 ⊢
  by_cases h21 : x.1 = 21
  · rw [if_pos h21] at h0 ⊢
    cases hb : s.blocks.getLast? with
    | none => exact ⟨hle, hw⟩
    | some b =>
      simp only [hb] at h0 ⊢
      by_cases hwb : k' = b.want
      · rw [if_pos hwb]
        exact ⟨hle, fun c hc => hw c (List.dropLast_subset _ hc)⟩
      · rw [if_neg hwb] at h0; cases h0
  rw [if_neg h21]
  exact ⟨hle, hw⟩
structure RunB (nt inp : Nat) (role : UInt8) (code : List VI) (i : Nat) : Prop where
  inv : InvB code i (stV nt inp role code i)
  k : (stV nt inp role code i).kinds.length ≤ 16
  d : (stV nt inp role code i).deep ≤ 16
  w : ∀ b ∈ (stV nt inp role code i).blocks, b.opn.length ≤ 16
theorem stV_run {nt inp : Nat} {role : UInt8} {code : List VI} (hok : ∀ j, j < code.length → (oneV nt inp role j (code.getD j (0, 0)) (stV nt inp role code j)).1 = 0) :
    ∀ i, i ≤ code.length → RunB nt inp role code i
  | 0, _ => ⟨startV_inv code, by simp [stV, startV], by simp [stV, startV], fun b hb => by simp [stV, startV] at hb⟩
  | i + 1, hi => by
    obtain ⟨h1, h2, h3, h4⟩ := stV_run hok i (by omega)
    have h0 := hok i (by omega)
    obtain ⟨hs, hseen, hdeep⟩ := oneV_step h2 h0
    obtain ⟨hk, hw⟩ := oneV_kinds h4 h0
    refine ⟨h1.step (by omega) h2 hs hseen, hk, ?_, hw⟩
    show (oneV nt inp role i (code.getD i (0, 0)) (stV nt inp role code i)).2.deep ≤ 16
    rw [hdeep]
    omega
theorem stV_ends {nt inp : Nat} {role : UInt8} {code : List VI} (hok : ∀ j, j < code.length → (oneV nt inp role j (code.getD j (0, 0)) (stV nt inp role code j)).1 = 0) {i j : Nat} (hj : j < i) (hn : j ∉ (stV nt inp role code i).blocks.map Vb.at_) :
    ∀ k, i + k ≤ code.length → (stV nt inp role code (i + k)).ends.getD j 0 = (stV nt inp role code i).ends.getD j 0 ∧ j ∉ (stV nt inp role code (i + k)).blocks.map Vb.at_
  | 0, _ => ⟨rfl, hn⟩
  | k + 1, hk => by
    obtain ⟨ih1, ih2⟩ := stV_ends hok hj hn k (by omega)
    obtain ⟨h1, h2, h3, h4⟩ := stV_run hok (i + k) (by omega)
    obtain ⟨hs, hseen, hdeep⟩ := oneV_step h2 (hok (i + k) (by omega))
    obtain ⟨g1, g2⟩ := hs.keep (j := j) (by omega) ih2
    exact ⟨g1.trans ih1, g2⟩
end Go.Proofs.YtndagciefnddmaaGreatDoor
