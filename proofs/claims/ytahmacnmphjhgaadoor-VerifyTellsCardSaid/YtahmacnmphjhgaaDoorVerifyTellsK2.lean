/- Lemmas for VerifyTells, part 2: walks of the functions that it reaches, and the plain laws behind them. -/
import Derived.Deep.QuietTactic
import Derived.StillTail
import Derived.OrdersIn
import Derived.TacticsIn
import Derived.AtR
import Derived.BigQuiet
import Derived.Lib.Hide
import Derived.OwnWalkIn
import Derived.TacticsInMore
import Derived.LoopNIn
import Derived.LoopIn
import Derived.RangeFuncBox
import Derived.Laws.EntriesVeiled
import Derived.Maps.OwnIn
import Derived.Maps.AppendAt
import Derived.Test.YtahmacnmphjhgaaDoorVerifyTellsK1
set_option linter.unusedSimpArgs false
set_option linter.unusedVariables false
namespace Go.Proofs.YtahmacnmphjhgaaDoor
open Go.RowKit

section
variable {P : Program} {ops : Array Oper} {md : Region.Mode} {C : World → Prop} {R : World → World → Prop}

/-- what is known of a slot's value, whatever the order -/
structure Known (R : World → World → Prop) where
  α : Type
  val : α → Value
  fact : α → Option (World → Prop)
  stable : ∀ x φ, fact x = some φ → ∀ w w', φ w → R w w' → φ w'
def Known.exact (R : World → World → Prop) (v : Value) : Known R := ⟨Unit, fun _ => v, fun _ => none, fun _ _ h => by cases h⟩

abbrev Facts := (Oper × (World → Prop)) → Prop
def Facts.none : Facts := fun _ => False
def Facts.add (o : Oper) (φ : Option (World → Prop)) (S : Facts) : Facts := fun q => (∃ ψ, φ = some ψ ∧ q = (o, ψ)) ∨ S q
def Facts.all (S : Facts) (w : World) : Prop := ∀ p, S p → p.2 w
/-- the facts that an operation may lean on: of those slots that it waits for -/
def Facts.at (S : Facts) (ops : Array Oper) (o : Oper) (w : World) : Prop := ∀ p, S p → p.1.apart ops o = false → p.2 w
def Facts.kept (R : World → World → Prop) (S : Facts) : Prop := ∀ p, S p → ∀ w w', p.2 w → R w w' → p.2 w'

theorem Facts.add_none (o : Oper) (S : Facts) : S.add o Option.none = S := by
  funext q; simp [Facts.add]
theorem Facts.add_comm (o o' : Oper) (φ φ' : Option (World → Prop)) (S : Facts) : (S.add o φ).add o' φ' = (S.add o' φ').add o φ := by
  funext q; simp only [Facts.add, eq_iff_iff]; grind
theorem Facts.all_add {S : Facts} {o : Oper} {φ : Option (World → Prop)} {w : World} : (S.add o φ).all w ↔ (∀ ψ, φ = some ψ → ψ w) ∧ S.all w := by
  constructor
  · intro h; exact ⟨fun ψ hψ => h (o, ψ) (.inl ⟨ψ, hψ, rfl⟩), fun p hp => h p (.inr hp)⟩
  · rintro ⟨h1, h2⟩ p (⟨ψ, hψ, rfl⟩ | hp)
    · exact h1 ψ hψ
    · exact h2 p hp
theorem Facts.all_some {S : Facts} {o : Oper} {φ : World → Prop} {w : World} : (S.add o (some φ)).all w ↔ φ w ∧ S.all w := by
  rw [Facts.all_add]; simp
theorem Facts.all_none {w : World} : Facts.none.all w ↔ True := by simp [Facts.all, Facts.none]
theorem Facts.at_some {S : Facts} {o o' : Oper} {φ : World → Prop} {w : World} (h : (S.add o (some φ)).at ops o' w) : (o.apart ops o' = false → φ w) ∧ S.at ops o' w :=
  ⟨fun ha => h (o, φ) (.inl ⟨φ, rfl, rfl⟩) ha, fun p hp => h p (.inr hp)⟩
theorem Facts.at_of_all {S : Facts} {o : Oper} {w : World} (h : S.all w) : S.at ops o w := fun p hp _ => h p hp
theorem Facts.kept_add {S : Facts} (h : S.kept R) (o : Oper) (g : Known R) (x : g.α) : (S.add o (g.fact x)).kept R := by
  rintro p (⟨ψ, hψ, rfl⟩ | hp)
  · exact g.stable x ψ hψ
  · exact h p hp
theorem Facts.all_kept {S : Facts} (h : S.kept R) {w w' : World} (ha : S.all w) (hR : R w w') : S.all w' := fun p hp => h p hp w w' (ha p hp) hR

def growUpon (P : Program) (w : World) (G : Value → World → Prop) : Result Next → Prop
  | .ok (.value u) w' => G u w'
  | .ok .skip w' => G undef w'
  | .ok (.enter f args) w' => w' = w ∧ Calls P f args w fun e w'' => ∃ u, e = .returned u ∧ G u w''
  | _ => False
def growAt (P : Program) (o : Oper) (a : Act) (w : World) (G : Value → World → Prop) : Prop := growUpon P w G ((execOp a.eval o).run P w)
def readUpon (w : World) (v : Value) : Result Next → Prop
  | .ok (.value u) w' => w' = w ∧ u = v
  | .ok .skip w' => w' = w ∧ v = undef
  | _ => False
def readAt (P : Program) (o : Oper) (a : Act) (w : World) (v : Value) : Prop := readUpon w v ((execOp a.eval o).run P w)

/-- what operation 'i' yields in state 'a' -/
def okFor (P : Program) (ops : Array Oper) (C : World → Prop) (R : World → World → Prop) (F : Nat → Option (Known R)) (i : Nat) (o : Oper) (S : Facts) (a : Act) (g : Known R) : Prop :=
  if Region.wanted o (yielded ops a.tmps) = true then
    match F i with
    | none => ∃ v, g = .exact R v ∧ ∀ w, C w → S.at ops o w → readAt P o a w v
    | some g' => g = g' ∧ ∀ w, C w → S.at ops o w → growAt P o a w fun u w' => R w w' ∧ ∃ x, u = g'.val x ∧ ∀ φ, g'.fact x = some φ → φ w'
  else g = .exact R undef

def gOp (P : Program) (ops : Array Oper) (C : World → Prop) (R : World → World → Prop) (F : Nat → Option (Known R)) (i : Nat) (K : Facts → Act → Prop) (S : Facts) (a : Act) : Prop :=
  match ops[i]? with
  | none => K S a
  | some o => ∃ g, okFor P ops C R F i o S a g ∧ ∀ x, K (S.add o (g.fact x)) (a.put o.dst (g.val x))

def Inh (C : World → Prop) (S : Facts) : Prop := ∃ w, C w ∧ S.all w

def wpAnyG (P : Program) (md : Region.Mode) (ops : Array Oper) (C : World → Prop) (R : World → World → Prop) (F : Nat → Option (Known R)) (Q : Array Bool → Facts → Act → Prop) : Nat → Array Bool → Facts → Act → Prop
  | 0, listed, S, a => Inh C S → Q listed S a
  | fuel + 1, listed, S, a => Inh C S →
    Region.ready md ops listed ≠ [] ∧
    ∀ i ∈ Region.ready md ops listed, gOp P ops C R F i (wpAnyG P md ops C R F Q fuel (listed.setIfInBounds i true)) S a

variable {F : Nat → Option (Known R)} {Q : Array Bool → Facts → Act → Prop}

theorem wpAnyG_inh {n : Nat} {listed : Array Bool} {S : Facts} {a : Act} (h : Inh C S → wpAnyG P md ops C R F Q n listed S a) : wpAnyG P md ops C R F Q n listed S a := by
  cases n <;> exact fun hi => h hi hi

/-- what an operation may come to, and where it goes on -/
theorem grow_on {i : Nat} {o : Oper} {S : Facts} {a : Act} {w : World} {g : Known R} {K : Facts → Act → Prop} {N : Act → World → Prop} (hCR : ∀ w w', C w → R w w' → C w') (hk : S.kept R) (hw : C w) (hS : S.all w)
    (hwant : Region.wanted o (yielded ops a.tmps) = true) (hok : okFor P ops C R F i o S a g) (hK : ∀ x, K (S.add o (g.fact x)) (a.put o.dst (g.val x)))
    (hN : ∀ S' a' w', S'.kept R → C w' → S'.all w' → K S' a' → N a' w') :
    growAt P o a w fun u w' => N (a.put o.dst u) w' := by
  unfold okFor at hok
  rw [if_pos hwant] at hok
  cases hF : F i with
  | none =>
    simp only [hF] at hok
    obtain ⟨v, rfl, hr⟩ := hok
    have hr := hr w hw (Facts.at_of_all hS)
    have hK := hK ()
    simp only [Known.exact, Facts.add_none] at hK
    unfold readAt at hr
    unfold growAt
    generalize (execOp a.eval o).run P w = r at *
    cases r with
    | ok n w' =>
      cases n <;> simp only [readUpon] at hr <;> simp only [growUpon]
      case value u => obtain ⟨rfl, rfl⟩ := hr; exact hN S _ _ hk hw hS hK
      case skip => obtain ⟨rfl, rfl⟩ := hr; exact hN S _ _ hk hw hS hK
    | halt x w' => simp only [readUpon] at hr
  | some g' =>
    simp only [hF] at hok
    obtain ⟨rfl, hr⟩ := hok
    have hr := hr w hw (Facts.at_of_all hS)
    have on : ∀ u w', (R w w' ∧ ∃ x, u = g.val x ∧ ∀ φ, g.fact x = some φ → φ w') → N (a.put o.dst u) w' := by
      rintro u w' ⟨hR, x, rfl, hx⟩
      exact hN _ _ _ (Facts.kept_add hk o g x) (hCR _ _ hw hR) (Facts.all_add.2 ⟨hx, Facts.all_kept hk hS hR⟩) (hK x)
    unfold growAt at hr ⊢
    generalize (execOp a.eval o).run P w = r at *
    cases r with
    | ok n w' =>
      cases n <;> simp only [growUpon] at hr ⊢
      case value u => exact on _ _ hr
      case skip => exact on _ _ hr
      case enter f args =>
        obtain ⟨rfl, hc⟩ := hr
        exact ⟨rfl, hc.mono fun e w'' ⟨u, he, hG⟩ => ⟨u, he, on _ _ hG⟩⟩
    | halt x w' => simp only [growUpon] at hr
theorem wp_of_grow {o : Oper} {a : Act} {w : World} {N : Act → World → Prop} {Q' : Exit → Act → World → Prop} (h : growAt P o a w fun u w' => N (a.put o.dst u) w') : o.wp P a w N Q' := by
  unfold growAt at h
  unfold Oper.wp
  generalize (execOp a.eval o).run P w = r at *
  cases r with
  | ok n w' =>
    cases n <;> simp only [growUpon] at h <;> simp only [Oper.upon]
    case value u => exact h
    case skip => exact h
    case enter f args =>
      obtain ⟨rfl, hc⟩ := h
      refine hc.mono fun e w'' ⟨u, he, hG⟩ => ?_
      subst he
      exact hG
  | halt x w' => simp only [growUpon] at h
def noDefer (o : Oper) : Bool := match o.op with | .defer _ => false | _ => true
theorem wpIn_of_grow {l n : Nat} {o : Oper} {a : Act} {w : World} {N : Act → World → Prop} {Q' : Exit → Act → World → Prop} (hd : noDefer o = true) (h : growAt P o a w fun u w' => N (a.put o.dst u) w') : o.wpIn (Fence.wide.inRound l) n P a w N Q' := by
  refine ⟨fun _ _ => trivial, ?_⟩
  rw [Oper.semAt_eq _ _ _ (fun c hc => by unfold noDefer at hd; rw [hc] at hd; cases hd)]
  unfold growAt at h
  generalize (execOp a.eval o).run P w = r at *
  cases r with
  | ok m w' =>
    cases m <;> simp only [growUpon] at h <;> simp only [Oper.uponIn]
    case value u => exact h
    case skip => exact h
    case enter f args =>
      obtain ⟨rfl, hc⟩ := h
      refine ⟨fun hx => (by cases hx), ?_⟩
      show CallsIn Fence.wide (n - 1) P f args w' _
      refine callsIn_wide.2 (hc.mono fun e w'' ⟨u, he, hG⟩ => ?_)
      subst he
      exact hG
  | halt x w' => simp only [growUpon] at h

theorem ready_fuel {listed : Array Bool} {X : Prop} (h : Region.ready md ops listed ≠ []) : Region.ready md ops listed = [] → X := fun e => absurd e h

theorem wpAny_of_G {Q' : Exit → Act → World → Prop} (hCR : ∀ w w', C w → R w w' → C w') (rest : Nat) (hQ : ∀ listed S a w, C w → S.all w → Q listed S a → wpAny P md ops Q' rest listed a w) :
    ∀ (fuel : Nat) (listed : Array Bool) (S : Facts) (a : Act) (w : World), S.kept R → C w → S.all w → wpAnyG P md ops C R F Q fuel listed S a → wpAny P md ops Q' (fuel + rest) listed a w
  | 0, _, _, _, w, _, hw, hS, h => by rw [Nat.zero_add]; exact hQ _ _ _ _ hw hS (h ⟨w, hw, hS⟩)
  | fuel + 1, listed, S, a, w, hk, hw, hS, h => by
    have h := h ⟨w, hw, hS⟩
    rw [show fuel + 1 + rest = (fuel + rest) + 1 by omega]
    refine ⟨ready_fuel h.1, fun i hi => ?_⟩
    have h2 := h.2 i hi
    unfold gOp at h2
    unfold wpOp
    cases ho : ops[i]? with
    | none => simp only [ho] at h2 ⊢; exact wpAny_of_G hCR rest hQ fuel _ S a w hk hw hS h2
    | some o =>
      simp only [ho] at h2 ⊢
      obtain ⟨g, hok, hK⟩ := h2
      by_cases hwant : Region.wanted o (yielded ops a.tmps) = true
      · rw [if_pos hwant]
        exact .inl (wp_of_grow (grow_on hCR hk hw hS hwant hok hK fun S' a' w' hk' hw' hS' hA => wpAny_of_G hCR rest hQ fuel _ S' a' w' hk' hw' hS' hA))
      · unfold okFor at hok
        rw [if_neg hwant] at hok ⊢
        subst hok
        have hK := hK ()
        simp only [Known.exact, Facts.add_none] at hK
        exact wpAny_of_G hCR rest hQ fuel _ S _ w hk hw hS hK
theorem wpAnyIn_of_G {l n : Nat} {Q' : Exit → Act → World → Prop} (hd : ∀ (j : Nat) (o : Oper), ops[j]? = some o → noDefer o = true) (hCR : ∀ w w', C w → R w w' → C w') (rest : Nat) (hQ : ∀ listed S a w, C w → S.all w → Q listed S a → wpAnyIn (Fence.wide.inRound l) n P md ops Q' rest listed a w) :
    ∀ (fuel : Nat) (listed : Array Bool) (S : Facts) (a : Act) (w : World), S.kept R → C w → S.all w → wpAnyG P md ops C R F Q fuel listed S a → wpAnyIn (Fence.wide.inRound l) n P md ops Q' (fuel + rest) listed a w
  | 0, _, _, _, w, _, hw, hS, h => by rw [Nat.zero_add]; exact hQ _ _ _ _ hw hS (h ⟨w, hw, hS⟩)
  | fuel + 1, listed, S, a, w, hk, hw, hS, h => by
    have h := h ⟨w, hw, hS⟩
    rw [show fuel + 1 + rest = (fuel + rest) + 1 by omega]
    refine ⟨ready_fuel h.1, fun i hi => ?_⟩
    have h2 := h.2 i hi
    unfold gOp at h2
    unfold wpOpIn
    cases ho : ops[i]? with
    | none => simp only [ho] at h2 ⊢; exact wpAnyIn_of_G hd hCR rest hQ fuel _ S a w hk hw hS h2
    | some o =>
      simp only [ho] at h2 ⊢
      obtain ⟨g, hok, hK⟩ := h2
      by_cases hwant : Region.wanted o (yielded ops a.tmps) = true
      · rw [if_pos hwant]
        exact wpIn_of_grow (hd i o ho) (grow_on hCR hk hw hS hwant hok hK fun S' a' w' hk' hw' hS' hA => wpAnyIn_of_G hd hCR rest hQ fuel _ S' a' w' hk' hw' hS' hA)
      · unfold okFor at hok
        rw [if_neg hwant] at hok ⊢
        subst hok
        have hK := hK ()
        simp only [Known.exact, Facts.add_none] at hK
        exact ⟨fun _ _ => trivial, wpAnyIn_of_G hd hCR rest hQ fuel _ S _ w hk hw hS hK⟩

/-- an operation that may run has an outcome -/
theorem okFor_out (hCR : ∀ w w', C w → R w w' → C w') {i : Nat} {o : Oper} {S : Facts} {a : Act} {g : Known R} (hk : S.kept R) (h : okFor P ops C R F i o S a g) (hI : Inh C S) : ∃ x, Inh C (S.add o (g.fact x)) := by
  obtain ⟨w, hw, hS⟩ := hI
  unfold okFor at h
  by_cases hwant : Region.wanted o (yielded ops a.tmps) = true
  · rw [if_pos hwant] at h
    cases hF : F i with
    | none =>
      simp only [hF] at h
      obtain ⟨v, rfl, _⟩ := h
      exact ⟨(), w, hw, by simp only [Known.exact, Facts.add_none]; exact hS⟩
    | some g' =>
      simp only [hF] at h
      obtain ⟨rfl, hr⟩ := h
      have hr := hr w hw (Facts.at_of_all hS)
      unfold growAt at hr
      have on : ∀ u w', (R w w' ∧ ∃ x, u = g.val x ∧ ∀ φ, g.fact x = some φ → φ w') → ∃ x, Inh C (S.add o (g.fact x)) := by
        rintro u w' ⟨hR, x, rfl, hx⟩
        exact ⟨x, w', hCR _ _ hw hR, Facts.all_add.2 ⟨hx, Facts.all_kept hk hS hR⟩⟩
      generalize (execOp a.eval o).run P w = r at *
      cases r with
      | ok n w' =>
        cases n <;> simp only [growUpon] at hr
        case value u => exact on _ _ hr
        case skip => exact on _ _ hr
        case enter f args =>
          obtain ⟨rfl, hc⟩ := hr
          obtain ⟨e, w'', _, ⟨u, _, hG⟩, _⟩ := hc []
          exact on _ _ hG
      | halt x w' => simp only [growUpon] at hr
  · rw [if_neg hwant] at h
    subst h
    exact ⟨(), w, hw, by simp only [Known.exact, Facts.add_none]; exact hS⟩

theorem okFor_one {i : Nat} {o : Oper} {S : Facts} {a : Act} {g g' : Known R} (h : okFor P ops C R F i o S a g) (h' : okFor P ops C R F i o S a g') (hI : Inh C S) : g = g' := by
  obtain ⟨w, hw, hS⟩ := hI
  unfold okFor at h h'
  by_cases hwant : Region.wanted o (yielded ops a.tmps) = true
  · rw [if_pos hwant] at h h'
    cases hF : F i with
    | none =>
      simp only [hF] at h h'
      obtain ⟨v, rfl, hv⟩ := h
      obtain ⟨v', rfl, hv'⟩ := h'
      have hv := hv w hw (Facts.at_of_all hS)
      have hv' := hv' w hw (Facts.at_of_all hS)
      unfold readAt at hv hv'
      have : v = v' := by
        generalize (execOp a.eval o).run P w = r at *
        cases r with
        | ok n w' => cases n <;> simp only [readUpon] at hv hv' <;> grind
        | halt x w' => simp only [readUpon] at hv
      rw [this]
    | some q =>
      simp only [hF] at h h'
      rw [h.1, h'.1]
  · rw [if_neg hwant] at h h'
    rw [h, h']

theorem okFor_more {i : Nat} {o : Oper} {S S' : Facts} {a : Act} {g : Known R} (h : okFor P ops C R F i o S a g) (hS : ∀ p, S p → S' p) : okFor P ops C R F i o S' a g := by
  have hat : ∀ w, S'.at ops o w → S.at ops o w := fun w hw p hp => hw p (hS p hp)
  unfold okFor at *
  split
  · rename_i hwant
    rw [if_pos hwant] at h
    cases hF : F i with
    | none => simp only [hF] at h ⊢; obtain ⟨v, e, hv⟩ := h; exact ⟨v, e, fun w hw ha => hv w hw (hat w ha)⟩
    | some q => simp only [hF] at h ⊢; exact ⟨h.1, fun w hw ha => h.2 w hw (hat w ha)⟩
  · rename_i hwant
    rw [if_neg hwant] at h; exact h

/-- state and facts of an operation that stands apart make no difference -/
theorem okFor_apart {j : Nat} {oi oj : Oper} {S : Facts} {a : Act} {u : Value} {φ : Option (World → Prop)} {g : Known R} (hap : oi.apart ops oj = true) (hsj : ∀ cs b, oj.op ≠ .select cs b)
    (h : okFor P ops C R F j oj (S.add oi φ) (a.put oi.dst u) g) : okFor P ops C R F j oj S a g := by
  obtain ⟨h1, h2, h3⟩ := Oper.apart_spec hap
  have hat : ∀ w, S.at ops oj w → (S.add oi φ).at ops oj w := by
    rintro w hw p (⟨ψ, hψ, rfl⟩ | hp) hap'
    · simp only [hap] at hap'; cases hap'
    · exact hw p hp hap'
  unfold okFor growAt readAt at *
  rw [wanted_put oj a oi.dst u h1, execOp_put oj hsj a oi.dst u h1] at h
  split
  · rename_i hwant
    rw [if_pos hwant] at h
    cases hF : F j with
    | none => simp only [hF] at h ⊢; obtain ⟨v, e, hv⟩ := h; exact ⟨v, e, fun w hw ha => hv w hw (hat w ha)⟩
    | some q => simp only [hF] at h ⊢; exact ⟨h.1, fun w hw ha => h.2 w hw (hat w ha)⟩
  · rename_i hwant
    rw [if_neg hwant] at h; exact h
theorem okFor_keep {i : Nat} {oi oj : Oper} {S : Facts} {a : Act} {u : Value} {g : Known R} (hap : oi.apart ops oj = true) (hsi : ∀ cs b, oi.op ≠ .select cs b)
    (h : okFor P ops C R F i oi S a g) : okFor P ops C R F i oi S (a.put oj.dst u) g := by
  obtain ⟨h1, h2, h3⟩ := Oper.apart_spec hap
  unfold okFor growAt readAt at *
  rw [wanted_put oi a oj.dst u h3, execOp_put oi hsi a oj.dst u h3]
  exact h

theorem wpAnyG_first (hCR : ∀ w w', C w → R w w' → C w') {n i : Nat} {oi : Oper} (hi : ops[i]? = some oi) (hsel : ∀ (j : Nat) (o : Oper) cs b, ops[j]? = some o → o.op ≠ .select cs b) (hin : i < n)
    (htail : ∀ listed, HeadInv md ops n listed → ∀ i, i < n → listed.getD i true = false → ∀ j ∈ Region.ready md ops listed, j < n)
    (hdone : ∀ listed S a, Q listed S a → ∀ j ∈ Region.ready md ops listed, n ≤ j) :
    ∀ (fuel : Nat) (listed : Array Bool) (S : Facts) (a : Act) (g : Known R), S.kept R → HeadInv md ops n listed →
      (∀ j oj, ops[j]? = some oj → j ≠ i → listed.getD j true = false → (∀ e ∈ oj.after, Region.binds md e = true → e.on ≠ i) → oi.apart ops oj = true) →
      i ∈ Region.ready md ops listed → okFor P ops C R F i oi S a g →
      (∀ x, wpAnyG P md ops C R F Q fuel (listed.setIfInBounds i true) (S.add oi (g.fact x)) (a.put oi.dst (g.val x))) → wpAnyG P md ops C R F Q (fuel + 1) listed S a := by
  intro fuel
  induction fuel with
  | zero =>
    intro listed S a g hk inv _ hr hok H hI
    have hun := (mem_ready.1 hr).1
    refine ⟨fun h => (by rw [h] at hr; cases hr), fun j hj => ?_⟩
    have hjn := htail listed inv i hin hun j hj
    by_cases hji : j = i
    · subst hji; unfold gOp; simp only [hi]; exact ⟨g, hok, H⟩
    · obtain ⟨x, hx⟩ := okFor_out hCR hk hok hI
      have := hdone _ _ _ (H x hx) j (ready_mono hj hji)
      omega
  | succ fuel ih =>
    intro listed S a g hk inv hfree hr hok H hI
    have hun := (mem_ready.1 hr).1
    refine ⟨fun h => (by rw [h] at hr; cases hr), fun j hj => ?_⟩
    have hjn := htail listed inv i hin hun j hj
    by_cases hji : j = i
    · subst hji; unfold gOp; simp only [hi]; exact ⟨g, hok, H⟩
    · obtain ⟨hjun, oj, hoj, hall⟩ := mem_ready.1 hj
      have hnot : ∀ e ∈ oj.after, Region.binds md e = true → e.on ≠ i := fun e he hb heq => by
        have h1 := hall e he hb
        rw [heq, getD_both hun] at h1
        cases h1
      have hap := hfree j oj hoj hji hjun hnot
      have hsi : ∀ cs b, oi.op ≠ .select cs b := fun cs b => hsel i oi cs b hi
      have hsj : ∀ cs b, oj.op ≠ .select cs b := fun cs b => hsel j oj cs b hoj
      have hfree' : ∀ k ok, ops[k]? = some ok → k ≠ i → (listed.setIfInBounds j true).getD k true = false →
          (∀ e ∈ ok.after, Region.binds md e = true → e.on ≠ i) → oi.apart ops ok = true := fun k ok hk hki hun hno => by
        refine hfree k ok hk hki ?_ hno
        by_cases hjk : j = k
        · subst hjk; exact hjun
        · rw [getD_set_ne true hjk] at hun; exact hun
      have step : ∀ x, Inh C (S.add oi (g.fact x)) → ∃ gj, okFor P ops C R F j oj S a gj ∧ ∀ y, wpAnyG P md ops C R F Q fuel ((listed.setIfInBounds i true).setIfInBounds j true) ((S.add oi (g.fact x)).add oj (gj.fact y)) ((a.put oi.dst (g.val x)).put oj.dst (gj.val y)) := by
        intro x hx
        have h2 := (H x hx).2 j (ready_mono hj hji)
        unfold gOp at h2
        simp only [hoj] at h2
        obtain ⟨gj, hgj, hK⟩ := h2
        exact ⟨gj, okFor_apart hap hsj hgj, hK⟩
      obtain ⟨x1, hx1⟩ := okFor_out hCR hk hok hI
      obtain ⟨gj, hgj, _⟩ := step x1 hx1
      unfold gOp
      simp only [hoj]
      refine ⟨gj, hgj, fun y => ?_⟩
      refine ih (listed.setIfInBounds j true) (S.add oj (gj.fact y)) (a.put oj.dst (gj.val y)) g (Facts.kept_add hk oj gj y) (inv.set hj hjn) hfree' (ready_mono hr (Ne.symm hji))
        (okFor_keep hap hsi (okFor_more hok fun p hp => .inr hp)) fun x => wpAnyG_inh fun hI2 => ?_
      have hx : Inh C (S.add oi (g.fact x)) := by
        obtain ⟨w, hw, hS⟩ := hI2
        rw [Facts.add_comm] at hS
        exact ⟨w, hw, (Facts.all_add.1 hS).2⟩
      obtain ⟨gj', hgj', hK⟩ := step x hx
      obtain rfl := okFor_one hgj hgj' hI
      have := hK y
      rw [Facts.add_comm, Act.put_comm a _ _ (fun d hd => (Oper.apart_spec hap).2.1 d hd), Array.setIfInBounds_comm _ _ (Ne.symm hji)] at this
      exact this

/-- the lexical walk -/
def wpG (P : Program) (ops : Array Oper) (C : World → Prop) (R : World → World → Prop) (F : Nat → Option (Known R)) (Q : Facts → Act → Prop) : Nat → List Oper → Facts → Act → Prop
  | _, [], S, a => Q S a
  | k, o :: rest, S, a => if Region.wanted o (yielded ops a.tmps) = true then
      match F k with
      | none => ∃ v, (∀ w, C w → S.at ops o w → readAt P o a w v) ∧ wpG P ops C R F Q (k + 1) rest S (a.put o.dst v)
      | some g => (∀ w, C w → S.at ops o w → growAt P o a w fun u w' => R w w' ∧ ∃ x, u = g.val x ∧ ∀ φ, g.fact x = some φ → φ w') ∧ ∀ x, wpG P ops C R F Q (k + 1) rest (S.add o (g.fact x)) (a.put o.dst (g.val x))
    else wpG P ops C R F Q (k + 1) rest S (a.put o.dst undef)

theorem wpG_out {Q : Facts → Act → Prop} {k : Nat} {o : Oper} {rest : List Oper} {S : Facts} {a : Act} (h : wpG P ops C R F Q k (o :: rest) S a) :
    ∃ g, okFor P ops C R F k o S a g ∧ ∀ x, wpG P ops C R F Q (k + 1) rest (S.add o (g.fact x)) (a.put o.dst (g.val x)) := by
  unfold wpG at h
  unfold okFor
  split at h
  · rename_i hwant
    simp only [hwant, if_true]
    cases hF : F k with
    | none => simp only [hF] at h; obtain ⟨v, h1, h2⟩ := h; exact ⟨.exact R v, ⟨v, rfl, h1⟩, fun _ => by simpa only [Known.exact, Facts.add_none] using h2⟩
    | some g => simp only [hF] at h; exact ⟨g, ⟨rfl, h.1⟩, h.2⟩
  · rename_i hwant
    exact ⟨.exact R undef, by rw [if_neg hwant], fun _ => by simpa only [Known.exact, Facts.add_none] using h⟩

/-- the order of the text, up to the tail -/
theorem wpAnyG_lex {Q : Facts → Act → Prop} (hCR : ∀ w w', C w → R w w' → C w') {n g : Nat} (hs : Region.noSelect ops = true)
    (htail : ∀ listed, HeadInv md ops n listed → ∀ i, i < n → listed.getD i true = false → ∀ j ∈ Region.ready md ops listed, j < n) :
    ∀ (l : List Oper) (k : Nat) (listed : Array Bool) (S : Facts) (a : Act), S.kept R → (∀ j, j < l.length → l[j]? = ops[k + j]?) → k + l.length = n → HeadInv md ops n listed →
    Region.lexHead md ops g l.length k listed = true → wpG P ops C R F Q k l S a → wpAnyG P md ops C R F (fun listed' S' a' => Region.seqB md ops g n listed' = true ∧ Q S' a') l.length listed S a
  | [], k, listed, _, _, _, _, hk, _, hB, h => fun _ => by
    have : k = n := by simpa using hk
    subst this
    exact ⟨by simpa [Region.lexHead] using hB, h⟩
  | o :: l, k, listed, S, a, hk, hl, hkn, inv, hB, h => by
    have h0 : ops[k]? = some o := by simpa using (hl 0 (by simp)).symm
    simp only [List.length_cons, Region.lexHead, Bool.and_eq_true] at hB
    obtain ⟨⟨hr, hf⟩, hB'⟩ := hB
    have hkn' : k < n := by simp only [List.length_cons] at hkn; omega
    have hr' : k ∈ Region.ready md ops listed := by simpa using hr
    obtain ⟨gg, hg, hK⟩ := wpG_out h
    exact wpAnyG_first hCR h0 (Region.noSelect_spec hs) hkn' htail (fun listed' S' a' hL => seqB_ready hL.1) l.length listed S a gg hk inv (Region.free_spec h0 hf) hr' hg
      fun x => wpAnyG_lex hCR hs htail l (k + 1) _ _ _ (Facts.kept_add hk o gg x) (fun j hj => by have := hl (j + 1) (by simp; omega); simpa [Nat.add_assoc, Nat.add_comm 1 j] using this) (by simp only [List.length_cons] at hkn; omega) (inv.set hr' hkn') hB' (hK x)

theorem wpAnyIn_of_seq {F : Fence} {m : Nat} {Q' : Exit → Act → World → Prop} : ∀ (l : List Oper) (k : Nat) (listed : Array Bool) (a : Act) (w : World), (∀ j, l[j]? = ops[k + j]?) →
    Region.seqB md ops l.length k listed = true → wpListIn F m P ops Q' l a w → wpAnyIn F m P md ops Q' l.length listed a w
  | [], _, _, _, _, _, hB, h => ⟨by simpa [Region.seqB] using hB, h⟩
  | o :: l, k, listed, a, w, hl, hB, h => by
    have h0 : ops[k]? = some o := by simpa using (hl 0).symm
    simp only [List.length_cons, Region.seqB, Bool.and_eq_true, decide_eq_true_eq] at hB
    refine ⟨fun h1 => (by rw [hB.1] at h1; cases h1), fun i hi => ?_⟩
    rw [hB.1] at hi
    have hik : i = k := by simpa using hi
    subst hik
    have ih := fun a' w' h' => wpAnyIn_of_seq (F := F) (m := m) (Q' := Q') l (i + 1) (listed.setIfInBounds i true) a' w' (fun j => by have := hl (j + 1); simpa [Nat.add_assoc, Nat.add_comm 1 j] using this) hB.2 h'
    unfold wpOpIn
    simp only [h0]
    unfold wpListIn at h
    split
    · rename_i hw
      rw [if_pos hw] at h
      exact Oper.wpIn_mono (fun a' w' h' => ih a' w' h') h
    · rename_i hw
      rw [if_neg hw] at h
      exact ⟨h.1, ih _ _ h.2⟩

/-- what is asked of a region whose first n operations are taken in the text's order, the others one behind the other -/
def splitB (ops : Array Oper) (n : Nat) : Bool :=
  Region.noSelect ops && (decide (n = ops.size) || (decide (n < ops.size) && Region.sinkB .any ops n && Region.chainB .any ops n)) && Region.lexHead .any ops (ops.size - n) n 0 (Array.replicate ops.size false)
theorem split_tail {n : Nat} (h : splitB ops n = true) : Region.noSelect ops = true ∧ n ≤ ops.size ∧ Region.lexHead .any ops (ops.size - n) n 0 (Array.replicate ops.size false) = true ∧
    ∀ listed, HeadInv .any ops n listed → ∀ i, i < n → listed.getD i true = false → ∀ j ∈ Region.ready .any ops listed, j < n := by
  simp only [splitB, Bool.and_eq_true, Bool.or_eq_true, decide_eq_true_eq] at h
  obtain ⟨⟨hs, hn⟩, hl⟩ := h
  rcases hn with rfl | ⟨⟨hn, h1⟩, h2⟩
  · exact ⟨hs, Nat.le_refl _, hl, fun listed _ i _ _ j hj => by obtain ⟨_, o, ho, _⟩ := mem_ready.1 hj; exact (Array.getElem?_eq_some_iff.1 ho).1⟩
  · refine ⟨hs, Nat.le_of_lt hn, hl, fun listed inv i hi hun j hj => ?_⟩
    rcases Nat.lt_or_ge j n with h | h
    · exact h
    · exact absurd hj (tail_waits h1 h2 hn inv _ i rfl hi hun j h)

/-- ONE WALK OF THE TEXT'S ORDER, the tail one operation behind the other -/
theorem wp_region_grown {id : Nat} {Q : Exit → Act → World → Prop} {a : Act} {w : World} {l : List Oper} (F : Nat → Option (Known R)) (n : Nat) (hm : P.follows .mixedOrders = true) (hB : splitB l.toArray n = true)
    (hCR : ∀ w w', C w → R w w' → C w') (hC : C w.drew)
    (h : wpG P l.toArray C R F (fun S a' => ∀ w', C w' → S.all w' → wpList P l.toArray Q (l.drop n) a' w') 0 (l.take n) Facts.none a) : (Code.region id l.toArray true).wp P Q a w := by
  obtain ⟨hs, hn, hlex, htail⟩ := split_tail hB
  have hk : Facts.none.kept R := fun p hp => hp.elim
  have ha : ∀ w', Facts.none.all w' := fun w' p hp => hp.elim
  have hn' : n ≤ l.length := by simpa using hn
  have htl : (l.take n).length = n := by simp; omega
  have hdl : (l.drop n).length = l.toArray.size - n := by simp
  have inv0 : HeadInv .any l.toArray n (Array.replicate l.toArray.size false) :=
    ⟨by simp, fun j oj _ hl => (by rw [getD_replicate_false] at hl; cases hl), fun t _ ht => getD_in (by simpa using ht) (getD_replicate_false _ _)⟩
  have H := wpAnyG_lex hCR hs htail (l.take n) 0 _ Facts.none a hk (fun j hj => by
    have hj' : j < n := by rw [htl] at hj; exact hj
    simp [hj']) (by simpa using htl) inv0 (by rw [htl]; exact hlex) h
  have := wpAny_of_G (Q' := Q) hCR (l.toArray.size - n) (fun listed S a' w' hw hS hL => by
    have := wpAny_of_seq (md := .any) (Q' := Q) (l.drop n) n listed a' w' (fun j => by simp [List.getElem?_drop]) (by rw [hdl]; exact hL.1) (hL.2 w' hw hS)
    rwa [hdl] at this) _ _ _ _ _ hk hC (ha _) H
  rw [htl, show n + (l.toArray.size - n) = l.toArray.size by omega] at this
  exact wp_region_any hm this

/-- .. in a round of a range over a function -/
theorem wpIn_region_grown {id k r : Nat} {Q : Exit → Act → World → Prop} {a : Act} {w : World} {l : List Oper} (F : Nat → Option (Known R)) (n : Nat) (hm : P.follows .mixedOrders = true) (hB : splitB l.toArray n = true) (hd : l.all noDefer = true)
    (hCR : ∀ w w', C w → R w w' → C w') (hC : C w.drew)
    (h : wpG P l.toArray C R F (fun S a' => ∀ w', C w' → S.all w' → wpListIn (Fence.wide.inRound r) k P l.toArray Q (l.drop n) a' w') 0 (l.take n) Facts.none a) : (Code.region id l.toArray true).wpIn (Fence.wide.inRound r) k P Q a w := by
  obtain ⟨hs, hn, hlex, htail⟩ := split_tail hB
  have hk : Facts.none.kept R := fun p hp => hp.elim
  have ha : ∀ w', Facts.none.all w' := fun w' p hp => hp.elim
  have hn' : n ≤ l.length := by simpa using hn
  have htl : (l.take n).length = n := by simp; omega
  have hdl : (l.drop n).length = l.toArray.size - n := by simp
  have inv0 : HeadInv .any l.toArray n (Array.replicate l.toArray.size false) :=
    ⟨by simp, fun j oj _ hl => (by rw [getD_replicate_false] at hl; cases hl), fun t _ ht => getD_in (by simpa using ht) (getD_replicate_false _ _)⟩
  have H := wpAnyG_lex hCR hs htail (l.take n) 0 _ Facts.none a hk (fun j hj => by
    have hj' : j < n := by rw [htl] at hj; exact hj
    simp [hj']) (by simpa using htl) inv0 (by rw [htl]; exact hlex) h
  have := wpAnyIn_of_G (l := r) (n := k) (Q' := Q) (fun j o ho => List.all_eq_true.1 hd o (List.mem_of_getElem? (by simpa using ho))) hCR (l.toArray.size - n) (fun listed S a' w' hw hS hL => by
    have := wpAnyIn_of_seq (md := .any) (F := Fence.wide.inRound r) (m := k) (Q' := Q) (l.drop n) n listed a' w' (fun j => by simp [List.getElem?_drop]) (by rw [hdl]; exact hL.1) (hL.2 w' hw hS)
    rwa [hdl] at this) _ _ _ _ _ hk hC (ha _) H
  rw [htl, show n + (l.toArray.size - n) = l.toArray.size by omega] at this
  exact wpIn_region_any hm this
end
end Go.Proofs.YtahmacnmphjhgaaDoor
namespace Go.Proofs.YtahmacnmphjhgaaDoor
open Go.RowKit

attribute [go_sem] growAt growUpon
/-- the one world is the other one, grown -/
def Bel (w w' : World) : Prop := Below w.heap.size w w'
theorem Bel.refl (w : World) : Bel w w := Below.refl _ _
theorem Bel.trans {a b c : World} (h : Bel a b) (k : Bel b c) : Bel a c := bt h k

/-- which slots are known by what: by the number of the operation in its region -/
def knownAt {R : World → World → Prop} : List (Nat × Known R) → Nat → Option (Known R)
  | [], _ => none
  | (n, g) :: l, k => if n = k then some g else knownAt l k

def plainOp : Op → Bool
  | .move _ | .assign _ | .pick .. | .load .. | .binOp .. | .unOp .. | .convert .. | .slice .. | .fieldAddr .. | .field .. | .indexAddr .. | .index .. | .extract .. | .build .. | .makeInterface .. | .makeFunc .. => true
  | .call { callee := .builtin .len, .. } | .call { callee := .builtin .cap, .. } | .call { callee := .builtin .min, .. } | .call { callee := .builtin .max, .. } => true
  | _ => false

section
variable {P : Program} {ops : Array Oper} {C : World → Prop} {R : World → World → Prop} {F : Nat → Option (Known R)} {Q : Facts → Act → Prop}

theorem no_enter {α : Type} {r : Result α} {g : α → Value} {f : FuncId} {args : Array Value} {w : World} : r.andThen (fun x w => .ok (Next.value (g x)) w) ≠ .ok (.enter f args) w := by
  cases r <;> simp [Result.andThen]
theorem plain_no_enter {ρ : Operand → Value} {o : Oper} (h : plainOp o.op = true) {w w' : World} {f : FuncId} {args : Array Value} : (execOp ρ o).run P w ≠ .ok (.enter f args) w' := by
  unfold execOp
  unfold plainOp at h
  split at h
  all_goals first
    | (rename_i he; simp only [he]; simp only [Sem.run_bind, Sem.run_pure]; first | exact no_enter | exact no_enter (g := fun x => x) | (simp; done))
    | (rename_i he; simp only [he, resolve, invoke, builtin, Sem.run_bind, Sem.run_pure, Result.andThen_ok]; exact no_enter (g := fun x => x))
    | cases h

theorem readAt_of_quiet {o : Oper} {a : Act} {C' : World → Prop} {w : World} {v : Value} (hp : plainOp o.op = true) (h : o.quietAt P a C' w v) : readAt P o a w v := by
  unfold Oper.quietAt at h
  unfold readAt
  have hne := fun f args w' => plain_no_enter (P := P) (ρ := a.eval) hp (w := w) (w' := w') (f := f) (args := args)
  generalize (execOp a.eval o).run P w = r at *
  cases r with
  | ok n w' =>
    cases n <;> simp only [Oper.quietUpon] at h <;> simp only [readUpon]
    case value u => exact h
    case skip => exact h
    case enter f args => exact absurd rfl (hne f args w')
  | halt x w' => simp only [Oper.quietUpon] at h

theorem wpG_skip {k : Nat} {o : Oper} {rest : List Oper} {S : Facts} {a : Act} (hw : Region.wanted o (yielded ops a.tmps) = false)
    (h : ∀ K : Act → Prop, (∀ a, wpG P ops C R F Q (k + 1) rest S a → K a) → wpQuiet P ops C K [o] a) : wpG P ops C R F Q k (o :: rest) S a := by
  have := h _ fun _ h => h
  unfold wpQuiet at this
  rw [if_neg (by rw [hw]; exact Bool.false_ne_true)] at this
  unfold wpG
  rw [if_neg (by rw [hw]; exact Bool.false_ne_true)]
  exact this
theorem wpG_quiet {k : Nat} {o : Oper} {rest : List Oper} {S : Facts} {a : Act} (hF : F k = none) (hp : plainOp o.op = true)
    (h : ∀ K : Act → Prop, (∀ a, wpG P ops C R F Q (k + 1) rest S a → K a) → wpQuiet P ops (fun _ => True) K [o] a) : wpG P ops C R F Q k (o :: rest) S a := by
  have := h _ fun _ h => h
  unfold wpQuiet at this
  unfold wpG
  split
  · rename_i hw
    rw [if_pos hw] at this
    obtain ⟨v, h1, h2⟩ := this
    simp only [hF]
    exact ⟨v, fun w hw _ => readAt_of_quiet hp (h1 w trivial), h2⟩
  · rename_i hw
    rw [if_neg hw] at this
    exact this
theorem wpG_known {k : Nat} {o : Oper} {rest : List Oper} {S : Facts} {a : Act} (g : Known R) (hF : F k = some g) (hw : Region.wanted o (yielded ops a.tmps) = true)
    (h1 : ∀ (w' : World) (G : Value → World → Prop), C w' → S.at ops o w' → (∀ x w'', R w' w'' → (∀ φ, g.fact x = some φ → φ w'') → G (g.val x) w'') → growAt P o a w' G)
    (h2 : ∀ x (K : Act → Prop), (∀ a, wpG P ops C R F Q (k + 1) rest (S.add o (g.fact x)) a → K a) → K (a.put o.dst (g.val x))) : wpG P ops C R F Q k (o :: rest) S a := by
  unfold wpG
  rw [if_pos hw]
  simp only [hF]
  exact ⟨fun w' hC hS => h1 w' _ hC hS fun x w'' hR hφ => ⟨hR, x, rfl, hφ⟩, fun x => h2 x _ fun _ h => h⟩
/-- a slot whose value is told -/
theorem wpG_exact {k : Nat} {o : Oper} {rest : List Oper} {S : Facts} {a : Act} {v : Value} (hF : F k = some (.exact R v)) (hw : Region.wanted o (yielded ops a.tmps) = true)
    (h1 : ∀ (w' : World) (G : Value → World → Prop), C w' → S.at ops o w' → (∀ w'', R w' w'' → G v w'') → growAt P o a w' G)
    (h2 : ∀ (K : Act → Prop), (∀ a, wpG P ops C R F Q (k + 1) rest S a → K a) → K (a.put o.dst v)) : wpG P ops C R F Q k (o :: rest) S a := by
  refine wpG_known (.exact R v) hF hw (fun w' G hC hS hG => h1 w' G hC hS fun w'' hR => hG () w'' hR (fun _ h => by cases h)) (fun x K hK => h2 K fun a ha => hK a ?_)
  simp only [Known.exact, Facts.add_none]
  exact ha

/-- a nil check that passes -/
theorem wpG_nilOk {k : Nat} {o : Oper} {rest : List Oper} {S : Facts} {a : Act} {x : Operand} {p : Addr} (hF : F k = none) (ho : o.op = .nilCheck x) (hx : a.eval x = .pointer (some p)) (hw : Region.wanted o (yielded ops a.tmps) = true)
    (h : ∀ (K : Act → Prop), (∀ a, wpG P ops C R F Q (k + 1) rest S a → K a) → K (a.put o.dst (.pointer (some p)))) : wpG P ops C R F Q k (o :: rest) S a := by
  unfold wpG
  rw [if_pos hw]
  simp only [hF]
  refine ⟨.pointer (some p), fun w _ _ => ?_, h _ fun _ h => h⟩
  unfold readAt execOp
  rw [ho]
  simp only [hx, Sem.run_pure, readUpon, and_self]
theorem at0 {S : Facts} {o o' : Oper} {φ : World → Prop} {w : World} (h : (S.add o (some φ)).at ops o' w) (ha : o.apart ops o' = false) : φ w := (Facts.at_some h).1 ha
theorem at_on {S : Facts} {o o' : Oper} {φ : Option (World → Prop)} {w : World} (h : (S.add o φ).at ops o' w) : S.at ops o' w := fun p hp => h p (.inr hp)
theorem at1 {S : Facts} {o o' o1 : Oper} {φ : World → Prop} {φ1 : Option (World → Prop)} {w : World} (h : ((S.add o (some φ)).add o1 φ1).at ops o' w) (ha : o.apart ops o' = false) : φ w := at0 (at_on h) ha
theorem at2 {S : Facts} {o o' o1 o2 : Oper} {φ : World → Prop} {φ1 φ2 : Option (World → Prop)} {w : World} (h : (((S.add o (some φ)).add o1 φ1).add o2 φ2).at ops o' w) (ha : o.apart ops o' = false) : φ w := at0 (at_on (at_on h)) ha
theorem at3 {S : Facts} {o o' o1 o2 o3 : Oper} {φ : World → Prop} {φ1 φ2 φ3 : Option (World → Prop)} {w : World} (h : ((((S.add o (some φ)).add o1 φ1).add o2 φ2).add o3 φ3).at ops o' w) (ha : o.apart ops o' = false) : φ w := at0 (at_on (at_on (at_on h))) ha

theorem all0 {S : Facts} {o : Oper} {φ : World → Prop} {w : World} (h : (S.add o (some φ)).all w) : φ w := (Facts.all_some.1 h).1
theorem all_on {S : Facts} {o : Oper} {φ : Option (World → Prop)} {w : World} (h : (S.add o φ).all w) : S.all w := fun p hp => h p (.inr hp)
theorem all1 {S : Facts} {o o1 : Oper} {φ : World → Prop} {φ1 : Option (World → Prop)} {w : World} (h : ((S.add o (some φ)).add o1 φ1).all w) : φ w := all0 (all_on h)
theorem all2 {S : Facts} {o o1 o2 : Oper} {φ : World → Prop} {φ1 φ2 : Option (World → Prop)} {w : World} (h : (((S.add o (some φ)).add o1 φ1).add o2 φ2).all w) : φ w := all0 (all_on (all_on h))

/-- one walk of the text's order, the world growing -/
theorem region_known {id : Nat} {Q : Exit → Act → World → Prop} {a : Act} {w : World} {l : List Oper} (L : List (Nat × Known Bel)) (hm : P.follows .mixedOrders = true) (hB : splitB l.toArray l.length = true)
    (h : wpG P l.toArray (Bel w) Bel (knownAt L) (fun S a' => ∀ w', Bel w w' → S.all w' → Q .normal a' w') 0 l Facts.none a) : (Code.region id l.toArray true).wp P Q a w :=
  wp_region_grown (knownAt L) l.length hm hB (fun _ _ h k => Bel.trans h k) (b_drew w) (by rw [List.take_length, List.drop_length]; exact h)
/-- .. up to the n-th operation, the others one behind the other -/
theorem region_tail {id : Nat} {Q : Exit → Act → World → Prop} {a : Act} {w : World} {l : List Oper} (n : Nat) (L : List (Nat × Known Bel)) (hm : P.follows .mixedOrders = true) (hB : splitB l.toArray n = true)
    (h : wpG P l.toArray (Bel w) Bel (knownAt L) (fun S a' => ∀ w', Bel w w' → S.all w' → wpList P l.toArray Q (l.drop n) a' w') 0 (l.take n) Facts.none a) : (Code.region id l.toArray true).wp P Q a w :=
  wp_region_grown (knownAt L) n hm hB (fun _ _ h k => Bel.trans h k) (b_drew w) h
theorem region_known_in {id k r : Nat} {Q : Exit → Act → World → Prop} {a : Act} {w : World} {l : List Oper} (L : List (Nat × Known Bel)) (hm : P.follows .mixedOrders = true) (hB : splitB l.toArray l.length = true) (hd : l.all noDefer = true)
    (h : wpG P l.toArray (Bel w) Bel (knownAt L) (fun S a' => ∀ w', Bel w w' → S.all w' → Q .normal a' w') 0 l Facts.none a) : (Code.region id l.toArray true).wpIn (Fence.wide.inRound r) k P Q a w :=
  wpIn_region_grown (knownAt L) l.length hm hB hd (fun _ _ h k => Bel.trans h k) (b_drew w) (by rw [List.take_length, List.drop_length]; exact h)
theorem region_tail_in {id k r : Nat} {Q : Exit → Act → World → Prop} {a : Act} {w : World} {l : List Oper} (n : Nat) (L : List (Nat × Known Bel)) (hm : P.follows .mixedOrders = true) (hB : splitB l.toArray n = true) (hd : l.all noDefer = true)
    (h : wpG P l.toArray (Bel w) Bel (knownAt L) (fun S a' => ∀ w', Bel w w' → S.all w' → wpListIn (Fence.wide.inRound r) k P l.toArray Q (l.drop n) a' w') 0 (l.take n) Facts.none a) : (Code.region id l.toArray true).wpIn (Fence.wide.inRound r) k P Q a w :=
  wpIn_region_grown (knownAt L) n hm hB hd (fun _ _ h k => Bel.trans h k) (b_drew w) h
/-- a callee's contract with a told result -/
theorem calls_told {f : FuncId} {args : Array Value} {w : World} {v : Value} {G : Value → World → Prop} (hG : ∀ w'', Bel w w'' → G v w'') (h : Calls P f args w fun e w' => e = .returned v ∧ Below w.heap.size w w') :
    Calls P f args w fun e w'' => ∃ u, e = .returned u ∧ G u w'' := h.mono fun _ _ ⟨he, hb⟩ => ⟨v, he, hG _ hb⟩
end
end Go.Proofs.YtahmacnmphjhgaaDoor
namespace Go.Proofs.YtahmacnmphjhgaaDoor
open Go.RowKit Oct

def recIns : Rec VI where
  cell x := [.int .u8 (x.1.toNat : Int), .int .u8 (x.2.toNat : Int)]
  e := 33
  n := 2
  bytes := 2
  z := .agg #[.int .u8 0, .int .u8 0]
  len := fun _ => rfl
  one := by intro x u h; simp at h; rcases h with rfl | rfl <;> rfl
  info := by kernel_rfl
  zs := rfl
  pos := by decide
  bpos := by decide
def recJ : Rec Int where
  cell x := [.int .i64 x]
  e := 3
  n := 1
  bytes := 8
  z := .int .i64 0
  len := fun _ => rfl
  one := by intro x u h; simp at h; subst h; rfl
  info := by kernel_rfl
  zs := rfl
  pos := by decide
  bpos := by decide
def recVb : Rec Vb where
  cell b := [.int .u8 (b.op.toNat : Int), .string (bs b.want), .string (bs b.opn), .int .i64 (b.at_ : Int), .bool b.did]
  e := 77
  n := 5
  bytes := 56
  z := .agg #[.int .u8 0, .string ByteArray.empty, .string ByteArray.empty, .int .i64 0, .bool false]
  len := fun _ => rfl
  one := by intro x u h; simp at h; rcases h with rfl | rfl | rfl | rfl | rfl <;> rfl
  info := by kernel_rfl
  zs := rfl
  pos := by decide
  bpos := by decide
section
variable {α : Type} {R : Rec α}
theorem Rec.cells_set (R : Rec α) {j : Nat} (hj : j < R.n) {u : Value} {y : α} : ∀ (l : List α) (k : Nat) (hk : k < l.length), R.cell y = (R.cell l[k]).set j u → (R.cells l).set (k * R.n + j) u = R.cells (l.set k y)
  | x :: l, 0, _, hy => by
    simp only [Rec.cells, Nat.zero_mul, Nat.zero_add, List.set_cons_zero]
    rw [List.set_append_left _ _ (by rw [R.len]; exact hj)]
    rw [show R.cell y = (R.cell x).set j u from hy]
  | x :: l, k + 1, hk, hy => by
    simp only [Rec.cells, List.set_cons_succ]
    have hge : R.n ≤ (k + 1) * R.n := Nat.le_mul_of_pos_left R.n (Nat.succ_pos k)
    rw [List.set_append_right _ _ (by rw [R.len]; omega), R.len]
    rw [show (k + 1) * R.n + j - R.n = k * R.n + j by rw [Nat.add_mul]; omega]
    rw [Rec.cells_set R hj l k (by simpa using hk) hy]
theorem Rec.Own.setCell {w : World} {base g n c : Nat} {l : List α} (h : R.Own w base (.slice (some ⟨g, 0, none⟩) n c) l) {k : Nat} (hk : k < l.length) {y : α} {j : Nat} (hj : j < R.n) {u : Value} (hy : R.cell y = (R.cell l[k]).set j u) :
    R.Own (w.setCell ⟨g, k * R.n + j, none⟩ u) base (.slice (some ⟨g, 0, none⟩) n c) (l.set k y) := by
  obtain ⟨h1, h2⟩ := h
  refine ⟨by rw [Rec.cells_length], ?_⟩
  rcases h2 with ⟨hv, _⟩ | ⟨g', cap, cur, hv, hb, hh, r1, r2, r3, r4⟩
  · cases hv
  · cases hv
    have hb2 : Blk w g R.e cur.toList := by unfold Blk; rw [hh]
    have hs := hb2.set (k * R.n + j) u
    refine .inr ⟨g, c, (cur.toList.set (k * R.n + j) u).toArray, by rw [List.length_set], hb, hs, by rw [List.length_set]; exact r1, r2, by simpa using r3, ?_⟩
    rw [List.length_set]
    simp only [List.toList_toArray]
    rw [List.take_set, r4]
    exact Rec.cells_set R hj l k hk hy
/-- a row of the call's own, shortened -/
theorem Rec.Own.short {w : World} {base n c : Nat} {a : Option Addr} {l : List α} (h : R.Own w base (.slice a n c) l) (m : Nat) (hm : m ≤ l.length) : R.Own w base (.slice a m c) (l.take m) := by
  obtain ⟨h1, h2⟩ := h
  have hl : (l.take m).length = m := by rw [List.length_take]; omega
  refine ⟨by rw [Rec.cells_length], ?_⟩
  rcases h2 with ⟨hv, h0⟩ | ⟨g', cap, cur, hv, hb, hh, r1, r2, r3, r4⟩
  · have hz : l.length = 0 := h0
    obtain rfl : m = 0 := by omega
    cases hv
    exact .inl ⟨rfl, hl⟩
  · cases hv
    refine .inr ⟨g', c, cur, by rw [hl], hb, hh, by rw [hl]; omega, r2, r3, ?_⟩
    rw [hl, ← R.cells_take, ← r4, List.take_take, Nat.min_eq_left (Nat.mul_le_mul_right _ hm)]
end

/-- what goes through a program: its block, its rows -/
structure VG (w : World) (base G : Nat) (tv cv : Value) (inp : Nat) (role : UInt8) (s : Vs) (bv sv ev : Value) : Prop where
  blk : Blk w G 57 [tv, cv, .int .i64 (inp : Int), .int .u8 (role.toNat : Int), .string (bs s.kinds), bv, sv, ev, .int .i64 (s.deep : Int)]
  ob : recVb.Own w base bv s.blocks
  os : recS.Own w base sv s.seen
  oe : recJ.Own w base ev s.ends
  gb : base ≤ G
  a1 : ∀ b, bv.ownBlock = some b → b ≠ G ∧ sv.ownBlock ≠ some b ∧ ev.ownBlock ≠ some b
  a2 : ∀ b, sv.ownBlock = some b → b ≠ G ∧ ev.ownBlock ≠ some b
  a3 : ∀ b, ev.ownBlock = some b → b ≠ G
section
variable {w w' : World} {base G : Nat} {tv cv bv sv ev : Value} {inp : Nat} {role : UInt8} {s : Vs}
theorem VG.below (h : VG w base G tv cv inp role s bv sv ev) (hB : Below w.heap.size w w') : VG w' base G tv cv inp role s bv sv ev :=
  ⟨h.blk.below hB, h.ob.below hB, h.os.below hB, h.oe.below hB, h.gb, h.a1, h.a2, h.a3⟩
theorem VG.cell (h : VG w base G tv cv inp role s bv sv ev) {k : Nat} {v : Value} (hv : [tv, cv, .int .i64 (inp : Int), .int .u8 (role.toNat : Int), .string (bs s.kinds), bv, sv, ev, .int .i64 (s.deep : Int)][k]? = some v) : w.cell? ⟨G, k, none⟩ = some v := h.blk.cell hv
theorem VG.free (h : VG w base G tv cv inp role s bv sv ev) {k : Nat} (hk : k < 9) : w.frozen? ⟨G, k, none⟩ = false := h.blk.free hk
/-- a cell of it that is no row -/
theorem VG.setG (h : VG w base G tv cv inp role s bv sv ev) (k : Nat) (v : Value) {kinds : List UInt8} {deep : Nat}
    (hs : [tv, cv, .int .i64 (inp : Int), .int .u8 (role.toNat : Int), .string (bs s.kinds), bv, sv, ev, .int .i64 (s.deep : Int)].set k v = [tv, cv, .int .i64 (inp : Int), .int .u8 (role.toNat : Int), .string (bs kinds), bv, sv, ev, .int .i64 (deep : Int)]) :
    VG (w.setCell ⟨G, k, none⟩ v) base G tv cv inp role { s with kinds := kinds, deep := deep } bv sv ev ∧ Below base w (w.setCell ⟨G, k, none⟩ v) := by
  have hc : Chg (fun x => x = G) w (w.setCell ⟨G, k, none⟩ v) := Chg.setCell _ _ _ rfl
  have key : ∀ {β : Type} (R : Rec β) (x : Value) (l : List β), R.Own w base x l → (∀ b, x.ownBlock = some b → b ≠ G) → R.Own (w.setCell ⟨G, k, none⟩ v) base x l := fun R x l ho hn => by
    obtain ⟨h1, h2⟩ := ho
    refine ⟨h1, ?_⟩
    rcases h2 with h2 | ⟨g, cap, cur, rfl, hg, hh, r⟩
    · exact .inl h2
    · exact .inr ⟨g, cap, cur, rfl, hg, hc.at hh (hn g rfl), r⟩
  have hb := h.blk.set k v
  rw [hs] at hb
  exact ⟨⟨hb, key _ _ _ h.ob (fun b hb => (h.a1 b hb).1), key _ _ _ h.os (fun b hb => (h.a2 b hb).1), key _ _ _ h.oe h.a3, h.gb, h.a1, h.a2, h.a3⟩, hc.below (fun x hx => by have := h.gb; omega) (Nat.le_trans h.gb (Nat.le_of_lt h.blk.lt))⟩
theorem VG.kinds (h : VG w base G tv cv inp role s bv sv ev) (k : List UInt8) : VG (w.setCell ⟨G, 4, none⟩ (.string (bs k))) base G tv cv inp role { s with kinds := k } bv sv ev ∧ Below base w (w.setCell ⟨G, 4, none⟩ (.string (bs k))) := h.setG 4 _ rfl
theorem VG.deep (h : VG w base G tv cv inp role s bv sv ev) (d : Nat) : VG (w.setCell ⟨G, 8, none⟩ (.int .i64 (d : Int))) base G tv cv inp role { s with deep := d } bv sv ev ∧ Below base w (w.setCell ⟨G, 8, none⟩ (.int .i64 (d : Int))) := h.setG 8 _ rfl
end
end Go.Proofs.YtahmacnmphjhgaaDoor
namespace Go.Proofs.YtahmacnmphjhgaaDoor
open Go.RowKit Oct
theorem wpG_nilV3 {P : Program} {ops : Array Oper} {C : World → Prop} {R : World → World → Prop} {F : Nat → Option (Known R)} {Q : Facts → Act → Prop} {k : Nat} {S : Facts} {a : Act} (h : Q S a) : wpG P ops C R F Q k [] S a := h
attribute [local irreducible] wpG

section
variable {α : Type} {R : Rec α}
theorem Rec.Own.chgV {X : Nat → Prop} {w w' : World} {base : Nat} {v : Value} {l : List α} (h : R.Own w base v l) (hc : Chg X w w') (hX : ∀ k, v.ownBlock = some k → ¬ X k) : R.Own w' base v l := by
  obtain ⟨h1, h2⟩ := h
  refine ⟨h1, ?_⟩
  rcases h2 with h2 | ⟨g, cap, cur, rfl, hg, hh, r⟩
  · exact .inl h2
  · exact .inr ⟨g, cap, cur, rfl, hg, hc.at hh (hX g rfl), r⟩
theorem Rec.Own.ltV {w : World} {base : Nat} {v : Value} {l : List α} (h : R.Own w base v l) : ∀ b, v.ownBlock = some b → base ≤ b ∧ b < w.heap.size := fun b hb => World.ownsRow.lt h b hb
end
section
variable {w w' w3 : World} {base G : Nat} {tv cv bv sv ev bv' sv' : Value} {inp : Nat} {role : UInt8} {s : Vs}
/-- another row of blocks, laid down -/
theorem VG.newB (h : VG w base G tv cv inp role s bv sv ev) {l : List Vb} (hc : Chg (fun k => bv.ownBlock = some k) w w3) (hg : ∀ k, bv'.ownBlock = some k → bv.ownBlock = some k ∨ w.heap.size ≤ k) (ho : recVb.Own w3 base bv' l) :
    VG (w3.setCell ⟨G, 5, none⟩ bv') base G tv cv inp role { s with blocks := l } bv' sv ev ∧ Below base w (w3.setCell ⟨G, 5, none⟩ bv') := by
  have hs : Chg (fun k => k = G) w3 (w3.setCell ⟨G, 5, none⟩ bv') := Chg.setCell _ _ _ rfl
  have hlt := h.blk.lt
  have nb : ∀ b, bv'.ownBlock = some b → b ≠ G ∧ sv.ownBlock ≠ some b ∧ ev.ownBlock ≠ some b := fun b hb => by
    rcases hg b hb with e | e
    · exact h.a1 b e
    · refine ⟨by omega, fun e2 => ?_, fun e2 => ?_⟩
      · have := (h.os.ltV b e2).2; omega
      · have := (h.oe.ltV b e2).2; omega
  have hb3 : Blk w3 G 57 _ := h.blk.chg hc (fun e => (h.a1 G e).1 rfl)
  have o1 := (h.os.chgV hc (fun k hk e => (h.a1 k e).2.1 hk)).chgV hs (fun k hk => (h.a2 k hk).1)
  have o2 := (h.oe.chgV hc (fun k hk e => (h.a1 k e).2.2 hk)).chgV hs (fun k hk => h.a3 k hk)
  refine ⟨⟨hb3.set 5 bv', ho.chgV hs (fun k hk => (nb k hk).1), o1, o2, h.gb, nb, h.a2, h.a3⟩, ?_⟩
  exact (hc.below (fun k hk => (h.ob.ltV k hk).1) (Nat.le_trans h.gb (Nat.le_of_lt hlt))).trans (hs.below (fun k hk => by have := h.gb; omega) (by have := hc.size; have := h.gb; omega))
/-- another row of what was seen, laid down -/
theorem VG.newS (h : VG w base G tv cv inp role s bv sv ev) {l : List (List UInt8)} (hc : Chg (fun k => sv.ownBlock = some k) w w3) (hg : ∀ k, sv'.ownBlock = some k → sv.ownBlock = some k ∨ w.heap.size ≤ k) (ho : recS.Own w3 base sv' l) :
    VG (w3.setCell ⟨G, 6, none⟩ sv') base G tv cv inp role { s with seen := l } bv sv' ev ∧ Below base w (w3.setCell ⟨G, 6, none⟩ sv') := by
  have hs : Chg (fun k => k = G) w3 (w3.setCell ⟨G, 6, none⟩ sv') := Chg.setCell _ _ _ rfl
  have hlt := h.blk.lt
  have nb : ∀ b, sv'.ownBlock = some b → b ≠ G ∧ ev.ownBlock ≠ some b ∧ bv.ownBlock ≠ some b := fun b hb => by
    rcases hg b hb with e | e
    · exact ⟨(h.a2 b e).1, (h.a2 b e).2, fun e2 => (h.a1 b e2).2.1 e⟩
    · refine ⟨by omega, fun e2 => ?_, fun e2 => ?_⟩
      · have := (h.oe.ltV b e2).2; omega
      · have := (h.ob.ltV b e2).2; omega
  have hb3 : Blk w3 G 57 _ := h.blk.chg hc (fun e => (h.a2 G e).1 rfl)
  have o1 := (h.ob.chgV hc (fun k hk e => (h.a1 k hk).2.1 e)).chgV hs (fun k hk => (h.a1 k hk).1)
  have o2 := (h.oe.chgV hc (fun k hk e => (h.a2 k e).2 hk)).chgV hs (fun k hk => h.a3 k hk)
  refine ⟨⟨hb3.set 6 sv', o1, ho.chgV hs (fun k hk => (nb k hk).1), o2, h.gb, fun b hb => ⟨(h.a1 b hb).1, fun e => (nb b e).2.2 hb, (h.a1 b hb).2.2⟩, fun b hb => ⟨(nb b hb).1, (nb b hb).2.1⟩, h.a3⟩, ?_⟩
  exact (hc.below (fun k hk => (h.os.ltV k hk).1) (Nat.le_trans h.gb (Nat.le_of_lt hlt))).trans (hs.below (fun k hk => by have := h.gb; omega) (by have := hc.size; have := h.gb; omega))
/-- the row of blocks, written -/
theorem VG.chgB (h : VG w base G tv cv inp role s bv sv ev) {l : List Vb} (hc : Chg (fun k => bv.ownBlock = some k) w w') (ho : recVb.Own w' base bv l) : VG w' base G tv cv inp role { s with blocks := l } bv sv ev ∧ Below base w w' :=
  ⟨⟨h.blk.chg hc (fun e => (h.a1 G e).1 rfl), ho, h.os.chgV hc (fun k hk e => (h.a1 k e).2.1 hk), h.oe.chgV hc (fun k hk e => (h.a1 k e).2.2 hk), h.gb, h.a1, h.a2, h.a3⟩, hc.below (fun k hk => (h.ob.ltV k hk).1) (Nat.le_trans h.gb (Nat.le_of_lt h.blk.lt))⟩
/-- the row of ends, written -/
theorem VG.chgE (h : VG w base G tv cv inp role s bv sv ev) {l : List Int} (hc : Chg (fun k => ev.ownBlock = some k) w w') (ho : recJ.Own w' base ev l) : VG w' base G tv cv inp role { s with ends := l } bv sv ev ∧ Below base w w' :=
  ⟨⟨h.blk.chg hc (fun e => h.a3 G e rfl), h.ob.chgV hc (fun k hk e => (h.a1 k hk).2.2 e), h.os.chgV hc (fun k hk e => (h.a2 k hk).2 e), ho, h.gb, h.a1, h.a2, h.a3⟩, hc.below (fun k hk => (h.oe.ltV k hk).1) (Nat.le_trans h.gb (Nat.le_of_lt h.blk.lt))⟩
theorem VG.slices (h : VG w base G tv cv inp role s bv sv ev) : (∃ ab cb, bv = .slice ab s.blocks.length cb) ∧ (∃ a1 c1, sv = .slice a1 s.seen.length c1) ∧ ∃ ae ce, ev = .slice ae s.ends.length ce := ⟨owns_slice h.ob, owns_slice h.os, owns_slice h.oe⟩
/-- a row of the call's own that is not empty lies at the start of a block -/
theorem Rec.Own.at0 {α : Type} {R : Rec α} {a : Option Addr} {n c : Nat} {l : List α} (h : R.Own w base (.slice a n c) l) (hl : 0 < l.length) : ∃ g, a = some ⟨g, 0, none⟩ := by
  rcases h.2 with ⟨_, h0⟩ | ⟨g, cap, cur, hv, _⟩
  · have : l.length = 0 := h0
    omega
  · cases hv; exact ⟨g, rfl⟩

set_option maxRecDepth 100000 in
set_option maxHeartbeats 1000000 in
theorem slen_any (h : VG w base G tv cv inp role s bv sv ev) :
    Calls Tryd.prog 40 #[.pointer (some ⟨G, 5, none⟩)] w fun e w' => e = .returned (.int .i64 (s.blocks.length : Int)) ∧ w' = w := by
  obtain ⟨⟨ab, cb, rfl⟩, _, _⟩ := h.slices
  have c5 := h.cell (k := 5) rfl
  clear h
  go_enter Tryd.func40, Tryd.ntmps40
  go_wp2
  go_ret
  exact ⟨rfl, rfl⟩
set_option maxRecDepth 100000 in
set_option maxHeartbeats 1000000 in
theorem stop_any (h : VG w base G tv cv inp role s bv sv ev) (hl : s.blocks.length ≤ 1000) :
    Calls Tryd.prog 46 #[.pointer (some ⟨G, 5, none⟩)] w fun e w' => ((s.blocks = [] ∧ e = .returned (.pointer none)) ∨ ∃ g c m, bv = .slice (some ⟨g, 0, none⟩) s.blocks.length c ∧ s.blocks.length = m + 1 ∧ e = .returned (.pointer (some ⟨g, m * 5, none⟩))) ∧ Below w.heap.size w w' := by
  obtain ⟨⟨ab, cb, rfl⟩, _, _⟩ := h.slices
  have c5 := h.cell (k := 5) rfl
  rcases Nat.eq_zero_or_pos s.blocks.length with h0 | h0
  · have hb0 : s.blocks = [] := List.eq_nil_of_length_eq_zero h0
    have h1 : ((s.blocks.length : Int) == 0) = true := by rw [beq_iff_eq]; omega
    have HB := Lib.hid hb0
    clear h h0 hb0
    go_enter Tryd.func46, Tryd.ntmps46
    go_wp2
    go_ret
    exact ⟨.inl ⟨HB.out, rfl⟩, Below.refl _ _⟩
  · obtain ⟨g, rfl⟩ := h.ob.at0 h0
    have h1 : ((s.blocks.length : Int) == 0) = false := by rw [beq_eq_false_iff_ne]; omega
    obtain ⟨m, hm⟩ : ∃ m, s.blocks.length = m + 1 := ⟨s.blocks.length - 1, by omega⟩
    have hm1 : (s.blocks.length : Int) - 1 = (m : Int) := by omega
    have hm2 : (m : Int) < (s.blocks.length : Int) := by omega
    have hm3 : (0 : Int) ≤ (m : Int) := by omega
    have hm4 : (s.blocks.length : Int) ≤ 1000 := by omega
    have HM := Lib.hid hm
    clear h h0 hm
    go_enter Tryd.func46, Tryd.ntmps46
    go_wp2
    refine region_known [(3, .exact _ (.slice (some ⟨g, 0, none⟩) s.blocks.length cb)), (7, .exact _ (.slice (some ⟨g, 0, none⟩) s.blocks.length cb))] (by kernel_rfl) (by kernel_rfl) ?_
    (repeat (first | (refine wpG_skip (by kernel_rfl) (fun K hK => ?_); go_big_quiet_skip; refine wpQuiet_nil (hK _ ?_); clear hK K) | (refine wpG_quiet (by rfl) (by rfl) (fun K hK => ?_); go_big_quiet_want; go_big_quiet_op; go_big_quiet_on; refine wpQuiet_nil (hK _ ?_); clear hK K) | (refine wpG_nilOk rfl rfl rfl (by kernel_rfl) (fun K hK => ?_); go_simp; refine hK _ ?_; clear hK K)))
    refine wpG_exact rfl (by kernel_rfl) (fun w' G hB hS hG => ?_) (fun K hK => ?_)
    · have y := Below.keeps hB c5
      go_simp; exact hG _ (Bel.refl _)
    go_simp; refine hK _ ?_; clear hK K; (repeat (first | (refine wpG_skip (by kernel_rfl) (fun K hK => ?_); go_big_quiet_skip; refine wpQuiet_nil (hK _ ?_); clear hK K) | (refine wpG_quiet (by rfl) (by rfl) (fun K hK => ?_); go_big_quiet_want; go_big_quiet_op; go_big_quiet_on; refine wpQuiet_nil (hK _ ?_); clear hK K) | (refine wpG_nilOk rfl rfl rfl (by kernel_rfl) (fun K hK => ?_); go_simp; refine hK _ ?_; clear hK K)))
    refine wpG_exact rfl (by kernel_rfl) (fun w' G hB hS hG => ?_) (fun K hK => ?_)
    · have y := Below.keeps hB c5
      go_simp; exact hG _ (Bel.refl _)
    go_simp; refine hK _ ?_; clear hK K; (repeat (first | (refine wpG_skip (by kernel_rfl) (fun K hK => ?_); go_big_quiet_skip; refine wpQuiet_nil (hK _ ?_); clear hK K) | (refine wpG_quiet (by rfl) (by rfl) (fun K hK => ?_); go_big_quiet_want; go_big_quiet_op; go_big_quiet_on; refine wpQuiet_nil (hK _ ?_); clear hK K) | (refine wpG_nilOk rfl rfl rfl (by kernel_rfl) (fun K hK => ?_); go_simp; refine hK _ ?_; clear hK K)))
    refine wpG_nilV3 ?_
    intro w' hB hA
    go_wp2
    go_ret
    exact ⟨.inr ⟨g, cb, m, rfl, HM.out, by simp⟩, hB⟩
end
end Go.Proofs.YtahmacnmphjhgaaDoor
namespace Go.Proofs.YtahmacnmphjhgaaDoor
open Go.RowKit

section
variable {P : Program}
theorem ownsRow_chg {X : Nat → Prop} {w w' : World} {base : Nat} {e : TypeId} {size : Nat} {v : Value} {n : Nat} {xs : List Value} (h : w.ownsRow base e size v n xs) (hc : Chg X w w') (hX : ∀ k, base ≤ k → ¬ X k) : w'.ownsRow base e size v n xs := by
  obtain ⟨h1, h2⟩ := h
  refine ⟨h1, ?_⟩
  rcases h2 with h2 | ⟨g, cap, cur, hv, hg, hh, r⟩
  · exact .inl h2
  · exact .inr ⟨g, cap, cur, hv, hg, hc.at hh (hX g hg), r⟩
/-- append(s, x) in a round: one element, s the call's own -/
theorem append1In {F : Fence} {k : Nat} {ops : Array Oper} {rest : List Oper} {o : Oper} {a : Act} {Q : Exit → Act → World → Prop} (wr : World) (news : List Value) (e : TypeId) (hgd : o.guard = none) (s x : Operand) (t : TypeId)
    (ho : o.op = .call { callee := .builtin .append, args := #[s, x], argTypes := #[t, t] })
    (base : Nat) (z : Value) (size bytes : Nat) (ht : P.underlying t = some (.slice e)) (hinfo : (P.info? e).map (fun i => (i.zero, i.size, i.bytes)) = some (some z, size, bytes))
    (hzs : z.cells.size = size) (hsz : 0 < size) (v : Value) (n : Nat) (xs : List Value) (hs : a.eval s = v) (hown : wr.ownsRow base e size v n xs)
    (c : Nat) (hx : a.eval x = .slice (some ⟨wr.heap.size, 0, none⟩) 1 c) (hl : news.length = size) (h1 : ∀ u ∈ news, u.oneCell' = true)
    (hbytes : (n + 1) * bytes ≤ 140737488355328) (hby : 0 < bytes) (hbase : base ≤ wr.heap.size)
    (h : ∀ g cap w', w'.ownsRow base e size (.slice (some ⟨g, 0, none⟩) (n + 1) cap) (n + 1) (xs ++ news) → Below base wr w' → wpListIn F k P ops Q rest (a.put o.dst (.slice (some ⟨g, 0, none⟩) (n + 1) cap)) w') : wpListIn F k P ops Q (o :: rest) a (wr.alloc (.cells news.toArray e)) := by
  obtain ⟨i, hi, hz, hi1, hi2⟩ := info_parts hinfo
  have hn : n + 1 ≤ (n + 1) * bytes := Nat.le_mul_of_pos_right _ hby
  refine wpListIn_append_own _ hgd s x t ho base e i z size bytes ht hi hz hi1 hi2 hzs hsz v n xs hs (hown.alloc _) ⟨wr.heap.size, 0, none⟩ 1 c news hx (by simpa using hl) ?_ h1 (by unfold maxLen; omega) hbytes (by simp; omega) ?_
  · intro j u hj
    have : j < news.length := by
      rcases Nat.lt_or_ge j news.length with h | h
      · exact h
      · simp [List.getElem?_eq_none h] at hj
    rw [Addr.add_lit, Nat.zero_add, World.cell?_alloc_new]
    simpa using hj
  · intro v' w' h2 h3 _
    obtain ⟨g, cap, rfl⟩ := ownsRow_succ h2
    refine h g cap w' h2 (((Below.refl base wr).alloc hbase _).grown h3 (by simp; omega) ?_)
    intro k hk
    exact (hown.lt k hk).1

/-- box s holds a slice value; the slice is the call's own, its blocks lie from base on -/
def BoxRow (s base : Nat) (t e : TypeId) (size : Nat) (U : World) (n : Nat) (cells : List Value) : Prop := ∃ v, U.heap[s]? = some (.cells #[v] t (0, 0)) ∧ U.ownsRow base e size v n cells
theorem BoxRow.chg {s base : Nat} {t e : TypeId} {size : Nat} {U U' : World} {n : Nat} {cells : List Value} {X : Nat → Prop} (h : BoxRow s base t e size U n cells) (hc : Chg X U U') (hX : ∀ k, X k → k ≠ s ∧ k < base) : BoxRow s base t e size U' n cells := by
  obtain ⟨v, h1, h2⟩ := h
  exact ⟨v, hc.at h1 fun hx => (hX s hx).1 rfl, ownsRow_chg h2 hc fun k hk hx => by have := (hX k hx).2; omega⟩
theorem BoxRow.stored {s base g cap : Nat} {t e : TypeId} {size : Nat} {U W : World} {v : Value} {n : Nat} {cells : List Value} (hsb : s < base) (hs : U.heap[s]? = some (.cells #[v] t (0, 0))) (hB : Below base U W) (hown : W.ownsRow base e size (.slice (some ⟨g, 0, none⟩) n cap) n cells) :
    BoxRow s base t e size (W.setCell ⟨s, 0, none⟩ (.slice (some ⟨g, 0, none⟩) n cap)) n cells ∧ Chg (fun k => k = s ∨ base ≤ k) U (W.setCell ⟨s, 0, none⟩ (.slice (some ⟨g, 0, none⟩) n cap)) :=
  ⟨⟨_, one_setCell (v := v) ((hB.block s hsb).trans hs), ownsRow_setCell_below hown hsb _⟩, (Chg.of_base hB fun k hk => .inr hk).trans (Chg.setCell _ _ _ (.inl rfl))⟩

/-- a slot that holds a slice whose cells are known -/
def kReads (n : Nat) (cells : List Value) : Known Bel := ⟨Option Addr × Nat, fun x => .slice x.1 n x.2, fun x => some fun w => Reads w (.slice x.1 n x.2) n cells, fun _ _ h _ _ hφ hB => by cases h; exact Reads.below hφ hB⟩
@[go_sem] theorem kReads_val (n : Nat) (cells : List Value) (a : Option Addr) (c : Nat) : (kReads n cells).val (a, c) = .slice a n c := rfl
theorem reads_new {w' : World} {G : Value → World → Prop} {n : Nat} {cells : List Value} {cs : Array Value} {e : TypeId} (hG : ∀ x w'', Bel w' w'' → (∀ φ, (kReads n cells).fact x = some φ → φ w'') → G ((kReads n cells).val x) w'') (hcs : cs = cells.toArray) :
    G (.slice (some ⟨w'.heap.size, 0, none⟩) n n) (w'.alloc (.cells cs e)) := by
  subst hcs
  exact hG (some ⟨w'.heap.size, 0, none⟩, n) _ (b_alloc w' _) (fun φ h => by cases h; exact Reads.new w' cells n e n)
/-- append(s, x...) in a round: s the call's own, x whatever slice of at least one element -/
theorem appendNIn {F : Fence} {k : Nat} {ops : Array Oper} {rest : List Oper} {o : Oper} {a : Act} {Q : Exit → Act → World → Prop} (w : World) (news : List Value) (e : TypeId) (hgd : o.guard = none) (s x : Operand) (t : TypeId)
    (ho : o.op = .call { callee := .builtin .append, args := #[s, x], argTypes := #[t, t] })
    (base : Nat) (z : Value) (size bytes : Nat) (ht : P.underlying t = some (.slice e)) (hinfo : (P.info? e).map (fun i => (i.zero, i.size, i.bytes)) = some (some z, size, bytes))
    (hzs : z.cells.size = size) (hsz : 0 < size) (v : Value) (n : Nat) (xs : List Value) (hs : a.eval s = v) (hown : w.ownsRow base e size v n xs)
    (vx : Value) (m : Nat) (hx : a.eval x = vx) (hr : Reads w vx m news) (hm : 0 < m) (hl : news.length = m * size) (h1 : ∀ u ∈ news, u.oneCell' = true)
    (hbytes : (n + m) * bytes ≤ 140737488355328) (hby : 0 < bytes) (hbase : base ≤ w.heap.size)
    (h : ∀ g cap w', w'.ownsRow base e size (.slice (some ⟨g, 0, none⟩) (n + m) cap) (n + m) (xs ++ news) → Below base w w' → wpListIn F k P ops Q rest (a.put o.dst (.slice (some ⟨g, 0, none⟩) (n + m) cap)) w') : wpListIn F k P ops Q (o :: rest) a w := by
  obtain ⟨i, hi, hz, hi1, hi2⟩ := info_parts hinfo
  have hn : n + m ≤ (n + m) * bytes := Nat.le_mul_of_pos_right _ hby
  obtain ⟨ax, cap, rfl, hnone, hc⟩ := hr
  cases ax with
  | none => have := (hnone rfl).1; omega
  | some ad =>
    refine wpListIn_append_own _ hgd s x t ho base e i z size bytes ht hi hz hi1 hi2 hzs hsz v n xs hs hown ad m cap news hx hl ?_ h1 (by unfold maxLen; omega) hbytes hbase ?_
    · intro j u hj
      obtain ⟨b, off, ha, hu⟩ := hc j u hj
      cases ha
      rw [Addr.add_lit]; exact hu
    · intro v' w' h2 h3 _
      obtain ⟨m', rfl⟩ : ∃ m', m = m' + 1 := ⟨m - 1, by omega⟩
      obtain ⟨g, cap', rfl⟩ := ownsRow_succ (k := n + m') h2
      refine h g cap' w' h2 ((Below.refl base w).grown h3 hbase ?_)
      intro k hk
      exact (hown.lt k hk).1
/-- a function whose body ranges over a function -/
theorem calls_of_wp_marks {f : FuncId} {fn : Func} {c : Code} {args : Array Value} {w : World} {R : Ending → World → Prop} (hf : P.funcs[f]? = some fn) (hb : fn.body = some c)
    (h : c.wp P (bodyPostM Fence.wide 1 P fn R) { tmps := args ++ Array.replicate (fn.ntmps - args.size) undef, defers := [] } w) : Calls P f args w R :=
  (callsIn_wide (n := 1)).1 (callsIn_of_wp_marks (F := Fence.wide) hf hb trivial (wpIn_wide.2 h))
theorem marks_ret {fn : Func} {R : Ending → World → Prop} {a : Act} {w : World} {D : Nat} {v : Value} (hd : a.defers = [{ target := .collected D, args := #[] }]) (hK : w.heap[D]? = some (.deferred (some [])))
    (hr : (results fn a.tmps).run P (w.putObj D (.deferred none)) = .ok v (w.putObj D (.deferred none))) (hR : R (.returned v) (w.putObj D (.deferred none))) : bodyPostM Fence.wide 1 P fn R .ret a w := by
  unfold bodyPostM
  simp only [hd]
  exact ⟨by simp, .inl ⟨_, _, rfl, run_takeDeferred hK, v, hr, hR⟩⟩
theorem marks_none {fn : Func} {R : Ending → World → Prop} {a : Act} {w : World} {v : Value} (hd : a.defers = []) (hr : (results fn a.tmps).run P w = .ok v w) (hR : R (.returned v) w) : bodyPostM Fence.wide 1 P fn R .ret a w := by
  unfold bodyPostM
  simp only [hd]
  exact ⟨v, hr, hR⟩
end
end Go.Proofs.YtahmacnmphjhgaaDoor
namespace Go.Proofs.YtahmacnmphjhgaaDoor
open Go.RowKit Oct
attribute [local irreducible] wpG

/-- append(s, x), x a slice of one, and what it leaves alone -/
theorem Rec.append1V {α : Type} {ops : Array Oper} {rest : List Oper} {o : Oper} {a : Act} {Q : Exit → Act → World → Prop} (R : Rec α) (w : World) (p : α) (hgd : o.guard = none) (s x : Operand) (t : TypeId)
    (ho : o.op = .call { callee := .builtin .append, args := #[s, x], argTypes := #[t, t] }) (ht : Tryd.prog.underlying t = some (.slice R.e))
    (base : Nat) (v : Value) (xs : List α) (hown : R.Own w base v xs) (hs : a.eval s = v) (vx : Value) (hx : a.eval x = vx) (hr : Reads w vx 1 (R.cell p))
    (hbytes : (xs.length + 1) * R.bytes ≤ 140737488355328) (hbase : base ≤ w.heap.size)
    (h : ∀ g cap w', R.Own w' base (.slice (some ⟨g, 0, none⟩) (xs.length + 1) cap) (xs ++ [p]) → Chg (fun k => v.ownBlock = some k) w w' → (v.ownBlock = some g ∨ w.heap.size ≤ g) →
      wpList Tryd.prog ops Q rest (a.put o.dst (.slice (some ⟨g, 0, none⟩) (xs.length + 1) cap)) w') : wpList Tryd.prog ops Q (o :: rest) a w := by
  obtain ⟨i, hi, hz, hi1, hi2⟩ := info_parts R.info
  have hn : xs.length + 1 ≤ (xs.length + 1) * R.bytes := Nat.le_mul_of_pos_right _ R.bpos
  obtain ⟨ax, c, rfl, hnone, hc⟩ := hr
  cases ax with
  | none => have := (hnone rfl).1; omega
  | some ad =>
    refine wpList_append_lies _ hgd s x t ho base R.e i R.z R.n R.bytes ht hi hz hi1 hi2 R.zs R.pos v xs.length (R.cells xs) hs hown ad 1 c (R.cell p) hx (by simpa using R.len p) ?_ (R.one p) (by decide) (by unfold maxLen; omega) hbytes hbase _ rfl ?_
    · intro j u hj
      obtain ⟨b, off, ha, hu⟩ := hc j u hj
      cases ha
      rw [Addr.add_lit]; exact hu
    · intro g cap w' h2 h3 h4 h5
      have hB : Below base w w' := (Below.refl base w).grown h3 hbase (fun k hk => (Rec.Own.ltV hown k hk).1)
      refine h g cap w' ?_ ⟨hB.os, hB.tape, hB.output, hB.size, fun j hj hne => h3.block j hj (fun e => hne e.symm)⟩ ?_
      · unfold Rec.Own; rw [R.cells_append, List.length_append, Rec.cells, Rec.cells, List.append_nil]; exact h2
      · rcases h4 with h4 | h4
        · exact .inl h4
        · exact .inr (by omega)
/-- append(s, x) in a drawn region, and what it leaves alone -/
theorem Rec.step_append1V {α : Type} {ops : Array Oper} {o : Oper} {a : Act} {K : Act → World → Prop} {Q : Exit → Act → World → Prop} {E : Prop} (R : Rec α) (wr : World) (p : α) (hgd : o.guard = none) (s x : Operand) (t : TypeId)
    (ho : o.op = .call { callee := .builtin .append, args := #[s, x], argTypes := #[t, t] }) (ht : Tryd.prog.underlying t = some (.slice R.e))
    (base : Nat) (v : Value) (xs : List α) (hs : a.eval s = v) (hown : R.Own wr base v xs) (c : Nat) (hx : a.eval x = .slice (some ⟨wr.heap.size, 0, none⟩) 1 c)
    (cs : Array Value) (hcs : cs = (R.cell p).toArray) (e : TypeId) (he : e = R.e)
    (hbytes : (xs.length + 1) * R.bytes ≤ 140737488355328) (hbase : base ≤ wr.heap.size)
    (h : ∀ g cap w', R.Own w' base (.slice (some ⟨g, 0, none⟩) (xs.length + 1) cap) (xs ++ [p]) → Chg (fun k => v.ownBlock = some k) wr w' → (v.ownBlock = some g ∨ wr.heap.size ≤ g) → K (a.put o.dst (.slice (some ⟨g, 0, none⟩) (xs.length + 1) cap)) w') :
    if Region.wanted o (yielded ops a.tmps) = true then Oper.wp Tryd.prog o a (wr.alloc (.cells cs e)) K Q else E := by
  subst hcs he
  obtain ⟨i, hi, hz, hi1, hi2⟩ := info_parts R.info
  have hn : xs.length + 1 ≤ (xs.length + 1) * R.bytes := Nat.le_mul_of_pos_right _ R.bpos
  refine step_append_lies _ hgd s x t ho base R.e i R.z R.n R.bytes ht hi hz hi1 hi2 R.zs R.pos v xs.length (R.cells xs) hs (World.ownsRow.alloc hown _) ⟨wr.heap.size, 0, none⟩ 1 c (R.cell p) hx (by simpa using R.len p) ?_ (R.one p) (by decide) (by unfold maxLen; omega) hbytes (by simp; omega) _ rfl ?_
  · intro j u hj
    have : j < (R.cell p).length := by
      rcases Nat.lt_or_ge j (R.cell p).length with h | h
      · exact h
      · simp [List.getElem?_eq_none h] at hj
    rw [Addr.add_lit, Nat.zero_add, World.cell?_alloc_new]
    simpa using hj
  · intro g cap w' h2 h3 h4 h5
    have hB : Below base wr w' := ((Below.refl base wr).alloc hbase _).grown h3 (by simp; omega) (fun k hk => (Rec.Own.ltV hown k hk).1)
    refine h g cap w' ?_ ⟨hB.os, hB.tape, hB.output, hB.size, fun j hj hne => ?_⟩ ?_
    · unfold Rec.Own; rw [R.cells_append, List.length_append, Rec.cells, Rec.cells, List.append_nil]; exact h2
    · rw [h3.block j (by simp; omega) (fun e => hne e.symm)]
      exact Below.heap_alloc _ _ _ hj
    · rcases h4 with h4 | h4
      · exact .inl h4
      · exact .inr (by simp at h4; omega)
set_option maxRecDepth 100000 in
/-- s[:k] of a row of the call's own -/
theorem Rec.Own.shortRun {α : Type} {R : Rec α} {w : World} {base g c : Nat} {l : List α} (h : R.Own w base (.slice (some ⟨g, 0, none⟩) l.length c) l) (st : TypeId) (hst : Tryd.prog.underlying st = some (.slice (Tryd.prog.elem st))) (hsz : ∀ wx, (sizeOf (Tryd.prog.elem st)).run Tryd.prog wx = .ok R.n wx) (k : Nat) (hk : k ≤ l.length) :
    ∀ wx, (Instr.slice st (.slice (some ⟨g, 0, none⟩) l.length c) none (some (.int .i64 (k : Int))) none).run Tryd.prog wx = .ok (.slice (some ⟨g, 0, none⟩) k c) wx := by
  intro wx
  obtain ⟨_, a', cap', hv, hle⟩ := id h.row
  injection hv with _ _ h3
  subst h3
  have hr := run_slice_h wx st (some ⟨g, 0, none⟩) l.length c hst .i64 k (by omega) (by omega)
  rw [hsz] at hr
  rw [hr]
  simp only [Result.andThen, sliced]
  split <;> simp [Addr.add]
def vbV (b : Vb) : Value := .agg #[.int .u8 (b.op.toNat : Int), .string (bs b.want), .string (bs b.opn), .int .i64 (b.at_ : Int), .bool b.did]
section
variable {w w' w3 : World} {base G : Nat} {tv cv bv sv ev bv' sv' : Value} {inp : Nat} {role : UInt8} {s : Vs}
set_option maxRecDepth 100000 in
set_option maxHeartbeats 2000000 in
theorem spush_any (b : Vb) (h : VG w base G tv cv inp role s bv sv ev) (hl : s.blocks.length ≤ 1000) :
    Calls Tryd.prog 48 #[.pointer (some ⟨G, 5, none⟩), vbV b] w fun e w' => (∃ v, e = .returned v) ∧ (∃ bv', VG w' base G tv cv inp role { s with blocks := s.blocks ++ [b] } bv' sv ev) ∧ Below base w w' := by
  obtain ⟨⟨ab, cb, rfl⟩, _, _⟩ := h.slices
  have HH := Lib.hid h
  obtain ⟨W1, hW1⟩ : ∃ W1, W1 = w.alloc (.cells #[.int .u8 (b.op.toNat : Int), .string (bs b.want), .string (bs b.opn), .int .i64 (b.at_ : Int), .bool b.did] 77) := ⟨_, rfl⟩
  have hb1 : Below w.heap.size w W1 := by rw [hW1]; exact b_alloc _ _
  have hx : Blk W1 w.heap.size 77 [.int .u8 (b.op.toNat : Int), .string (bs b.want), .string (bs b.opn), .int .i64 (b.at_ : Int), .bool b.did] := by rw [hW1]; exact Blk.new w _ _
  have h1 := h.below hb1
  have c5 := h1.cell (k := 5) rfl
  have x0 := hx.cell (k := 0) rfl
  have x1 := hx.cell (k := 1) rfl
  have x2 := hx.cell (k := 2) rfl
  have x3 := hx.cell (k := 3) rfl
  have x4 := hx.cell (k := 4) rfl
  have H1 := Lib.hid h1
  have HB1 := Lib.hid hb1
  clear h h1 hx hb1
  unfold vbV
  go_enter Tryd.func48, Tryd.ntmps48
  go_upto_region 1 with fail
  rw [← hW1]
  clear hW1
  have h1d := H1.out.below (b_drew W1)
  have hgb : base ≤ W1.drew.heap.size := Nat.le_trans h1d.gb (Nat.le_of_lt h1d.blk.lt)
  have hby : (s.blocks.length + 1) * 56 ≤ 140737488355328 := by omega
  have H1D := Lib.hid h1d
  have hod := h1d.ob
  have hGl : G < W1.heap.size := H1.out.blk.lt
  have hwl : w.heap.size < W1.heap.size := lt_of_cell x0
  clear h1d
  go_region_law (refine recVb.step_append1V W1.drew b rfl _ _ 53 rfl Tryd.underlying53 base (.slice ab s.blocks.length cb) s.blocks rfl hod _ rfl _ rfl _ rfl hby hgb ?_; intro g gc w3 hown3 hc3 hg3; have hn := H1D.out.newB (bv' := .slice (some ⟨g, 0, none⟩) (s.blocks.length + 1) gc) hc3 (fun k hk => by cases hk; exact hg3) hown3; have hb3 : Blk w3 G 57 _ := H1D.out.blk.chg hc3 (fun e => (H1D.out.a1 G e).1 rfl); have f5 := hb3.free (k := 5) (by simp); have c5' := hb3.cell (k := 5) rfl; have HN := Lib.hid hn; clear hn hb3 hown3 hc3 hg3)
  all_goals
    refine bodyPost_end (results_none rfl _ _ _) rfl ?_
    exact ⟨⟨_, rfl⟩, ⟨_, HN.out.1⟩, ((bt HB1.out (b_drew W1)).mono (Nat.le_trans HH.out.gb (Nat.le_of_lt HH.out.blk.lt))).trans HN.out.2⟩

set_option maxRecDepth 100000 in
set_option maxHeartbeats 2000000 in
theorem spop_any (h : VG w base G tv cv inp role s bv sv ev) (hl : s.blocks.length ≤ 1000) (h0 : 0 < s.blocks.length) :
    Calls Tryd.prog 49 #[.pointer (some ⟨G, 5, none⟩)] w fun e w' => (∃ v, e = .returned v) ∧ (∃ bv', VG w' base G tv cv inp role { s with blocks := s.blocks.dropLast } bv' sv ev) ∧ Below base w w' := by
  obtain ⟨⟨ab, cb, rfl⟩, _, _⟩ := h.slices
  obtain ⟨m, hm⟩ : ∃ m, s.blocks.length = m + 1 := ⟨s.blocks.length - 1, by omega⟩
  have hm1 : (s.blocks.length : Int) - 1 = (m : Int) := by omega
  have hm2 : (m : Int) < (s.blocks.length : Int) := by omega
  have hm3 : (0 : Int) ≤ (m : Int) := by omega
  have hm4 : (s.blocks.length : Int) ≤ 1000 := by omega
  have hd : s.blocks.dropLast = s.blocks.take m := by rw [List.dropLast_eq_take]; congr 1; omega
  have HD := Lib.hid hd
  have HM := Lib.hid hm
  have c5 := h.cell (k := 5) rfl
  have HH := Lib.hid h
  obtain ⟨g, rfl⟩ := h.ob.at0 h0
  have hrun := h.ob.shortRun 53 Tryd.underlying53 (by intro wx; kernel_rfl) m (by omega)
  clear h h0 hd hm
  go_enter Tryd.func49, Tryd.ntmps49
  go_wp2
  refine region_tail 12 [(4, .exact _ (.slice (some ⟨g, 0, none⟩) s.blocks.length cb)), (8, .exact _ (.slice (some ⟨g, 0, none⟩) s.blocks.length cb))] (by kernel_rfl) (by kernel_rfl) ?_
  simp only [List.take_succ_cons, List.take_zero, List.drop_succ_cons, List.drop_zero]
  (repeat (first | (refine wpG_skip (by kernel_rfl) (fun K hK => ?_); go_big_quiet_skip; refine wpQuiet_nil (hK _ ?_); clear hK K) | (refine wpG_quiet (by rfl) (by rfl) (fun K hK => ?_); go_big_quiet_want; go_big_quiet_op; go_big_quiet_on; refine wpQuiet_nil (hK _ ?_); clear hK K) | (refine wpG_nilOk rfl rfl rfl (by kernel_rfl) (fun K hK => ?_); go_simp; refine hK _ ?_; clear hK K)))
  refine wpG_exact rfl (by kernel_rfl) (fun w' G hB hS hG => ?_) (fun K hK => ?_)
  · have y := Below.keeps hB c5
    go_simp; exact hG _ (Bel.refl _)
  go_simp; refine hK _ ?_; clear hK K; (repeat (first | (refine wpG_skip (by kernel_rfl) (fun K hK => ?_); go_big_quiet_skip; refine wpQuiet_nil (hK _ ?_); clear hK K) | (refine wpG_quiet (by rfl) (by rfl) (fun K hK => ?_); go_big_quiet_want; go_big_quiet_op; go_big_quiet_on; refine wpQuiet_nil (hK _ ?_); clear hK K) | (refine wpG_nilOk rfl rfl rfl (by kernel_rfl) (fun K hK => ?_); go_simp; refine hK _ ?_; clear hK K)))
  refine wpG_exact rfl (by kernel_rfl) (fun w' G hB hS hG => ?_) (fun K hK => ?_)
  · have y := Below.keeps hB c5
    go_simp; exact hG _ (Bel.refl _)
  go_simp; refine hK _ ?_; clear hK K; (repeat (first | (refine wpG_skip (by kernel_rfl) (fun K hK => ?_); go_big_quiet_skip; refine wpQuiet_nil (hK _ ?_); clear hK K) | (refine wpG_quiet (by rfl) (by rfl) (fun K hK => ?_); go_big_quiet_want; go_big_quiet_op; go_big_quiet_on; refine wpQuiet_nil (hK _ ?_); clear hK K) | (refine wpG_nilOk rfl rfl rfl (by kernel_rfl) (fun K hK => ?_); go_simp; refine hK _ ?_; clear hK K)))
  refine wpG_nilV3 ?_
  intro w5 hB5 hA5
  have h5 := HH.out.below hB5
  have f5 := h5.free (k := 5) (by decide)
  have c5' := h5.cell (k := 5) rfl
  have hn := h5.newB (bv' := .slice (some ⟨g, 0, none⟩) m cb) (l := s.blocks.take m) (Chg.refl _ _) (fun k hk => by cases hk; exact .inl rfl) (h5.ob.short m (by have := HM.out; omega))
  have HN := Lib.hid hn
  have HB5 := Lib.hid hB5
  clear hB5 hA5 h5 hn c5
  go_wp2
  refine bodyPost_end (results_none rfl _ _ _) rfl ?_
  rw [HD.out]
  exact ⟨⟨_, rfl⟩, ⟨_, HN.out.1⟩, (HB5.out.mono (Nat.le_trans HH.out.gb (Nat.le_of_lt HH.out.blk.lt))).trans HN.out.2⟩
end
end Go.Proofs.YtahmacnmphjhgaaDoor
