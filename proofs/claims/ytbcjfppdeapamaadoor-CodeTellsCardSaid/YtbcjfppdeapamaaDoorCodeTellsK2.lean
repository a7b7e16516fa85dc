/- Lemmas for CodeTells, part 2: walks of the functions that it reaches, and the plain laws behind them. -/
import Derived.Deep.QuietTactic
import Derived.StillTail
import Derived.OrdersIn
import Derived.TacticsIn
import Derived.AtR
import Derived.BigQuiet
import Derived.Lib.Hide
import Derived.OwnWalkIn
import Derived.TacticsInMore
import Derived.LoopNIn
import Derived.LoopIn
import Derived.RangeFuncBox
import Derived.Laws.EntriesVeiled
import Derived.Maps.OwnIn
import Derived.Maps.AppendAt
import Derived.Laws.RangeString
import Derived.Deep.DeepCutAuto
import Derived.Test.YtbcjfppdeapamaaDoorCodeTellsK1
set_option linter.unusedSimpArgs false
set_option linter.unusedVariables false
namespace Go.Proofs.YtbcjfppdeapamaaDoor
open Go.RowKit

section
variable {P : Program} {ops : Array Oper} {md : Region.Mode} {C : World → Prop} {R : World → World → Prop}

/-- what is known of a slot's value, whatever the order -/
structure Known (R : World → World → Prop) where
  α : Type
  val : α → Value
  fact : α → Option (World → Prop)
  stable : ∀ x φ, fact x = some φ → ∀ w w', φ w → R w w' → φ w'
def Known.exact (R : World → World → Prop) (v : Value) : Known R := ⟨Unit, fun _ => v, fun _ => none, fun _ _ h => by cases h⟩

abbrev Facts := (Oper × (World → Prop)) → Prop
def Facts.none : Facts := fun _ => False
def Facts.add (o : Oper) (φ : Option (World → Prop)) (S : Facts) : Facts := fun q => (∃ ψ, φ = some ψ ∧ q = (o, ψ)) ∨ S q
def Facts.all (S : Facts) (w : World) : Prop := ∀ p, S p → p.2 w
/-- the facts that an operation may lean on: of those slots that it waits for -/
def Facts.at (S : Facts) (ops : Array Oper) (o : Oper) (w : World) : Prop := ∀ p, S p → p.1.apart ops o = false → p.2 w
def Facts.kept (R : World → World → Prop) (S : Facts) : Prop := ∀ p, S p → ∀ w w', p.2 w → R w w' → p.2 w'

theorem Facts.add_none (o : Oper) (S : Facts) : S.add o Option.none = S := by
  funext q; simp [Facts.add]
theorem Facts.add_comm (o o' : Oper) (φ φ' : Option (World → Prop)) (S : Facts) : (S.add o φ).add o' φ' = (S.add o' φ').add o φ := by
  funext q; simp only [Facts.add, eq_iff_iff]; grind
theorem Facts.all_add {S : Facts} {o : Oper} {φ : Option (World → Prop)} {w : World} : (S.add o φ).all w ↔ (∀ ψ, φ = some ψ → ψ w) ∧ S.all w := by
  constructor
  · intro h; exact ⟨fun ψ hψ => h (o, ψ) (.inl ⟨ψ, hψ, rfl⟩), fun p hp => h p (.inr hp)⟩
  · rintro ⟨h1, h2⟩ p (⟨ψ, hψ, rfl⟩ | hp)
    · exact h1 ψ hψ
    · exact h2 p hp
theorem Facts.all_some {S : Facts} {o : Oper} {φ : World → Prop} {w : World} : (S.add o (some φ)).all w ↔ φ w ∧ S.all w := by
  rw [Facts.all_add]; simp
theorem Facts.all_none {w : World} : Facts.none.all w ↔ True := by simp [Facts.all, Facts.none]
theorem Facts.at_some {S : Facts} {o o' : Oper} {φ : World → Prop} {w : World} (h : (S.add o (some φ)).at ops o' w) : (o.apart ops o' = false → φ w) ∧ S.at ops o' w :=
  ⟨fun ha => h (o, φ) (.inl ⟨φ, rfl, rfl⟩) ha, fun p hp => h p (.inr hp)⟩
theorem Facts.at_of_all {S : Facts} {o : Oper} {w : World} (h : S.all w) : S.at ops o w := fun p hp _ => h p hp
theorem Facts.kept_add {S : Facts} (h : S.kept R) (o : Oper) (g : Known R) (x : g.α) : (S.add o (g.fact x)).kept R := by
  rintro p (⟨ψ, hψ, rfl⟩ | hp)
  · exact g.stable x ψ hψ
  · exact h p hp
theorem Facts.all_kept {S : Facts} (h : S.kept R) {w w' : World} (ha : S.all w) (hR : R w w') : S.all w' := fun p hp => h p hp w w' (ha p hp) hR

def growUpon (P : Program) (w : World) (G : Value → World → Prop) : Result Next → Prop
  | .ok (.value u) w' => G u w'
  | .ok .skip w' => G undef w'
  | .ok (.enter f args) w' => w' = w ∧ Calls P f args w fun e w'' => ∃ u, e = .returned u ∧ G u w''
  | _ => False
def growAt (P : Program) (o : Oper) (a : Act) (w : World) (G : Value → World → Prop) : Prop := growUpon P w G ((execOp a.eval o).run P w)
def readUpon (w : World) (v : Value) : Result Next → Prop
  | .ok (.value u) w' => w' = w ∧ u = v
  | .ok .skip w' => w' = w ∧ v = undef
  | _ => False
def readAt (P : Program) (o : Oper) (a : Act) (w : World) (v : Value) : Prop := readUpon w v ((execOp a.eval o).run P w)

/-- what operation 'i' yields in state 'a' -/
def okFor (P : Program) (ops : Array Oper) (C : World → Prop) (R : World → World → Prop) (F : Nat → Option (Known R)) (i : Nat) (o : Oper) (S : Facts) (a : Act) (g : Known R) : Prop :=
  if Region.wanted o (yielded ops a.tmps) = true then
    match F i with
    | none => ∃ v, g = .exact R v ∧ ∀ w, C w → S.at ops o w → readAt P o a w v
    | some g' => g = g' ∧ ∀ w, C w → S.at ops o w → growAt P o a w fun u w' => R w w' ∧ ∃ x, u = g'.val x ∧ ∀ φ, g'.fact x = some φ → φ w'
  else g = .exact R undef

def gOp (P : Program) (ops : Array Oper) (C : World → Prop) (R : World → World → Prop) (F : Nat → Option (Known R)) (i : Nat) (K : Facts → Act → Prop) (S : Facts) (a : Act) : Prop :=
  match ops[i]? with
  | none => K S a
  | some o => ∃ g, okFor P ops C R F i o S a g ∧ ∀ x, K (S.add o (g.fact x)) (a.put o.dst (g.val x))

def Inh (C : World → Prop) (S : Facts) : Prop := ∃ w, C w ∧ S.all w

def wpAnyG (P : Program) (md : Region.Mode) (ops : Array Oper) (C : World → Prop) (R : World → World → Prop) (F : Nat → Option (Known R)) (Q : Array Bool → Facts → Act → Prop) : Nat → Array Bool → Facts → Act → Prop
  | 0, listed, S, a => Inh C S → Q listed S a
  | fuel + 1, listed, S, a => Inh C S →
    Region.ready md ops listed ≠ [] ∧
    ∀ i ∈ Region.ready md ops listed, gOp P ops C R F i (wpAnyG P md ops C R F Q fuel (listed.setIfInBounds i true)) S a

variable {F : Nat → Option (Known R)} {Q : Array Bool → Facts → Act → Prop}

theorem wpAnyG_inh {n : Nat} {listed : Array Bool} {S : Facts} {a : Act} (h : Inh C S → wpAnyG P md ops C R F Q n listed S a) : wpAnyG P md ops C R F Q n listed S a := by
  cases n <;> exact fun hi => h hi hi

/-- what an operation may come to, and where it goes on -/
theorem grow_on {i : Nat} {o : Oper} {S : Facts} {a : Act} {w : World} {g : Known R} {K : Facts → Act → Prop} {N : Act → World → Prop} (hCR : ∀ w w', C w → R w w' → C w') (hk : S.kept R) (hw : C w) (hS : S.all w)
    (hwant : Region.wanted o (yielded ops a.tmps) = true) (hok : okFor P ops C R F i o S a g) (hK : ∀ x, K (S.add o (g.fact x)) (a.put o.dst (g.val x)))
    (hN : ∀ S' a' w', S'.kept R → C w' → S'.all w' → K S' a' → N a' w') :
    growAt P o a w fun u w' => N (a.put o.dst u) w' := by
  unfold okFor at hok
  rw [if_pos hwant] at hok
  cases hF : F i with
  | none =>
    simp only [hF] at hok
    obtain ⟨v, rfl, hr⟩ := hok
    have hr := hr w hw (Facts.at_of_all hS)
    have hK := hK ()
    simp only [Known.exact, Facts.add_none] at hK
    unfold readAt at hr
    unfold growAt
    generalize (execOp a.eval o).run P w = r at *
    cases r with
    | ok n w' =>
      cases n <;> simp only [readUpon] at hr <;> simp only [growUpon]
      case value u => obtain ⟨rfl, rfl⟩ := hr; exact hN S _ _ hk hw hS hK
      case skip => obtain ⟨rfl, rfl⟩ := hr; exact hN S _ _ hk hw hS hK
    | halt x w' => simp only [readUpon] at hr
  | some g' =>
    simp only [hF] at hok
    obtain ⟨rfl, hr⟩ := hok
    have hr := hr w hw (Facts.at_of_all hS)
    have on : ∀ u w', (R w w' ∧ ∃ x, u = g.val x ∧ ∀ φ, g.fact x = some φ → φ w') → N (a.put o.dst u) w' := by
      rintro u w' ⟨hR, x, rfl, hx⟩
      exact hN _ _ _ (Facts.kept_add hk o g x) (hCR _ _ hw hR) (Facts.all_add.2 ⟨hx, Facts.all_kept hk hS hR⟩) (hK x)
    unfold growAt at hr ⊢
    generalize (execOp a.eval o).run P w = r at *
    cases r with
    | ok n w' =>
      cases n <;> simp only [growUpon] at hr ⊢
      case value u => exact on _ _ hr
      case skip => exact on _ _ hr
      case enter f args =>
        obtain ⟨rfl, hc⟩ := hr
        exact ⟨rfl, hc.mono fun e w'' ⟨u, he, hG⟩ => ⟨u, he, on _ _ hG⟩⟩
    | halt x w' => simp only [growUpon] at hr
theorem wp_of_grow {o : Oper} {a : Act} {w : World} {N : Act → World → Prop} {Q' : Exit → Act → World → Prop} (h : growAt P o a w fun u w' => N (a.put o.dst u) w') : o.wp P a w N Q' := by
  unfold growAt at h
  unfold Oper.wp
  generalize (execOp a.eval o).run P w = r at *
  cases r with
  | ok n w' =>
    cases n <;> simp only [growUpon] at h <;> simp only [Oper.upon]
    case value u => exact h
    case skip => exact h
    case enter f args =>
      obtain ⟨rfl, hc⟩ := h
      refine hc.mono fun e w'' ⟨u, he, hG⟩ => ?_
      subst he
      exact hG
  | halt x w' => simp only [growUpon] at h
def noDefer (o : Oper) : Bool := match o.op with | .defer _ => false | _ => true
theorem wpIn_of_grow {l n : Nat} {o : Oper} {a : Act} {w : World} {N : Act → World → Prop} {Q' : Exit → Act → World → Prop} (hd : noDefer o = true) (h : growAt P o a w fun u w' => N (a.put o.dst u) w') : o.wpIn (Fence.wide.inRound l) n P a w N Q' := by
  refine ⟨fun _ _ => trivial, ?_⟩
  rw [Oper.semAt_eq _ _ _ (fun c hc => by unfold noDefer at hd; rw [hc] at hd; cases hd)]
  unfold growAt at h
  generalize (execOp a.eval o).run P w = r at *
  cases r with
  | ok m w' =>
    cases m <;> simp only [growUpon] at h <;> simp only [Oper.uponIn]
    case value u => exact h
    case skip => exact h
    case enter f args =>
      obtain ⟨rfl, hc⟩ := h
      refine ⟨fun hx => (by cases hx), ?_⟩
      show CallsIn Fence.wide (n - 1) P f args w' _
      refine callsIn_wide.2 (hc.mono fun e w'' ⟨u, he, hG⟩ => ?_)
      subst he
      exact hG
  | halt x w' => simp only [growUpon] at h

theorem ready_fuel {listed : Array Bool} {X : Prop} (h : Region.ready md ops listed ≠ []) : Region.ready md ops listed = [] → X := fun e => absurd e h

theorem wpAny_of_G {Q' : Exit → Act → World → Prop} (hCR : ∀ w w', C w → R w w' → C w') (rest : Nat) (hQ : ∀ listed S a w, C w → S.all w → Q listed S a → wpAny P md ops Q' rest listed a w) :
    ∀ (fuel : Nat) (listed : Array Bool) (S : Facts) (a : Act) (w : World), S.kept R → C w → S.all w → wpAnyG P md ops C R F Q fuel listed S a → wpAny P md ops Q' (fuel + rest) listed a w
  | 0, _, _, _, w, _, hw, hS, h => by rw [Nat.zero_add]; exact hQ _ _ _ _ hw hS (h ⟨w, hw, hS⟩)
  | fuel + 1, listed, S, a, w, hk, hw, hS, h => by
    have h := h ⟨w, hw, hS⟩
    rw [show fuel + 1 + rest = (fuel + rest) + 1 by omega]
    refine ⟨ready_fuel h.1, fun i hi => ?_⟩
    have h2 := h.2 i hi
    unfold gOp at h2
    unfold wpOp
    cases ho : ops[i]? with
    | none => simp only [ho] at h2 ⊢; exact wpAny_of_G hCR rest hQ fuel _ S a w hk hw hS h2
    | some o =>
      simp only [ho] at h2 ⊢
      obtain ⟨g, hok, hK⟩ := h2
      by_cases hwant : Region.wanted o (yielded ops a.tmps) = true
      · rw [if_pos hwant]
        exact .inl (wp_of_grow (grow_on hCR hk hw hS hwant hok hK fun S' a' w' hk' hw' hS' hA => wpAny_of_G hCR rest hQ fuel _ S' a' w' hk' hw' hS' hA))
      · unfold okFor at hok
        rw [if_neg hwant] at hok ⊢
        subst hok
        have hK := hK ()
        simp only [Known.exact, Facts.add_none] at hK
        exact wpAny_of_G hCR rest hQ fuel _ S _ w hk hw hS hK
theorem wpAnyIn_of_G {l n : Nat} {Q' : Exit → Act → World → Prop} (hd : ∀ (j : Nat) (o : Oper), ops[j]? = some o → noDefer o = true) (hCR : ∀ w w', C w → R w w' → C w') (rest : Nat) (hQ : ∀ listed S a w, C w → S.all w → Q listed S a → wpAnyIn (Fence.wide.inRound l) n P md ops Q' rest listed a w) :
    ∀ (fuel : Nat) (listed : Array Bool) (S : Facts) (a : Act) (w : World), S.kept R → C w → S.all w → wpAnyG P md ops C R F Q fuel listed S a → wpAnyIn (Fence.wide.inRound l) n P md ops Q' (fuel + rest) listed a w
  | 0, _, _, _, w, _, hw, hS, h => by rw [Nat.zero_add]; exact hQ _ _ _ _ hw hS (h ⟨w, hw, hS⟩)
  | fuel + 1, listed, S, a, w, hk, hw, hS, h => by
    have h := h ⟨w, hw, hS⟩
    rw [show fuel + 1 + rest = (fuel + rest) + 1 by omega]
    refine ⟨ready_fuel h.1, fun i hi => ?_⟩
    have h2 := h.2 i hi
    unfold gOp at h2
    unfold wpOpIn
    cases ho : ops[i]? with
    | none => simp only [ho] at h2 ⊢; exact wpAnyIn_of_G hd hCR rest hQ fuel _ S a w hk hw hS h2
    | some o =>
      simp only [ho] at h2 ⊢
      obtain ⟨g, hok, hK⟩ := h2
      by_cases hwant : Region.wanted o (yielded ops a.tmps) = true
      · rw [if_pos hwant]
        exact wpIn_of_grow (hd i o ho) (grow_on hCR hk hw hS hwant hok hK fun S' a' w' hk' hw' hS' hA => wpAnyIn_of_G hd hCR rest hQ fuel _ S' a' w' hk' hw' hS' hA)
      · unfold okFor at hok
        rw [if_neg hwant] at hok ⊢
        subst hok
        have hK := hK ()
        simp only [Known.exact, Facts.add_none] at hK
        exact ⟨fun _ _ => trivial, wpAnyIn_of_G hd hCR rest hQ fuel _ S _ w hk hw hS hK⟩

/-- an operation that may run has an outcome -/
theorem okFor_out (hCR : ∀ w w', C w → R w w' → C w') {i : Nat} {o : Oper} {S : Facts} {a : Act} {g : Known R} (hk : S.kept R) (h : okFor P ops C R F i o S a g) (hI : Inh C S) : ∃ x, Inh C (S.add o (g.fact x)) := by
  obtain ⟨w, hw, hS⟩ := hI
  unfold okFor at h
  by_cases hwant : Region.wanted o (yielded ops a.tmps) = true
  · rw [if_pos hwant] at h
    cases hF : F i with
    | none =>
      simp only [hF] at h
      obtain ⟨v, rfl, _⟩ := h
      exact ⟨(), w, hw, by simp only [Known.exact, Facts.add_none]; exact hS⟩
    | some g' =>
      simp only [hF] at h
      obtain ⟨rfl, hr⟩ := h
      have hr := hr w hw (Facts.at_of_all hS)
      unfold growAt at hr
      have on : ∀ u w', (R w w' ∧ ∃ x, u = g.val x ∧ ∀ φ, g.fact x = some φ → φ w') → ∃ x, Inh C (S.add o (g.fact x)) := by
        rintro u w' ⟨hR, x, rfl, hx⟩
        exact ⟨x, w', hCR _ _ hw hR, Facts.all_add.2 ⟨hx, Facts.all_kept hk hS hR⟩⟩
      generalize (execOp a.eval o).run P w = r at *
      cases r with
      | ok n w' =>
        cases n <;> simp only [growUpon] at hr
        case value u => exact on _ _ hr
        case skip => exact on _ _ hr
        case enter f args =>
          obtain ⟨rfl, hc⟩ := hr
          obtain ⟨e, w'', _, ⟨u, _, hG⟩, _⟩ := hc []
          exact on _ _ hG
      | halt x w' => simp only [growUpon] at hr
  · rw [if_neg hwant] at h
    subst h
    exact ⟨(), w, hw, by simp only [Known.exact, Facts.add_none]; exact hS⟩

theorem okFor_one {i : Nat} {o : Oper} {S : Facts} {a : Act} {g g' : Known R} (h : okFor P ops C R F i o S a g) (h' : okFor P ops C R F i o S a g') (hI : Inh C S) : g = g' := by
  obtain ⟨w, hw, hS⟩ := hI
  unfold okFor at h h'
  by_cases hwant : Region.wanted o (yielded ops a.tmps) = true
  · rw [if_pos hwant] at h h'
    cases hF : F i with
    | none =>
      simp only [hF] at h h'
      obtain ⟨v, rfl, hv⟩ := h
      obtain ⟨v', rfl, hv'⟩ := h'
      have hv := hv w hw (Facts.at_of_all hS)
      have hv' := hv' w hw (Facts.at_of_all hS)
      unfold readAt at hv hv'
      have : v = v' := by
        generalize (execOp a.eval o).run P w = r at *
        cases r with
        | ok n w' => cases n <;> simp only [readUpon] at hv hv' <;> grind
        | halt x w' => simp only [readUpon] at hv
      rw [this]
    | some q =>
      simp only [hF] at h h'
      rw [h.1, h'.1]
  · rw [if_neg hwant] at h h'
    rw [h, h']

theorem okFor_more {i : Nat} {o : Oper} {S S' : Facts} {a : Act} {g : Known R} (h : okFor P ops C R F i o S a g) (hS : ∀ p, S p → S' p) : okFor P ops C R F i o S' a g := by
  have hat : ∀ w, S'.at ops o w → S.at ops o w := fun w hw p hp => hw p (hS p hp)
  unfold okFor at *
  split
  · rename_i hwant
    rw [if_pos hwant] at h
    cases hF : F i with
    | none => simp only [hF] at h ⊢; obtain ⟨v, e, hv⟩ := h; exact ⟨v, e, fun w hw ha => hv w hw (hat w ha)⟩
    | some q => simp only [hF] at h ⊢; exact ⟨h.1, fun w hw ha => h.2 w hw (hat w ha)⟩
  · rename_i hwant
    rw [if_neg hwant] at h; exact h

/-- state and facts of an operation that stands apart make no difference -/
theorem okFor_apart {j : Nat} {oi oj : Oper} {S : Facts} {a : Act} {u : Value} {φ : Option (World → Prop)} {g : Known R} (hap : oi.apart ops oj = true) (hsj : ∀ cs b, oj.op ≠ .select cs b)
    (h : okFor P ops C R F j oj (S.add oi φ) (a.put oi.dst u) g) : okFor P ops C R F j oj S a g := by
  obtain ⟨h1, h2, h3⟩ := Oper.apart_spec hap
  have hat : ∀ w, S.at ops oj w → (S.add oi φ).at ops oj w := by
    rintro w hw p (⟨ψ, hψ, rfl⟩ | hp) hap'
    · simp only [hap] at hap'; cases hap'
    · exact hw p hp hap'
  unfold okFor growAt readAt at *
  rw [wanted_put oj a oi.dst u h1, execOp_put oj hsj a oi.dst u h1] at h
  split
  · rename_i hwant
    rw [if_pos hwant] at h
    cases hF : F j with
    | none => simp only [hF] at h ⊢; obtain ⟨v, e, hv⟩ := h; exact ⟨v, e, fun w hw ha => hv w hw (hat w ha)⟩
    | some q => simp only [hF] at h ⊢; exact ⟨h.1, fun w hw ha => h.2 w hw (hat w ha)⟩
  · rename_i hwant
    rw [if_neg hwant] at h; exact h
theorem okFor_keep {i : Nat} {oi oj : Oper} {S : Facts} {a : Act} {u : Value} {g : Known R} (hap : oi.apart ops oj = true) (hsi : ∀ cs b, oi.op ≠ .select cs b)
    (h : okFor P ops C R F i oi S a g) : okFor P ops C R F i oi S (a.put oj.dst u) g := by
  obtain ⟨h1, h2, h3⟩ := Oper.apart_spec hap
  unfold okFor growAt readAt at *
  rw [wanted_put oi a oj.dst u h3, execOp_put oi hsi a oj.dst u h3]
  exact h

theorem wpAnyG_first (hCR : ∀ w w', C w → R w w' → C w') {n i : Nat} {oi : Oper} (hi : ops[i]? = some oi) (hsel : ∀ (j : Nat) (o : Oper) cs b, ops[j]? = some o → o.op ≠ .select cs b) (hin : i < n)
    (htail : ∀ listed, HeadInv md ops n listed → ∀ i, i < n → listed.getD i true = false → ∀ j ∈ Region.ready md ops listed, j < n)
    (hdone : ∀ listed S a, Q listed S a → ∀ j ∈ Region.ready md ops listed, n ≤ j) :
    ∀ (fuel : Nat) (listed : Array Bool) (S : Facts) (a : Act) (g : Known R), S.kept R → HeadInv md ops n listed →
      (∀ j oj, ops[j]? = some oj → j ≠ i → listed.getD j true = false → (∀ e ∈ oj.after, Region.binds md e = true → e.on ≠ i) → oi.apart ops oj = true) →
      i ∈ Region.ready md ops listed → okFor P ops C R F i oi S a g →
      (∀ x, wpAnyG P md ops C R F Q fuel (listed.setIfInBounds i true) (S.add oi (g.fact x)) (a.put oi.dst (g.val x))) → wpAnyG P md ops C R F Q (fuel + 1) listed S a := by
  intro fuel
  induction fuel with
  | zero =>
    intro listed S a g hk inv _ hr hok H hI
    have hun := (mem_ready.1 hr).1
    refine ⟨fun h => (by rw [h] at hr; cases hr), fun j hj => ?_⟩
    have hjn := htail listed inv i hin hun j hj
    by_cases hji : j = i
    · subst hji; unfold gOp; simp only [hi]; exact ⟨g, hok, H⟩
    · obtain ⟨x, hx⟩ := okFor_out hCR hk hok hI
      have := hdone _ _ _ (H x hx) j (ready_mono hj hji)
      omega
  | succ fuel ih =>
    intro listed S a g hk inv hfree hr hok H hI
    have hun := (mem_ready.1 hr).1
    refine ⟨fun h => (by rw [h] at hr; cases hr), fun j hj => ?_⟩
    have hjn := htail listed inv i hin hun j hj
    by_cases hji : j = i
    · subst hji; unfold gOp; simp only [hi]; exact ⟨g, hok, H⟩
    · obtain ⟨hjun, oj, hoj, hall⟩ := mem_ready.1 hj
      have hnot : ∀ e ∈ oj.after, Region.binds md e = true → e.on ≠ i := fun e he hb heq => by
        have h1 := hall e he hb
        rw [heq, getD_both hun] at h1
        cases h1
      have hap := hfree j oj hoj hji hjun hnot
      have hsi : ∀ cs b, oi.op ≠ .select cs b := fun cs b => hsel i oi cs b hi
      have hsj : ∀ cs b, oj.op ≠ .select cs b := fun cs b => hsel j oj cs b hoj
      have hfree' : ∀ k ok, ops[k]? = some ok → k ≠ i → (listed.setIfInBounds j true).getD k true = false →
          (∀ e ∈ ok.after, Region.binds md e = true → e.on ≠ i) → oi.apart ops ok = true := fun k ok hk hki hun hno => by
        refine hfree k ok hk hki ?_ hno
        by_cases hjk : j = k
        · subst hjk; exact hjun
        · rw [getD_set_ne true hjk] at hun; exact hun
      have step : ∀ x, Inh C (S.add oi (g.fact x)) → ∃ gj, okFor P ops C R F j oj S a gj ∧ ∀ y, wpAnyG P md ops C R F Q fuel ((listed.setIfInBounds i true).setIfInBounds j true) ((S.add oi (g.fact x)).add oj (gj.fact y)) ((a.put oi.dst (g.val x)).put oj.dst (gj.val y)) := by
        intro x hx
        have h2 := (H x hx).2 j (ready_mono hj hji)
        unfold gOp at h2
        simp only [hoj] at h2
        obtain ⟨gj, hgj, hK⟩ := h2
        exact ⟨gj, okFor_apart hap hsj hgj, hK⟩
      obtain ⟨x1, hx1⟩ := okFor_out hCR hk hok hI
      obtain ⟨gj, hgj, _⟩ := step x1 hx1
      unfold gOp
      simp only [hoj]
      refine ⟨gj, hgj, fun y => ?_⟩
      refine ih (listed.setIfInBounds j true) (S.add oj (gj.fact y)) (a.put oj.dst (gj.val y)) g (Facts.kept_add hk oj gj y) (inv.set hj hjn) hfree' (ready_mono hr (Ne.symm hji))
        (okFor_keep hap hsi (okFor_more hok fun p hp => .inr hp)) fun x => wpAnyG_inh fun hI2 => ?_
      have hx : Inh C (S.add oi (g.fact x)) := by
        obtain ⟨w, hw, hS⟩ := hI2
        rw [Facts.add_comm] at hS
        exact ⟨w, hw, (Facts.all_add.1 hS).2⟩
      obtain ⟨gj', hgj', hK⟩ := step x hx
      obtain rfl := okFor_one hgj hgj' hI
      have := hK y
      rw [Facts.add_comm, Act.put_comm a _ _ (fun d hd => (Oper.apart_spec hap).2.1 d hd), Array.setIfInBounds_comm _ _ (Ne.symm hji)] at this
      exact this

/-- the lexical walk -/
def wpG (P : Program) (ops : Array Oper) (C : World → Prop) (R : World → World → Prop) (F : Nat → Option (Known R)) (Q : Facts → Act → Prop) : Nat → List Oper → Facts → Act → Prop
  | _, [], S, a => Q S a
  | k, o :: rest, S, a => if Region.wanted o (yielded ops a.tmps) = true then
      match F k with
      | none => ∃ v, (∀ w, C w → S.at ops o w → readAt P o a w v) ∧ wpG P ops C R F Q (k + 1) rest S (a.put o.dst v)
      | some g => (∀ w, C w → S.at ops o w → growAt P o a w fun u w' => R w w' ∧ ∃ x, u = g.val x ∧ ∀ φ, g.fact x = some φ → φ w') ∧ ∀ x, wpG P ops C R F Q (k + 1) rest (S.add o (g.fact x)) (a.put o.dst (g.val x))
    else wpG P ops C R F Q (k + 1) rest S (a.put o.dst undef)

theorem wpG_out {Q : Facts → Act → Prop} {k : Nat} {o : Oper} {rest : List Oper} {S : Facts} {a : Act} (h : wpG P ops C R F Q k (o :: rest) S a) :
    ∃ g, okFor P ops C R F k o S a g ∧ ∀ x, wpG P ops C R F Q (k + 1) rest (S.add o (g.fact x)) (a.put o.dst (g.val x)) := by
  unfold wpG at h
  unfold okFor
  split at h
  · rename_i hwant
    simp only [hwant, if_true]
    cases hF : F k with
    | none => simp only [hF] at h; obtain ⟨v, h1, h2⟩ := h; exact ⟨.exact R v, ⟨v, rfl, h1⟩, fun _ => by simpa only [Known.exact, Facts.add_none] using h2⟩
    | some g => simp only [hF] at h; exact ⟨g, ⟨rfl, h.1⟩, h.2⟩
  · rename_i hwant
    exact ⟨.exact R undef, by rw [if_neg hwant], fun _ => by simpa only [Known.exact, Facts.add_none] using h⟩

/-- the order of the text, up to the tail -/
theorem wpAnyG_lex {Q : Facts → Act → Prop} (hCR : ∀ w w', C w → R w w' → C w') {n g : Nat} (hs : Region.noSelect ops = true)
    (htail : ∀ listed, HeadInv md ops n listed → ∀ i, i < n → listed.getD i true = false → ∀ j ∈ Region.ready md ops listed, j < n) :
    ∀ (l : List Oper) (k : Nat) (listed : Array Bool) (S : Facts) (a : Act), S.kept R → (∀ j, j < l.length → l[j]? = ops[k + j]?) → k + l.length = n → HeadInv md ops n listed →
    Region.lexHead md ops g l.length k listed = true → wpG P ops C R F Q k l S a → wpAnyG P md ops C R F (fun listed' S' a' => Region.seqB md ops g n listed' = true ∧ Q S' a') l.length listed S a
  | [], k, listed, _, _, _, _, hk, _, hB, h => fun _ => by
    have : k = n := by simpa using hk
    subst this
    exact ⟨by simpa [Region.lexHead] using hB, h⟩
  | o :: l, k, listed, S, a, hk, hl, hkn, inv, hB, h => by
    have h0 : ops[k]? = some o := by simpa using (hl 0 (by simp)).symm
    simp only [List.length_cons, Region.lexHead, Bool.and_eq_true] at hB
    obtain ⟨⟨hr, hf⟩, hB'⟩ := hB
    have hkn' : k < n := by simp only [List.length_cons] at hkn; omega
    have hr' : k ∈ Region.ready md ops listed := by simpa using hr
    obtain ⟨gg, hg, hK⟩ := wpG_out h
    exact wpAnyG_first hCR h0 (Region.noSelect_spec hs) hkn' htail (fun listed' S' a' hL => seqB_ready hL.1) l.length listed S a gg hk inv (Region.free_spec h0 hf) hr' hg
      fun x => wpAnyG_lex hCR hs htail l (k + 1) _ _ _ (Facts.kept_add hk o gg x) (fun j hj => by have := hl (j + 1) (by simp; omega); simpa [Nat.add_assoc, Nat.add_comm 1 j] using this) (by simp only [List.length_cons] at hkn; omega) (inv.set hr' hkn') hB' (hK x)

theorem wpAnyIn_of_seq {F : Fence} {m : Nat} {Q' : Exit → Act → World → Prop} : ∀ (l : List Oper) (k : Nat) (listed : Array Bool) (a : Act) (w : World), (∀ j, l[j]? = ops[k + j]?) →
    Region.seqB md ops l.length k listed = true → wpListIn F m P ops Q' l a w → wpAnyIn F m P md ops Q' l.length listed a w
  | [], _, _, _, _, _, hB, h => ⟨by simpa [Region.seqB] using hB, h⟩
  | o :: l, k, listed, a, w, hl, hB, h => by
    have h0 : ops[k]? = some o := by simpa using (hl 0).symm
    simp only [List.length_cons, Region.seqB, Bool.and_eq_true, decide_eq_true_eq] at hB
    refine ⟨fun h1 => (by rw [hB.1] at h1; cases h1), fun i hi => ?_⟩
    rw [hB.1] at hi
    have hik : i = k := by simpa using hi
    subst hik
    have ih := fun a' w' h' => wpAnyIn_of_seq (F := F) (m := m) (Q' := Q') l (i + 1) (listed.setIfInBounds i true) a' w' (fun j => by have := hl (j + 1); simpa [Nat.add_assoc, Nat.add_comm 1 j] using this) hB.2 h'
    unfold wpOpIn
    simp only [h0]
    unfold wpListIn at h
    split
    · rename_i hw
      rw [if_pos hw] at h
      exact Oper.wpIn_mono (fun a' w' h' => ih a' w' h') h
    · rename_i hw
      rw [if_neg hw] at h
      exact ⟨h.1, ih _ _ h.2⟩

/-- what is asked of a region whose first n operations are taken in the text's order, the others one behind the other -/
def splitB (ops : Array Oper) (n : Nat) : Bool :=
  Region.noSelect ops && (decide (n = ops.size) || (decide (n < ops.size) && Region.sinkB .any ops n && Region.chainB .any ops n)) && Region.lexHead .any ops (ops.size - n) n 0 (Array.replicate ops.size false)
theorem split_tail {n : Nat} (h : splitB ops n = true) : Region.noSelect ops = true ∧ n ≤ ops.size ∧ Region.lexHead .any ops (ops.size - n) n 0 (Array.replicate ops.size false) = true ∧
    ∀ listed, HeadInv .any ops n listed → ∀ i, i < n → listed.getD i true = false → ∀ j ∈ Region.ready .any ops listed, j < n := by
  simp only [splitB, Bool.and_eq_true, Bool.or_eq_true, decide_eq_true_eq] at h
  obtain ⟨⟨hs, hn⟩, hl⟩ := h
  rcases hn with rfl | ⟨⟨hn, h1⟩, h2⟩
  · exact ⟨hs, Nat.le_refl _, hl, fun listed _ i _ _ j hj => by obtain ⟨_, o, ho, _⟩ := mem_ready.1 hj; exact (Array.getElem?_eq_some_iff.1 ho).1⟩
  · refine ⟨hs, Nat.le_of_lt hn, hl, fun listed inv i hi hun j hj => ?_⟩
    rcases Nat.lt_or_ge j n with h | h
    · exact h
    · exact absurd hj (tail_waits h1 h2 hn inv _ i rfl hi hun j h)

/-- ONE WALK OF THE TEXT'S ORDER, the tail one operation behind the other -/
theorem wp_region_grown {id : Nat} {Q : Exit → Act → World → Prop} {a : Act} {w : World} {l : List Oper} (F : Nat → Option (Known R)) (n : Nat) (hm : P.follows .mixedOrders = true) (hB : splitB l.toArray n = true)
    (hCR : ∀ w w', C w → R w w' → C w') (hC : C w.drew)
    (h : wpG P l.toArray C R F (fun S a' => ∀ w', C w' → S.all w' → wpList P l.toArray Q (l.drop n) a' w') 0 (l.take n) Facts.none a) : (Code.region id l.toArray true).wp P Q a w := by
  obtain ⟨hs, hn, hlex, htail⟩ := split_tail hB
  have hk : Facts.none.kept R := fun p hp => hp.elim
  have ha : ∀ w', Facts.none.all w' := fun w' p hp => hp.elim
  have hn' : n ≤ l.length := by simpa using hn
  have htl : (l.take n).length = n := by simp; omega
  have hdl : (l.drop n).length = l.toArray.size - n := by simp
  have inv0 : HeadInv .any l.toArray n (Array.replicate l.toArray.size false) :=
    ⟨by simp, fun j oj _ hl => (by rw [getD_replicate_false] at hl; cases hl), fun t _ ht => getD_in (by simpa using ht) (getD_replicate_false _ _)⟩
  have H := wpAnyG_lex hCR hs htail (l.take n) 0 _ Facts.none a hk (fun j hj => by
    have hj' : j < n := by rw [htl] at hj; exact hj
    simp [hj']) (by simpa using htl) inv0 (by rw [htl]; exact hlex) h
  have := wpAny_of_G (Q' := Q) hCR (l.toArray.size - n) (fun listed S a' w' hw hS hL => by
    have := wpAny_of_seq (md := .any) (Q' := Q) (l.drop n) n listed a' w' (fun j => by simp [List.getElem?_drop]) (by rw [hdl]; exact hL.1) (hL.2 w' hw hS)
    rwa [hdl] at this) _ _ _ _ _ hk hC (ha _) H
  rw [htl, show n + (l.toArray.size - n) = l.toArray.size by omega] at this
  exact wp_region_any hm this

/-- .. in a round of a range over a function -/
theorem wpIn_region_grown {id k r : Nat} {Q : Exit → Act → World → Prop} {a : Act} {w : World} {l : List Oper} (F : Nat → Option (Known R)) (n : Nat) (hm : P.follows .mixedOrders = true) (hB : splitB l.toArray n = true) (hd : l.all noDefer = true)
    (hCR : ∀ w w', C w → R w w' → C w') (hC : C w.drew)
    (h : wpG P l.toArray C R F (fun S a' => ∀ w', C w' → S.all w' → wpListIn (Fence.wide.inRound r) k P l.toArray Q (l.drop n) a' w') 0 (l.take n) Facts.none a) : (Code.region id l.toArray true).wpIn (Fence.wide.inRound r) k P Q a w := by
  obtain ⟨hs, hn, hlex, htail⟩ := split_tail hB
  have hk : Facts.none.kept R := fun p hp => hp.elim
  have ha : ∀ w', Facts.none.all w' := fun w' p hp => hp.elim
  have hn' : n ≤ l.length := by simpa using hn
  have htl : (l.take n).length = n := by simp; omega
  have hdl : (l.drop n).length = l.toArray.size - n := by simp
  have inv0 : HeadInv .any l.toArray n (Array.replicate l.toArray.size false) :=
    ⟨by simp, fun j oj _ hl => (by rw [getD_replicate_false] at hl; cases hl), fun t _ ht => getD_in (by simpa using ht) (getD_replicate_false _ _)⟩
  have H := wpAnyG_lex hCR hs htail (l.take n) 0 _ Facts.none a hk (fun j hj => by
    have hj' : j < n := by rw [htl] at hj; exact hj
    simp [hj']) (by simpa using htl) inv0 (by rw [htl]; exact hlex) h
  have := wpAnyIn_of_G (l := r) (n := k) (Q' := Q) (fun j o ho => List.all_eq_true.1 hd o (List.mem_of_getElem? (by simpa using ho))) hCR (l.toArray.size - n) (fun listed S a' w' hw hS hL => by
    have := wpAnyIn_of_seq (md := .any) (F := Fence.wide.inRound r) (m := k) (Q' := Q) (l.drop n) n listed a' w' (fun j => by simp [List.getElem?_drop]) (by rw [hdl]; exact hL.1) (hL.2 w' hw hS)
    rwa [hdl] at this) _ _ _ _ _ hk hC (ha _) H
  rw [htl, show n + (l.toArray.size - n) = l.toArray.size by omega] at this
  exact wpIn_region_any hm this
end
end Go.Proofs.YtbcjfppdeapamaaDoor
namespace Go.Proofs.YtbcjfppdeapamaaDoor
open Go.RowKit

attribute [go_sem] growAt growUpon
/-- the one world is the other one, grown -/
def Bel (w w' : World) : Prop := Below w.heap.size w w'
theorem Bel.refl (w : World) : Bel w w := Below.refl _ _
theorem Bel.trans {a b c : World} (h : Bel a b) (k : Bel b c) : Bel a c := bt h k

/-- which slots are known by what: by the number of the operation in its region -/
def knownAt {R : World → World → Prop} : List (Nat × Known R) → Nat → Option (Known R)
  | [], _ => none
  | (n, g) :: l, k => if n = k then some g else knownAt l k

def plainOp : Op → Bool
  | .move _ | .assign _ | .pick .. | .load .. | .binOp .. | .unOp .. | .convert .. | .slice .. | .fieldAddr .. | .field .. | .indexAddr .. | .index .. | .extract .. | .build .. | .makeInterface .. | .makeFunc .. => true
  | .call { callee := .builtin .len, .. } | .call { callee := .builtin .cap, .. } | .call { callee := .builtin .min, .. } | .call { callee := .builtin .max, .. } => true
  | _ => false

section
variable {P : Program} {ops : Array Oper} {C : World → Prop} {R : World → World → Prop} {F : Nat → Option (Known R)} {Q : Facts → Act → Prop}

theorem no_enter {α : Type} {r : Result α} {g : α → Value} {f : FuncId} {args : Array Value} {w : World} : r.andThen (fun x w => .ok (Next.value (g x)) w) ≠ .ok (.enter f args) w := by
  cases r <;> simp [Result.andThen]
theorem plain_no_enter {ρ : Operand → Value} {o : Oper} (h : plainOp o.op = true) {w w' : World} {f : FuncId} {args : Array Value} : (execOp ρ o).run P w ≠ .ok (.enter f args) w' := by
  unfold execOp
  unfold plainOp at h
  split at h
  all_goals first
    | (rename_i he; simp only [he]; simp only [Sem.run_bind, Sem.run_pure]; first | exact no_enter | exact no_enter (g := fun x => x) | (simp; done))
    | (rename_i he; simp only [he, resolve, invoke, builtin, Sem.run_bind, Sem.run_pure, Result.andThen_ok]; exact no_enter (g := fun x => x))
    | cases h

theorem readAt_of_quiet {o : Oper} {a : Act} {C' : World → Prop} {w : World} {v : Value} (hp : plainOp o.op = true) (h : o.quietAt P a C' w v) : readAt P o a w v := by
  unfold Oper.quietAt at h
  unfold readAt
  have hne := fun f args w' => plain_no_enter (P := P) (ρ := a.eval) hp (w := w) (w' := w') (f := f) (args := args)
  generalize (execOp a.eval o).run P w = r at *
  cases r with
  | ok n w' =>
    cases n <;> simp only [Oper.quietUpon] at h <;> simp only [readUpon]
    case value u => exact h
    case skip => exact h
    case enter f args => exact absurd rfl (hne f args w')
  | halt x w' => simp only [Oper.quietUpon] at h

theorem wpG_skip {k : Nat} {o : Oper} {rest : List Oper} {S : Facts} {a : Act} (hw : Region.wanted o (yielded ops a.tmps) = false)
    (h : ∀ K : Act → Prop, (∀ a, wpG P ops C R F Q (k + 1) rest S a → K a) → wpQuiet P ops C K [o] a) : wpG P ops C R F Q k (o :: rest) S a := by
  have := h _ fun _ h => h
  unfold wpQuiet at this
  rw [if_neg (by rw [hw]; exact Bool.false_ne_true)] at this
  unfold wpG
  rw [if_neg (by rw [hw]; exact Bool.false_ne_true)]
  exact this
theorem wpG_quiet {k : Nat} {o : Oper} {rest : List Oper} {S : Facts} {a : Act} (hF : F k = none) (hp : plainOp o.op = true)
    (h : ∀ K : Act → Prop, (∀ a, wpG P ops C R F Q (k + 1) rest S a → K a) → wpQuiet P ops (fun _ => True) K [o] a) : wpG P ops C R F Q k (o :: rest) S a := by
  have := h _ fun _ h => h
  unfold wpQuiet at this
  unfold wpG
  split
  · rename_i hw
    rw [if_pos hw] at this
    obtain ⟨v, h1, h2⟩ := this
    simp only [hF]
    exact ⟨v, fun w hw _ => readAt_of_quiet hp (h1 w trivial), h2⟩
  · rename_i hw
    rw [if_neg hw] at this
    exact this
theorem wpG_known {k : Nat} {o : Oper} {rest : List Oper} {S : Facts} {a : Act} (g : Known R) (hF : F k = some g) (hw : Region.wanted o (yielded ops a.tmps) = true)
    (h1 : ∀ (w' : World) (G : Value → World → Prop), C w' → S.at ops o w' → (∀ x w'', R w' w'' → (∀ φ, g.fact x = some φ → φ w'') → G (g.val x) w'') → growAt P o a w' G)
    (h2 : ∀ x (K : Act → Prop), (∀ a, wpG P ops C R F Q (k + 1) rest (S.add o (g.fact x)) a → K a) → K (a.put o.dst (g.val x))) : wpG P ops C R F Q k (o :: rest) S a := by
  unfold wpG
  rw [if_pos hw]
  simp only [hF]
  exact ⟨fun w' hC hS => h1 w' _ hC hS fun x w'' hR hφ => ⟨hR, x, rfl, hφ⟩, fun x => h2 x _ fun _ h => h⟩
/-- a slot whose value is told -/
theorem wpG_exact {k : Nat} {o : Oper} {rest : List Oper} {S : Facts} {a : Act} {v : Value} (hF : F k = some (.exact R v)) (hw : Region.wanted o (yielded ops a.tmps) = true)
    (h1 : ∀ (w' : World) (G : Value → World → Prop), C w' → S.at ops o w' → (∀ w'', R w' w'' → G v w'') → growAt P o a w' G)
    (h2 : ∀ (K : Act → Prop), (∀ a, wpG P ops C R F Q (k + 1) rest S a → K a) → K (a.put o.dst v)) : wpG P ops C R F Q k (o :: rest) S a := by
  refine wpG_known (.exact R v) hF hw (fun w' G hC hS hG => h1 w' G hC hS fun w'' hR => hG () w'' hR (fun _ h => by cases h)) (fun x K hK => h2 K fun a ha => hK a ?_)
  simp only [Known.exact, Facts.add_none]
  exact ha

/-- a nil check that passes -/
theorem wpG_nilOk {k : Nat} {o : Oper} {rest : List Oper} {S : Facts} {a : Act} {x : Operand} {p : Addr} (hF : F k = none) (ho : o.op = .nilCheck x) (hx : a.eval x = .pointer (some p)) (hw : Region.wanted o (yielded ops a.tmps) = true)
    (h : ∀ (K : Act → Prop), (∀ a, wpG P ops C R F Q (k + 1) rest S a → K a) → K (a.put o.dst (.pointer (some p)))) : wpG P ops C R F Q k (o :: rest) S a := by
  unfold wpG
  rw [if_pos hw]
  simp only [hF]
  refine ⟨.pointer (some p), fun w _ _ => ?_, h _ fun _ h => h⟩
  unfold readAt execOp
  rw [ho]
  simp only [hx, Sem.run_pure, readUpon, and_self]
theorem at0 {S : Facts} {o o' : Oper} {φ : World → Prop} {w : World} (h : (S.add o (some φ)).at ops o' w) (ha : o.apart ops o' = false) : φ w := (Facts.at_some h).1 ha
theorem at_on {S : Facts} {o o' : Oper} {φ : Option (World → Prop)} {w : World} (h : (S.add o φ).at ops o' w) : S.at ops o' w := fun p hp => h p (.inr hp)
theorem at1 {S : Facts} {o o' o1 : Oper} {φ : World → Prop} {φ1 : Option (World → Prop)} {w : World} (h : ((S.add o (some φ)).add o1 φ1).at ops o' w) (ha : o.apart ops o' = false) : φ w := at0 (at_on h) ha
theorem at2 {S : Facts} {o o' o1 o2 : Oper} {φ : World → Prop} {φ1 φ2 : Option (World → Prop)} {w : World} (h : (((S.add o (some φ)).add o1 φ1).add o2 φ2).at ops o' w) (ha : o.apart ops o' = false) : φ w := at0 (at_on (at_on h)) ha
theorem at3 {S : Facts} {o o' o1 o2 o3 : Oper} {φ : World → Prop} {φ1 φ2 φ3 : Option (World → Prop)} {w : World} (h : ((((S.add o (some φ)).add o1 φ1).add o2 φ2).add o3 φ3).at ops o' w) (ha : o.apart ops o' = false) : φ w := at0 (at_on (at_on (at_on h))) ha

theorem all0 {S : Facts} {o : Oper} {φ : World → Prop} {w : World} (h : (S.add o (some φ)).all w) : φ w := (Facts.all_some.1 h).1
theorem all_on {S : Facts} {o : Oper} {φ : Option (World → Prop)} {w : World} (h : (S.add o φ).all w) : S.all w := fun p hp => h p (.inr hp)
theorem all1 {S : Facts} {o o1 : Oper} {φ : World → Prop} {φ1 : Option (World → Prop)} {w : World} (h : ((S.add o (some φ)).add o1 φ1).all w) : φ w := all0 (all_on h)
theorem all2 {S : Facts} {o o1 o2 : Oper} {φ : World → Prop} {φ1 φ2 : Option (World → Prop)} {w : World} (h : (((S.add o (some φ)).add o1 φ1).add o2 φ2).all w) : φ w := all0 (all_on (all_on h))

/-- one walk of the text's order, the world growing -/
theorem region_known {id : Nat} {Q : Exit → Act → World → Prop} {a : Act} {w : World} {l : List Oper} (L : List (Nat × Known Bel)) (hm : P.follows .mixedOrders = true) (hB : splitB l.toArray l.length = true)
    (h : wpG P l.toArray (Bel w) Bel (knownAt L) (fun S a' => ∀ w', Bel w w' → S.all w' → Q .normal a' w') 0 l Facts.none a) : (Code.region id l.toArray true).wp P Q a w :=
  wp_region_grown (knownAt L) l.length hm hB (fun _ _ h k => Bel.trans h k) (b_drew w) (by rw [List.take_length, List.drop_length]; exact h)
/-- .. up to the n-th operation, the others one behind the other -/
theorem region_tail {id : Nat} {Q : Exit → Act → World → Prop} {a : Act} {w : World} {l : List Oper} (n : Nat) (L : List (Nat × Known Bel)) (hm : P.follows .mixedOrders = true) (hB : splitB l.toArray n = true)
    (h : wpG P l.toArray (Bel w) Bel (knownAt L) (fun S a' => ∀ w', Bel w w' → S.all w' → wpList P l.toArray Q (l.drop n) a' w') 0 (l.take n) Facts.none a) : (Code.region id l.toArray true).wp P Q a w :=
  wp_region_grown (knownAt L) n hm hB (fun _ _ h k => Bel.trans h k) (b_drew w) h
theorem region_known_in {id k r : Nat} {Q : Exit → Act → World → Prop} {a : Act} {w : World} {l : List Oper} (L : List (Nat × Known Bel)) (hm : P.follows .mixedOrders = true) (hB : splitB l.toArray l.length = true) (hd : l.all noDefer = true)
    (h : wpG P l.toArray (Bel w) Bel (knownAt L) (fun S a' => ∀ w', Bel w w' → S.all w' → Q .normal a' w') 0 l Facts.none a) : (Code.region id l.toArray true).wpIn (Fence.wide.inRound r) k P Q a w :=
  wpIn_region_grown (knownAt L) l.length hm hB hd (fun _ _ h k => Bel.trans h k) (b_drew w) (by rw [List.take_length, List.drop_length]; exact h)
theorem region_tail_in {id k r : Nat} {Q : Exit → Act → World → Prop} {a : Act} {w : World} {l : List Oper} (n : Nat) (L : List (Nat × Known Bel)) (hm : P.follows .mixedOrders = true) (hB : splitB l.toArray n = true) (hd : l.all noDefer = true)
    (h : wpG P l.toArray (Bel w) Bel (knownAt L) (fun S a' => ∀ w', Bel w w' → S.all w' → wpListIn (Fence.wide.inRound r) k P l.toArray Q (l.drop n) a' w') 0 (l.take n) Facts.none a) : (Code.region id l.toArray true).wpIn (Fence.wide.inRound r) k P Q a w :=
  wpIn_region_grown (knownAt L) n hm hB hd (fun _ _ h k => Bel.trans h k) (b_drew w) h
/-- a callee's contract with a told result -/
theorem calls_told {f : FuncId} {args : Array Value} {w : World} {v : Value} {G : Value → World → Prop} (hG : ∀ w'', Bel w w'' → G v w'') (h : Calls P f args w fun e w' => e = .returned v ∧ Below w.heap.size w w') :
    Calls P f args w fun e w'' => ∃ u, e = .returned u ∧ G u w'' := h.mono fun _ _ ⟨he, hb⟩ => ⟨v, he, hG _ hb⟩
end
end Go.Proofs.YtbcjfppdeapamaaDoor
namespace Go.Proofs.YtbcjfppdeapamaaDoor
open Go.RowKit Oct

def recIns : Rec VI where
  cell x := [.int .u8 (x.1.toNat : Int), .int .u8 (x.2.toNat : Int)]
  e := 39
  n := 2
  bytes := 2
  z := .agg #[.int .u8 0, .int .u8 0]
  len := fun _ => rfl
  one := by intro x u h; simp at h; rcases h with rfl | rfl <;> rfl
  info := by kernel_rfl
  zs := rfl
  pos := by decide
  bpos := by decide
def recJ : Rec Int where
  cell x := [.int .i64 x]
  e := 3
  n := 1
  bytes := 8
  z := .int .i64 0
  len := fun _ => rfl
  one := by intro x u h; simp at h; subst h; rfl
  info := by kernel_rfl
  zs := rfl
  pos := by decide
  bpos := by decide
section
variable {α : Type} {R : Rec α}
theorem Rec.cells_set (R : Rec α) {j : Nat} (hj : j < R.n) {u : Value} {y : α} : ∀ (l : List α) (k : Nat) (hk : k < l.length), R.cell y = (R.cell l[k]).set j u → (R.cells l).set (k * R.n + j) u = R.cells (l.set k y)
  | x :: l, 0, _, hy => by
    simp only [Rec.cells, Nat.zero_mul, Nat.zero_add, List.set_cons_zero]
    rw [List.set_append_left _ _ (by rw [R.len]; exact hj)]
    rw [show R.cell y = (R.cell x).set j u from hy]
  | x :: l, k + 1, hk, hy => by
    simp only [Rec.cells, List.set_cons_succ]
    have hge : R.n ≤ (k + 1) * R.n := Nat.le_mul_of_pos_left R.n (Nat.succ_pos k)
    rw [List.set_append_right _ _ (by rw [R.len]; omega), R.len]
    rw [show (k + 1) * R.n + j - R.n = k * R.n + j by rw [Nat.add_mul]; omega]
    rw [Rec.cells_set R hj l k (by simpa using hk) hy]
theorem Rec.Own.setCell {w : World} {base g n c : Nat} {l : List α} (h : R.Own w base (.slice (some ⟨g, 0, none⟩) n c) l) {k : Nat} (hk : k < l.length) {y : α} {j : Nat} (hj : j < R.n) {u : Value} (hy : R.cell y = (R.cell l[k]).set j u) :
    R.Own (w.setCell ⟨g, k * R.n + j, none⟩ u) base (.slice (some ⟨g, 0, none⟩) n c) (l.set k y) := by
  obtain ⟨h1, h2⟩ := h
  refine ⟨by rw [Rec.cells_length], ?_⟩
  rcases h2 with ⟨hv, _⟩ | ⟨g', cap, cur, hv, hb, hh, r1, r2, r3, r4⟩
  · cases hv
  · cases hv
    have hb2 : Blk w g R.e cur.toList := by unfold Blk; rw [hh]
    have hs := hb2.set (k * R.n + j) u
    refine .inr ⟨g, c, (cur.toList.set (k * R.n + j) u).toArray, by rw [List.length_set], hb, hs, by rw [List.length_set]; exact r1, r2, by simpa using r3, ?_⟩
    rw [List.length_set]
    simp only [List.toList_toArray]
    rw [List.take_set, r4]
    exact Rec.cells_set R hj l k hk hy
/-- a row of the call's own, shortened -/
theorem Rec.Own.short {w : World} {base n c : Nat} {a : Option Addr} {l : List α} (h : R.Own w base (.slice a n c) l) (m : Nat) (hm : m ≤ l.length) : R.Own w base (.slice a m c) (l.take m) := by
  obtain ⟨h1, h2⟩ := h
  have hl : (l.take m).length = m := by rw [List.length_take]; omega
  refine ⟨by rw [Rec.cells_length], ?_⟩
  rcases h2 with ⟨hv, h0⟩ | ⟨g', cap, cur, hv, hb, hh, r1, r2, r3, r4⟩
  · have hz : l.length = 0 := h0
    obtain rfl : m = 0 := by omega
    cases hv
    exact .inl ⟨rfl, hl⟩
  · cases hv
    refine .inr ⟨g', c, cur, by rw [hl], hb, hh, by rw [hl]; omega, r2, r3, ?_⟩
    rw [hl, ← R.cells_take, ← r4, List.take_take, Nat.min_eq_left (Nat.mul_le_mul_right _ hm)]
end

section
variable {w w' : World} {base G : Nat} {tv cv bv sv ev : Value} {inp : Nat} {role : UInt8} {s : Vs}
end
end Go.Proofs.YtbcjfppdeapamaaDoor
namespace Go.Proofs.YtbcjfppdeapamaaDoor
open Go.RowKit Oct
theorem wpG_nilV3 {P : Program} {ops : Array Oper} {C : World → Prop} {R : World → World → Prop} {F : Nat → Option (Known R)} {Q : Facts → Act → Prop} {k : Nat} {S : Facts} {a : Act} (h : Q S a) : wpG P ops C R F Q k [] S a := h
attribute [local irreducible] wpG

section
variable {α : Type} {R : Rec α}
theorem Rec.Own.chgV {X : Nat → Prop} {w w' : World} {base : Nat} {v : Value} {l : List α} (h : R.Own w base v l) (hc : Chg X w w') (hX : ∀ k, v.ownBlock = some k → ¬ X k) : R.Own w' base v l := by
  obtain ⟨h1, h2⟩ := h
  refine ⟨h1, ?_⟩
  rcases h2 with h2 | ⟨g, cap, cur, rfl, hg, hh, r⟩
  · exact .inl h2
  · exact .inr ⟨g, cap, cur, rfl, hg, hc.at hh (hX g rfl), r⟩
theorem Rec.Own.ltV {w : World} {base : Nat} {v : Value} {l : List α} (h : R.Own w base v l) : ∀ b, v.ownBlock = some b → base ≤ b ∧ b < w.heap.size := fun b hb => World.ownsRow.lt h b hb
end
section
variable {w w' w3 : World} {base G : Nat} {tv cv bv sv ev bv' sv' : Value} {inp : Nat} {role : UInt8} {s : Vs}
/-- a row of the call's own that is not empty lies at the start of a block -/
theorem Rec.Own.at0 {α : Type} {R : Rec α} {a : Option Addr} {n c : Nat} {l : List α} (h : R.Own w base (.slice a n c) l) (hl : 0 < l.length) : ∃ g, a = some ⟨g, 0, none⟩ := by
  rcases h.2 with ⟨_, h0⟩ | ⟨g, cap, cur, hv, _⟩
  · have : l.length = 0 := h0
    omega
  · cases hv; exact ⟨g, rfl⟩

end
end Go.Proofs.YtbcjfppdeapamaaDoor
namespace Go.Proofs.YtbcjfppdeapamaaDoor
open Go.RowKit

section
variable {P : Program}
theorem ownsRow_chg {X : Nat → Prop} {w w' : World} {base : Nat} {e : TypeId} {size : Nat} {v : Value} {n : Nat} {xs : List Value} (h : w.ownsRow base e size v n xs) (hc : Chg X w w') (hX : ∀ k, base ≤ k → ¬ X k) : w'.ownsRow base e size v n xs := by
  obtain ⟨h1, h2⟩ := h
  refine ⟨h1, ?_⟩
  rcases h2 with h2 | ⟨g, cap, cur, hv, hg, hh, r⟩
  · exact .inl h2
  · exact .inr ⟨g, cap, cur, hv, hg, hc.at hh (hX g hg), r⟩
/-- append(s, x) in a round: one element, s the call's own -/
theorem append1In {F : Fence} {k : Nat} {ops : Array Oper} {rest : List Oper} {o : Oper} {a : Act} {Q : Exit → Act → World → Prop} (wr : World) (news : List Value) (e : TypeId) (hgd : o.guard = none) (s x : Operand) (t : TypeId)
    (ho : o.op = .call { callee := .builtin .append, args := #[s, x], argTypes := #[t, t] })
    (base : Nat) (z : Value) (size bytes : Nat) (ht : P.underlying t = some (.slice e)) (hinfo : (P.info? e).map (fun i => (i.zero, i.size, i.bytes)) = some (some z, size, bytes))
    (hzs : z.cells.size = size) (hsz : 0 < size) (v : Value) (n : Nat) (xs : List Value) (hs : a.eval s = v) (hown : wr.ownsRow base e size v n xs)
    (c : Nat) (hx : a.eval x = .slice (some ⟨wr.heap.size, 0, none⟩) 1 c) (hl : news.length = size) (h1 : ∀ u ∈ news, u.oneCell' = true)
    (hbytes : (n + 1) * bytes ≤ 140737488355328) (hby : 0 < bytes) (hbase : base ≤ wr.heap.size)
    (h : ∀ g cap w', w'.ownsRow base e size (.slice (some ⟨g, 0, none⟩) (n + 1) cap) (n + 1) (xs ++ news) → Below base wr w' → wpListIn F k P ops Q rest (a.put o.dst (.slice (some ⟨g, 0, none⟩) (n + 1) cap)) w') : wpListIn F k P ops Q (o :: rest) a (wr.alloc (.cells news.toArray e)) := by
  obtain ⟨i, hi, hz, hi1, hi2⟩ := info_parts hinfo
  have hn : n + 1 ≤ (n + 1) * bytes := Nat.le_mul_of_pos_right _ hby
  refine wpListIn_append_own _ hgd s x t ho base e i z size bytes ht hi hz hi1 hi2 hzs hsz v n xs hs (hown.alloc _) ⟨wr.heap.size, 0, none⟩ 1 c news hx (by simpa using hl) ?_ h1 (by unfold maxLen; omega) hbytes (by simp; omega) ?_
  · intro j u hj
    have : j < news.length := by
      rcases Nat.lt_or_ge j news.length with h | h
      · exact h
      · simp [List.getElem?_eq_none h] at hj
    rw [Addr.add_lit, Nat.zero_add, World.cell?_alloc_new]
    simpa using hj
  · intro v' w' h2 h3 _
    obtain ⟨g, cap, rfl⟩ := ownsRow_succ h2
    refine h g cap w' h2 (((Below.refl base wr).alloc hbase _).grown h3 (by simp; omega) ?_)
    intro k hk
    exact (hown.lt k hk).1

/-- box s holds a slice value; the slice is the call's own, its blocks lie from base on -/
def BoxRow (s base : Nat) (t e : TypeId) (size : Nat) (U : World) (n : Nat) (cells : List Value) : Prop := ∃ v, U.heap[s]? = some (.cells #[v] t (0, 0)) ∧ U.ownsRow base e size v n cells
theorem BoxRow.chg {s base : Nat} {t e : TypeId} {size : Nat} {U U' : World} {n : Nat} {cells : List Value} {X : Nat → Prop} (h : BoxRow s base t e size U n cells) (hc : Chg X U U') (hX : ∀ k, X k → k ≠ s ∧ k < base) : BoxRow s base t e size U' n cells := by
  obtain ⟨v, h1, h2⟩ := h
  exact ⟨v, hc.at h1 fun hx => (hX s hx).1 rfl, ownsRow_chg h2 hc fun k hk hx => by have := (hX k hx).2; omega⟩
theorem BoxRow.stored {s base g cap : Nat} {t e : TypeId} {size : Nat} {U W : World} {v : Value} {n : Nat} {cells : List Value} (hsb : s < base) (hs : U.heap[s]? = some (.cells #[v] t (0, 0))) (hB : Below base U W) (hown : W.ownsRow base e size (.slice (some ⟨g, 0, none⟩) n cap) n cells) :
    BoxRow s base t e size (W.setCell ⟨s, 0, none⟩ (.slice (some ⟨g, 0, none⟩) n cap)) n cells ∧ Chg (fun k => k = s ∨ base ≤ k) U (W.setCell ⟨s, 0, none⟩ (.slice (some ⟨g, 0, none⟩) n cap)) :=
  ⟨⟨_, one_setCell (v := v) ((hB.block s hsb).trans hs), ownsRow_setCell_below hown hsb _⟩, (Chg.of_base hB fun k hk => .inr hk).trans (Chg.setCell _ _ _ (.inl rfl))⟩

/-- a slot that holds a slice whose cells are known -/
def kReads (n : Nat) (cells : List Value) : Known Bel := ⟨Option Addr × Nat, fun x => .slice x.1 n x.2, fun x => some fun w => Reads w (.slice x.1 n x.2) n cells, fun _ _ h _ _ hφ hB => by cases h; exact Reads.below hφ hB⟩
@[go_sem] theorem kReads_val (n : Nat) (cells : List Value) (a : Option Addr) (c : Nat) : (kReads n cells).val (a, c) = .slice a n c := rfl
theorem reads_new {w' : World} {G : Value → World → Prop} {n : Nat} {cells : List Value} {cs : Array Value} {e : TypeId} (hG : ∀ x w'', Bel w' w'' → (∀ φ, (kReads n cells).fact x = some φ → φ w'') → G ((kReads n cells).val x) w'') (hcs : cs = cells.toArray) :
    G (.slice (some ⟨w'.heap.size, 0, none⟩) n n) (w'.alloc (.cells cs e)) := by
  subst hcs
  exact hG (some ⟨w'.heap.size, 0, none⟩, n) _ (b_alloc w' _) (fun φ h => by cases h; exact Reads.new w' cells n e n)
/-- append(s, x...) in a round: s the call's own, x whatever slice of at least one element -/
theorem appendNIn {F : Fence} {k : Nat} {ops : Array Oper} {rest : List Oper} {o : Oper} {a : Act} {Q : Exit → Act → World → Prop} (w : World) (news : List Value) (e : TypeId) (hgd : o.guard = none) (s x : Operand) (t : TypeId)
    (ho : o.op = .call { callee := .builtin .append, args := #[s, x], argTypes := #[t, t] })
    (base : Nat) (z : Value) (size bytes : Nat) (ht : P.underlying t = some (.slice e)) (hinfo : (P.info? e).map (fun i => (i.zero, i.size, i.bytes)) = some (some z, size, bytes))
    (hzs : z.cells.size = size) (hsz : 0 < size) (v : Value) (n : Nat) (xs : List Value) (hs : a.eval s = v) (hown : w.ownsRow base e size v n xs)
    (vx : Value) (m : Nat) (hx : a.eval x = vx) (hr : Reads w vx m news) (hm : 0 < m) (hl : news.length = m * size) (h1 : ∀ u ∈ news, u.oneCell' = true)
    (hbytes : (n + m) * bytes ≤ 140737488355328) (hby : 0 < bytes) (hbase : base ≤ w.heap.size)
    (h : ∀ g cap w', w'.ownsRow base e size (.slice (some ⟨g, 0, none⟩) (n + m) cap) (n + m) (xs ++ news) → Below base w w' → wpListIn F k P ops Q rest (a.put o.dst (.slice (some ⟨g, 0, none⟩) (n + m) cap)) w') : wpListIn F k P ops Q (o :: rest) a w := by
  obtain ⟨i, hi, hz, hi1, hi2⟩ := info_parts hinfo
  have hn : n + m ≤ (n + m) * bytes := Nat.le_mul_of_pos_right _ hby
  obtain ⟨ax, cap, rfl, hnone, hc⟩ := hr
  cases ax with
  | none => have := (hnone rfl).1; omega
  | some ad =>
    refine wpListIn_append_own _ hgd s x t ho base e i z size bytes ht hi hz hi1 hi2 hzs hsz v n xs hs hown ad m cap news hx hl ?_ h1 (by unfold maxLen; omega) hbytes hbase ?_
    · intro j u hj
      obtain ⟨b, off, ha, hu⟩ := hc j u hj
      cases ha
      rw [Addr.add_lit]; exact hu
    · intro v' w' h2 h3 _
      obtain ⟨m', rfl⟩ : ∃ m', m = m' + 1 := ⟨m - 1, by omega⟩
      obtain ⟨g, cap', rfl⟩ := ownsRow_succ (k := n + m') h2
      refine h g cap' w' h2 ((Below.refl base w).grown h3 hbase ?_)
      intro k hk
      exact (hown.lt k hk).1
/-- a function whose body ranges over a function -/
theorem calls_of_wp_marks {f : FuncId} {fn : Func} {c : Code} {args : Array Value} {w : World} {R : Ending → World → Prop} (hf : P.funcs[f]? = some fn) (hb : fn.body = some c)
    (h : c.wp P (bodyPostM Fence.wide 1 P fn R) { tmps := args ++ Array.replicate (fn.ntmps - args.size) undef, defers := [] } w) : Calls P f args w R :=
  (callsIn_wide (n := 1)).1 (callsIn_of_wp_marks (F := Fence.wide) hf hb trivial (wpIn_wide.2 h))
theorem marks_ret {fn : Func} {R : Ending → World → Prop} {a : Act} {w : World} {D : Nat} {v : Value} (hd : a.defers = [{ target := .collected D, args := #[] }]) (hK : w.heap[D]? = some (.deferred (some [])))
    (hr : (results fn a.tmps).run P (w.putObj D (.deferred none)) = .ok v (w.putObj D (.deferred none))) (hR : R (.returned v) (w.putObj D (.deferred none))) : bodyPostM Fence.wide 1 P fn R .ret a w := by
  unfold bodyPostM
  simp only [hd]
  exact ⟨by simp, .inl ⟨_, _, rfl, run_takeDeferred hK, v, hr, hR⟩⟩
theorem marks_none {fn : Func} {R : Ending → World → Prop} {a : Act} {w : World} {v : Value} (hd : a.defers = []) (hr : (results fn a.tmps).run P w = .ok v w) (hR : R (.returned v) w) : bodyPostM Fence.wide 1 P fn R .ret a w := by
  unfold bodyPostM
  simp only [hd]
  exact ⟨v, hr, hR⟩
end
end Go.Proofs.YtbcjfppdeapamaaDoor
namespace Go.Proofs.YtbcjfppdeapamaaDoor
open Go.RowKit Oct
attribute [local irreducible] wpG

/-- append(s, x), x a slice of one, and what it leaves alone -/
theorem Rec.append1V {α : Type} {ops : Array Oper} {rest : List Oper} {o : Oper} {a : Act} {Q : Exit → Act → World → Prop} (R : Rec α) (w : World) (p : α) (hgd : o.guard = none) (s x : Operand) (t : TypeId)
    (ho : o.op = .call { callee := .builtin .append, args := #[s, x], argTypes := #[t, t] }) (ht : Tryd.prog.underlying t = some (.slice R.e))
    (base : Nat) (v : Value) (xs : List α) (hown : R.Own w base v xs) (hs : a.eval s = v) (vx : Value) (hx : a.eval x = vx) (hr : Reads w vx 1 (R.cell p))
    (hbytes : (xs.length + 1) * R.bytes ≤ 140737488355328) (hbase : base ≤ w.heap.size)
    (h : ∀ g cap w', R.Own w' base (.slice (some ⟨g, 0, none⟩) (xs.length + 1) cap) (xs ++ [p]) → Chg (fun k => v.ownBlock = some k) w w' → (v.ownBlock = some g ∨ w.heap.size ≤ g) →
      wpList Tryd.prog ops Q rest (a.put o.dst (.slice (some ⟨g, 0, none⟩) (xs.length + 1) cap)) w') : wpList Tryd.prog ops Q (o :: rest) a w := by
  obtain ⟨i, hi, hz, hi1, hi2⟩ := info_parts R.info
  have hn : xs.length + 1 ≤ (xs.length + 1) * R.bytes := Nat.le_mul_of_pos_right _ R.bpos
  obtain ⟨ax, c, rfl, hnone, hc⟩ := hr
  cases ax with
  | none => have := (hnone rfl).1; omega
  | some ad =>
    refine wpList_append_lies _ hgd s x t ho base R.e i R.z R.n R.bytes ht hi hz hi1 hi2 R.zs R.pos v xs.length (R.cells xs) hs hown ad 1 c (R.cell p) hx (by simpa using R.len p) ?_ (R.one p) (by decide) (by unfold maxLen; omega) hbytes hbase _ rfl ?_
    · intro j u hj
      obtain ⟨b, off, ha, hu⟩ := hc j u hj
      cases ha
      rw [Addr.add_lit]; exact hu
    · intro g cap w' h2 h3 h4 h5
      have hB : Below base w w' := (Below.refl base w).grown h3 hbase (fun k hk => (Rec.Own.ltV hown k hk).1)
      refine h g cap w' ?_ ⟨hB.os, hB.tape, hB.output, hB.size, fun j hj hne => h3.block j hj (fun e => hne e.symm)⟩ ?_
      · unfold Rec.Own; rw [R.cells_append, List.length_append, Rec.cells, Rec.cells, List.append_nil]; exact h2
      · rcases h4 with h4 | h4
        · exact .inl h4
        · exact .inr (by omega)
/-- append(s, x) in a drawn region, and what it leaves alone -/
theorem Rec.step_append1V {α : Type} {ops : Array Oper} {o : Oper} {a : Act} {K : Act → World → Prop} {Q : Exit → Act → World → Prop} {E : Prop} (R : Rec α) (wr : World) (p : α) (hgd : o.guard = none) (s x : Operand) (t : TypeId)
    (ho : o.op = .call { callee := .builtin .append, args := #[s, x], argTypes := #[t, t] }) (ht : Tryd.prog.underlying t = some (.slice R.e))
    (base : Nat) (v : Value) (xs : List α) (hs : a.eval s = v) (hown : R.Own wr base v xs) (c : Nat) (hx : a.eval x = .slice (some ⟨wr.heap.size, 0, none⟩) 1 c)
    (cs : Array Value) (hcs : cs = (R.cell p).toArray) (e : TypeId) (he : e = R.e)
    (hbytes : (xs.length + 1) * R.bytes ≤ 140737488355328) (hbase : base ≤ wr.heap.size)
    (h : ∀ g cap w', R.Own w' base (.slice (some ⟨g, 0, none⟩) (xs.length + 1) cap) (xs ++ [p]) → Chg (fun k => v.ownBlock = some k) wr w' → (v.ownBlock = some g ∨ wr.heap.size ≤ g) → K (a.put o.dst (.slice (some ⟨g, 0, none⟩) (xs.length + 1) cap)) w') :
    if Region.wanted o (yielded ops a.tmps) = true then Oper.wp Tryd.prog o a (wr.alloc (.cells cs e)) K Q else E := by
  subst hcs he
  obtain ⟨i, hi, hz, hi1, hi2⟩ := info_parts R.info
  have hn : xs.length + 1 ≤ (xs.length + 1) * R.bytes := Nat.le_mul_of_pos_right _ R.bpos
  refine step_append_lies _ hgd s x t ho base R.e i R.z R.n R.bytes ht hi hz hi1 hi2 R.zs R.pos v xs.length (R.cells xs) hs (World.ownsRow.alloc hown _) ⟨wr.heap.size, 0, none⟩ 1 c (R.cell p) hx (by simpa using R.len p) ?_ (R.one p) (by decide) (by unfold maxLen; omega) hbytes (by simp; omega) _ rfl ?_
  · intro j u hj
    have : j < (R.cell p).length := by
      rcases Nat.lt_or_ge j (R.cell p).length with h | h
      · exact h
      · simp [List.getElem?_eq_none h] at hj
    rw [Addr.add_lit, Nat.zero_add, World.cell?_alloc_new]
    simpa using hj
  · intro g cap w' h2 h3 h4 h5
    have hB : Below base wr w' := ((Below.refl base wr).alloc hbase _).grown h3 (by simp; omega) (fun k hk => (Rec.Own.ltV hown k hk).1)
    refine h g cap w' ?_ ⟨hB.os, hB.tape, hB.output, hB.size, fun j hj hne => ?_⟩ ?_
    · unfold Rec.Own; rw [R.cells_append, List.length_append, Rec.cells, Rec.cells, List.append_nil]; exact h2
    · rw [h3.block j (by simp; omega) (fun e => hne e.symm)]
      exact Below.heap_alloc _ _ _ hj
    · rcases h4 with h4 | h4
      · exact .inl h4
      · exact .inr (by simp at h4; omega)
set_option maxRecDepth 100000 in
/-- s[:k] of a row of the call's own -/
theorem Rec.Own.shortRun {α : Type} {R : Rec α} {w : World} {base g c : Nat} {l : List α} (h : R.Own w base (.slice (some ⟨g, 0, none⟩) l.length c) l) (st : TypeId) (hst : Tryd.prog.underlying st = some (.slice (Tryd.prog.elem st))) (hsz : ∀ wx, (sizeOf (Tryd.prog.elem st)).run Tryd.prog wx = .ok R.n wx) (k : Nat) (hk : k ≤ l.length) :
    ∀ wx, (Instr.slice st (.slice (some ⟨g, 0, none⟩) l.length c) none (some (.int .i64 (k : Int))) none).run Tryd.prog wx = .ok (.slice (some ⟨g, 0, none⟩) k c) wx := by
  intro wx
  obtain ⟨_, a', cap', hv, hle⟩ := id h.row
  injection hv with _ _ h3
  subst h3
  have hr := run_slice_h wx st (some ⟨g, 0, none⟩) l.length c hst .i64 k (by omega) (by omega)
  rw [hsz] at hr
  rw [hr]
  simp only [Result.andThen, sliced]
  split <;> simp [Addr.add]
def vbV (b : Vb) : Value := .agg #[.int .u8 (b.op.toNat : Int), .string (bs b.want), .string (bs b.opn), .int .i64 (b.at_ : Int), .bool b.did]
section
variable {w w' w3 : World} {base G : Nat} {tv cv bv sv ev bv' sv' : Value} {inp : Nat} {role : UInt8} {s : Vs}
end
end Go.Proofs.YtbcjfppdeapamaaDoor
namespace Go.Proofs.YtbcjfppdeapamaaDoor
open Go.RowKit Oct
attribute [local irreducible] wpG

section
variable {nt inp : Nat} {role : UInt8} {bl : List Vb} {a : UInt8}
theorem th1 : thereV nt inp role bl (1, a) = if nt ≤ a.toNat then 3 else 0 := by unfold thereV; simp
theorem th3 : thereV nt inp role bl (3, a) = if inp ≤ a.toNat then 3 else 0 := by unfold thereV; simp
theorem th17 : thereV nt inp role bl (17, a) = if 8 ≤ a.toNat then 3 else 0 := by unfold thereV; simp
theorem th18 : thereV nt inp role bl (18, a) = if 8 ≤ a.toNat then 3 else 0 := by unfold thereV; simp
theorem th23 : thereV nt inp role bl (23, a) = if role = 1 then 0 else 133 := by unfold thereV; by_cases h : role = 1 <;> simp [h]
theorem th20 : thereV nt inp role bl (20, a) = if elseBad bl.getLast? = true then 132 else 0 := by unfold thereV; simp
theorem th21 : thereV nt inp role bl (21, a) = if bl = [] then 132 else 0 := by unfold thereV; simp
theorem th19 : thereV nt inp role bl (19, a) = if 8 ≤ bl.length then 132 else 0 := by unfold thereV; simp
theorem th22 : thereV nt inp role bl (22, a) = if 8 ≤ bl.length then 132 else 0 := by unfold thereV; simp
theorem thN {p : UInt8} (h1 : p ≠ 1) (h3 : p ≠ 3) (h17 : p ≠ 17) (h18 : p ≠ 18) (h23 : p ≠ 23) (h20 : p ≠ 20) (h21 : p ≠ 21) (h19 : p ≠ 19) (h22 : p ≠ 22) : thereV nt inp role bl (p, a) = 0 := by unfold thereV; simp [h1, h3, h17, h18, h23, h20, h21, h19, h22]
end
theorem u8_ne {p : UInt8} {k : Nat} (hk : k < 256) (h : p ≠ UInt8.ofNat k) : ((p.toNat : Int) == (k : Int)) = false := by
  rw [beq_eq_false_iff_ne]
  intro e
  have e2 : p.toNat = k := by omega
  exact h (UInt8.toNat_inj.1 (by rw [e2]; show k = k % 256; omega))
section
variable {w : World} {base G : Nat} {tv cv bv sv ev : Value} {inp : Nat} {role : UInt8} {s : Vs}
end

section
variable {w : World} {base G : Nat} {cv bv sv ev : Value} {inp : Nat} {role : UInt8} {s : Vs} {nt ct : Nat} {at_ : Option Addr}
end
end Go.Proofs.YtbcjfppdeapamaaDoor
namespace Go.Proofs.YtbcjfppdeapamaaDoor
open Go.RowKit Oct
attribute [local irreducible] wpG

theorem run_next_at {P : Program} (w : World) (I : Nat) (s : ByteArray) (pos : Nat) (ty : TypeId) (hI : w.heap[I]? = some (.stringIter s pos)) (h : pos < s.size) (ha : (s[pos]'h).toNat < 128) :
    (Instr.next (.pointer (some ⟨I, 0, none⟩)) true ty).run P w = .ok (.tuple #[.bool true, .int .i64 pos, .int .i32 (s[pos]'h).toNat]) (w.putObj I (.stringIter s (pos + 1))) := by
  simp only [Instr.next, getObj, setObj, Sem.run_bind, Sem.run, hI, Result.andThen, h, if_true, decode_ascii s pos h ha]
  simp [goInt, Sem.run, hI, World.putObj]
theorem run_next_out {P : Program} (w : World) (I : Nat) (s : ByteArray) (pos : Nat) (ty : TypeId) (hI : w.heap[I]? = some (.stringIter s pos)) (h : ¬ pos < s.size) :
    (Instr.next (.pointer (some ⟨I, 0, none⟩)) true ty).run P w = .ok (.tuple #[.bool false]) w := by
  simp [Instr.next, getObj, Sem.run, hI, h]
theorem iterPos_at {w : World} {I : Nat} {s : ByteArray} {pos : Nat} (hI : w.heap[I]? = some (.stringIter s pos)) : w.iterPos I = pos := by
  simp [World.iterPos, hI]
theorem next_bs {P : Program} (w : World) (I : Nat) (l : List UInt8) (pos : Nat) (ty : TypeId) (hI : w.heap[I]? = some (.stringIter (bs l) pos)) (h : pos < l.length) (ha : l[pos].toNat < 128) :
    (Instr.next (.pointer (some ⟨I, 0, none⟩)) true ty).run P w = .ok (.tuple #[.bool true, .int .i64 (pos : Int), .int .i32 (l[pos].toNat : Int)]) (w.putObj I (.stringIter (bs l) (pos + 1))) := by
  have hs : pos < (bs l).size := by rw [bs_size]; exact h
  have := run_next_at (P := P) w I (bs l) pos ty hI hs (by rw [bs_get]; exact ha)
  rw [bs_get] at this
  exact this
theorem next_bs_out {P : Program} (w : World) (I : Nat) (l : List UInt8) (pos : Nat) (ty : TypeId) (hI : w.heap[I]? = some (.stringIter (bs l) pos)) (h : ¬ pos < l.length) :
    (Instr.next (.pointer (some ⟨I, 0, none⟩)) true ty).run P w = .ok (.tuple #[.bool false]) w := run_next_out w I (bs l) pos ty hI (by rw [bs_size]; exact h)

theorem effs_repl : ∀ k, k < 24 → (Lib.countByte (effs.getD k ([], [])).1 82 = 0 ∨ (effs.getD k ([], [])).1 = [82]) ∧ (Lib.countByte (effs.getD k ([], [])).2 82 = 0 ∨ (effs.getD k ([], [])).2 = [82]) := by decide
theorem regV_two (a : UInt8) : regV a = [84] ∨ regV a = [78] := by unfold regV; split <;> simp
theorem replV_mem {s r : List UInt8} {c : UInt8} (h : c ∈ replV s r) : c ∈ s ∨ (s = [82] ∧ c ∈ r) := by
  unfold replV at h
  split at h
  · rename_i e; exact .inr ⟨e, h⟩
  · exact .inl h
theorem effs_f1 : ∀ k, k < 24 → (∀ c ∈ (effs.getD k ([], [])).1, c.toNat < 128) := by decide
theorem effs_f2 : ∀ k, k < 24 → (∀ c ∈ (effs.getD k ([], [])).2, c = 49 ∨ c = 50 ∨ c = 84 ∨ c = 78 ∨ c = 82) := by decide
theorem effs_f3 : ∀ k, k < 24 → (82 ∈ (effs.getD k ([], [])).2 → (effs.getD k ([], [])).2 = [82]) := by decide
theorem effs_f4 : ∀ k, k < 24 → (49 ∈ (effs.getD k ([], [])).2 → 1 ≤ (effs.getD k ([], [])).1.length) := by decide
theorem effs_f5 : ∀ k, k < 24 → (50 ∈ (effs.getD k ([], [])).2 → 2 ≤ (effs.getD k ([], [])).1.length) := by decide
theorem effs_f6 : ∀ k, k < 24 → ((effs.getD k ([], [])).1.length ≤ 3) := by decide
theorem effs_f7 : ∀ k, k < 24 → ((effs.getD k ([], [])).2.length ≤ 2) := by decide
theorem eff_facts (x : VI) (hx : x.1.toNat < 24) : (∀ c ∈ (effV x).1, c.toNat < 128) ∧ (∀ c ∈ (effV x).2, c = 49 ∨ c = 50 ∨ c = 84 ∨ c = 78) ∧ (49 ∈ (effV x).2 → 1 ≤ (effV x).1.length) ∧ (50 ∈ (effV x).2 → 2 ≤ (effV x).1.length) ∧ (effV x).1.length ≤ 3 ∧ (effV x).2.length ≤ 2 := by
  have f1 := effs_f1 x.1.toNat hx
  have f2 := effs_f2 x.1.toNat hx
  have f3 := effs_f3 x.1.toNat hx
  have f4 := effs_f4 x.1.toNat hx
  have f5 := effs_f5 x.1.toNat hx
  have f6 := effs_f6 x.1.toNat hx
  have f7 := effs_f7 x.1.toNat hx
  have hl : ∀ s : List UInt8, (replV s (regV x.2)).length = s.length := fun s => by
    unfold replV
    split
    · rename_i h; rw [h]; rcases regV_two x.2 with e | e <;> rw [e] <;> rfl
    · rfl
  unfold effV
  refine ⟨fun c hc => ?_, fun c hc => ?_, fun hc => ?_, fun hc => ?_, by rw [hl]; exact f6, by rw [hl]; exact f7⟩
  · rcases replV_mem hc with h | ⟨_, h⟩
    · exact f1 c h
    · rcases regV_two x.2 with e | e <;> (rw [e, List.mem_singleton] at h; subst h; decide)
  · rcases replV_mem hc with h | ⟨_, h⟩
    · rcases f2 c h with h1 | h1 | h1 | h1 | h1
      · exact .inl h1
      · exact .inr (.inl h1)
      · exact .inr (.inr (.inl h1))
      · exact .inr (.inr (.inr h1))
      · exfalso
        subst h1
        have := f3 h
        unfold replV at hc
        rw [if_pos this] at hc
        rcases regV_two x.2 with e | e <;> (rw [e] at hc; simp at hc)
    · rcases regV_two x.2 with e | e <;> (rw [e, List.mem_singleton] at h; subst h; simp)
  · rw [hl]
    rcases replV_mem hc with h | ⟨_, h⟩
    · exact f4 h
    · rcases regV_two x.2 with e | e <;> (rw [e] at h; simp at h)
  · rw [hl]
    rcases replV_mem hc with h | ⟨_, h⟩
    · exact f5 h
    · rcases regV_two x.2 with e | e <;> (rw [e] at h; simp at h)
theorem fitV_iff : ∀ (t u : List UInt8), t.length ≤ u.length → (fitV t u = true ↔ ∀ j (h : j < t.length) (h' : j < u.length), t[j] = 63 ∨ t[j] = u[j])
  | [], u, _ => by simp [fitV]
  | a :: t, [], h => by simp at h
  | a :: t, b :: u, h => by
    rw [fitV, Bool.and_eq_true, fitV_iff t u (by simpa using h)]
    constructor
    · rintro ⟨h1, h2⟩ j hj hj'
      cases j with
      | zero => simpa using h1
      | succ j => exact h2 j (by simpa using hj) (by simpa using hj')
    · intro h3
      have h4 : a = 63 ∨ a = b := h3 0 (by simp) (by simp)
      refine ⟨by simpa using h4, fun j hj hj' => ?_⟩
      exact h3 (j + 1) (by simpa using hj) (by simpa using hj')
theorem givesV_succ {top g : List UInt8} {k : Nat} (h : k < g.length) : givesV top (g.take (k + 1)) = givesV top (g.take k) ++ (if g[k] = 49 then top.take 1 else if g[k] = 50 then (top.drop 1).take 1 else [g[k]]) := by
  unfold givesV
  rw [List.take_succ_eq_append_getElem h, List.flatMap_append]
  simp
theorem givesV_len (top : List UInt8) : ∀ g : List UInt8, (givesV top g).length ≤ g.length
  | [] => by simp [givesV]
  | c :: g => by
    have ih := givesV_len top g
    unfold givesV at ih ⊢
    rw [List.flatMap_cons, List.length_append, List.length_cons]
    have : (if c = 49 then top.take 1 else if c = 50 then (top.drop 1).take 1 else [c]).length ≤ 1 := by
      split
      · rw [List.length_take]; omega
      · split
        · rw [List.length_take]; omega
        · simp
    omega
end Go.Proofs.YtbcjfppdeapamaaDoor
namespace Go.Proofs.YtbcjfppdeapamaaDoor
open Go.RowKit Oct
attribute [local irreducible] wpG

section
variable {w : World} {base G : Nat} {tv cv bv sv ev : Value} {inp : Nat} {role : UInt8} {s : Vs}
end
end Go.Proofs.YtbcjfppdeapamaaDoor
namespace Go.Proofs.YtbcjfppdeapamaaDoor
open Go.RowKit Oct
attribute [local irreducible] wpG

section
variable {a : UInt8} {i : Nat} {s : Vs}
theorem tu19 : turnsV i (19, a) s = (0, { s with blocks := s.blocks ++ [⟨19, s.kinds, s.kinds, i, false⟩] }) := rfl
theorem tu22 : turnsV i (22, a) s = (0, { s with blocks := s.blocks ++ [⟨22, s.kinds, s.kinds, i, false⟩], kinds := s.kinds ++ [84] }) := rfl
theorem tu20 {b : Vb} (h : s.blocks.getLast? = some b) : turnsV i (20, a) s = (0, { s with ends := s.ends.set b.at_ (i : Int), blocks := s.blocks.dropLast ++ [{ b with want := s.kinds, at_ := i, did := true }], kinds := b.opn }) := by unfold turnsV; simp [h]
theorem tu21y {b : Vb} (h : s.blocks.getLast? = some b) (hk : s.kinds = b.want) : turnsV i (21, a) s = (0, { s with ends := s.ends.set b.at_ (i : Int), blocks := s.blocks.dropLast }) := by unfold turnsV; simp [h, hk]
theorem tu21n {b : Vb} (h : s.blocks.getLast? = some b) (hk : s.kinds ≠ b.want) : turnsV i (21, a) s = (132, s) := by unfold turnsV; simp [h, hk]
theorem tuN {p : UInt8} (h19 : p ≠ 19) (h22 : p ≠ 22) (h20 : p ≠ 20) (h21 : p ≠ 21) : turnsV i (p, a) s = (0, s) := by unfold turnsV; simp [h19, h22, h20, h21]
end
theorem set_last {α : Type} {l : List α} {m : Nat} (hm : l.length = m + 1) (x : α) : l.set m x = l.dropLast ++ [x] := by
  have hne : l ≠ [] := by rintro rfl; simp at hm
  obtain ⟨l', y, rfl⟩ : ∃ l' y, l = l' ++ [y] := ⟨l.dropLast, l.getLast hne, (List.dropLast_concat_getLast hne).symm⟩
  have : l'.length = m := by simpa using hm
  rw [List.set_append_right _ _ (by omega)]
  simp [this]
section
variable {w : World} {base G : Nat} {tv cv bv sv ev : Value} {inp : Nat} {role : UInt8} {s : Vs}
end
end Go.Proofs.YtbcjfppdeapamaaDoor
namespace Go.Proofs.YtbcjfppdeapamaaDoor

theorem runV_nil (nt inp : Nat) (role : UInt8) (i : Nat) (s : Vs) : runV nt inp role i [] s = (i, overV role s, s) := rfl
theorem runV_ok {nt inp : Nat} {role : UInt8} {i : Nat} {x : VI} {r : List VI} {s : Vs} (h : (oneV nt inp role i x s).1 = 0) : runV nt inp role i (x :: r) s = runV nt inp role (i + 1) r (oneV nt inp role i x s).2 := by rw [runV, if_pos h]
theorem runV_bad {nt inp : Nat} {role : UInt8} {i : Nat} {x : VI} {r : List VI} {s : Vs} (h : (oneV nt inp role i x s).1 ≠ 0) : runV nt inp role i (x :: r) s = (i, (oneV nt inp role i x s).1, (oneV nt inp role i x s).2) := by rw [runV, if_neg h]
theorem effs_len : effs.length = 24 := by decide
/-- what a kind row is at most -/
theorem eff_small : ∀ n, n < 24 → (effs.getD n ([], [])).1.length ≤ 3 ∧ (effs.getD n ([], [])).2.length ≤ 2 := by decide

/-- another number, where the number is no name -/
def moreV (k : UInt8) (x : VI) : VI := if x.1 = 2 ∨ x.1 = 22 then (x.1, x.2 + k) else x
theorem moreV_fst (k : UInt8) (x : VI) : (moreV k x).1 = x.1 := by unfold moreV; split <;> rfl
theorem effV_more (k : UInt8) (x : VI) : effV (moreV k x) = effV x := by
  unfold moreV
  split
  · rename_i h
    obtain ⟨o, a⟩ := x
    rcases h with h | h <;> (simp only at h; subst h; rfl)
  · rfl
theorem thereV_more (nt inp : Nat) (role : UInt8) (bl : List Vb) (k : UInt8) (x : VI) : thereV nt inp role bl (moreV k x) = thereV nt inp role bl x := by
  unfold moreV
  split
  · rename_i h
    obtain ⟨o, a⟩ := x
    rcases h with h | h <;> (simp only at h; subst h; rfl)
  · rfl
theorem oneV_more (nt inp : Nat) (role : UInt8) (i : Nat) (k : UInt8) (x : VI) (s : Vs) : oneV nt inp role i (moreV k x) s = oneV nt inp role i x s := by
  have h1 : valuesV s.kinds (moreV k x) = valuesV s.kinds x := by unfold valuesV; rw [effV_more, moreV_fst]
  have h2 : ∀ s, turnsV i (moreV k x) s = turnsV i x s := fun s => by unfold turnsV; rw [moreV_fst]
  unfold oneV
  rw [thereV_more, h1, h2]
theorem runV_more (nt inp : Nat) (role : UInt8) (k : UInt8) : ∀ (code : List VI) (i : Nat) (s : Vs), runV nt inp role i (code.map (moreV k)) s = runV nt inp role i code s
  | [], _, _ => rfl
  | x :: r, i, s => by
    rw [List.map_cons, runV, runV, oneV_more]
    split
    · exact runV_more nt inp role k r (i + 1) _
    · rfl
theorem insOk_more (k : UInt8) (x : VI) : insOk (moreV k x) = insOk x := by
  unfold moreV
  split
  · rename_i h
    obtain ⟨o, a⟩ := x
    rcases h with h | h <;> (simp only at h; subst h; simp [insOk, hasArg])
  · rfl
theorem throughV_others {texts texts' : List (List UInt8)} (code : List VI) (k role : UInt8) (hl : texts'.length = texts.length) (h1 : ∀ s ∈ texts, s.length ≤ 64) (h2 : ∀ s ∈ texts', s.length ≤ 64) : throughV texts' (code.map (moreV k)) role = throughV texts code role := by
  have e1 : texts.all (fun s => decide (s.length ≤ 64)) = true := List.all_eq_true.2 fun s hs => decide_eq_true (h1 s hs)
  have e2 : texts'.all (fun s => decide (s.length ≤ 64)) = true := List.all_eq_true.2 fun s hs => decide_eq_true (h2 s hs)
  have e3 : (code.map (moreV k)).all insOk = code.all insOk := by
    rw [List.all_map]; congr 1; funext x; exact insOk_more k x
  have e4 : mayV texts' (code.map (moreV k)) = mayV texts code := by unfold mayV; rw [hl, List.length_map, e1, e2, e3]
  unfold throughV
  rw [e4, List.length_map, runV_more, hl]

/-- from a state that a run reached -/
theorem runV_app {nt inp : Nat} {role : UInt8} : ∀ (a b : List VI) (i : Nat) (s t : Vs) (n : Nat), runV nt inp role i a s = (n, 0, t) → overV role t = 0 → ∃ t', runV nt inp role i (a ++ b) s = runV nt inp role (i + a.length) b t' ∧ t'.kinds = t.kinds ∧ t'.blocks = t.blocks
  | [], b, i, s, t, n, h, _ => by
    rw [runV_nil] at h
    simp only [Prod.mk.injEq] at h
    exact ⟨s, by simp, by rw [h.2.2], by rw [h.2.2]⟩
  | x :: a, b, i, s, t, n, h, ho => by
    by_cases h0 : (oneV nt inp role i x s).1 = 0
    · rw [runV_ok h0] at h
      obtain ⟨t', h1, h2, h3⟩ := runV_app a b (i + 1) _ t n h ho
      exact ⟨t', by rw [List.cons_append, runV_ok h0, h1, List.length_cons]; congr 1; omega, h2, h3⟩
    · rw [runV_bad h0] at h
      simp only [Prod.mk.injEq] at h
      exact absurd h.2.1 h0
end Go.Proofs.YtbcjfppdeapamaaDoor
namespace Go.Proofs.YtbcjfppdeapamaaDoor

/-- what counts of a block -/
def Vb.core (b : Vb) : UInt8 × List UInt8 × List UInt8 × Bool := (b.op, b.want, b.opn, b.did)
theorem last_core {bl bl' : List Vb} (h : bl.map Vb.core = bl'.map Vb.core) : bl.getLast?.map Vb.core = bl'.getLast?.map Vb.core := by
  rw [← List.getLast?_map, ← List.getLast?_map, h]
theorem thereV_core {nt inp : Nat} {role : UInt8} {bl bl' : List Vb} (x : VI) (h : bl.map Vb.core = bl'.map Vb.core) : thereV nt inp role bl x = thereV nt inp role bl' x := by
  have hl : bl.length = bl'.length := by have := congrArg List.length h; simpa using this
  have hn : (bl = []) = (bl' = []) := by
    rw [← List.length_eq_zero_iff, ← List.length_eq_zero_iff, hl]
  have hg : elseBad bl.getLast? = elseBad bl'.getLast? := by
    have hc := last_core h
    cases h1 : bl.getLast? with
    | none => cases h2 : bl'.getLast? with
      | none => rfl
      | some b' => rw [h1, h2] at hc; cases hc
    | some b => cases h2 : bl'.getLast? with
      | none => rw [h1, h2] at hc; cases hc
      | some b' =>
        rw [h1, h2] at hc
        simp only [Option.map_some, Option.some.injEq, Vb.core, Prod.mk.injEq] at hc
        simp only [elseBad, hc.1, hc.2.2.2]
  unfold thereV
  simp only [hl, hn, hg]
/-- two states that go on alike -/
def Alike (s s' : Vs) : Prop := s.kinds = s'.kinds ∧ s.blocks.map Vb.core = s'.blocks.map Vb.core
theorem turnsV_alike {i i' : Nat} {x x' : VI} {s s' : Vs} (hx : x'.1 = x.1) (h : Alike s s') : (turnsV i x s).1 = (turnsV i' x' s').1 ∧ Alike (turnsV i x s).2 (turnsV i' x' s').2 := by
  obtain ⟨h1, h2⟩ := h
  unfold turnsV
  rw [hx]
  split
  · exact ⟨rfl, h1, by simp [h2, h1, Vb.core]⟩
  · split
    · exact ⟨rfl, by simp [h1], by simp [h2, h1, Vb.core]⟩
    · have hc := last_core h2
      have hd : s.blocks.dropLast.map Vb.core = s'.blocks.dropLast.map Vb.core := by rw [List.map_dropLast, List.map_dropLast, h2]
      split
      · cases e1 : s.blocks.getLast? with
        | none => cases e2 : s'.blocks.getLast? with
          | none => exact ⟨rfl, h1, h2⟩
          | some b' => rw [e1, e2] at hc; cases hc
        | some b => cases e2 : s'.blocks.getLast? with
          | none => rw [e1, e2] at hc; cases hc
          | some b' =>
            rw [e1, e2] at hc
            simp only [Option.map_some, Option.some.injEq, Vb.core, Prod.mk.injEq] at hc
            exact ⟨rfl, hc.2.2.1, by simp only [List.map_append, hd, List.map_cons, List.map_nil, Vb.core, hc.1, hc.2.2.1, h1]⟩
      · split
        · cases e1 : s.blocks.getLast? with
          | none => cases e2 : s'.blocks.getLast? with
            | none => exact ⟨rfl, h1, h2⟩
            | some b' => rw [e1, e2] at hc; cases hc
          | some b => cases e2 : s'.blocks.getLast? with
            | none => rw [e1, e2] at hc; cases hc
            | some b' =>
              rw [e1, e2] at hc
              simp only [Option.map_some, Option.some.injEq, Vb.core, Prod.mk.injEq] at hc
              simp only [h1, hc.2.1]
              split
              · exact ⟨rfl, rfl, hd⟩
              · exact ⟨rfl, h1, h2⟩
        · exact ⟨rfl, h1, h2⟩
theorem oneV_alike {nt nt' inp : Nat} {role : UInt8} {i i' : Nat} {x x' : VI} {s s' : Vs} (hx : x'.1 = x.1) (he : effV x' = effV x) (ht : thereV nt' inp role s'.blocks x' = thereV nt inp role s.blocks x) (h : Alike s s') :
    (oneV nt inp role i x s).1 = (oneV nt' inp role i' x' s').1 ∧ Alike (oneV nt inp role i x s).2 (oneV nt' inp role i' x' s').2 := by
  have hv : valuesV s'.kinds x' = valuesV s.kinds x := by unfold valuesV; rw [he, hx, h.1]
  unfold oneV
  rw [ht, hv]
  split
  · exact ⟨rfl, h⟩
  · split
    · exact ⟨rfl, h⟩
    · have := turnsV_alike (i := i) (i' := i') hx (s := { s with seen := s.seen ++ [s.kinds], kinds := (valuesV s.kinds x).2 }) (s' := { s' with seen := s'.seen ++ [s'.kinds], kinds := (valuesV s.kinds x).2 }) ⟨rfl, h.2⟩
      exact ⟨this.1, this.2.1, this.2.2⟩
theorem overV_alike {role : UInt8} {s s' : Vs} (h : Alike s s') : overV role s = overV role s' := by
  have hl : s.blocks.length = s'.blocks.length := by have := congrArg List.length h.2; simpa using this
  unfold overV
  rw [hl, h.1]
/-- texts of another program ahead -/
def shiftV (k : Nat) (x : VI) : VI := if x.1 = 1 then (x.1, x.2 + UInt8.ofNat k) else x
theorem shiftV_fst (k : Nat) (x : VI) : (shiftV k x).1 = x.1 := by unfold shiftV; split <;> rfl
theorem shiftV_eff (k : Nat) (x : VI) : effV (shiftV k x) = effV x := by
  unfold shiftV
  split
  · rename_i h
    obtain ⟨o, a⟩ := x
    simp only at h; subst h; rfl
  · rfl
theorem thereV_ok {nt nt' inp : Nat} {role : UInt8} {bl : List Vb} {x : VI} (hn : nt ≤ nt') (h : thereV nt inp role bl x = 0) : thereV nt' inp role bl x = 0 := by
  unfold thereV at h ⊢
  split at h
  · cases h
  · rename_i h0
    rw [if_neg (fun h1 => h0 ?_)]
    · exact h
    · rcases h1 with h1 | h1 | h1
      · exact .inl ⟨h1.1, by omega⟩
      · exact .inr (.inl h1)
      · exact .inr (.inr h1)
theorem thereV_shift {nt k inp : Nat} {role : UInt8} {bl : List Vb} {x : VI} (hk : nt + k ≤ 16) (h : thereV nt inp role bl x = 0) : thereV (k + nt) inp role bl (shiftV k x) = 0 := by
  unfold shiftV
  split
  · rename_i hx
    obtain ⟨o, a⟩ := x
    simp only at hx
    subst hx
    unfold thereV at h ⊢
    split at h
    · cases h
    · rename_i h0
      have ha : ¬ nt ≤ a.toNat := fun h1 => h0 (.inl ⟨rfl, h1⟩)
      have hs : (a + UInt8.ofNat k).toNat = a.toNat + k := by
        have h1 : (UInt8.ofNat k).toNat = k % 256 := rfl
        rw [UInt8.toNat_add, h1]
        omega
      rw [if_neg]
      · exact h
      · rintro (h1 | h1 | h1)
        · have h2 : k + nt ≤ (a + UInt8.ofNat k).toNat := h1.2
          omega
        · exact absurd (show (1 : UInt8) = 3 from h1.1) (by decide)
        · rcases h1.1 with h2 | h2
          · exact absurd (show (1 : UInt8) = 17 from h2) (by decide)
          · exact absurd (show (1 : UInt8) = 18 from h2) (by decide)
  · exact thereV_ok (by omega) h
theorem oneV_there {nt inp : Nat} {role : UInt8} {i : Nat} {x : VI} {s : Vs} (h : (oneV nt inp role i x s).1 = 0) : thereV nt inp role s.blocks x = 0 := by
  unfold oneV at h
  split at h
  · rename_i h0; exact absurd h h0
  · rename_i h0; simpa using h0
theorem runV_mono {nt nt' inp : Nat} {role : UInt8} (hn : nt ≤ nt') : ∀ (a : List VI) (i n : Nat) (s t : Vs), runV nt inp role i a s = (n, 0, t) → runV nt' inp role i a s = (n, 0, t)
  | [], i, n, s, t, h => h
  | x :: a, i, n, s, t, h => by
    by_cases h0 : (oneV nt inp role i x s).1 = 0
    · rw [runV_ok h0] at h
      have e : oneV nt' inp role i x s = oneV nt inp role i x s := by
        have h1 := oneV_there h0
        have h2 := thereV_ok hn h1
        unfold oneV
        rw [h1, h2]
      rw [runV_ok (by rw [e]; exact h0), e]
      exact runV_mono hn a (i + 1) n _ t h
    · rw [runV_bad h0] at h
      simp only [Prod.mk.injEq] at h
      exact absurd h.2.1 h0
theorem runV_shift {nt k inp : Nat} {role : UInt8} (hk : nt + k ≤ 16) : ∀ (a : List VI) (i j n : Nat) (s s' t : Vs), Alike s s' → runV nt inp role i a s = (n, 0, t) → ∃ m t', runV (k + nt) inp role j (a.map (shiftV k)) s' = (m, 0, t')
  | [], i, j, n, s, s', t, hs, h => by
    rw [runV_nil] at h
    simp only [Prod.mk.injEq] at h
    exact ⟨j, s', by rw [List.map_nil, runV_nil, ← overV_alike hs, h.2.1]⟩
  | x :: a, i, j, n, s, s', t, hs, h => by
    by_cases h0 : (oneV nt inp role i x s).1 = 0
    · rw [runV_ok h0] at h
      have h1 := oneV_there h0
      have h2 := thereV_shift hk h1
      rw [thereV_core (x := shiftV k x) hs.2] at h2
      have h3 := oneV_alike (i := i) (i' := j) (nt := nt) (nt' := k + nt) (shiftV_fst k x) (shiftV_eff k x) (by rw [h1, h2]) hs
      obtain ⟨m, t', h4⟩ := runV_shift hk a (i + 1) (j + 1) n _ _ t h3.2 h
      exact ⟨m, t', by rw [List.map_cons, runV_ok (by rw [← h3.1]; exact h0)]; exact h4⟩
    · rw [runV_bad h0] at h
      simp only [Prod.mk.injEq] at h
      exact absurd h.2.1 h0
theorem throughV_ok {texts : List (List UInt8)} {code : List VI} {role : UInt8} (h : (throughV texts code role).2.1 = 0) : mayV texts code = true ∧ roleOk role = true ∧ ∃ n, runV texts.length (inputsV role) role 0 code (startV code.length) = (n, 0, (throughV texts code role).2.2) := by
  unfold throughV at h ⊢
  split at h
  · rename_i hm
    rw [Bool.and_eq_true] at hm
    refine ⟨hm.1, hm.2, ?_⟩
    rw [if_pos (by rw [hm.1, hm.2]; rfl)]
    split at h
    · rename_i h0
      rw [if_pos h0]
      exact ⟨_, Prod.ext rfl (Prod.ext h0 rfl)⟩
    · rename_i h0
      exact absurd h h0
  · cases h
theorem over_map {s : Vs} (h : overV 1 s = 0) : s.kinds = [] ∧ s.blocks = [] := by
  unfold overV at h
  by_cases hb : 0 < s.blocks.length
  · rw [if_pos hb] at h; cases h
  · rw [if_neg hb] at h
    by_cases hk : s.kinds.length = (wantV 1).length
    · exact ⟨List.eq_nil_of_length_eq_zero hk, List.eq_nil_of_length_eq_zero (by omega)⟩
    · rw [if_pos hk] at h; cases h
/-- of two programs that are let be the program, one behind the other, is let be -/
theorem throughV_both {tp tq : List (List UInt8)} {cp cq : List VI} (ht : tp.length + tq.length ≤ 16) (hc : cp.length + cq.length ≤ 256) (hp : (throughV tp cp 1).2.1 = 0) (hq : (throughV tq cq 1).2.1 = 0) :
    (throughV (tp ++ tq) (cp ++ cq.map (shiftV tp.length)) 1).1 = 0 ∧ (throughV (tp ++ tq) (cp ++ cq.map (shiftV tp.length)) 1).2.1 = 0 := by
  obtain ⟨m1, r1, n1, h1⟩ := throughV_ok hp
  obtain ⟨m2, r2, n2, h2⟩ := throughV_ok hq
  have key : ∃ n t, runV (tp ++ tq).length (inputsV 1) 1 0 (cp ++ cq.map (shiftV tp.length)) (startV (cp ++ cq.map (shiftV tp.length)).length) = (n, 0, t) := by
    have run0 : ∀ (e : List Int) (a : List VI) (i n : Nat) (nt inp : Nat) (role : UInt8) (s t : Vs), runV nt inp role i a s = (n, 0, t) → ∀ s', Alike s s' → ∃ m t', runV nt inp role i a s' = (m, 0, t') ∧ Alike t t' := by
      intro e a
      induction a with
      | nil =>
        intro i n nt inp role s t h s' hs
        rw [runV_nil] at h ⊢
        simp only [Prod.mk.injEq] at h
        exact ⟨i, s', by rw [← overV_alike hs, h.2.1], by rw [← h.2.2]; exact hs⟩
      | cons x a ih =>
        intro i n nt inp role s t h s' hs
        by_cases h0 : (oneV nt inp role i x s).1 = 0
        · rw [runV_ok h0] at h
          have h3 := oneV_alike (i := i) (i' := i) (nt := nt) (nt' := nt) (inp := inp) (role := role) (x := x) rfl rfl (thereV_core x hs.2).symm hs
          obtain ⟨m, t', h4, h5⟩ := ih (i + 1) n nt inp role _ t h _ h3.2
          exact ⟨m, t', by rw [runV_ok (by rw [← h3.1]; exact h0)]; exact h4, h5⟩
        · rw [runV_bad h0] at h
          simp only [Prod.mk.injEq] at h
          exact absurd h.2.1 h0
    obtain ⟨m3, t3, h3, hs3⟩ := run0 [] cp 0 n1 _ _ _ _ _ h1 (startV (cp ++ cq.map (shiftV tp.length)).length) ⟨rfl, rfl⟩
    have h4 := runV_mono (nt' := (tp ++ tq).length) (by simp) cp 0 m3 _ _ h3
    have ho : overV 1 t3 = 0 := by
      have : ∀ (a : List VI) (i n nt inp : Nat) (s t : Vs), runV nt inp 1 i a s = (n, 0, t) → overV 1 t = 0 := by
        intro a
        induction a with
        | nil => intro i n nt inp s t h; rw [runV_nil] at h; simp only [Prod.mk.injEq] at h; rw [← h.2.2]; exact h.2.1
        | cons x a ih =>
          intro i n nt inp s t h
          by_cases h0 : (oneV nt inp 1 i x s).1 = 0
          · rw [runV_ok h0] at h; exact ih _ _ _ _ _ _ h
          · rw [runV_bad h0] at h; simp only [Prod.mk.injEq] at h; exact absurd h.2.1 h0
      exact this _ _ _ _ _ _ _ h4
    obtain ⟨t4, h5, hk, hb⟩ := runV_app cp (cq.map (shiftV tp.length)) 0 _ _ _ h4 ho
    have hal : Alike (startV cq.length) t4 := by
      obtain ⟨hk1, hb1⟩ := over_map ho
      exact ⟨by rw [hk, hk1]; rfl, by rw [hb, hb1]; rfl⟩
    obtain ⟨m6, t6, h6⟩ := runV_shift (k := tp.length) (by omega) cq 0 (0 + cp.length) n2 _ t4 _ hal h2
    rw [h5, List.length_append]
    exact ⟨m6, t6, h6⟩
  obtain ⟨n, t, h⟩ := key
  have hm : mayV (tp ++ tq) (cp ++ cq.map (shiftV tp.length)) = true := by
    unfold mayV at m1 m2 ⊢
    simp only [Bool.and_eq_true, decide_eq_true_eq] at m1 m2 ⊢
    have e : (cq.map (shiftV tp.length)).all insOk = true := by
      rw [List.all_map, List.all_eq_true]
      intro x hx
      have := List.all_eq_true.1 m2.2 x hx
      show insOk (shiftV _ x) = true
      unfold shiftV
      split
      · rename_i h
        obtain ⟨o, a⟩ := x
        simp only at h
        subst h
        simp [insOk, hasArg]
      · exact this
    refine ⟨⟨⟨by simp; omega, by simp; omega⟩, ?_⟩, ?_⟩
    · rw [List.all_append, m1.1.2, m2.1.2]; rfl
    · rw [List.all_append, m1.2, e]; rfl
  unfold throughV
  rw [if_pos (by rw [hm]; rfl), h]
  exact ⟨rfl, rfl⟩
end Go.Proofs.YtbcjfppdeapamaaDoor
