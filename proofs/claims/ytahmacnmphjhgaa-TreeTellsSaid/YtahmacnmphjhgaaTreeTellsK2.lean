/- Lemmas for TreeTells, part 2: walks of the functions that it reaches, and the plain laws behind them. -/
import Derived.Deep.QuietTactic
import Derived.StillTail
import Derived.OrdersIn
import Derived.TacticsIn
import Derived.AtR
import Derived.BigQuiet
import Derived.Lib.Hide
import Derived.OwnWalkIn
import Derived.TacticsInMore
import Derived.LoopNIn
import Derived.LoopIn
import Derived.RangeFuncBox
import Derived.Lib.Builder
import Derived.Lib.AppendStr
import Derived.Test.YtahmacnmphjhgaaShelf
import Derived.Test.YtahmacnmphjhgaaTreeTellsK1
set_option linter.unusedSimpArgs false
set_option linter.unusedVariables false
namespace Go.Proofs.Ytahmacnmphjhgaa
open Go.RowKit

section
variable {P : Program} {ops : Array Oper} {md : Region.Mode} {C : World → Prop} {R : World → World → Prop}

/-- what is known of a slot's value, whatever the order -/
structure Known (R : World → World → Prop) where
  α : Type
  val : α → Value
  fact : α → Option (World → Prop)
  stable : ∀ x φ, fact x = some φ → ∀ w w', φ w → R w w' → φ w'
def Known.exact (R : World → World → Prop) (v : Value) : Known R := ⟨Unit, fun _ => v, fun _ => none, fun _ _ h => by cases h⟩

abbrev Facts := (Oper × (World → Prop)) → Prop
def Facts.none : Facts := fun _ => False
def Facts.add (o : Oper) (φ : Option (World → Prop)) (S : Facts) : Facts := fun q => (∃ ψ, φ = some ψ ∧ q = (o, ψ)) ∨ S q
def Facts.all (S : Facts) (w : World) : Prop := ∀ p, S p → p.2 w
/-- the facts that an operation may lean on: of those slots that it waits for -/
def Facts.at (S : Facts) (ops : Array Oper) (o : Oper) (w : World) : Prop := ∀ p, S p → p.1.apart ops o = false → p.2 w
def Facts.kept (R : World → World → Prop) (S : Facts) : Prop := ∀ p, S p → ∀ w w', p.2 w → R w w' → p.2 w'

theorem Facts.add_none (o : Oper) (S : Facts) : S.add o Option.none = S := by
  funext q; simp [Facts.add]
theorem Facts.add_comm (o o' : Oper) (φ φ' : Option (World → Prop)) (S : Facts) : (S.add o φ).add o' φ' = (S.add o' φ').add o φ := by
  funext q; simp only [Facts.add, eq_iff_iff]; grind
theorem Facts.all_add {S : Facts} {o : Oper} {φ : Option (World → Prop)} {w : World} : (S.add o φ).all w ↔ (∀ ψ, φ = some ψ → ψ w) ∧ S.all w := by
  constructor
  · intro h; exact ⟨fun ψ hψ => h (o, ψ) (.inl ⟨ψ, hψ, rfl⟩), fun p hp => h p (.inr hp)⟩
  · rintro ⟨h1, h2⟩ p (⟨ψ, hψ, rfl⟩ | hp)
    · exact h1 ψ hψ
    · exact h2 p hp
theorem Facts.all_some {S : Facts} {o : Oper} {φ : World → Prop} {w : World} : (S.add o (some φ)).all w ↔ φ w ∧ S.all w := by
  rw [Facts.all_add]; simp
theorem Facts.all_none {w : World} : Facts.none.all w ↔ True := by simp [Facts.all, Facts.none]
theorem Facts.at_some {S : Facts} {o o' : Oper} {φ : World → Prop} {w : World} (h : (S.add o (some φ)).at ops o' w) : (o.apart ops o' = false → φ w) ∧ S.at ops o' w :=
  ⟨fun ha => h (o, φ) (.inl ⟨φ, rfl, rfl⟩) ha, fun p hp => h p (.inr hp)⟩
theorem Facts.at_of_all {S : Facts} {o : Oper} {w : World} (h : S.all w) : S.at ops o w := fun p hp _ => h p hp
theorem Facts.kept_add {S : Facts} (h : S.kept R) (o : Oper) (g : Known R) (x : g.α) : (S.add o (g.fact x)).kept R := by
  rintro p (⟨ψ, hψ, rfl⟩ | hp)
  · exact g.stable x ψ hψ
  · exact h p hp
theorem Facts.all_kept {S : Facts} (h : S.kept R) {w w' : World} (ha : S.all w) (hR : R w w') : S.all w' := fun p hp => h p hp w w' (ha p hp) hR

def growUpon (P : Program) (w : World) (G : Value → World → Prop) : Result Next → Prop
  | .ok (.value u) w' => G u w'
  | .ok .skip w' => G undef w'
  | .ok (.enter f args) w' => w' = w ∧ Calls P f args w fun e w'' => ∃ u, e = .returned u ∧ G u w''
  | _ => False
def growAt (P : Program) (o : Oper) (a : Act) (w : World) (G : Value → World → Prop) : Prop := growUpon P w G ((execOp a.eval o).run P w)
def readUpon (w : World) (v : Value) : Result Next → Prop
  | .ok (.value u) w' => w' = w ∧ u = v
  | .ok .skip w' => w' = w ∧ v = undef
  | _ => False
def readAt (P : Program) (o : Oper) (a : Act) (w : World) (v : Value) : Prop := readUpon w v ((execOp a.eval o).run P w)

/-- what operation 'i' yields in state 'a' -/
def okFor (P : Program) (ops : Array Oper) (C : World → Prop) (R : World → World → Prop) (F : Nat → Option (Known R)) (i : Nat) (o : Oper) (S : Facts) (a : Act) (g : Known R) : Prop :=
  if Region.wanted o (yielded ops a.tmps) = true then
    match F i with
    | none => ∃ v, g = .exact R v ∧ ∀ w, C w → S.at ops o w → readAt P o a w v
    | some g' => g = g' ∧ ∀ w, C w → S.at ops o w → growAt P o a w fun u w' => R w w' ∧ ∃ x, u = g'.val x ∧ ∀ φ, g'.fact x = some φ → φ w'
  else g = .exact R undef

def gOp (P : Program) (ops : Array Oper) (C : World → Prop) (R : World → World → Prop) (F : Nat → Option (Known R)) (i : Nat) (K : Facts → Act → Prop) (S : Facts) (a : Act) : Prop :=
  match ops[i]? with
  | none => K S a
  | some o => ∃ g, okFor P ops C R F i o S a g ∧ ∀ x, K (S.add o (g.fact x)) (a.put o.dst (g.val x))

def Inh (C : World → Prop) (S : Facts) : Prop := ∃ w, C w ∧ S.all w

def wpAnyG (P : Program) (md : Region.Mode) (ops : Array Oper) (C : World → Prop) (R : World → World → Prop) (F : Nat → Option (Known R)) (Q : Array Bool → Facts → Act → Prop) : Nat → Array Bool → Facts → Act → Prop
  | 0, listed, S, a => Inh C S → Q listed S a
  | fuel + 1, listed, S, a => Inh C S →
    Region.ready md ops listed ≠ [] ∧
    ∀ i ∈ Region.ready md ops listed, gOp P ops C R F i (wpAnyG P md ops C R F Q fuel (listed.setIfInBounds i true)) S a

variable {F : Nat → Option (Known R)} {Q : Array Bool → Facts → Act → Prop}

theorem wpAnyG_inh {n : Nat} {listed : Array Bool} {S : Facts} {a : Act} (h : Inh C S → wpAnyG P md ops C R F Q n listed S a) : wpAnyG P md ops C R F Q n listed S a := by
  cases n <;> exact fun hi => h hi hi

/-- what an operation may come to, and where it goes on -/
theorem grow_on {i : Nat} {o : Oper} {S : Facts} {a : Act} {w : World} {g : Known R} {K : Facts → Act → Prop} {N : Act → World → Prop} (hCR : ∀ w w', C w → R w w' → C w') (hk : S.kept R) (hw : C w) (hS : S.all w)
    (hwant : Region.wanted o (yielded ops a.tmps) = true) (hok : okFor P ops C R F i o S a g) (hK : ∀ x, K (S.add o (g.fact x)) (a.put o.dst (g.val x)))
    (hN : ∀ S' a' w', S'.kept R → C w' → S'.all w' → K S' a' → N a' w') :
    growAt P o a w fun u w' => N (a.put o.dst u) w' := by
  unfold okFor at hok
  rw [if_pos hwant] at hok
  cases hF : F i with
  | none =>
    simp only [hF] at hok
    obtain ⟨v, rfl, hr⟩ := hok
    have hr := hr w hw (Facts.at_of_all hS)
    have hK := hK ()
    simp only [Known.exact, Facts.add_none] at hK
    unfold readAt at hr
    unfold growAt
    generalize (execOp a.eval o).run P w = r at *
    cases r with
    | ok n w' =>
      cases n <;> simp only [readUpon] at hr <;> simp only [growUpon]
      case value u => obtain ⟨rfl, rfl⟩ := hr; exact hN S _ _ hk hw hS hK
      case skip => obtain ⟨rfl, rfl⟩ := hr; exact hN S _ _ hk hw hS hK
    | halt x w' => simp only [readUpon] at hr
  | some g' =>
    simp only [hF] at hok
    obtain ⟨rfl, hr⟩ := hok
    have hr := hr w hw (Facts.at_of_all hS)
    have on : ∀ u w', (R w w' ∧ ∃ x, u = g.val x ∧ ∀ φ, g.fact x = some φ → φ w') → N (a.put o.dst u) w' := by
      rintro u w' ⟨hR, x, rfl, hx⟩
      exact hN _ _ _ (Facts.kept_add hk o g x) (hCR _ _ hw hR) (Facts.all_add.2 ⟨hx, Facts.all_kept hk hS hR⟩) (hK x)
    unfold growAt at hr ⊢
    generalize (execOp a.eval o).run P w = r at *
    cases r with
    | ok n w' =>
      cases n <;> simp only [growUpon] at hr ⊢
      case value u => exact on _ _ hr
      case skip => exact on _ _ hr
      case enter f args =>
        obtain ⟨rfl, hc⟩ := hr
        exact ⟨rfl, hc.mono fun e w'' ⟨u, he, hG⟩ => ⟨u, he, on _ _ hG⟩⟩
    | halt x w' => simp only [growUpon] at hr
theorem wp_of_grow {o : Oper} {a : Act} {w : World} {N : Act → World → Prop} {Q' : Exit → Act → World → Prop} (h : growAt P o a w fun u w' => N (a.put o.dst u) w') : o.wp P a w N Q' := by
  unfold growAt at h
  unfold Oper.wp
  generalize (execOp a.eval o).run P w = r at *
  cases r with
  | ok n w' =>
    cases n <;> simp only [growUpon] at h <;> simp only [Oper.upon]
    case value u => exact h
    case skip => exact h
    case enter f args =>
      obtain ⟨rfl, hc⟩ := h
      refine hc.mono fun e w'' ⟨u, he, hG⟩ => ?_
      subst he
      exact hG
  | halt x w' => simp only [growUpon] at h
def noDefer (o : Oper) : Bool := match o.op with | .defer _ => false | _ => true
theorem wpIn_of_grow {l n : Nat} {o : Oper} {a : Act} {w : World} {N : Act → World → Prop} {Q' : Exit → Act → World → Prop} (hd : noDefer o = true) (h : growAt P o a w fun u w' => N (a.put o.dst u) w') : o.wpIn (Fence.wide.inRound l) n P a w N Q' := by
  refine ⟨fun _ _ => trivial, ?_⟩
  rw [Oper.semAt_eq _ _ _ (fun c hc => by unfold noDefer at hd; rw [hc] at hd; cases hd)]
  unfold growAt at h
  generalize (execOp a.eval o).run P w = r at *
  cases r with
  | ok m w' =>
    cases m <;> simp only [growUpon] at h <;> simp only [Oper.uponIn]
    case value u => exact h
    case skip => exact h
    case enter f args =>
      obtain ⟨rfl, hc⟩ := h
      refine ⟨fun hx => (by cases hx), ?_⟩
      show CallsIn Fence.wide (n - 1) P f args w' _
      refine callsIn_wide.2 (hc.mono fun e w'' ⟨u, he, hG⟩ => ?_)
      subst he
      exact hG
  | halt x w' => simp only [growUpon] at h

theorem ready_fuel {listed : Array Bool} {X : Prop} (h : Region.ready md ops listed ≠ []) : Region.ready md ops listed = [] → X := fun e => absurd e h

theorem wpAny_of_G {Q' : Exit → Act → World → Prop} (hCR : ∀ w w', C w → R w w' → C w') (rest : Nat) (hQ : ∀ listed S a w, C w → S.all w → Q listed S a → wpAny P md ops Q' rest listed a w) :
    ∀ (fuel : Nat) (listed : Array Bool) (S : Facts) (a : Act) (w : World), S.kept R → C w → S.all w → wpAnyG P md ops C R F Q fuel listed S a → wpAny P md ops Q' (fuel + rest) listed a w
  | 0, _, _, _, w, _, hw, hS, h => by rw [Nat.zero_add]; exact hQ _ _ _ _ hw hS (h ⟨w, hw, hS⟩)
  | fuel + 1, listed, S, a, w, hk, hw, hS, h => by
    have h := h ⟨w, hw, hS⟩
    rw [show fuel + 1 + rest = (fuel + rest) + 1 by omega]
    refine ⟨ready_fuel h.1, fun i hi => ?_⟩
    have h2 := h.2 i hi
    unfold gOp at h2
    unfold wpOp
    cases ho : ops[i]? with
    | none => simp only [ho] at h2 ⊢; exact wpAny_of_G hCR rest hQ fuel _ S a w hk hw hS h2
    | some o =>
      simp only [ho] at h2 ⊢
      obtain ⟨g, hok, hK⟩ := h2
      by_cases hwant : Region.wanted o (yielded ops a.tmps) = true
      · rw [if_pos hwant]
        exact .inl (wp_of_grow (grow_on hCR hk hw hS hwant hok hK fun S' a' w' hk' hw' hS' hA => wpAny_of_G hCR rest hQ fuel _ S' a' w' hk' hw' hS' hA))
      · unfold okFor at hok
        rw [if_neg hwant] at hok ⊢
        subst hok
        have hK := hK ()
        simp only [Known.exact, Facts.add_none] at hK
        exact wpAny_of_G hCR rest hQ fuel _ S _ w hk hw hS hK
theorem wpAnyIn_of_G {l n : Nat} {Q' : Exit → Act → World → Prop} (hd : ∀ (j : Nat) (o : Oper), ops[j]? = some o → noDefer o = true) (hCR : ∀ w w', C w → R w w' → C w') (rest : Nat) (hQ : ∀ listed S a w, C w → S.all w → Q listed S a → wpAnyIn (Fence.wide.inRound l) n P md ops Q' rest listed a w) :
    ∀ (fuel : Nat) (listed : Array Bool) (S : Facts) (a : Act) (w : World), S.kept R → C w → S.all w → wpAnyG P md ops C R F Q fuel listed S a → wpAnyIn (Fence.wide.inRound l) n P md ops Q' (fuel + rest) listed a w
  | 0, _, _, _, w, _, hw, hS, h => by rw [Nat.zero_add]; exact hQ _ _ _ _ hw hS (h ⟨w, hw, hS⟩)
  | fuel + 1, listed, S, a, w, hk, hw, hS, h => by
    have h := h ⟨w, hw, hS⟩
    rw [show fuel + 1 + rest = (fuel + rest) + 1 by omega]
    refine ⟨ready_fuel h.1, fun i hi => ?_⟩
    have h2 := h.2 i hi
    unfold gOp at h2
    unfold wpOpIn
    cases ho : ops[i]? with
    | none => simp only [ho] at h2 ⊢; exact wpAnyIn_of_G hd hCR rest hQ fuel _ S a w hk hw hS h2
    | some o =>
      simp only [ho] at h2 ⊢
      obtain ⟨g, hok, hK⟩ := h2
      by_cases hwant : Region.wanted o (yielded ops a.tmps) = true
      · rw [if_pos hwant]
        exact wpIn_of_grow (hd i o ho) (grow_on hCR hk hw hS hwant hok hK fun S' a' w' hk' hw' hS' hA => wpAnyIn_of_G hd hCR rest hQ fuel _ S' a' w' hk' hw' hS' hA)
      · unfold okFor at hok
        rw [if_neg hwant] at hok ⊢
        subst hok
        have hK := hK ()
        simp only [Known.exact, Facts.add_none] at hK
        exact ⟨fun _ _ => trivial, wpAnyIn_of_G hd hCR rest hQ fuel _ S _ w hk hw hS hK⟩

/-- an operation that may run has an outcome -/
theorem okFor_out (hCR : ∀ w w', C w → R w w' → C w') {i : Nat} {o : Oper} {S : Facts} {a : Act} {g : Known R} (hk : S.kept R) (h : okFor P ops C R F i o S a g) (hI : Inh C S) : ∃ x, Inh C (S.add o (g.fact x)) := by
  obtain ⟨w, hw, hS⟩ := hI
  unfold okFor at h
  by_cases hwant : Region.wanted o (yielded ops a.tmps) = true
  · rw [if_pos hwant] at h
    cases hF : F i with
    | none =>
      simp only [hF] at h
      obtain ⟨v, rfl, _⟩ := h
      exact ⟨(), w, hw, by simp only [Known.exact, Facts.add_none]; exact hS⟩
    | some g' =>
      simp only [hF] at h
      obtain ⟨rfl, hr⟩ := h
      have hr := hr w hw (Facts.at_of_all hS)
      unfold growAt at hr
      have on : ∀ u w', (R w w' ∧ ∃ x, u = g.val x ∧ ∀ φ, g.fact x = some φ → φ w') → ∃ x, Inh C (S.add o (g.fact x)) := by
        rintro u w' ⟨hR, x, rfl, hx⟩
        exact ⟨x, w', hCR _ _ hw hR, Facts.all_add.2 ⟨hx, Facts.all_kept hk hS hR⟩⟩
      generalize (execOp a.eval o).run P w = r at *
      cases r with
      | ok n w' =>
        cases n <;> simp only [growUpon] at hr
        case value u => exact on _ _ hr
        case skip => exact on _ _ hr
        case enter f args =>
          obtain ⟨rfl, hc⟩ := hr
          obtain ⟨e, w'', _, ⟨u, _, hG⟩, _⟩ := hc []
          exact on _ _ hG
      | halt x w' => simp only [growUpon] at hr
  · rw [if_neg hwant] at h
    subst h
    exact ⟨(), w, hw, by simp only [Known.exact, Facts.add_none]; exact hS⟩

theorem okFor_one {i : Nat} {o : Oper} {S : Facts} {a : Act} {g g' : Known R} (h : okFor P ops C R F i o S a g) (h' : okFor P ops C R F i o S a g') (hI : Inh C S) : g = g' := by
  obtain ⟨w, hw, hS⟩ := hI
  unfold okFor at h h'
  by_cases hwant : Region.wanted o (yielded ops a.tmps) = true
  · rw [if_pos hwant] at h h'
    cases hF : F i with
    | none =>
      simp only [hF] at h h'
      obtain ⟨v, rfl, hv⟩ := h
      obtain ⟨v', rfl, hv'⟩ := h'
      have hv := hv w hw (Facts.at_of_all hS)
      have hv' := hv' w hw (Facts.at_of_all hS)
      unfold readAt at hv hv'
      have : v = v' := by
        generalize (execOp a.eval o).run P w = r at *
        cases r with
        | ok n w' => cases n <;> simp only [readUpon] at hv hv' <;> grind
        | halt x w' => simp only [readUpon] at hv
      rw [this]
    | some q =>
      simp only [hF] at h h'
      rw [h.1, h'.1]
  · rw [if_neg hwant] at h h'
    rw [h, h']

theorem okFor_more {i : Nat} {o : Oper} {S S' : Facts} {a : Act} {g : Known R} (h : okFor P ops C R F i o S a g) (hS : ∀ p, S p → S' p) : okFor P ops C R F i o S' a g := by
  have hat : ∀ w, S'.at ops o w → S.at ops o w := fun w hw p hp => hw p (hS p hp)
  unfold okFor at *
  split
  · rename_i hwant
    rw [if_pos hwant] at h
    cases hF : F i with
    | none => simp only [hF] at h ⊢; obtain ⟨v, e, hv⟩ := h; exact ⟨v, e, fun w hw ha => hv w hw (hat w ha)⟩
    | some q => simp only [hF] at h ⊢; exact ⟨h.1, fun w hw ha => h.2 w hw (hat w ha)⟩
  · rename_i hwant
    rw [if_neg hwant] at h; exact h

/-- state and facts of an operation that stands apart make no difference -/
theorem okFor_apart {j : Nat} {oi oj : Oper} {S : Facts} {a : Act} {u : Value} {φ : Option (World → Prop)} {g : Known R} (hap : oi.apart ops oj = true) (hsj : ∀ cs b, oj.op ≠ .select cs b)
    (h : okFor P ops C R F j oj (S.add oi φ) (a.put oi.dst u) g) : okFor P ops C R F j oj S a g := by
  obtain ⟨h1, h2, h3⟩ := Oper.apart_spec hap
  have hat : ∀ w, S.at ops oj w → (S.add oi φ).at ops oj w := by
    rintro w hw p (⟨ψ, hψ, rfl⟩ | hp) hap'
    · simp only [hap] at hap'; cases hap'
    · exact hw p hp hap'
  unfold okFor growAt readAt at *
  rw [wanted_put oj a oi.dst u h1, execOp_put oj hsj a oi.dst u h1] at h
  split
  · rename_i hwant
    rw [if_pos hwant] at h
    cases hF : F j with
    | none => simp only [hF] at h ⊢; obtain ⟨v, e, hv⟩ := h; exact ⟨v, e, fun w hw ha => hv w hw (hat w ha)⟩
    | some q => simp only [hF] at h ⊢; exact ⟨h.1, fun w hw ha => h.2 w hw (hat w ha)⟩
  · rename_i hwant
    rw [if_neg hwant] at h; exact h
theorem okFor_keep {i : Nat} {oi oj : Oper} {S : Facts} {a : Act} {u : Value} {g : Known R} (hap : oi.apart ops oj = true) (hsi : ∀ cs b, oi.op ≠ .select cs b)
    (h : okFor P ops C R F i oi S a g) : okFor P ops C R F i oi S (a.put oj.dst u) g := by
  obtain ⟨h1, h2, h3⟩ := Oper.apart_spec hap
  unfold okFor growAt readAt at *
  rw [wanted_put oi a oj.dst u h3, execOp_put oi hsi a oj.dst u h3]
  exact h

theorem wpAnyG_first (hCR : ∀ w w', C w → R w w' → C w') {n i : Nat} {oi : Oper} (hi : ops[i]? = some oi) (hsel : ∀ (j : Nat) (o : Oper) cs b, ops[j]? = some o → o.op ≠ .select cs b) (hin : i < n)
    (htail : ∀ listed, HeadInv md ops n listed → ∀ i, i < n → listed.getD i true = false → ∀ j ∈ Region.ready md ops listed, j < n)
    (hdone : ∀ listed S a, Q listed S a → ∀ j ∈ Region.ready md ops listed, n ≤ j) :
    ∀ (fuel : Nat) (listed : Array Bool) (S : Facts) (a : Act) (g : Known R), S.kept R → HeadInv md ops n listed →
      (∀ j oj, ops[j]? = some oj → j ≠ i → listed.getD j true = false → (∀ e ∈ oj.after, Region.binds md e = true → e.on ≠ i) → oi.apart ops oj = true) →
      i ∈ Region.ready md ops listed → okFor P ops C R F i oi S a g →
      (∀ x, wpAnyG P md ops C R F Q fuel (listed.setIfInBounds i true) (S.add oi (g.fact x)) (a.put oi.dst (g.val x))) → wpAnyG P md ops C R F Q (fuel + 1) listed S a := by
  intro fuel
  induction fuel with
  | zero =>
    intro listed S a g hk inv _ hr hok H hI
    have hun := (mem_ready.1 hr).1
    refine ⟨fun h => (by rw [h] at hr; cases hr), fun j hj => ?_⟩
    have hjn := htail listed inv i hin hun j hj
    by_cases hji : j = i
    · subst hji; unfold gOp; simp only [hi]; exact ⟨g, hok, H⟩
    · obtain ⟨x, hx⟩ := okFor_out hCR hk hok hI
      have := hdone _ _ _ (H x hx) j (ready_mono hj hji)
      omega
  | succ fuel ih =>
    intro listed S a g hk inv hfree hr hok H hI
    have hun := (mem_ready.1 hr).1
    refine ⟨fun h => (by rw [h] at hr; cases hr), fun j hj => ?_⟩
    have hjn := htail listed inv i hin hun j hj
    by_cases hji : j = i
    · subst hji; unfold gOp; simp only [hi]; exact ⟨g, hok, H⟩
    · obtain ⟨hjun, oj, hoj, hall⟩ := mem_ready.1 hj
      have hnot : ∀ e ∈ oj.after, Region.binds md e = true → e.on ≠ i := fun e he hb heq => by
        have h1 := hall e he hb
        rw [heq, getD_both hun] at h1
        cases h1
      have hap := hfree j oj hoj hji hjun hnot
      have hsi : ∀ cs b, oi.op ≠ .select cs b := fun cs b => hsel i oi cs b hi
      have hsj : ∀ cs b, oj.op ≠ .select cs b := fun cs b => hsel j oj cs b hoj
      have hfree' : ∀ k ok, ops[k]? = some ok → k ≠ i → (listed.setIfInBounds j true).getD k true = false →
          (∀ e ∈ ok.after, Region.binds md e = true → e.on ≠ i) → oi.apart ops ok = true := fun k ok hk hki hun hno => by
        refine hfree k ok hk hki ?_ hno
        by_cases hjk : j = k
        · subst hjk; exact hjun
        · rw [getD_set_ne true hjk] at hun; exact hun
      have step : ∀ x, Inh C (S.add oi (g.fact x)) → ∃ gj, okFor P ops C R F j oj S a gj ∧ ∀ y, wpAnyG P md ops C R F Q fuel ((listed.setIfInBounds i true).setIfInBounds j true) ((S.add oi (g.fact x)).add oj (gj.fact y)) ((a.put oi.dst (g.val x)).put oj.dst (gj.val y)) := by
        intro x hx
        have h2 := (H x hx).2 j (ready_mono hj hji)
        unfold gOp at h2
        simp only [hoj] at h2
        obtain ⟨gj, hgj, hK⟩ := h2
        exact ⟨gj, okFor_apart hap hsj hgj, hK⟩
      obtain ⟨x1, hx1⟩ := okFor_out hCR hk hok hI
      obtain ⟨gj, hgj, _⟩ := step x1 hx1
      unfold gOp
      simp only [hoj]
      refine ⟨gj, hgj, fun y => ?_⟩
      refine ih (listed.setIfInBounds j true) (S.add oj (gj.fact y)) (a.put oj.dst (gj.val y)) g (Facts.kept_add hk oj gj y) (inv.set hj hjn) hfree' (ready_mono hr (Ne.symm hji))
        (okFor_keep hap hsi (okFor_more hok fun p hp => .inr hp)) fun x => wpAnyG_inh fun hI2 => ?_
      have hx : Inh C (S.add oi (g.fact x)) := by
        obtain ⟨w, hw, hS⟩ := hI2
        rw [Facts.add_comm] at hS
        exact ⟨w, hw, (Facts.all_add.1 hS).2⟩
      obtain ⟨gj', hgj', hK⟩ := step x hx
      obtain rfl := okFor_one hgj hgj' hI
      have := hK y
      rw [Facts.add_comm, Act.put_comm a _ _ (fun d hd => (Oper.apart_spec hap).2.1 d hd), Array.setIfInBounds_comm _ _ (Ne.symm hji)] at this
      exact this

/-- the lexical walk -/
def wpG (P : Program) (ops : Array Oper) (C : World → Prop) (R : World → World → Prop) (F : Nat → Option (Known R)) (Q : Facts → Act → Prop) : Nat → List Oper → Facts → Act → Prop
  | _, [], S, a => Q S a
  | k, o :: rest, S, a => if Region.wanted o (yielded ops a.tmps) = true then
      match F k with
      | none => ∃ v, (∀ w, C w → S.at ops o w → readAt P o a w v) ∧ wpG P ops C R F Q (k + 1) rest S (a.put o.dst v)
      | some g => (∀ w, C w → S.at ops o w → growAt P o a w fun u w' => R w w' ∧ ∃ x, u = g.val x ∧ ∀ φ, g.fact x = some φ → φ w') ∧ ∀ x, wpG P ops C R F Q (k + 1) rest (S.add o (g.fact x)) (a.put o.dst (g.val x))
    else wpG P ops C R F Q (k + 1) rest S (a.put o.dst undef)

theorem wpG_out {Q : Facts → Act → Prop} {k : Nat} {o : Oper} {rest : List Oper} {S : Facts} {a : Act} (h : wpG P ops C R F Q k (o :: rest) S a) :
    ∃ g, okFor P ops C R F k o S a g ∧ ∀ x, wpG P ops C R F Q (k + 1) rest (S.add o (g.fact x)) (a.put o.dst (g.val x)) := by
  unfold wpG at h
  unfold okFor
  split at h
  · rename_i hwant
    simp only [hwant, if_true]
    cases hF : F k with
    | none => simp only [hF] at h; obtain ⟨v, h1, h2⟩ := h; exact ⟨.exact R v, ⟨v, rfl, h1⟩, fun _ => by simpa only [Known.exact, Facts.add_none] using h2⟩
    | some g => simp only [hF] at h; exact ⟨g, ⟨rfl, h.1⟩, h.2⟩
  · rename_i hwant
    exact ⟨.exact R undef, by rw [if_neg hwant], fun _ => by simpa only [Known.exact, Facts.add_none] using h⟩

/-- the order of the text, up to the tail -/
theorem wpAnyG_lex {Q : Facts → Act → Prop} (hCR : ∀ w w', C w → R w w' → C w') {n g : Nat} (hs : Region.noSelect ops = true)
    (htail : ∀ listed, HeadInv md ops n listed → ∀ i, i < n → listed.getD i true = false → ∀ j ∈ Region.ready md ops listed, j < n) :
    ∀ (l : List Oper) (k : Nat) (listed : Array Bool) (S : Facts) (a : Act), S.kept R → (∀ j, j < l.length → l[j]? = ops[k + j]?) → k + l.length = n → HeadInv md ops n listed →
    Region.lexHead md ops g l.length k listed = true → wpG P ops C R F Q k l S a → wpAnyG P md ops C R F (fun listed' S' a' => Region.seqB md ops g n listed' = true ∧ Q S' a') l.length listed S a
  | [], k, listed, _, _, _, _, hk, _, hB, h => fun _ => by
    have : k = n := by simpa using hk
    subst this
    exact ⟨by simpa [Region.lexHead] using hB, h⟩
  | o :: l, k, listed, S, a, hk, hl, hkn, inv, hB, h => by
    have h0 : ops[k]? = some o := by simpa using (hl 0 (by simp)).symm
    simp only [List.length_cons, Region.lexHead, Bool.and_eq_true] at hB
    obtain ⟨⟨hr, hf⟩, hB'⟩ := hB
    have hkn' : k < n := by simp only [List.length_cons] at hkn; omega
    have hr' : k ∈ Region.ready md ops listed := by simpa using hr
    obtain ⟨gg, hg, hK⟩ := wpG_out h
    exact wpAnyG_first hCR h0 (Region.noSelect_spec hs) hkn' htail (fun listed' S' a' hL => seqB_ready hL.1) l.length listed S a gg hk inv (Region.free_spec h0 hf) hr' hg
      fun x => wpAnyG_lex hCR hs htail l (k + 1) _ _ _ (Facts.kept_add hk o gg x) (fun j hj => by have := hl (j + 1) (by simp; omega); simpa [Nat.add_assoc, Nat.add_comm 1 j] using this) (by simp only [List.length_cons] at hkn; omega) (inv.set hr' hkn') hB' (hK x)

theorem wpAnyIn_of_seq {F : Fence} {m : Nat} {Q' : Exit → Act → World → Prop} : ∀ (l : List Oper) (k : Nat) (listed : Array Bool) (a : Act) (w : World), (∀ j, l[j]? = ops[k + j]?) →
    Region.seqB md ops l.length k listed = true → wpListIn F m P ops Q' l a w → wpAnyIn F m P md ops Q' l.length listed a w
  | [], _, _, _, _, _, hB, h => ⟨by simpa [Region.seqB] using hB, h⟩
  | o :: l, k, listed, a, w, hl, hB, h => by
    have h0 : ops[k]? = some o := by simpa using (hl 0).symm
    simp only [List.length_cons, Region.seqB, Bool.and_eq_true, decide_eq_true_eq] at hB
    refine ⟨fun h1 => (by rw [hB.1] at h1; cases h1), fun i hi => ?_⟩
    rw [hB.1] at hi
    have hik : i = k := by simpa using hi
    subst hik
    have ih := fun a' w' h' => wpAnyIn_of_seq (F := F) (m := m) (Q' := Q') l (i + 1) (listed.setIfInBounds i true) a' w' (fun j => by have := hl (j + 1); simpa [Nat.add_assoc, Nat.add_comm 1 j] using this) hB.2 h'
    unfold wpOpIn
    simp only [h0]
    unfold wpListIn at h
    split
    · rename_i hw
      rw [if_pos hw] at h
      exact Oper.wpIn_mono (fun a' w' h' => ih a' w' h') h
    · rename_i hw
      rw [if_neg hw] at h
      exact ⟨h.1, ih _ _ h.2⟩

/-- what is asked of a region whose first n operations are taken in the text's order, the others one behind the other -/
def splitB (ops : Array Oper) (n : Nat) : Bool :=
  Region.noSelect ops && (decide (n = ops.size) || (decide (n < ops.size) && Region.sinkB .any ops n && Region.chainB .any ops n)) && Region.lexHead .any ops (ops.size - n) n 0 (Array.replicate ops.size false)
theorem split_tail {n : Nat} (h : splitB ops n = true) : Region.noSelect ops = true ∧ n ≤ ops.size ∧ Region.lexHead .any ops (ops.size - n) n 0 (Array.replicate ops.size false) = true ∧
    ∀ listed, HeadInv .any ops n listed → ∀ i, i < n → listed.getD i true = false → ∀ j ∈ Region.ready .any ops listed, j < n := by
  simp only [splitB, Bool.and_eq_true, Bool.or_eq_true, decide_eq_true_eq] at h
  obtain ⟨⟨hs, hn⟩, hl⟩ := h
  rcases hn with rfl | ⟨⟨hn, h1⟩, h2⟩
  · exact ⟨hs, Nat.le_refl _, hl, fun listed _ i _ _ j hj => by obtain ⟨_, o, ho, _⟩ := mem_ready.1 hj; exact (Array.getElem?_eq_some_iff.1 ho).1⟩
  · refine ⟨hs, Nat.le_of_lt hn, hl, fun listed inv i hi hun j hj => ?_⟩
    rcases Nat.lt_or_ge j n with h | h
    · exact h
    · exact absurd hj (tail_waits h1 h2 hn inv _ i rfl hi hun j h)

/-- ONE WALK OF THE TEXT'S ORDER, the tail one operation behind the other -/
theorem wp_region_grown {id : Nat} {Q : Exit → Act → World → Prop} {a : Act} {w : World} {l : List Oper} (F : Nat → Option (Known R)) (n : Nat) (hm : P.follows .mixedOrders = true) (hB : splitB l.toArray n = true)
    (hCR : ∀ w w', C w → R w w' → C w') (hC : C w.drew)
    (h : wpG P l.toArray C R F (fun S a' => ∀ w', C w' → S.all w' → wpList P l.toArray Q (l.drop n) a' w') 0 (l.take n) Facts.none a) : (Code.region id l.toArray true).wp P Q a w := by
  obtain ⟨hs, hn, hlex, htail⟩ := split_tail hB
  have hk : Facts.none.kept R := fun p hp => hp.elim
  have ha : ∀ w', Facts.none.all w' := fun w' p hp => hp.elim
  have hn' : n ≤ l.length := by simpa using hn
  have htl : (l.take n).length = n := by simp; omega
  have hdl : (l.drop n).length = l.toArray.size - n := by simp
  have inv0 : HeadInv .any l.toArray n (Array.replicate l.toArray.size false) :=
    ⟨by simp, fun j oj _ hl => (by rw [getD_replicate_false] at hl; cases hl), fun t _ ht => getD_in (by simpa using ht) (getD_replicate_false _ _)⟩
  have H := wpAnyG_lex hCR hs htail (l.take n) 0 _ Facts.none a hk (fun j hj => by
    have hj' : j < n := by rw [htl] at hj; exact hj
    simp [hj']) (by simpa using htl) inv0 (by rw [htl]; exact hlex) h
  have := wpAny_of_G (Q' := Q) hCR (l.toArray.size - n) (fun listed S a' w' hw hS hL => by
    have := wpAny_of_seq (md := .any) (Q' := Q) (l.drop n) n listed a' w' (fun j => by simp [List.getElem?_drop]) (by rw [hdl]; exact hL.1) (hL.2 w' hw hS)
    rwa [hdl] at this) _ _ _ _ _ hk hC (ha _) H
  rw [htl, show n + (l.toArray.size - n) = l.toArray.size by omega] at this
  exact wp_region_any hm this

/-- .. in a round of a range over a function -/
theorem wpIn_region_grown {id k r : Nat} {Q : Exit → Act → World → Prop} {a : Act} {w : World} {l : List Oper} (F : Nat → Option (Known R)) (n : Nat) (hm : P.follows .mixedOrders = true) (hB : splitB l.toArray n = true) (hd : l.all noDefer = true)
    (hCR : ∀ w w', C w → R w w' → C w') (hC : C w.drew)
    (h : wpG P l.toArray C R F (fun S a' => ∀ w', C w' → S.all w' → wpListIn (Fence.wide.inRound r) k P l.toArray Q (l.drop n) a' w') 0 (l.take n) Facts.none a) : (Code.region id l.toArray true).wpIn (Fence.wide.inRound r) k P Q a w := by
  obtain ⟨hs, hn, hlex, htail⟩ := split_tail hB
  have hk : Facts.none.kept R := fun p hp => hp.elim
  have ha : ∀ w', Facts.none.all w' := fun w' p hp => hp.elim
  have hn' : n ≤ l.length := by simpa using hn
  have htl : (l.take n).length = n := by simp; omega
  have hdl : (l.drop n).length = l.toArray.size - n := by simp
  have inv0 : HeadInv .any l.toArray n (Array.replicate l.toArray.size false) :=
    ⟨by simp, fun j oj _ hl => (by rw [getD_replicate_false] at hl; cases hl), fun t _ ht => getD_in (by simpa using ht) (getD_replicate_false _ _)⟩
  have H := wpAnyG_lex hCR hs htail (l.take n) 0 _ Facts.none a hk (fun j hj => by
    have hj' : j < n := by rw [htl] at hj; exact hj
    simp [hj']) (by simpa using htl) inv0 (by rw [htl]; exact hlex) h
  have := wpAnyIn_of_G (l := r) (n := k) (Q' := Q) (fun j o ho => List.all_eq_true.1 hd o (List.mem_of_getElem? (by simpa using ho))) hCR (l.toArray.size - n) (fun listed S a' w' hw hS hL => by
    have := wpAnyIn_of_seq (md := .any) (F := Fence.wide.inRound r) (m := k) (Q' := Q) (l.drop n) n listed a' w' (fun j => by simp [List.getElem?_drop]) (by rw [hdl]; exact hL.1) (hL.2 w' hw hS)
    rwa [hdl] at this) _ _ _ _ _ hk hC (ha _) H
  rw [htl, show n + (l.toArray.size - n) = l.toArray.size by omega] at this
  exact wpIn_region_any hm this
end
end Go.Proofs.Ytahmacnmphjhgaa
namespace Go.Proofs.Ytahmacnmphjhgaa
open Go.RowKit

attribute [go_sem] growAt growUpon
/-- the one world is the other one, grown -/
def Bel (w w' : World) : Prop := Below w.heap.size w w'
theorem Bel.refl (w : World) : Bel w w := Below.refl _ _
theorem Bel.trans {a b c : World} (h : Bel a b) (k : Bel b c) : Bel a c := bt h k

/-- which slots are known by what: by the number of the operation in its region -/
def knownAt {R : World → World → Prop} : List (Nat × Known R) → Nat → Option (Known R)
  | [], _ => none
  | (n, g) :: l, k => if n = k then some g else knownAt l k

def plainOp : Op → Bool
  | .move _ | .assign _ | .pick .. | .load .. | .binOp .. | .unOp .. | .convert .. | .slice .. | .fieldAddr .. | .field .. | .indexAddr .. | .index .. | .extract .. | .build .. | .makeInterface .. | .makeFunc .. => true
  | .call { callee := .builtin .len, .. } | .call { callee := .builtin .cap, .. } | .call { callee := .builtin .min, .. } | .call { callee := .builtin .max, .. } => true
  | _ => false

section
variable {P : Program} {ops : Array Oper} {C : World → Prop} {R : World → World → Prop} {F : Nat → Option (Known R)} {Q : Facts → Act → Prop}

theorem no_enter {α : Type} {r : Result α} {g : α → Value} {f : FuncId} {args : Array Value} {w : World} : r.andThen (fun x w => .ok (Next.value (g x)) w) ≠ .ok (.enter f args) w := by
  cases r <;> simp [Result.andThen]
theorem plain_no_enter {ρ : Operand → Value} {o : Oper} (h : plainOp o.op = true) {w w' : World} {f : FuncId} {args : Array Value} : (execOp ρ o).run P w ≠ .ok (.enter f args) w' := by
  unfold execOp
  unfold plainOp at h
  split at h
  all_goals first
    | (rename_i he; simp only [he]; simp only [Sem.run_bind, Sem.run_pure]; first | exact no_enter | exact no_enter (g := fun x => x) | (simp; done))
    | (rename_i he; simp only [he, resolve, invoke, builtin, Sem.run_bind, Sem.run_pure, Result.andThen_ok]; exact no_enter (g := fun x => x))
    | cases h

theorem readAt_of_quiet {o : Oper} {a : Act} {C' : World → Prop} {w : World} {v : Value} (hp : plainOp o.op = true) (h : o.quietAt P a C' w v) : readAt P o a w v := by
  unfold Oper.quietAt at h
  unfold readAt
  have hne := fun f args w' => plain_no_enter (P := P) (ρ := a.eval) hp (w := w) (w' := w') (f := f) (args := args)
  generalize (execOp a.eval o).run P w = r at *
  cases r with
  | ok n w' =>
    cases n <;> simp only [Oper.quietUpon] at h <;> simp only [readUpon]
    case value u => exact h
    case skip => exact h
    case enter f args => exact absurd rfl (hne f args w')
  | halt x w' => simp only [Oper.quietUpon] at h

theorem wpG_skip {k : Nat} {o : Oper} {rest : List Oper} {S : Facts} {a : Act} (hw : Region.wanted o (yielded ops a.tmps) = false)
    (h : ∀ K : Act → Prop, (∀ a, wpG P ops C R F Q (k + 1) rest S a → K a) → wpQuiet P ops C K [o] a) : wpG P ops C R F Q k (o :: rest) S a := by
  have := h _ fun _ h => h
  unfold wpQuiet at this
  rw [if_neg (by rw [hw]; exact Bool.false_ne_true)] at this
  unfold wpG
  rw [if_neg (by rw [hw]; exact Bool.false_ne_true)]
  exact this
theorem wpG_quiet {k : Nat} {o : Oper} {rest : List Oper} {S : Facts} {a : Act} (hF : F k = none) (hp : plainOp o.op = true)
    (h : ∀ K : Act → Prop, (∀ a, wpG P ops C R F Q (k + 1) rest S a → K a) → wpQuiet P ops (fun _ => True) K [o] a) : wpG P ops C R F Q k (o :: rest) S a := by
  have := h _ fun _ h => h
  unfold wpQuiet at this
  unfold wpG
  split
  · rename_i hw
    rw [if_pos hw] at this
    obtain ⟨v, h1, h2⟩ := this
    simp only [hF]
    exact ⟨v, fun w hw _ => readAt_of_quiet hp (h1 w trivial), h2⟩
  · rename_i hw
    rw [if_neg hw] at this
    exact this
theorem wpG_known {k : Nat} {o : Oper} {rest : List Oper} {S : Facts} {a : Act} (g : Known R) (hF : F k = some g) (hw : Region.wanted o (yielded ops a.tmps) = true)
    (h1 : ∀ (w' : World) (G : Value → World → Prop), C w' → S.at ops o w' → (∀ x w'', R w' w'' → (∀ φ, g.fact x = some φ → φ w'') → G (g.val x) w'') → growAt P o a w' G)
    (h2 : ∀ x (K : Act → Prop), (∀ a, wpG P ops C R F Q (k + 1) rest (S.add o (g.fact x)) a → K a) → K (a.put o.dst (g.val x))) : wpG P ops C R F Q k (o :: rest) S a := by
  unfold wpG
  rw [if_pos hw]
  simp only [hF]
  exact ⟨fun w' hC hS => h1 w' _ hC hS fun x w'' hR hφ => ⟨hR, x, rfl, hφ⟩, fun x => h2 x _ fun _ h => h⟩
/-- a slot whose value is told -/
theorem wpG_exact {k : Nat} {o : Oper} {rest : List Oper} {S : Facts} {a : Act} {v : Value} (hF : F k = some (.exact R v)) (hw : Region.wanted o (yielded ops a.tmps) = true)
    (h1 : ∀ (w' : World) (G : Value → World → Prop), C w' → S.at ops o w' → (∀ w'', R w' w'' → G v w'') → growAt P o a w' G)
    (h2 : ∀ (K : Act → Prop), (∀ a, wpG P ops C R F Q (k + 1) rest S a → K a) → K (a.put o.dst v)) : wpG P ops C R F Q k (o :: rest) S a := by
  refine wpG_known (.exact R v) hF hw (fun w' G hC hS hG => h1 w' G hC hS fun w'' hR => hG () w'' hR (fun _ h => by cases h)) (fun x K hK => h2 K fun a ha => hK a ?_)
  simp only [Known.exact, Facts.add_none]
  exact ha

theorem at0 {S : Facts} {o o' : Oper} {φ : World → Prop} {w : World} (h : (S.add o (some φ)).at ops o' w) (ha : o.apart ops o' = false) : φ w := (Facts.at_some h).1 ha
theorem at_on {S : Facts} {o o' : Oper} {φ : Option (World → Prop)} {w : World} (h : (S.add o φ).at ops o' w) : S.at ops o' w := fun p hp => h p (.inr hp)
theorem at1 {S : Facts} {o o' o1 : Oper} {φ : World → Prop} {φ1 : Option (World → Prop)} {w : World} (h : ((S.add o (some φ)).add o1 φ1).at ops o' w) (ha : o.apart ops o' = false) : φ w := at0 (at_on h) ha
theorem at2 {S : Facts} {o o' o1 o2 : Oper} {φ : World → Prop} {φ1 φ2 : Option (World → Prop)} {w : World} (h : (((S.add o (some φ)).add o1 φ1).add o2 φ2).at ops o' w) (ha : o.apart ops o' = false) : φ w := at0 (at_on (at_on h)) ha
theorem at3 {S : Facts} {o o' o1 o2 o3 : Oper} {φ : World → Prop} {φ1 φ2 φ3 : Option (World → Prop)} {w : World} (h : ((((S.add o (some φ)).add o1 φ1).add o2 φ2).add o3 φ3).at ops o' w) (ha : o.apart ops o' = false) : φ w := at0 (at_on (at_on (at_on h))) ha

theorem all0 {S : Facts} {o : Oper} {φ : World → Prop} {w : World} (h : (S.add o (some φ)).all w) : φ w := (Facts.all_some.1 h).1
theorem all_on {S : Facts} {o : Oper} {φ : Option (World → Prop)} {w : World} (h : (S.add o φ).all w) : S.all w := fun p hp => h p (.inr hp)
theorem all1 {S : Facts} {o o1 : Oper} {φ : World → Prop} {φ1 : Option (World → Prop)} {w : World} (h : ((S.add o (some φ)).add o1 φ1).all w) : φ w := all0 (all_on h)
theorem all2 {S : Facts} {o o1 o2 : Oper} {φ : World → Prop} {φ1 φ2 : Option (World → Prop)} {w : World} (h : (((S.add o (some φ)).add o1 φ1).add o2 φ2).all w) : φ w := all0 (all_on (all_on h))

/-- one walk of the text's order, the world growing -/
theorem region_known {id : Nat} {Q : Exit → Act → World → Prop} {a : Act} {w : World} {l : List Oper} (L : List (Nat × Known Bel)) (hm : P.follows .mixedOrders = true) (hB : splitB l.toArray l.length = true)
    (h : wpG P l.toArray (Bel w) Bel (knownAt L) (fun S a' => ∀ w', Bel w w' → S.all w' → Q .normal a' w') 0 l Facts.none a) : (Code.region id l.toArray true).wp P Q a w :=
  wp_region_grown (knownAt L) l.length hm hB (fun _ _ h k => Bel.trans h k) (b_drew w) (by rw [List.take_length, List.drop_length]; exact h)
/-- .. up to the n-th operation, the others one behind the other -/
theorem region_tail {id : Nat} {Q : Exit → Act → World → Prop} {a : Act} {w : World} {l : List Oper} (n : Nat) (L : List (Nat × Known Bel)) (hm : P.follows .mixedOrders = true) (hB : splitB l.toArray n = true)
    (h : wpG P l.toArray (Bel w) Bel (knownAt L) (fun S a' => ∀ w', Bel w w' → S.all w' → wpList P l.toArray Q (l.drop n) a' w') 0 (l.take n) Facts.none a) : (Code.region id l.toArray true).wp P Q a w :=
  wp_region_grown (knownAt L) n hm hB (fun _ _ h k => Bel.trans h k) (b_drew w) h
theorem region_known_in {id k r : Nat} {Q : Exit → Act → World → Prop} {a : Act} {w : World} {l : List Oper} (L : List (Nat × Known Bel)) (hm : P.follows .mixedOrders = true) (hB : splitB l.toArray l.length = true) (hd : l.all noDefer = true)
    (h : wpG P l.toArray (Bel w) Bel (knownAt L) (fun S a' => ∀ w', Bel w w' → S.all w' → Q .normal a' w') 0 l Facts.none a) : (Code.region id l.toArray true).wpIn (Fence.wide.inRound r) k P Q a w :=
  wpIn_region_grown (knownAt L) l.length hm hB hd (fun _ _ h k => Bel.trans h k) (b_drew w) (by rw [List.take_length, List.drop_length]; exact h)
theorem region_tail_in {id k r : Nat} {Q : Exit → Act → World → Prop} {a : Act} {w : World} {l : List Oper} (n : Nat) (L : List (Nat × Known Bel)) (hm : P.follows .mixedOrders = true) (hB : splitB l.toArray n = true) (hd : l.all noDefer = true)
    (h : wpG P l.toArray (Bel w) Bel (knownAt L) (fun S a' => ∀ w', Bel w w' → S.all w' → wpListIn (Fence.wide.inRound r) k P l.toArray Q (l.drop n) a' w') 0 (l.take n) Facts.none a) : (Code.region id l.toArray true).wpIn (Fence.wide.inRound r) k P Q a w :=
  wpIn_region_grown (knownAt L) n hm hB hd (fun _ _ h k => Bel.trans h k) (b_drew w) h
/-- a callee's contract with a told result -/
theorem calls_told {f : FuncId} {args : Array Value} {w : World} {v : Value} {G : Value → World → Prop} (hG : ∀ w'', Bel w w'' → G v w'') (h : Calls P f args w fun e w' => e = .returned v ∧ Below w.heap.size w w') :
    Calls P f args w fun e w'' => ∃ u, e = .returned u ∧ G u w'' := h.mono fun _ _ ⟨he, hb⟩ => ⟨v, he, hG _ hb⟩
end
end Go.Proofs.Ytahmacnmphjhgaa
namespace Go.Proofs.Ytahmacnmphjhgaa
open Go.RowKit

section
variable {P : Program}
theorem ownsRow_chg {X : Nat → Prop} {w w' : World} {base : Nat} {e : TypeId} {size : Nat} {v : Value} {n : Nat} {xs : List Value} (h : w.ownsRow base e size v n xs) (hc : Chg X w w') (hX : ∀ k, base ≤ k → ¬ X k) : w'.ownsRow base e size v n xs := by
  obtain ⟨h1, h2⟩ := h
  refine ⟨h1, ?_⟩
  rcases h2 with h2 | ⟨g, cap, cur, hv, hg, hh, r⟩
  · exact .inl h2
  · exact .inr ⟨g, cap, cur, hv, hg, hc.at hh (hX g hg), r⟩
/-- append(s, x) in a round: one element, s the call's own -/
theorem append1In {F : Fence} {k : Nat} {ops : Array Oper} {rest : List Oper} {o : Oper} {a : Act} {Q : Exit → Act → World → Prop} (wr : World) (news : List Value) (e : TypeId) (hgd : o.guard = none) (s x : Operand) (t : TypeId)
    (ho : o.op = .call { callee := .builtin .append, args := #[s, x], argTypes := #[t, t] })
    (base : Nat) (z : Value) (size bytes : Nat) (ht : P.underlying t = some (.slice e)) (hinfo : (P.info? e).map (fun i => (i.zero, i.size, i.bytes)) = some (some z, size, bytes))
    (hzs : z.cells.size = size) (hsz : 0 < size) (v : Value) (n : Nat) (xs : List Value) (hs : a.eval s = v) (hown : wr.ownsRow base e size v n xs)
    (c : Nat) (hx : a.eval x = .slice (some ⟨wr.heap.size, 0, none⟩) 1 c) (hl : news.length = size) (h1 : ∀ u ∈ news, u.oneCell' = true)
    (hbytes : (n + 1) * bytes ≤ 140737488355328) (hby : 0 < bytes) (hbase : base ≤ wr.heap.size)
    (h : ∀ g cap w', w'.ownsRow base e size (.slice (some ⟨g, 0, none⟩) (n + 1) cap) (n + 1) (xs ++ news) → Below base wr w' → wpListIn F k P ops Q rest (a.put o.dst (.slice (some ⟨g, 0, none⟩) (n + 1) cap)) w') : wpListIn F k P ops Q (o :: rest) a (wr.alloc (.cells news.toArray e)) := by
  obtain ⟨i, hi, hz, hi1, hi2⟩ := info_parts hinfo
  have hn : n + 1 ≤ (n + 1) * bytes := Nat.le_mul_of_pos_right _ hby
  refine wpListIn_append_own _ hgd s x t ho base e i z size bytes ht hi hz hi1 hi2 hzs hsz v n xs hs (hown.alloc _) ⟨wr.heap.size, 0, none⟩ 1 c news hx (by simpa using hl) ?_ h1 (by unfold maxLen; omega) hbytes (by simp; omega) ?_
  · intro j u hj
    have : j < news.length := by
      rcases Nat.lt_or_ge j news.length with h | h
      · exact h
      · simp [List.getElem?_eq_none h] at hj
    rw [Addr.add_lit, Nat.zero_add, World.cell?_alloc_new]
    simpa using hj
  · intro v' w' h2 h3 _
    obtain ⟨g, cap, rfl⟩ := ownsRow_succ h2
    refine h g cap w' h2 (((Below.refl base wr).alloc hbase _).grown h3 (by simp; omega) ?_)
    intro k hk
    exact (hown.lt k hk).1

/-- box s holds a slice value; the slice is the call's own, its blocks lie from base on -/
def BoxRow (s base : Nat) (t e : TypeId) (size : Nat) (U : World) (n : Nat) (cells : List Value) : Prop := ∃ v, U.heap[s]? = some (.cells #[v] t (0, 0)) ∧ U.ownsRow base e size v n cells
theorem BoxRow.chg {s base : Nat} {t e : TypeId} {size : Nat} {U U' : World} {n : Nat} {cells : List Value} {X : Nat → Prop} (h : BoxRow s base t e size U n cells) (hc : Chg X U U') (hX : ∀ k, X k → k ≠ s ∧ k < base) : BoxRow s base t e size U' n cells := by
  obtain ⟨v, h1, h2⟩ := h
  exact ⟨v, hc.at h1 fun hx => (hX s hx).1 rfl, ownsRow_chg h2 hc fun k hk hx => by have := (hX k hx).2; omega⟩
theorem BoxRow.stored {s base g cap : Nat} {t e : TypeId} {size : Nat} {U W : World} {v : Value} {n : Nat} {cells : List Value} (hsb : s < base) (hs : U.heap[s]? = some (.cells #[v] t (0, 0))) (hB : Below base U W) (hown : W.ownsRow base e size (.slice (some ⟨g, 0, none⟩) n cap) n cells) :
    BoxRow s base t e size (W.setCell ⟨s, 0, none⟩ (.slice (some ⟨g, 0, none⟩) n cap)) n cells ∧ Chg (fun k => k = s ∨ base ≤ k) U (W.setCell ⟨s, 0, none⟩ (.slice (some ⟨g, 0, none⟩) n cap)) :=
  ⟨⟨_, one_setCell (v := v) ((hB.block s hsb).trans hs), ownsRow_setCell_below hown hsb _⟩, (Chg.of_base hB fun k hk => .inr hk).trans (Chg.setCell _ _ _ (.inl rfl))⟩

/-- a slot that holds a slice whose cells are known -/
def kReads (n : Nat) (cells : List Value) : Known Bel := ⟨Option Addr × Nat, fun x => .slice x.1 n x.2, fun x => some fun w => Reads w (.slice x.1 n x.2) n cells, fun _ _ h _ _ hφ hB => by cases h; exact Reads.below hφ hB⟩
@[go_sem] theorem kReads_val (n : Nat) (cells : List Value) (a : Option Addr) (c : Nat) : (kReads n cells).val (a, c) = .slice a n c := rfl
theorem reads_new {w' : World} {G : Value → World → Prop} {n : Nat} {cells : List Value} {cs : Array Value} {e : TypeId} (hG : ∀ x w'', Bel w' w'' → (∀ φ, (kReads n cells).fact x = some φ → φ w'') → G ((kReads n cells).val x) w'') (hcs : cs = cells.toArray) :
    G (.slice (some ⟨w'.heap.size, 0, none⟩) n n) (w'.alloc (.cells cs e)) := by
  subst hcs
  exact hG (some ⟨w'.heap.size, 0, none⟩, n) _ (b_alloc w' _) (fun φ h => by cases h; exact Reads.new w' cells n e n)
/-- append(s, x...) in a round: s the call's own, x whatever slice of at least one element -/
theorem appendNIn {F : Fence} {k : Nat} {ops : Array Oper} {rest : List Oper} {o : Oper} {a : Act} {Q : Exit → Act → World → Prop} (w : World) (news : List Value) (e : TypeId) (hgd : o.guard = none) (s x : Operand) (t : TypeId)
    (ho : o.op = .call { callee := .builtin .append, args := #[s, x], argTypes := #[t, t] })
    (base : Nat) (z : Value) (size bytes : Nat) (ht : P.underlying t = some (.slice e)) (hinfo : (P.info? e).map (fun i => (i.zero, i.size, i.bytes)) = some (some z, size, bytes))
    (hzs : z.cells.size = size) (hsz : 0 < size) (v : Value) (n : Nat) (xs : List Value) (hs : a.eval s = v) (hown : w.ownsRow base e size v n xs)
    (vx : Value) (m : Nat) (hx : a.eval x = vx) (hr : Reads w vx m news) (hm : 0 < m) (hl : news.length = m * size) (h1 : ∀ u ∈ news, u.oneCell' = true)
    (hbytes : (n + m) * bytes ≤ 140737488355328) (hby : 0 < bytes) (hbase : base ≤ w.heap.size)
    (h : ∀ g cap w', w'.ownsRow base e size (.slice (some ⟨g, 0, none⟩) (n + m) cap) (n + m) (xs ++ news) → Below base w w' → wpListIn F k P ops Q rest (a.put o.dst (.slice (some ⟨g, 0, none⟩) (n + m) cap)) w') : wpListIn F k P ops Q (o :: rest) a w := by
  obtain ⟨i, hi, hz, hi1, hi2⟩ := info_parts hinfo
  have hn : n + m ≤ (n + m) * bytes := Nat.le_mul_of_pos_right _ hby
  obtain ⟨ax, cap, rfl, hnone, hc⟩ := hr
  cases ax with
  | none => have := (hnone rfl).1; omega
  | some ad =>
    refine wpListIn_append_own _ hgd s x t ho base e i z size bytes ht hi hz hi1 hi2 hzs hsz v n xs hs hown ad m cap news hx hl ?_ h1 (by unfold maxLen; omega) hbytes hbase ?_
    · intro j u hj
      obtain ⟨b, off, ha, hu⟩ := hc j u hj
      cases ha
      rw [Addr.add_lit]; exact hu
    · intro v' w' h2 h3 _
      obtain ⟨m', rfl⟩ : ∃ m', m = m' + 1 := ⟨m - 1, by omega⟩
      obtain ⟨g, cap', rfl⟩ := ownsRow_succ (k := n + m') h2
      refine h g cap' w' h2 ((Below.refl base w).grown h3 hbase ?_)
      intro k hk
      exact (hown.lt k hk).1
/-- a function whose body ranges over a function -/
theorem calls_of_wp_marks {f : FuncId} {fn : Func} {c : Code} {args : Array Value} {w : World} {R : Ending → World → Prop} (hf : P.funcs[f]? = some fn) (hb : fn.body = some c)
    (h : c.wp P (bodyPostM Fence.wide 1 P fn R) { tmps := args ++ Array.replicate (fn.ntmps - args.size) undef, defers := [] } w) : Calls P f args w R :=
  (callsIn_wide (n := 1)).1 (callsIn_of_wp_marks (F := Fence.wide) hf hb trivial (wpIn_wide.2 h))
theorem marks_ret {fn : Func} {R : Ending → World → Prop} {a : Act} {w : World} {D : Nat} {v : Value} (hd : a.defers = [{ target := .collected D, args := #[] }]) (hK : w.heap[D]? = some (.deferred (some [])))
    (hr : (results fn a.tmps).run P (w.putObj D (.deferred none)) = .ok v (w.putObj D (.deferred none))) (hR : R (.returned v) (w.putObj D (.deferred none))) : bodyPostM Fence.wide 1 P fn R .ret a w := by
  unfold bodyPostM
  simp only [hd]
  exact ⟨by simp, .inl ⟨_, _, rfl, run_takeDeferred hK, v, hr, hR⟩⟩
theorem marks_none {fn : Func} {R : Ending → World → Prop} {a : Act} {w : World} {v : Value} (hd : a.defers = []) (hr : (results fn a.tmps).run P w = .ok v w) (hR : R (.returned v) w) : bodyPostM Fence.wide 1 P fn R .ret a w := by
  unfold bodyPostM
  simp only [hd]
  exact ⟨v, hr, hR⟩
end
end Go.Proofs.Ytahmacnmphjhgaa
namespace Go.Proofs.Ytahmacnmphjhgaa
open Go.RowKit Oct

/-- the last byte of an identity -/
def last32 (s : List UInt8) : Nat := (s.getD 31 0).toNat
def mark (s : List UInt8) : Bool := last32 s % 4 == 3
/-- does a group that began at f end behind k? -/
def cutAt (l : List (List UInt8)) (f k : Nat) : Bool := (mark (l.getD k []) && decide (2 ≤ k + 1 - f)) || decide (8 ≤ k + 1 - f) || decide (k + 1 = l.length)
def spansF (l : List (List UInt8)) : Nat → Nat → Nat → List (Nat × Nat)
  | 0, _, _ => []
  | n + 1, f, k => if k < l.length then (if cutAt l f k then (f, k + 1) :: spansF l n (k + 1) (k + 1) else spansF l n f (k + 1)) else []
def groups23 (l : List (List UInt8)) : List (Nat × Nat) := spansF l l.length 0 0
theorem spansF_cut {l : List (List UInt8)} {f k : Nat} (h : k < l.length) (hc : cutAt l f k = true) : spansF l (l.length - k) f k = (f, k + 1) :: spansF l (l.length - (k + 1)) (k + 1) (k + 1) := by
  obtain ⟨n, hn⟩ : ∃ n, l.length - k = n + 1 := ⟨l.length - k - 1, by omega⟩
  rw [hn, spansF, if_pos h, if_pos hc, show l.length - (k + 1) = n by omega]
theorem spansF_on {l : List (List UInt8)} {f k : Nat} (h : k < l.length) (hc : cutAt l f k = false) : spansF l (l.length - k) f k = spansF l (l.length - (k + 1)) f (k + 1) := by
  obtain ⟨n, hn⟩ : ∃ n, l.length - k = n + 1 := ⟨l.length - k - 1, by omega⟩
  rw [hn, spansF, if_pos h, if_neg (by rw [hc]; simp), show l.length - (k + 1) = n by omega]
theorem spansF_end {l : List (List UInt8)} {f : Nat} : spansF l (l.length - l.length) f l.length = [] := by rw [Nat.sub_self, spansF]
theorem spansF_le (l : List (List UInt8)) : ∀ n f k, (spansF l n f k).length ≤ n
  | 0, _, _ => by simp [spansF]
  | n + 1, f, k => by
    rw [spansF]
    split
    · split
      · have := spansF_le l n (k + 1) (k + 1); simp; omega
      · have := spansF_le l n f (k + 1); omega
    · simp

set_option maxRecDepth 100000 in
set_option maxHeartbeats 2000000 in
theorem rGroups23_any (v : Value) (l : List (List UInt8)) (w : World) (hr : recS.Row w v l) (hl : l.length ≤ 1000000) (hid : allIds l = true) :
    Calls Try.prog 34 #[v] w fun e w' => (∃ u, e = .returned u ∧ recSp.Own w' w.heap.size u (groups23 l)) ∧ Below w.heap.size w w' := by
  obtain ⟨a, cap, rfl, _, hc⟩ := recS_open hr
  have HC := Lib.hid hc
  have h32 : ∀ k (hk : k < l.length), l[k].length = 32 := fun k hk => by
    have := List.all_eq_true.1 hid l[k] (List.getElem_mem hk)
    simpa [isId] using this
  have H32 := Lib.hid h32
  clear hc hr hid h32
  go_enter Try.func34, Try.ntmps34
  go_wp2
  go_loopw [3, 4, 5] (fun vo vf vk wr => ∃ f k : Nat, ∃ S Av Cv, vo = .slice Av (List.length S) Cv ∧ vf = .int .i64 (f : Int) ∧ vk = .int .i64 (k : Int) ∧ f ≤ k ∧ k ≤ l.length ∧ Hid (S ++ spansF l (l.length - k) f k = groups23 l) ∧ Hid (recSp.Own wr w.heap.size (.slice Av S.length Cv) S) ∧ Hid (Below w.heap.size w wr)) (fun _ _ k _ => l.length - (intOf k).toNat)
  case atStart => exact ⟨0, 0, [], none, 0, rfl, rfl, rfl, by omega, by omega, rfl, Rec.Own.nil _ _, Below.refl _ _⟩
  case round =>
    obtain ⟨f, k, S, Av, Cv, rfl, rfl, rfl, hfk, hk, HS, HO, HB⟩ := hrel
    by_cases h0 : k < l.length
    · obtain ⟨b, off, rfl, c1⟩ := HC.out k h0
      have c2 := Below.keeps HB.out c1
      have h3 := H32.out k h0
      obtain ⟨x, hx⟩ : ∃ x, x = l[k] := ⟨_, rfl⟩
      rw [← hx] at c2 h3
      have hx31 : (31 : Int) < (x.length : Int) := by omega
      have hxn : 31 < x.length := by omega
      have k0 : (0 : Int) ≤ (k : Int) := by omega
      have k1 : (k : Int) < (l.length : Int) := by omega
      have k2 : (l.length : Int) ≤ 1000000 := by omega
      have k3 : (f : Int) ≤ (k : Int) := by omega
      have hsl : S.length ≤ l.length := by
        have h1 := congrArg List.length HS.out
        have h2 := spansF_le l l.length 0 0
        rw [List.length_append] at h1
        unfold groups23 at h1
        omega
      have hby : (S.length + 1) * recSp.bytes ≤ 140737488355328 := by show (S.length + 1) * 16 ≤ _; omega
      have hsz2 := HB.out.size
      have hg : l.getD k [] = x := by rw [hx]; simp [List.getD, h0]
      have hm : mark x = ((x[31].toNat : Int) % 4 == 3) := by
        unfold mark last32
        rw [show x.getD 31 0 = x[31] by simp [List.getD, hxn], Bool.eq_iff_iff, beq_iff_eq, beq_iff_eq]
        omega
      obtain ⟨m, hmm⟩ : ∃ m, m = mark x := ⟨_, rfl⟩
      rw [← hmm] at hm
      have HCA := Lib.hid (show cutAt l f k = ((m && decide (2 ≤ k + 1 - f)) || decide (8 ≤ k + 1 - f) || decide (k + 1 = l.length)) by unfold cutAt; rw [hg, ← hmm])
      have HX := Lib.hid hx
      have e1 := hm.symm
      clear c1 hg hx hmm hm hsl
      cases m with
      | true =>
        by_cases p2 : 2 ≤ k + 1 - f
        · have q2 : (2 : Int) ≤ (k : Int) + 1 - (f : Int) := by omega
          have HP2 := Lib.hid p2
          clear p2
          have HC1 := Lib.hid (show cutAt l f k = true by rw [HCA.out]; simp [HP2.out])
          go_wp2_with (at_builtin; go_must (refine recSp.append1 wr (f, k + 1) rfl _ _ 61 rfl Try.underlying61 w.heap.size _ S HO.out rfl _ rfl _ (by simp [recSp]) _ rfl hby hsz2 ?_); intro g cap2 w3 hown3 hB3; have HO3 := Lib.hid hown3; have HB3 := Lib.hid (HB.out.trans hB3); clear hown3 hB3 c2)
          refine ⟨⟨k + 1, k + 1, S ++ [(f, k + 1)], _, _, by rw [List.length_append]; rfl, by go_num, by go_num, by omega, by omega, ?_, by rw [List.length_append]; exact HO3.out, HB3.out⟩, by simp [intOf]; omega⟩
          unfold Hid
          rw [List.append_assoc, ← HS.out, spansF_cut h0 HC1.out]
          rfl
        · have q2 : ¬ (2 : Int) ≤ (k : Int) + 1 - (f : Int) := by omega
          have q3 : (k : Int) + 1 - (f : Int) < 2 := by omega
          have q8 : ¬ (8 : Int) ≤ (k : Int) + 1 - (f : Int) := by omega
          have q9 : (k : Int) + 1 - (f : Int) < 8 := by omega
          have HP2 := Lib.hid (show ¬ 8 ≤ k + 1 - f by omega)
          have HP3 := Lib.hid p2
          clear p2
          by_cases p1 : k + 1 = l.length
          · have q1 : ((k : Int) == (l.length : Int) - 1) = true := by rw [beq_iff_eq]; omega
            have HP1 := Lib.hid p1
            clear p1
            have HC1 := Lib.hid (show cutAt l f k = true by rw [HCA.out]; simp [HP1.out])
            go_wp2_with (at_builtin; go_must (refine recSp.append1 wr (f, k + 1) rfl _ _ 61 rfl Try.underlying61 w.heap.size _ S HO.out rfl _ rfl _ (by simp [recSp]) _ rfl hby hsz2 ?_); intro g cap2 w3 hown3 hB3; have HO3 := Lib.hid hown3; have HB3 := Lib.hid (HB.out.trans hB3); clear hown3 hB3 c2)
            refine ⟨⟨k + 1, k + 1, S ++ [(f, k + 1)], _, _, by rw [List.length_append]; rfl, by go_num, by go_num, by omega, by omega, ?_, by rw [List.length_append]; exact HO3.out, HB3.out⟩, by simp [intOf]; omega⟩
            unfold Hid
            rw [List.append_assoc, ← HS.out, spansF_cut h0 HC1.out]
            rfl
          · have q1 : ((k : Int) == (l.length : Int) - 1) = false := by rw [beq_eq_false_iff_ne]; omega
            have HP1 := Lib.hid p1
            clear p1
            have HC1 := Lib.hid (show cutAt l f k = false by rw [HCA.out]; simp [HP1.out, HP2.out, HP3.out])
            go_wp2
            refine ⟨⟨f, k + 1, S, _, _, rfl, rfl, by go_num, by omega, by omega, ?_, HO.out, HB.out⟩, by simp [intOf]; omega⟩
            unfold Hid
            rw [← HS.out, spansF_on h0 HC1.out]
      | false =>
        by_cases p8 : 8 ≤ k + 1 - f
        · have q8 : (8 : Int) ≤ (k : Int) + 1 - (f : Int) := by omega
          have HP8 := Lib.hid p8
          clear p8
          have HC1 := Lib.hid (show cutAt l f k = true by rw [HCA.out]; simp [HP8.out])
          go_wp2_with (at_builtin; go_must (refine recSp.append1 wr (f, k + 1) rfl _ _ 61 rfl Try.underlying61 w.heap.size _ S HO.out rfl _ rfl _ (by simp [recSp]) _ rfl hby hsz2 ?_); intro g cap2 w3 hown3 hB3; have HO3 := Lib.hid hown3; have HB3 := Lib.hid (HB.out.trans hB3); clear hown3 hB3 c2)
          refine ⟨⟨k + 1, k + 1, S ++ [(f, k + 1)], _, _, by rw [List.length_append]; rfl, by go_num, by go_num, by omega, by omega, ?_, by rw [List.length_append]; exact HO3.out, HB3.out⟩, by simp [intOf]; omega⟩
          unfold Hid
          rw [List.append_assoc, ← HS.out, spansF_cut h0 HC1.out]
          rfl
        · have q8 : ¬ (8 : Int) ≤ (k : Int) + 1 - (f : Int) := by omega
          have q9 : (k : Int) + 1 - (f : Int) < 8 := by omega
          have HP8 := Lib.hid p8
          clear p8
          by_cases p1 : k + 1 = l.length
          · have q1 : ((k : Int) == (l.length : Int) - 1) = true := by rw [beq_iff_eq]; omega
            have HP1 := Lib.hid p1
            clear p1
            have HC1 := Lib.hid (show cutAt l f k = true by rw [HCA.out]; simp [HP1.out])
            go_wp2_with (at_builtin; go_must (refine recSp.append1 wr (f, k + 1) rfl _ _ 61 rfl Try.underlying61 w.heap.size _ S HO.out rfl _ rfl _ (by simp [recSp]) _ rfl hby hsz2 ?_); intro g cap2 w3 hown3 hB3; have HO3 := Lib.hid hown3; have HB3 := Lib.hid (HB.out.trans hB3); clear hown3 hB3 c2)
            refine ⟨⟨k + 1, k + 1, S ++ [(f, k + 1)], _, _, by rw [List.length_append]; rfl, by go_num, by go_num, by omega, by omega, ?_, by rw [List.length_append]; exact HO3.out, HB3.out⟩, by simp [intOf]; omega⟩
            unfold Hid
            rw [List.append_assoc, ← HS.out, spansF_cut h0 HC1.out]
            rfl
          · have q1 : ((k : Int) == (l.length : Int) - 1) = false := by rw [beq_eq_false_iff_ne]; omega
            have HP1 := Lib.hid p1
            clear p1
            have HC1 := Lib.hid (show cutAt l f k = false by rw [HCA.out]; simp [HP1.out, HP8.out])
            go_wp2
            refine ⟨⟨f, k + 1, S, _, _, rfl, rfl, by go_num, by omega, by omega, ?_, HO.out, HB.out⟩, by simp [intOf]; omega⟩
            unfold Hid
            rw [← HS.out, spansF_on h0 HC1.out]
    · obtain rfl : k = l.length := by omega
      have hfin := HS.out
      rw [spansF_end, List.append_nil] at hfin
      have HF := Lib.hid hfin
      clear hfin
      go_wp2
      go_ret
      exact ⟨⟨_, rfl, by rw [← HF.out]; exact HO.out⟩, HB.out⟩
end Go.Proofs.Ytahmacnmphjhgaa
namespace Go.Proofs.Ytahmacnmphjhgaa.Oct

/-- seven bits a byte, the lowest first -/
def val7 : List UInt8 → Nat
  | [] => 0
  | c :: l => c.toNat % 128 + 128 * val7 l

theorem val7_lt : ∀ l : List UInt8, val7 l < 128 ^ l.length
  | [] => by simp [val7]
  | c :: l => by
    have := val7_lt l
    have hc := Nat.mod_lt c.toNat (show 0 < 128 by decide)
    simp only [val7, List.length_cons, Nat.pow_succ]
    omega
theorem val7_append : ∀ a b : List UInt8, val7 (a ++ b) = val7 a + 128 ^ a.length * val7 b
  | [], b => by simp [val7]
  | c :: a, b => by
    simp only [List.cons_append, val7, val7_append a b, List.length_cons, Nat.pow_succ]
    rw [Nat.mul_add, Nat.mul_comm (128 ^ a.length) 128, Nat.mul_assoc, Nat.add_assoc]

theorem ofNat_toNat (x : Nat) (h : x < 256) : (UInt8.ofNat x).toNat = x := by simp; omega
theorem add128_toNat (x : Nat) : (UInt8.ofNat (x % 128) + 128).toNat = x % 128 + 128 := by
  rw [UInt8.toNat_add]; simp; omega

theorem val7_shortF : ∀ (f v : Nat), v < 128 ^ f → val7 (shortF f v) = v
  | 0, v, h => by simp at h; simp [shortF, val7, h]
  | f + 1, v, h => by
    by_cases hv : v < 128
    · rw [shortF_lt _ _ hv]; simp [val7]; omega
    · rw [shortF_ge _ _ (by omega)]
      have := val7_shortF f (v / 128) (by rw [Nat.pow_succ] at h; omega)
      rw [val7, this, add128_toNat]; omega

/-- the form of a short number's bytes -/
def wf7 : List UInt8 → Bool
  | [] => false
  | [c] => decide (c.toNat < 128)
  | [c, d] => decide (128 ≤ c.toNat) && decide (0 < d.toNat) && decide (d.toNat < 128)
  | c :: d :: e :: l => decide (128 ≤ c.toNat) && wf7 (d :: e :: l)

theorem wf7_cons (c : UInt8) (l : List UInt8) : wf7 (c :: l) = if l = [] then decide (c.toNat < 128) else decide (128 ≤ c.toNat) && wf7 l && !(l == [0]) := by
  match l with
  | [] => rfl
  | [d] =>
    simp only [wf7, reduceCtorEq, if_false]
    have : (([d] : List UInt8) == [0]) = decide (d.toNat = 0) := by
      rw [Bool.eq_iff_iff]; simp [← UInt8.toNat_inj]
    rw [this]
    by_cases h : d.toNat = 0 <;> by_cases h2 : d.toNat < 128 <;> simp [h, h2] <;> omega
  | d :: e :: l =>
    simp only [wf7, reduceCtorEq, if_false]
    have : ((d :: e :: l : List UInt8) == [0]) = false := by simp
    rw [this]; simp

theorem val7_pos : ∀ l : List UInt8, wf7 l = true → l ≠ [0] → 0 < val7 l
  | [], h, _ => by simp [wf7] at h
  | c :: l, h, h0 => by
    rw [wf7_cons] at h
    by_cases hl : l = []
    · subst hl
      simp at h
      have : c ≠ 0 := by rintro rfl; exact h0 rfl
      have : c.toNat ≠ 0 := fun e => this (by rw [← UInt8.toNat_inj]; simpa using e)
      simp [val7]; omega
    · simp [hl] at h
      have := val7_pos l h.1.2 h.2
      simp [val7]; omega

theorem shortF_val7 : ∀ (l : List UInt8) (f : Nat), wf7 l = true → l.length ≤ f → shortF f (val7 l) = l
  | [], _, h, _ => by simp [wf7] at h
  | c :: l, f, h, hf => by
    obtain ⟨f, rfl⟩ : ∃ f', f = f' + 1 := ⟨f - 1, by simp at hf; omega⟩
    rw [wf7_cons] at h
    by_cases hl : l = []
    · subst hl
      simp at h
      have hv : val7 [c] = c.toNat := by simp [val7]; omega
      rw [hv, shortF_lt _ _ h]; simp
    · simp [hl] at h
      have hp := val7_pos l h.1.2 h.2
      have hc := c.toNat_lt
      have e1 : (c.toNat % 128 + 128 * val7 l) / 128 = val7 l := by omega
      have e2 : (c.toNat % 128 + 128 * val7 l) % 128 = c.toNat - 128 := by omega
      have e3 : UInt8.ofNat (c.toNat - 128) + 128 = c := by
        rw [← UInt8.toNat_inj, UInt8.toNat_add]
        simp; omega
      rw [val7, shortF_ge _ _ (by omega), e1, e2, shortF_val7 l f h.1.2 (by simp at hf; omega), e3]

theorem wf7_shortF : ∀ (f v : Nat), v < 128 ^ (f + 1) → wf7 (shortF (f + 1) v) = true
  | f, v, h => by
    by_cases hv : v < 128
    · rw [shortF_lt _ _ hv, wf7, ofNat_toNat _ (by omega)]; exact decide_eq_true hv
    · match f with
      | 0 => rw [Nat.zero_add, Nat.pow_one] at h; omega
      | f + 1 =>
        have h2 := wf7_shortF f (v / 128) (by rw [Nat.pow_succ] at h; omega)
        rw [shortF_ge _ _ (by omega), wf7_cons]
        have hne : shortF (f + 1) (v / 128) ≠ [] := by intro e; rw [e] at h2; simp [wf7] at h2
        have hz : shortF (f + 1) (v / 128) ≠ [0] := by
          intro e
          have := val7_shortF (f + 1) (v / 128) (by rw [Nat.pow_succ] at h; omega)
          rw [e] at this; simp [val7] at this; omega
        have h128 : 128 ≤ (UInt8.ofNat (v % 128) + 128).toNat := by rw [add128_toNat]; omega
        simp only [hne, if_false, h2, hz, h128]; simp [hz]

/-- the end of ReadShort: k bytes ahead, that come to a; c is the next -/
def rsFin (k a : Nat) (c : UInt8) : Nat × Nat × Int :=
  if 0 < k ∧ c.toNat = 0 then (0, 0, 7) else if k = 9 ∧ 1 < c.toNat then (0, 0, 7) else (a + c.toNat * 128 ^ k, k + 1, 0)
def rsF : Nat → Nat → List UInt8 → Nat × Nat × Int
  | _, _, [] => (0, 0, 6)
  | k, a, c :: l => if 128 ≤ c.toNat ∧ k < 9 then rsF (k + 1) (a + c.toNat % 128 * 128 ^ k) l else rsFin k a c
/-- ReadShort -/
def readShort (l : List UInt8) : Nat × Nat × Int := rsF 0 0 l

/-- how many bytes at the head are 128 or more -/
def lead : List UInt8 → Nat
  | [] => 0
  | c :: l => if 128 ≤ c.toNat then lead l + 1 else 0
theorem lead_le : ∀ l, lead l ≤ l.length
  | [] => by simp [lead]
  | c :: l => by have := lead_le l; simp only [lead]; split <;> simp <;> omega

theorem rsF_end : ∀ (l : List UInt8) (k a : Nat), lead l = l.length → k + l.length ≤ 9 → rsF k a l = (0, 0, 6)
  | [], _, _, _, _ => rfl
  | c :: l, k, a, h, hk => by
    simp only [lead] at h
    split at h
    · rename_i hc
      simp at h hk
      rw [rsF, if_pos ⟨hc, by omega⟩, rsF_end l _ _ h (by omega)]
    · simp at h
theorem rsF_step : ∀ (l : List UInt8) (k a n : Nat) (h : n < l.length), n ≤ lead l → k + n ≤ 9 → rsF k a l = rsF (k + n) (a + 128 ^ k * val7 (l.take n)) (l.drop n)
  | l, k, a, 0, _, _, _ => by simp [val7]
  | [], _, _, n + 1, h, _, _ => by simp at h
  | c :: l, k, a, n + 1, h, hl, hk => by
    simp only [lead] at hl
    split at hl
    · rename_i hc
      simp at h
      rw [rsF, if_pos ⟨hc, by omega⟩, rsF_step l (k + 1) _ n h (by omega) (by omega)]
      have e : k + (n + 1) = k + 1 + n := by omega
      simp only [List.take_succ_cons, List.drop_succ_cons, val7, Nat.pow_succ, e]
      congr 1
      rw [Nat.mul_add, Nat.add_assoc, Nat.mul_comm (c.toNat % 128), Nat.mul_assoc]
    · omega
theorem lead_not : ∀ (l : List UInt8) (h : lead l < l.length), (l[lead l]'h).toNat < 128
  | [], h => by simp at h
  | c :: l, h => by
    by_cases hc : 128 ≤ c.toNat
    · have e : lead (c :: l) = lead l + 1 := by simp [lead, hc]
      simp only [e, List.getElem_cons_succ]
      exact lead_not l _
    · have e : lead (c :: l) = 0 := by simp [lead, hc]
      simp only [e, List.getElem_cons_zero]; omega
theorem lead_yes : ∀ (l : List UInt8) (i : Nat) (h : i < l.length), i < lead l → 128 ≤ (l[i]'h).toNat
  | [], _, h, _ => by simp at h
  | c :: l, i, h, hi => by
    simp only [lead] at hi
    split at hi
    · rename_i hc
      cases i with
      | zero => exact hc
      | succ i => exact lead_yes l i _ (by omega)
    · omega

theorem readShort_end (l : List UInt8) (h : lead l = l.length) (h9 : l.length ≤ 9) : readShort l = (0, 0, 6) := rsF_end l 0 0 h (by omega)
theorem readShort_big (l : List UInt8) (h : 10 ≤ lead l) : readShort l = (0, 0, 7) := by
  have hle := lead_le l
  have hc := lead_yes l 9 (by omega) (by omega)
  rw [readShort, rsF_step l 0 0 9 (by omega) (by omega) (by omega), List.drop_eq_getElem_cons (by omega), rsF, if_neg (by omega), rsFin, if_neg (by omega), if_pos (by omega)]
theorem readShort_mid (l : List UInt8) (h : lead l < l.length) (h9 : lead l ≤ 9) : readShort l = rsFin (lead l) (val7 (l.take (lead l))) l[lead l] := by
  have hc := lead_not l h
  rw [readShort, rsF_step l 0 0 (lead l) h (Nat.le_refl _) (by omega), List.drop_eq_getElem_cons h, rsF, if_neg (by omega)]
  simp

theorem wf7_mid : ∀ (l : List UInt8) (n : Nat) (h : n < l.length), (∀ i (hi : i < n), 128 ≤ (l[i]'(by omega)).toNat) → (l[n]'h).toNat < 128 → wf7 (l.take (n + 1)) = (decide (n = 0) || decide (0 < (l[n]'h).toNat))
  | [], _, h, _, _ => by simp at h
  | c :: l, 0, h, _, hc => by simp at hc; simp [wf7, hc]
  | c :: l, n + 1, h, ha, hc => by
    have h0 := ha 0 (by omega)
    simp at h0 h hc
    have ih := wf7_mid l n h (fun i hi => by have := ha (i + 1) (by omega); simpa using this) hc
    rw [List.take_succ_cons, wf7_cons, ih]
    have hne : l.take (n + 1) ≠ [] := by intro e; have := congrArg List.length e; simp at this; subst this; simp at h
    simp only [hne, if_false, h0, decide_true, Bool.true_and, List.getElem_cons_succ]
    by_cases hn : n = 0
    · subst hn
      cases l with
      | nil => simp at h
      | cons d l =>
        have e : (List.take (0 + 1) (d :: l) == [0]) = decide (d.toNat = 0) := by rw [Bool.eq_iff_iff]; simp [← UInt8.toNat_inj]
        rw [e]
        by_cases hd : d.toNat = 0 <;> simp [hd]; omega
    · have : (l.take (n + 1) == [0]) = false := by
        rw [beq_eq_false_iff_ne]; intro e; have := congrArg List.length e; simp at this; omega
      simp [this, hn]

/-- what the reference asks: is the short form of the number these bytes? -/
theorem readShort_ref (l : List UInt8) (h : lead l < l.length) (h9 : lead l ≤ 9) :
    readShort l = if short (val7 (l.take (lead l + 1)) % 18446744073709551616) = l.take (lead l + 1) then (val7 (l.take (lead l + 1)) % 18446744073709551616, lead l + 1, 0) else (0, 0, 7) := by
  have hc := lead_not l h
  have hw := wf7_mid l (lead l) h (fun i hi => lead_yes l i (by omega) hi) hc
  have hlen : (l.take (lead l + 1)).length = lead l + 1 := by simp; omega
  have hv : val7 (l.take (lead l + 1)) = val7 (l.take (lead l)) + l[lead l].toNat * 128 ^ lead l := by
    rw [List.take_succ_eq_append_getElem h, val7_append]
    have : (l.take (lead l)).length = lead l := by simp; omega
    rw [this]
    simp [val7, Nat.mul_comm, Nat.mod_eq_of_lt hc]
  rw [readShort_mid l h h9, rsFin]
  generalize hn : lead l = n at *
  generalize hd : (l[n]'h) = c at *
  generalize ht : l.take (n + 1) = t at *
  have hlt : val7 (l.take n) < 128 ^ n := by
    have := val7_lt (l.take n)
    rwa [show (l.take n).length = n by simp; omega] at this
  have hp : 128 ^ n ≤ 128 ^ 9 := Nat.pow_le_pow_right (by decide) h9
  by_cases h1 : 0 < n ∧ c.toNat = 0
  · rw [if_pos h1, if_neg]
    intro e
    have : wf7 t = true := by rw [← e]; exact wf7_shortF 9 _ (by omega)
    rw [hw] at this
    simp at this; omega
  · rw [if_neg h1]
    have hwt : wf7 t = true := by rw [hw]; simp; omega
    by_cases h2 : n = 9 ∧ 1 < c.toNat
    · rw [if_pos h2, if_neg]
      intro e
      have e2 := val7_shortF 10 (val7 t % 18446744073709551616) (by omega)
      rw [short] at e
      rw [e] at e2
      obtain ⟨rfl, h3⟩ := h2
      omega
    · rw [if_neg h2]
      have hsmall : val7 t < 18446744073709551616 := by
        rw [hv]
        by_cases h3 : n = 9
        · subst h3
          have : c.toNat ≤ 1 := by omega
          have := Nat.mul_le_mul_right (128 ^ 9) this
          omega
        · have hp8 : 128 ^ n ≤ 128 ^ 8 := Nat.pow_le_pow_right (by decide) (by omega)
          have := Nat.mul_le_mul (show c.toNat ≤ 127 by omega) hp8
          omega
      rw [Nat.mod_eq_of_lt hsmall, short, shortF_val7 t 10 hwt (by omega), if_pos rfl, hv]
end Go.Proofs.Ytahmacnmphjhgaa.Oct
namespace Go.Proofs.Ytahmacnmphjhgaa.Oct

/-- Text -/
def text (l : List UInt8) : List UInt8 × Int := if l.length ≤ 65535 then (num l.length 2 ++ l, 0) else ([], 5)
/-- Read -/
def readT (l : List UInt8) : List UInt8 × Nat × Int :=
  if l.length < 2 then ([], 0, 6) else if l.length < 2 + val (l.take 2) then ([], 0, 6) else ((l.drop 2).take (val (l.take 2)), 2 + val (l.take 2), 0)
/-- the texts of a row, one behind the other -/
def texts : List (List UInt8) → List UInt8
  | [] => []
  | l :: r => num l.length 2 ++ l ++ texts r
def fits (r : List (List UInt8)) : Bool := r.all fun l => decide (l.length ≤ 65535)
/-- Row -/
def row (r : List (List UInt8)) : List UInt8 × Int :=
  if r.length ≤ 65535 then if fits r then (num r.length 2 ++ texts r, 0) else ([], 5) else ([], 5)
/-- ReadRow: k texts -/
def readTexts : Nat → List UInt8 → Option (List (List UInt8))
  | 0, l => if l = [] then some [] else none
  | k + 1, l => if (readT l).2.2 = 0 then (readTexts k (l.drop (readT l).2.1)).map ((readT l).1 :: ·) else none
def readRow (l : List UInt8) : Option (List (List UInt8)) :=
  if l.length < 2 then none else readTexts (val (l.take 2)) (l.drop 2)

theorem texts_snoc (r : List (List UInt8)) (l : List UInt8) : texts (r ++ [l]) = texts r ++ (num l.length 2 ++ l) := by
  induction r with
  | nil => simp [texts]
  | cons a r ih => simp [texts, ih]
theorem val2_lt (l : List UInt8) : val (l.take 2) < 65536 := by
  have h := val_lt (l.take 2)
  have h2 : (l.take 2).length ≤ 2 := by simp; omega
  have := pow256_le h2
  omega
theorem val2 (l : List UInt8) (h : 2 ≤ l.length) : val (l.take 2) = l[0].toNat + 256 * l[1].toNat := by
  match l, h with
  | a :: b :: l, _ => simp [val]
theorem text_le (l : List UInt8) (h : l.length ≤ 65535) : text l = (num l.length 2 ++ l, 0) := if_pos h
theorem text_gt (l : List UInt8) (h : ¬ l.length ≤ 65535) : text l = ([], 5) := if_neg h
theorem texts_take (r : List (List UInt8)) (k : Nat) (h : k < r.length) : texts (r.take (k + 1)) = texts (r.take k) ++ (num r[k].length 2 ++ r[k]) := by
  rw [List.take_succ_eq_append_getElem h, texts_snoc]
theorem texts_append (a b : List (List UInt8)) : texts (a ++ b) = texts a ++ texts b := by
  induction a with
  | nil => rfl
  | cons x a ih => simp [texts, ih]
theorem texts_take_le (r : List (List UInt8)) (k : Nat) : (texts (r.take k)).length ≤ (texts r).length := by
  have h := congrArg (fun r => (texts r).length) (List.take_append_drop k r)
  simp only [texts_append, List.length_append] at h
  omega
theorem texts_mem_le (r : List (List UInt8)) (k : Nat) (h : k < r.length) : r[k].length ≤ (texts r).length := by
  have := texts_take_le r (k + 1)
  rw [texts_take r k h] at this
  simp at this; omega
theorem fits_take (r : List (List UInt8)) (k : Nat) (h : k < r.length) (h' : fits (r.take k) = true) (h2 : r[k].length ≤ 65535) : fits (r.take (k + 1)) = true := by
  rw [List.take_succ_eq_append_getElem h]; simp only [fits, List.all_append] at h' ⊢; simp [h', h2]
theorem fits_not (r : List (List UInt8)) (k : Nat) (h : k < r.length) (h2 : ¬ r[k].length ≤ 65535) : fits r = false := by
  rw [fits, List.all_eq_false]; exact ⟨r[k], List.getElem_mem h, by simpa using h2⟩
theorem row_long (r : List (List UInt8)) (h : ¬ r.length ≤ 65535) : row r = ([], 5) := if_neg h
theorem row_ok (r : List (List UInt8)) (h : r.length ≤ 65535) (h' : fits r = true) : row r = (num r.length 2 ++ texts r, 0) := by rw [row, if_pos h, if_pos h']
theorem row_no (r : List (List UInt8)) (h : r.length ≤ 65535) (h' : fits r = false) : row r = ([], 5) := by rw [row, if_pos h, h']; rfl
theorem readT_le (l : List UInt8) (h : (readT l).2.2 = 0) : (readT l).2.1 ≤ l.length ∧ 2 ≤ (readT l).2.1 := by
  unfold readT at h ⊢
  split at h
  · simp at h
  · split at h
    · simp at h
    · rename_i h1 h2
      rw [if_neg h1, if_neg h2]
      exact ⟨by dsimp only; omega, by dsimp only; omega⟩
theorem readTexts_ok (k : Nat) (l : List UInt8) (h : (readT l).2.2 = 0) : readTexts (k + 1) l = (readTexts k (l.drop (readT l).2.1)).map ((readT l).1 :: ·) := if_pos h
theorem readTexts_no (k : Nat) (l : List UInt8) (h : ¬ (readT l).2.2 = 0) : readTexts (k + 1) l = none := if_neg h
/-- the state of ReadRow's loop: k texts are read, r; m are wanted yet, of l -/
def RrInv (l0 : List UInt8) (k0 m : Nat) (r : List (List UInt8)) (l : List UInt8) : Prop := readTexts k0 l0 = (readTexts m l).map (r ++ ·)
theorem RrInv.start (l0 : List UInt8) (k0 : Nat) : RrInv l0 k0 k0 [] l0 := by simp [RrInv]
theorem RrInv.step {l0 : List UInt8} {k0 m : Nat} {r : List (List UInt8)} {l : List UInt8} (h : RrInv l0 k0 (m + 1) r l) (ho : (readT l).2.2 = 0) : RrInv l0 k0 m (r ++ [(readT l).1]) (l.drop (readT l).2.1) := by
  unfold RrInv at h ⊢
  rw [h, readTexts_ok m l ho, Option.map_map]
  congr 1
  funext x
  simp
theorem RrInv.no {l0 : List UInt8} {k0 m : Nat} {r : List (List UInt8)} {l : List UInt8} (h : RrInv l0 k0 (m + 1) r l) (ho : ¬ (readT l).2.2 = 0) : readTexts k0 l0 = none := by
  rw [h, readTexts_no m l ho]; rfl
theorem RrInv.fin {l0 : List UInt8} {k0 : Nat} {r : List (List UInt8)} {l : List UInt8} (h : RrInv l0 k0 0 r l) : readTexts k0 l0 = if l = [] then some r else none := by
  rw [h, readTexts]; split <;> simp
theorem readRow_short (l : List UInt8) (h : l.length < 2) : readRow l = none := if_pos h
theorem readRow_at (l : List UInt8) (h : ¬ l.length < 2) : readRow l = readTexts (val (l.take 2)) (l.drop 2) := if_neg h
theorem readTexts_length : ∀ (k : Nat) (l : List UInt8) (q : List (List UInt8)), readTexts k l = some q → q.length = k
  | 0, l, q, h => by
    rw [readTexts] at h
    split at h
    · simp at h; subst h; rfl
    · simp at h
  | k + 1, l, q, h => by
    by_cases ho : (readT l).2.2 = 0
    · rw [readTexts_ok k l ho] at h
      obtain ⟨q', h1, h2⟩ := Option.map_eq_some_iff.1 h
      subst h2
      simp [readTexts_length k _ q' h1]
    · rw [readTexts_no k l ho] at h; simp at h
theorem readRow_length (l : List UInt8) (q : List (List UInt8)) (h : readRow l = some q) : q.length ≤ 65535 := by
  by_cases hl : l.length < 2
  · rw [readRow_short l hl] at h; simp at h
  · rw [readRow_at l hl] at h
    have := readTexts_length _ _ _ h
    have := val2_lt l
    omega
theorem readT_text (l rest : List UInt8) (h : l.length ≤ 65535) : readT (num l.length 2 ++ l ++ rest) = (l, 2 + l.length, 0) := by
  have e1 : (num l.length 2 ++ l ++ rest).take 2 = num l.length 2 := by
    rw [List.append_assoc, List.take_left' (num_length 2 _)]
  have e2 : val (num l.length 2) = l.length := by rw [val_num]; omega
  have e3 : (num l.length 2 ++ l ++ rest).drop 2 = l ++ rest := by
    rw [List.append_assoc, List.drop_left' (num_length 2 _)]
  have e4 : (num l.length 2 ++ l ++ rest).length = 2 + l.length + rest.length := by simp; omega
  rw [readT, e1, e2, e3, e4, if_neg (by omega), if_neg (by omega), List.take_left' rfl]
theorem readTexts_texts : ∀ r : List (List UInt8), fits r = true → readTexts r.length (texts r) = some r
  | [], _ => rfl
  | l :: r, h => by
    simp only [fits, List.all_cons, Bool.and_eq_true, decide_eq_true_eq] at h
    have ih := readTexts_texts r h.2
    have e := readT_text l (texts r) h.1
    have ed : (num l.length 2 ++ l ++ texts r).drop (2 + l.length) = texts r := by
      rw [List.drop_left' (by simp)]
    rw [texts, List.length_cons, readTexts_ok _ _ (by rw [e]), e, ed, ih]; rfl
theorem readRow_row (r : List (List UInt8)) (h : r.length ≤ 65535) (hf : fits r = true) : readRow (num r.length 2 ++ texts r) = some r := by
  have e1 : (num r.length 2 ++ texts r).take 2 = num r.length 2 := List.take_left' (num_length 2 _)
  have e2 : val (num r.length 2) = r.length := by rw [val_num]; omega
  have e3 : (num r.length 2 ++ texts r).drop 2 = texts r := List.drop_left' (num_length 2 _)
  rw [readRow_at _ (by simp), e1, e2, e3, readTexts_texts r hf]
theorem readT_back (l : List UInt8) (h : (readT l).2.2 = 0) : (readT l).1.length ≤ 65535 ∧ num (readT l).1.length 2 ++ (readT l).1 ++ l.drop (readT l).2.1 = l := by
  have hv := val2_lt l
  unfold readT at h ⊢
  split at h
  · simp at h
  · split at h
    · simp at h
    · rename_i h1 h2
      rw [if_neg h1, if_neg h2]
      dsimp only
      have e1 : ((l.drop 2).take (val (l.take 2))).length = val (l.take 2) := by simp; omega
      have e2 : num (val (l.take 2)) 2 = l.take 2 := by
        have := num_val (l.take 2)
        rwa [show (l.take 2).length = 2 by simp; omega] at this
      refine ⟨by omega, ?_⟩
      rw [e1, e2, List.append_assoc, ← List.drop_drop, List.take_append_drop, List.take_append_drop]
theorem readTexts_back : ∀ (k : Nat) (l : List UInt8) (q : List (List UInt8)), readTexts k l = some q → fits q = true ∧ texts q = l
  | 0, l, q, h => by
    rw [readTexts] at h
    split at h
    · rename_i hl
      simp at h; subst h; exact ⟨rfl, hl.symm⟩
    · simp at h
  | k + 1, l, q, h => by
    by_cases ho : (readT l).2.2 = 0
    · rw [readTexts_ok k l ho] at h
      obtain ⟨q', h1, h2⟩ := Option.map_eq_some_iff.1 h
      subst h2
      obtain ⟨f1, f2⟩ := readTexts_back k _ q' h1
      obtain ⟨b1, b2⟩ := readT_back l ho
      refine ⟨?_, ?_⟩
      · simp only [fits, List.all_cons, Bool.and_eq_true, decide_eq_true_eq]; exact ⟨b1, f1⟩
      · rw [texts, f2, b2]
    · rw [readTexts_no k l ho] at h; simp at h
theorem row_readRow (l : List UInt8) (q : List (List UInt8)) (h : readRow l = some q) : row q = (l, 0) := by
  have hl := readRow_length l q h
  by_cases h2 : l.length < 2
  · rw [readRow_short l h2] at h; simp at h
  · rw [readRow_at l h2] at h
    have e := readTexts_length _ _ _ h
    obtain ⟨f1, f2⟩ := readTexts_back _ _ _ h
    rw [row_ok q hl f1, f2, e]
    have e2 := num_val (l.take 2)
    rw [show (l.take 2).length = 2 by simp; omega] at e2
    rw [e2, List.take_append_drop]
theorem row_cases (r : List (List UInt8)) (h : r.length ≤ 65535) : (∃ x, row r = (x, 0) ∧ readRow x = some r ∧ x.length = 2 + (texts r).length) ∨ row r = ([], 5) := by
  cases hf : fits r
  · exact .inr (row_no r h hf)
  · exact .inl ⟨_, row_ok r h hf, readRow_row r h hf, by simp⟩
theorem row_inj {a b : List (List UInt8)} {x y : List UInt8} (ha : readRow x = some a) (hb : readRow y = some b) : (x == y) = decide (a = b) := by
  rw [Bool.eq_iff_iff]
  simp only [beq_iff_eq, decide_eq_true_eq]
  constructor
  · rintro rfl; rw [ha] at hb; exact Option.some.inj hb
  · rintro rfl
    have h1 := row_readRow x a ha
    have h2 := row_readRow y a hb
    rw [h1] at h2
    exact congrArg Prod.fst h2
end Go.Proofs.Ytahmacnmphjhgaa.Oct
namespace Go.Proofs.Ytahmacnmphjhgaa
open Go.RowKit Oct

/-- what Text gives, as a value -/
def txV (r : List UInt8 × Int) : Value := .tuple #[.string (bs r.1), .int .i64 r.2]
theorem txV_mk (a : List UInt8) (c : Int) : txV (a, c) = .tuple #[.string (bs a), .int .i64 c] := rfl

set_option maxRecDepth 100000 in
set_option maxHeartbeats 400000 in
theorem Text_any (l : List UInt8) (w : World) (hs : l.length ≤ 140737488355328) :
    Calls Try.prog 81 #[.string (bs l)] w fun e w' => e = .returned (txV (text l)) ∧ Below w.heap.size w w' := by
  by_cases h : l.length ≤ 65535
  · rw [text_le l h, txV_mk]
    go_enter Try.func81, Try.ntmps81
    go_wp2_with (go_at_call 80; refine (bytes_any _ _ _ (by omega) (by omega) (by omega) (by omega)).mono ?_; rintro e w' ⟨rfl, hB⟩)
    go_ret2
    exact ⟨by rw [← bs_append]; rfl, hB⟩
  · rw [text_gt l h, txV_mk]
    go_enter Try.func81, Try.ntmps81
    go_wp2
    go_ret2
    exact ⟨rfl, Below.refl _ _⟩

set_option maxRecDepth 100000 in
set_option maxHeartbeats 400000 in
theorem rText_any (l : List UInt8) (w : World) (hs : l.length ≤ 140737488355328) :
    Calls Try.prog 73 #[.string (bs l)] w fun e w' => e = .returned (txV (text l)) ∧ Below w.heap.size w w' := by
  by_cases h : l.length ≤ 65535
  · rw [text_le l h, txV_mk]
    go_enter Try.func73, Try.ntmps73
    go_wp2_with (go_at_call 72; refine (num_any _ _ _ (by omega) (by omega) (by omega) (by omega)).mono ?_; rintro e w' ⟨rfl, hB⟩)
    go_ret2
    exact ⟨by rw [← bs_append]; rfl, hB⟩
  · rw [text_gt l h, txV_mk]
    go_enter Try.func73, Try.ntmps73
    go_wp2
    go_ret2
    exact ⟨rfl, Below.refl _ _⟩

/-- what Read gives, as a value -/
def rdV (r : List UInt8 × Nat × Int) : Value := .tuple #[.string (bs r.1), .int .i64 r.2.1, .int .i64 r.2.2]
theorem rdV_mk (a : List UInt8) (b : Nat) (c : Int) : rdV (a, b, c) = .tuple #[.string (bs a), .int .i64 b, .int .i64 c] := rfl
theorem rd_fin {a a' : List UInt8} {b : Int} {b' : Nat} {c : Int} (h1 : a = a') (h2 : b = (b' : Int)) : Ending.returned (.tuple #[.string (bs a), .int .i64 b, .int .i64 c]) = .returned (rdV (a', b', c)) := by subst h1; subst h2; rfl
theorem readT_short (l : List UInt8) (h : l.length < 2) : readT l = ([], 0, 6) := if_pos h
theorem readT_end (l : List UInt8) (h : ¬ l.length < 2) (h' : l.length < 2 + val (l.take 2)) : readT l = ([], 0, 6) := by rw [readT, if_neg h, if_pos h']
theorem readT_ok (l : List UInt8) (h : ¬ l.length < 2) (h' : ¬ l.length < 2 + val (l.take 2)) : readT l = ((l.drop 2).take (val (l.take 2)), 2 + val (l.take 2), 0) := by rw [readT, if_neg h, if_neg h']

end Go.Proofs.Ytahmacnmphjhgaa
namespace Go.Proofs.Ytahmacnmphjhgaa
open Go.RowKit Oct

theorem sizeBuilder : (Try.prog.info? 122).map (·.size) = some 2 := by kernel_rfl
theorem liesBuilder : liesAt Try.prog Try.prog.depth 122 (2 / Try.prog.cellsOf 122) 0 122 1 = true := by kernel_rfl

set_option maxHeartbeats 1000000 in
set_option maxRecDepth 100000 in
theorem copyCheck_used (b : Nat) (w : World) (h0 : w.cell? ⟨b, 0, none⟩ = some (.pointer (some ⟨b, 0, none⟩))) :
    Calls Try.prog 88 #[.pointer (some ⟨b, 0, none⟩)] w fun e w' => e = .returned (.tuple #[]) ∧ w' = w := by
  obtain ⟨j, hj, _⟩ := Option.map_eq_some_iff.1 sizeBuilder
  go_enter Try.func88, Try.ntmps88
  go_wp2
  rw [Lib.run_neq_ptr_same w _ Try.underlying120 hj]
  go_wp2
  go_end0
  exact ⟨rfl, rfl⟩

set_option maxHeartbeats 1000000 in
set_option maxRecDepth 100000 in
theorem copyCheck_fresh (b : Nat) (w : World) (h0 : w.cell? ⟨b, 0, none⟩ = some (.pointer none)) (hsh : w.shape? b = some (122, 2)) (hfz : w.frozen? ⟨b, 0, none⟩ = false) :
    Calls Try.prog 88 #[.pointer (some ⟨b, 0, none⟩)] w fun e w' => e = .returned (.tuple #[]) ∧ w' = w.setCell ⟨b, 0, none⟩ (.pointer (some ⟨b, 0, none⟩)) := by
  obtain ⟨j, hj, hjs⟩ := Option.map_eq_some_iff.1 sizeBuilder
  go_enter Try.func88, Try.ntmps88
  go_wp2
  rw [Lib.run_to_unsafe w ⟨b, 0, none⟩ Try.underlying120 Try.underlying146 hj (by rw [hjs]; decide) hsh (Nat.zero_lt_succ 1)]
  simp only [Result.andThen]
  rw [Oper.upon_value]
  go_wp2
  rw [run_callFunc_extern Try.func94 (by kernel_rfl) (by kernel_rfl) (by kernel_rfl) (e := Extern.AbiNoEscape.same) (by kernel_rfl)]
  rw [Lib.run_noEscape]
  simp only [Result.andThen]
  rw [Oper.upon_value]
  go_wp2
  rw [Lib.run_from_unsafe w ⟨b, 0, none⟩ Try.underlying146 Try.underlying120 hj hsh liesBuilder]
  simp only [Result.andThen]
  rw [Oper.upon_value]
  go_wp2
  go_end0
  exact ⟨rfl, rfl⟩

theorem copyCheck_any (B b : Nat) (bs : List Value) (w : World) (h : Lib.IsBuilder 122 5 B b bs w) :
    Calls Try.prog 88 #[.pointer (some ⟨b, 0, none⟩)] w fun e w' => e = .returned (.tuple #[]) ∧ (Lib.BuilderAt 122 5 B b (.pointer (some ⟨b, 0, none⟩)) bs w' ∧ Below B w w') := by
  rcases h with h | h
  · refine (copyCheck_fresh b w h.cell0 h.shape h.frozen0).mono ?_
    rintro e w' ⟨rfl, rfl⟩
    exact ⟨rfl, h.used _, (Below.refl B w).setCell (p := ⟨b, 0, none⟩) h.1 _⟩
  · refine (copyCheck_used b w h.cell0).mono ?_
    rintro e w' ⟨rfl, rfl⟩
    exact ⟨rfl, h, Below.refl B _⟩

set_option maxHeartbeats 2000000 in
set_option maxRecDepth 100000 in
theorem WriteString_raw (B b : Nat) (bs : List Value) (s : ByteArray) (w : World) (h : Lib.IsBuilder 122 5 B b bs w) (hlen : bs.length + s.size ≤ 140737488355328) (hBw : B ≤ w.heap.size) :
    Calls Try.prog 79 #[.pointer (some ⟨b, 0, none⟩), .string s] w fun e w' => e = .returned (.tuple #[.int .i64 s.size, .nilIface]) ∧ (Lib.BuilderAt 122 5 B b (.pointer (some ⟨b, 0, none⟩)) (bs ++ Lib.strCells s) w' ∧ Below B w w') := by
  obtain ⟨i0, hi, hz0, hz1, hz2⟩ := info_parts infoU8
  go_enter Try.func79, Try.ntmps79
  go_wp2_with (go_at_call 88; refine (copyCheck_any B b bs _ h).mono ?_)
  rintro e w1 ⟨rfl, h1, hb1⟩
  obtain ⟨hB, v, hbk, hown, hne⟩ := h1
  have c0 : w1.cell? ⟨b, 0, none⟩ = some (.pointer (some ⟨b, 0, none⟩)) := by rw [Lib.cell_of_heap hbk]; rfl
  have c1 : w1.cell? ⟨b, 1, none⟩ = some v := by rw [Lib.cell_of_heap hbk]; rfl
  go_wp2_with (at_builtin; refine Lib.wpList_append_own_string _ rfl _ _ 94 9 rfl B 5 i0 Try.underlying94 Try.underlying9 hi hz0 hz1 hz2 _ _ _ rfl hown s rfl ?c3 ?c4 ?c5 ?_)
  case c3 => unfold maxLen; omega
  case c4 => omega
  case c5 => have := hb1.size; omega
  intro v' w2 hown' hgrow _
  have hlt : b < w1.heap.size := by
    rcases Nat.lt_or_ge b w1.heap.size with h' | h'
    · exact h'
    · simp [Array.getElem?_eq_none h'] at hbk
  have hb2 : w2.heap[b]? = some (.cells #[.pointer (some ⟨b, 0, none⟩), v] 122 (0, 0)) := by
    rw [hgrow.block b hlt (fun e => hne e.symm)]
    exact hbk
  have d0 : w2.cell? ⟨b, 0, none⟩ = some (.pointer (some ⟨b, 0, none⟩)) := by rw [Lib.cell_of_heap hb2]; rfl
  have d1 : w2.cell? ⟨b, 1, none⟩ = some v := by rw [Lib.cell_of_heap hb2]; rfl
  have f1 : w2.frozen? ⟨b, 1, none⟩ = false := Lib.frozen_of_heap hb2 1
  obtain ⟨ao, n', cap, rfl⟩ : ∃ ao n' cap, v' = .slice ao n' cap := by
    rcases hown'.2 with ⟨hv, _⟩ | ⟨g, cap, cur, hv, _⟩
    · exact ⟨_, _, _, hv⟩
    · exact ⟨_, _, _, hv⟩
  go_wp2
  go_ret2
  refine ⟨rfl, ?_, ?_⟩
  · exact Lib.BuilderAt.put (T := 122) (e := 5) hB hb2 (bs' := bs ++ Lib.strCells s) (by simpa [Lib.strCells_length] using hown') (by decide)
  · exact (hb1.grown hgrow (by have := hb1.size; omega) (fun k hk => (hown.lt k hk).1)).setCell (p := ⟨b, 1, none⟩) hB _

/-- a builder of the call's own (blocks from B on) in block b that holds the bytes l -/
def Bld (B b : Nat) (l : List UInt8) (w : World) : Prop := B ≤ w.heap.size ∧ Lib.IsBuilder 122 5 B b (bcells l) w
theorem Bld.fresh (w : World) : Bld w.heap.size w.heap.size [] (w.alloc (.cells #[.pointer none, .slice none 0 0] 122)) := ⟨by simp, Lib.fresh_isBuilder _ _ w⟩
theorem strCells_bs (l : List UInt8) : Lib.strCells (bs l) = bcells l := by simp [Lib.strCells, bcells, bs]

theorem BuilderAt_below {T e : TypeId} {B b : Nat} {p : Value} {l : List Value} {w w' : World} (h : Lib.BuilderAt T e B b p l w) (hB : Below w.heap.size w w') : Lib.BuilderAt T e B b p l w' := by
  have hlt := h.lt
  obtain ⟨h1, v, h2, h3, h4⟩ := h
  exact ⟨h1, v, (hB.block b hlt).trans h2, ownsRow_below h3 hB, h4⟩
theorem Bld.below {B b : Nat} {l : List UInt8} {w w' : World} (h : Bld B b l w) (hB : Below w.heap.size w w') : Bld B b l w' :=
  ⟨Nat.le_trans h.1 hB.size, h.2.imp (fun h => BuilderAt_below h hB) (fun h => BuilderAt_below h hB)⟩

theorem WriteString_any (B b : Nat) (l m : List UInt8) (w : World) (h : Bld B b l w) (hlen : l.length + m.length ≤ 140737488355328) :
    Calls Try.prog 79 #[.pointer (some ⟨b, 0, none⟩), .string (bs m)] w fun e w' => e = .returned (.tuple #[.int .i64 m.length, .nilIface]) ∧ Bld B b (l ++ m) w' ∧ Below B w w' := by
  refine (WriteString_raw B b (bcells l) (bs m) w h.2 (by rw [bcells_length, bs_size]; exact hlen) h.1).mono ?_
  rintro e w' ⟨rfl, h1, h2⟩
  refine ⟨by rw [bs_size], ⟨Nat.le_trans h.1 h2.size, .inr ?_⟩, h2⟩
  rw [strCells_bs] at h1
  simpa [bcells] using h1
theorem BString_any (B b : Nat) (l : List UInt8) (w : World) (h : Bld B b l w) :
    Calls Try.prog 82 #[.pointer (some ⟨b, 0, none⟩)] w fun e w' => e = .returned (.string (bs l)) ∧ Below B w w' :=
  Try.Builder_String_any B b l w h.2 h.1
end Go.Proofs.Ytahmacnmphjhgaa
