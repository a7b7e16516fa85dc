/- Lemmas for TreeSpans, part 9: walks of the functions that it reaches, and the plain laws behind them. -/
import Derived.ProofKit
import Derived.OpenShut
import Derived.ShutString
import Derived.ChangeOld
import Derived.SizedLaws
import Derived.SliceStrings
import Derived.Test.YtahmacnmphjhgaaRows
import Derived.Deep.Slices
import Derived.ChangeSame
import Derived.Test.YtahmacnmphjhgaaTreeSpansK8
set_option linter.unusedSimpArgs false
set_option linter.unusedVariables false
namespace Go.Proofs.Ytahmacnmphjhgaa
open Go.RowKit

/-- where a store writes -/
def stAt (o : Oper) (a : Act) : Option Value := match o.op with
  | .store _ x _ => some (a.eval x)
  | _ => none
theorem stAt_put {ops : Array Oper} (o : Oper) (a : Act) (dst : Option Tmp) (v : Value) (h : ∀ d, dst = some d → ¬ d ∈ Oper.looksAt ops o) : stAt o (a.put dst v) = stAt o a := by
  unfold stAt
  split
  · rename_i t x y he
    rw [Act.eval_put]
    intro d hd hx
    refine h d hd ?_
    subst hx
    simp only [Oper.looksAt, he, List.mem_append, List.mem_filterMap]
    exact .inl ⟨.tmp d, by simp [Op.operands], rfl⟩
  · rfl

section
variable {P : Program} {ops : Array Oper} {md : Region.Mode} {C : World → Prop} {R : World → World → Prop}
/-- what operation 'i' yields in state 'a' -/
def okForV (P : Program) (ops : Array Oper) (C : World → Prop) (R : World → World → Prop) (F : Nat → Option Value → Option (Known R)) (i : Nat) (o : Oper) (S : Facts) (a : Act) (g : Known R) : Prop :=
  if Region.wanted o (yielded ops a.tmps) = true then
    match F i (stAt o a) with
    | none => ∃ v, g = .exact R v ∧ ∀ w, C w → S.at ops o w → readAt P o a w v
    | some g' => g = g' ∧ ∀ w, C w → S.at ops o w → growAt P o a w fun u w' => R w w' ∧ ∃ x, u = g'.val x ∧ ∀ φ, g'.fact x = some φ → φ w'
  else g = .exact R undef

def gOpV (P : Program) (ops : Array Oper) (C : World → Prop) (R : World → World → Prop) (F : Nat → Option Value → Option (Known R)) (i : Nat) (K : Facts → Act → Prop) (S : Facts) (a : Act) : Prop :=
  match ops[i]? with
  | none => K S a
  | some o => ∃ g, okForV P ops C R F i o S a g ∧ ∀ x, K (S.add o (g.fact x)) (a.put o.dst (g.val x))


def wpAnyGV (P : Program) (md : Region.Mode) (ops : Array Oper) (C : World → Prop) (R : World → World → Prop) (F : Nat → Option Value → Option (Known R)) (Q : Array Bool → Facts → Act → Prop) : Nat → Array Bool → Facts → Act → Prop
  | 0, listed, S, a => Inh C S → Q listed S a
  | fuel + 1, listed, S, a => Inh C S →
    Region.ready md ops listed ≠ [] ∧
    ∀ i ∈ Region.ready md ops listed, gOpV P ops C R F i (wpAnyGV P md ops C R F Q fuel (listed.setIfInBounds i true)) S a

variable {F : Nat → Option Value → Option (Known R)} {Q : Array Bool → Facts → Act → Prop}

theorem wpAnyG_inhV {n : Nat} {listed : Array Bool} {S : Facts} {a : Act} (h : Inh C S → wpAnyGV P md ops C R F Q n listed S a) : wpAnyGV P md ops C R F Q n listed S a := by
  cases n <;> exact fun hi => h hi hi

/-- what an operation may come to, and where it goes on -/
theorem grow_onV {i : Nat} {o : Oper} {S : Facts} {a : Act} {w : World} {g : Known R} {K : Facts → Act → Prop} {N : Act → World → Prop} (hCR : ∀ w w', C w → R w w' → C w') (hk : S.kept R) (hw : C w) (hS : S.all w)
    (hwant : Region.wanted o (yielded ops a.tmps) = true) (hok : okForV P ops C R F i o S a g) (hK : ∀ x, K (S.add o (g.fact x)) (a.put o.dst (g.val x)))
    (hN : ∀ S' a' w', S'.kept R → C w' → S'.all w' → K S' a' → N a' w') :
    growAt P o a w fun u w' => N (a.put o.dst u) w' := by
  unfold okForV at hok
  rw [if_pos hwant] at hok
  cases hF : F i (stAt o a) with
  | none =>
    simp only [hF] at hok
    obtain ⟨v, rfl, hr⟩ := hok
    have hr := hr w hw (Facts.at_of_all hS)
    have hK := hK ()
    simp only [Known.exact, Facts.add_none] at hK
    unfold readAt at hr
    unfold growAt
    generalize (execOp a.eval o).run P w = r at *
    cases r with
    | ok n w' =>
      cases n <;> simp only [readUpon] at hr <;> simp only [growUpon]
      case value u => obtain ⟨rfl, rfl⟩ := hr; exact hN S _ _ hk hw hS hK
      case skip => obtain ⟨rfl, rfl⟩ := hr; exact hN S _ _ hk hw hS hK
    | halt x w' => simp only [readUpon] at hr
  | some g' =>
    simp only [hF] at hok
    obtain ⟨rfl, hr⟩ := hok
    have hr := hr w hw (Facts.at_of_all hS)
    have on : ∀ u w', (R w w' ∧ ∃ x, u = g.val x ∧ ∀ φ, g.fact x = some φ → φ w') → N (a.put o.dst u) w' := by
      rintro u w' ⟨hR, x, rfl, hx⟩
      exact hN _ _ _ (Facts.kept_add hk o g x) (hCR _ _ hw hR) (Facts.all_add.2 ⟨hx, Facts.all_kept hk hS hR⟩) (hK x)
    unfold growAt at hr ⊢
    generalize (execOp a.eval o).run P w = r at *
    cases r with
    | ok n w' =>
      cases n <;> simp only [growUpon] at hr ⊢
      case value u => exact on _ _ hr
      case skip => exact on _ _ hr
      case enter f args =>
        obtain ⟨rfl, hc⟩ := hr
        exact ⟨rfl, hc.mono fun e w'' ⟨u, he, hG⟩ => ⟨u, he, on _ _ hG⟩⟩
    | halt x w' => simp only [growUpon] at hr

theorem wpAny_of_GV {Q' : Exit → Act → World → Prop} (hCR : ∀ w w', C w → R w w' → C w') (rest : Nat) (hQ : ∀ listed S a w, C w → S.all w → Q listed S a → wpAny P md ops Q' rest listed a w) :
    ∀ (fuel : Nat) (listed : Array Bool) (S : Facts) (a : Act) (w : World), S.kept R → C w → S.all w → wpAnyGV P md ops C R F Q fuel listed S a → wpAny P md ops Q' (fuel + rest) listed a w
  | 0, _, _, _, w, _, hw, hS, h => by rw [Nat.zero_add]; exact hQ _ _ _ _ hw hS (h ⟨w, hw, hS⟩)
  | fuel + 1, listed, S, a, w, hk, hw, hS, h => by
    have h := h ⟨w, hw, hS⟩
    rw [show fuel + 1 + rest = (fuel + rest) + 1 by omega]
    refine ⟨ready_fuel h.1, fun i hi => ?_⟩
    have h2 := h.2 i hi
    unfold gOpV at h2
    unfold wpOp
    cases ho : ops[i]? with
    | none => simp only [ho] at h2 ⊢; exact wpAny_of_GV hCR rest hQ fuel _ S a w hk hw hS h2
    | some o =>
      simp only [ho] at h2 ⊢
      obtain ⟨g, hok, hK⟩ := h2
      by_cases hwant : Region.wanted o (yielded ops a.tmps) = true
      · rw [if_pos hwant]
        exact .inl (wp_of_grow (grow_onV hCR hk hw hS hwant hok hK fun S' a' w' hk' hw' hS' hA => wpAny_of_GV hCR rest hQ fuel _ S' a' w' hk' hw' hS' hA))
      · unfold okForV at hok
        rw [if_neg hwant] at hok ⊢
        subst hok
        have hK := hK ()
        simp only [Known.exact, Facts.add_none] at hK
        exact wpAny_of_GV hCR rest hQ fuel _ S _ w hk hw hS hK

/-- an operation that may run has an outcome -/
theorem okFor_outV (hCR : ∀ w w', C w → R w w' → C w') {i : Nat} {o : Oper} {S : Facts} {a : Act} {g : Known R} (hk : S.kept R) (h : okForV P ops C R F i o S a g) (hI : Inh C S) : ∃ x, Inh C (S.add o (g.fact x)) := by
  obtain ⟨w, hw, hS⟩ := hI
  unfold okForV at h
  by_cases hwant : Region.wanted o (yielded ops a.tmps) = true
  · rw [if_pos hwant] at h
    cases hF : F i (stAt o a) with
    | none =>
      simp only [hF] at h
      obtain ⟨v, rfl, _⟩ := h
      exact ⟨(), w, hw, by simp only [Known.exact, Facts.add_none]; exact hS⟩
    | some g' =>
      simp only [hF] at h
      obtain ⟨rfl, hr⟩ := h
      have hr := hr w hw (Facts.at_of_all hS)
      unfold growAt at hr
      have on : ∀ u w', (R w w' ∧ ∃ x, u = g.val x ∧ ∀ φ, g.fact x = some φ → φ w') → ∃ x, Inh C (S.add o (g.fact x)) := by
        rintro u w' ⟨hR, x, rfl, hx⟩
        exact ⟨x, w', hCR _ _ hw hR, Facts.all_add.2 ⟨hx, Facts.all_kept hk hS hR⟩⟩
      generalize (execOp a.eval o).run P w = r at *
      cases r with
      | ok n w' =>
        cases n <;> simp only [growUpon] at hr
        case value u => exact on _ _ hr
        case skip => exact on _ _ hr
        case enter f args =>
          obtain ⟨rfl, hc⟩ := hr
          obtain ⟨e, w'', _, ⟨u, _, hG⟩, _⟩ := hc []
          exact on _ _ hG
      | halt x w' => simp only [growUpon] at hr
  · rw [if_neg hwant] at h
    subst h
    exact ⟨(), w, hw, by simp only [Known.exact, Facts.add_none]; exact hS⟩

theorem okFor_oneV {i : Nat} {o : Oper} {S : Facts} {a : Act} {g g' : Known R} (h : okForV P ops C R F i o S a g) (h' : okForV P ops C R F i o S a g') (hI : Inh C S) : g = g' := by
  obtain ⟨w, hw, hS⟩ := hI
  unfold okForV at h h'
  by_cases hwant : Region.wanted o (yielded ops a.tmps) = true
  · rw [if_pos hwant] at h h'
    cases hF : F i (stAt o a) with
    | none =>
      simp only [hF] at h h'
      obtain ⟨v, rfl, hv⟩ := h
      obtain ⟨v', rfl, hv'⟩ := h'
      have hv := hv w hw (Facts.at_of_all hS)
      have hv' := hv' w hw (Facts.at_of_all hS)
      unfold readAt at hv hv'
      have : v = v' := by
        generalize (execOp a.eval o).run P w = r at *
        cases r with
        | ok n w' => cases n <;> simp only [readUpon] at hv hv' <;> grind
        | halt x w' => simp only [readUpon] at hv
      rw [this]
    | some q =>
      simp only [hF] at h h'
      rw [h.1, h'.1]
  · rw [if_neg hwant] at h h'
    rw [h, h']

theorem okFor_moreV {i : Nat} {o : Oper} {S S' : Facts} {a : Act} {g : Known R} (h : okForV P ops C R F i o S a g) (hS : ∀ p, S p → S' p) : okForV P ops C R F i o S' a g := by
  have hat : ∀ w, S'.at ops o w → S.at ops o w := fun w hw p hp => hw p (hS p hp)
  unfold okForV at *
  split
  · rename_i hwant
    rw [if_pos hwant] at h
    cases hF : F i (stAt o a) with
    | none => simp only [hF] at h ⊢; obtain ⟨v, e, hv⟩ := h; exact ⟨v, e, fun w hw ha => hv w hw (hat w ha)⟩
    | some q => simp only [hF] at h ⊢; exact ⟨h.1, fun w hw ha => h.2 w hw (hat w ha)⟩
  · rename_i hwant
    rw [if_neg hwant] at h; exact h

/-- state and facts of an operation that stands apart make no difference -/
theorem okFor_apartV {j : Nat} {oi oj : Oper} {S : Facts} {a : Act} {u : Value} {φ : Option (World → Prop)} {g : Known R} (hap : oi.apart ops oj = true) (hsj : ∀ cs b, oj.op ≠ .select cs b)
    (h : okForV P ops C R F j oj (S.add oi φ) (a.put oi.dst u) g) : okForV P ops C R F j oj S a g := by
  obtain ⟨h1, h2, h3⟩ := Oper.apart_spec hap
  have hat : ∀ w, S.at ops oj w → (S.add oi φ).at ops oj w := by
    rintro w hw p (⟨ψ, hψ, rfl⟩ | hp) hap'
    · simp only [hap] at hap'; cases hap'
    · exact hw p hp hap'
  unfold okForV growAt readAt at *
  rw [wanted_put oj a oi.dst u h1, execOp_put oj hsj a oi.dst u h1, stAt_put oj a oi.dst u h1] at h
  split
  · rename_i hwant
    rw [if_pos hwant] at h
    cases hF : F j (stAt oj a) with
    | none => simp only [hF] at h ⊢; obtain ⟨v, e, hv⟩ := h; exact ⟨v, e, fun w hw ha => hv w hw (hat w ha)⟩
    | some q => simp only [hF] at h ⊢; exact ⟨h.1, fun w hw ha => h.2 w hw (hat w ha)⟩
  · rename_i hwant
    rw [if_neg hwant] at h; exact h
theorem okFor_keepV {i : Nat} {oi oj : Oper} {S : Facts} {a : Act} {u : Value} {g : Known R} (hap : oi.apart ops oj = true) (hsi : ∀ cs b, oi.op ≠ .select cs b)
    (h : okForV P ops C R F i oi S a g) : okForV P ops C R F i oi S (a.put oj.dst u) g := by
  obtain ⟨h1, h2, h3⟩ := Oper.apart_spec hap
  unfold okForV growAt readAt at *
  rw [wanted_put oi a oj.dst u h3, execOp_put oi hsi a oj.dst u h3, stAt_put oi a oj.dst u h3]
  exact h

theorem wpAnyG_firstV (hCR : ∀ w w', C w → R w w' → C w') {n i : Nat} {oi : Oper} (hi : ops[i]? = some oi) (hsel : ∀ (j : Nat) (o : Oper) cs b, ops[j]? = some o → o.op ≠ .select cs b) (hin : i < n)
    (htail : ∀ listed, HeadInv md ops n listed → ∀ i, i < n → listed.getD i true = false → ∀ j ∈ Region.ready md ops listed, j < n)
    (hdone : ∀ listed S a, Q listed S a → ∀ j ∈ Region.ready md ops listed, n ≤ j) :
    ∀ (fuel : Nat) (listed : Array Bool) (S : Facts) (a : Act) (g : Known R), S.kept R → HeadInv md ops n listed →
      (∀ j oj, ops[j]? = some oj → j ≠ i → listed.getD j true = false → (∀ e ∈ oj.after, Region.binds md e = true → e.on ≠ i) → oi.apart ops oj = true) →
      i ∈ Region.ready md ops listed → okForV P ops C R F i oi S a g →
      (∀ x, wpAnyGV P md ops C R F Q fuel (listed.setIfInBounds i true) (S.add oi (g.fact x)) (a.put oi.dst (g.val x))) → wpAnyGV P md ops C R F Q (fuel + 1) listed S a := by
  intro fuel
  induction fuel with
  | zero =>
    intro listed S a g hk inv _ hr hok H hI
    have hun := (mem_ready.1 hr).1
    refine ⟨fun h => (by rw [h] at hr; cases hr), fun j hj => ?_⟩
    have hjn := htail listed inv i hin hun j hj
    by_cases hji : j = i
    · subst hji; unfold gOpV; simp only [hi]; exact ⟨g, hok, H⟩
    · obtain ⟨x, hx⟩ := okFor_outV hCR hk hok hI
      have := hdone _ _ _ (H x hx) j (ready_mono hj hji)
      omega
  | succ fuel ih =>
    intro listed S a g hk inv hfree hr hok H hI
    have hun := (mem_ready.1 hr).1
    refine ⟨fun h => (by rw [h] at hr; cases hr), fun j hj => ?_⟩
    have hjn := htail listed inv i hin hun j hj
    by_cases hji : j = i
    · subst hji; unfold gOpV; simp only [hi]; exact ⟨g, hok, H⟩
    · obtain ⟨hjun, oj, hoj, hall⟩ := mem_ready.1 hj
      have hnot : ∀ e ∈ oj.after, Region.binds md e = true → e.on ≠ i := fun e he hb heq => by
        have h1 := hall e he hb
        rw [heq, getD_both hun] at h1
        cases h1
      have hap := hfree j oj hoj hji hjun hnot
      have hsi : ∀ cs b, oi.op ≠ .select cs b := fun cs b => hsel i oi cs b hi
      have hsj : ∀ cs b, oj.op ≠ .select cs b := fun cs b => hsel j oj cs b hoj
      have hfree' : ∀ k ok, ops[k]? = some ok → k ≠ i → (listed.setIfInBounds j true).getD k true = false →
          (∀ e ∈ ok.after, Region.binds md e = true → e.on ≠ i) → oi.apart ops ok = true := fun k ok hk hki hun hno => by
        refine hfree k ok hk hki ?_ hno
        by_cases hjk : j = k
        · subst hjk; exact hjun
        · rw [getD_set_ne true hjk] at hun; exact hun
      have step : ∀ x, Inh C (S.add oi (g.fact x)) → ∃ gj, okForV P ops C R F j oj S a gj ∧ ∀ y, wpAnyGV P md ops C R F Q fuel ((listed.setIfInBounds i true).setIfInBounds j true) ((S.add oi (g.fact x)).add oj (gj.fact y)) ((a.put oi.dst (g.val x)).put oj.dst (gj.val y)) := by
        intro x hx
        have h2 := (H x hx).2 j (ready_mono hj hji)
        unfold gOpV at h2
        simp only [hoj] at h2
        obtain ⟨gj, hgj, hK⟩ := h2
        exact ⟨gj, okFor_apartV hap hsj hgj, hK⟩
      obtain ⟨x1, hx1⟩ := okFor_outV hCR hk hok hI
      obtain ⟨gj, hgj, _⟩ := step x1 hx1
      unfold gOpV
      simp only [hoj]
      refine ⟨gj, hgj, fun y => ?_⟩
      refine ih (listed.setIfInBounds j true) (S.add oj (gj.fact y)) (a.put oj.dst (gj.val y)) g (Facts.kept_add hk oj gj y) (inv.set hj hjn) hfree' (ready_mono hr (Ne.symm hji))
        (okFor_keepV hap hsi (okFor_moreV hok fun p hp => .inr hp)) fun x => wpAnyG_inhV fun hI2 => ?_
      have hx : Inh C (S.add oi (g.fact x)) := by
        obtain ⟨w, hw, hS⟩ := hI2
        rw [Facts.add_comm] at hS
        exact ⟨w, hw, (Facts.all_add.1 hS).2⟩
      obtain ⟨gj', hgj', hK⟩ := step x hx
      obtain rfl := okFor_oneV hgj hgj' hI
      have := hK y
      rw [Facts.add_comm, Act.put_comm a _ _ (fun d hd => (Oper.apart_spec hap).2.1 d hd), Array.setIfInBounds_comm _ _ (Ne.symm hji)] at this
      exact this

/-- the lexical walk -/
def wpGV (P : Program) (ops : Array Oper) (C : World → Prop) (R : World → World → Prop) (F : Nat → Option Value → Option (Known R)) (Q : Facts → Act → Prop) : Nat → List Oper → Facts → Act → Prop
  | _, [], S, a => Q S a
  | k, o :: rest, S, a => if Region.wanted o (yielded ops a.tmps) = true then
      match F k (stAt o a) with
      | none => ∃ v, (∀ w, C w → S.at ops o w → readAt P o a w v) ∧ wpGV P ops C R F Q (k + 1) rest S (a.put o.dst v)
      | some g => (∀ w, C w → S.at ops o w → growAt P o a w fun u w' => R w w' ∧ ∃ x, u = g.val x ∧ ∀ φ, g.fact x = some φ → φ w') ∧ ∀ x, wpGV P ops C R F Q (k + 1) rest (S.add o (g.fact x)) (a.put o.dst (g.val x))
    else wpGV P ops C R F Q (k + 1) rest S (a.put o.dst undef)

theorem wpG_outV {Q : Facts → Act → Prop} {k : Nat} {o : Oper} {rest : List Oper} {S : Facts} {a : Act} (h : wpGV P ops C R F Q k (o :: rest) S a) :
    ∃ g, okForV P ops C R F k o S a g ∧ ∀ x, wpGV P ops C R F Q (k + 1) rest (S.add o (g.fact x)) (a.put o.dst (g.val x)) := by
  unfold wpGV at h
  unfold okForV
  split at h
  · rename_i hwant
    simp only [hwant, if_true]
    cases hF : F k (stAt o a) with
    | none => simp only [hF] at h; obtain ⟨v, h1, h2⟩ := h; exact ⟨.exact R v, ⟨v, rfl, h1⟩, fun _ => by simpa only [Known.exact, Facts.add_none] using h2⟩
    | some g => simp only [hF] at h; exact ⟨g, ⟨rfl, h.1⟩, h.2⟩
  · rename_i hwant
    exact ⟨.exact R undef, by rw [if_neg hwant], fun _ => by simpa only [Known.exact, Facts.add_none] using h⟩

/-- the order of the text, up to the tail -/
theorem wpAnyG_lexV {Q : Facts → Act → Prop} (hCR : ∀ w w', C w → R w w' → C w') {n g : Nat} (hs : Region.noSelect ops = true)
    (htail : ∀ listed, HeadInv md ops n listed → ∀ i, i < n → listed.getD i true = false → ∀ j ∈ Region.ready md ops listed, j < n) :
    ∀ (l : List Oper) (k : Nat) (listed : Array Bool) (S : Facts) (a : Act), S.kept R → (∀ j, j < l.length → l[j]? = ops[k + j]?) → k + l.length = n → HeadInv md ops n listed →
    Region.lexHead md ops g l.length k listed = true → wpGV P ops C R F Q k l S a → wpAnyGV P md ops C R F (fun listed' S' a' => Region.seqB md ops g n listed' = true ∧ Q S' a') l.length listed S a
  | [], k, listed, _, _, _, _, hk, _, hB, h => fun _ => by
    have : k = n := by simpa using hk
    subst this
    exact ⟨by simpa [Region.lexHead] using hB, h⟩
  | o :: l, k, listed, S, a, hk, hl, hkn, inv, hB, h => by
    have h0 : ops[k]? = some o := by simpa using (hl 0 (by simp)).symm
    simp only [List.length_cons, Region.lexHead, Bool.and_eq_true] at hB
    obtain ⟨⟨hr, hf⟩, hB'⟩ := hB
    have hkn' : k < n := by simp only [List.length_cons] at hkn; omega
    have hr' : k ∈ Region.ready md ops listed := by simpa using hr
    obtain ⟨gg, hg, hK⟩ := wpG_outV h
    exact wpAnyG_firstV hCR h0 (Region.noSelect_spec hs) hkn' htail (fun listed' S' a' hL => seqB_ready hL.1) l.length listed S a gg hk inv (Region.free_spec h0 hf) hr' hg
      fun x => wpAnyG_lexV hCR hs htail l (k + 1) _ _ _ (Facts.kept_add hk o gg x) (fun j hj => by have := hl (j + 1) (by simp; omega); simpa [Nat.add_assoc, Nat.add_comm 1 j] using this) (by simp only [List.length_cons] at hkn; omega) (inv.set hr' hkn') hB' (hK x)


/-- ONE WALK OF THE TEXT'S ORDER, the tail one operation behind the other -/
theorem wp_region_grownV {id : Nat} {Q : Exit → Act → World → Prop} {a : Act} {w : World} {l : List Oper} (F : Nat → Option Value → Option (Known R)) (n : Nat) (hm : P.follows .mixedOrders = true) (hB : splitB l.toArray n = true)
    (hCR : ∀ w w', C w → R w w' → C w') (hC : C w.drew)
    (h : wpGV P l.toArray C R F (fun S a' => ∀ w', C w' → S.all w' → wpList P l.toArray Q (l.drop n) a' w') 0 (l.take n) Facts.none a) : (Code.region id l.toArray true).wp P Q a w := by
  obtain ⟨hs, hn, hlex, htail⟩ := split_tail hB
  have hk : Facts.none.kept R := fun p hp => hp.elim
  have ha : ∀ w', Facts.none.all w' := fun w' p hp => hp.elim
  have hn' : n ≤ l.length := by simpa using hn
  have htl : (l.take n).length = n := by simp; omega
  have hdl : (l.drop n).length = l.toArray.size - n := by simp
  have inv0 : HeadInv .any l.toArray n (Array.replicate l.toArray.size false) :=
    ⟨by simp, fun j oj _ hl => (by rw [getD_replicate_false] at hl; cases hl), fun t _ ht => getD_in (by simpa using ht) (getD_replicate_false _ _)⟩
  have H := wpAnyG_lexV hCR hs htail (l.take n) 0 _ Facts.none a hk (fun j hj => by
    have hj' : j < n := by rw [htl] at hj; exact hj
    simp [hj']) (by simpa using htl) inv0 (by rw [htl]; exact hlex) h
  have := wpAny_of_GV (Q' := Q) hCR (l.toArray.size - n) (fun listed S a' w' hw hS hL => by
    have := wpAny_of_seq (md := .any) (Q' := Q) (l.drop n) n listed a' w' (fun j => by simp [List.getElem?_drop]) (by rw [hdl]; exact hL.1) (hL.2 w' hw hS)
    rwa [hdl] at this) _ _ _ _ _ hk hC (ha _) H
  rw [htl, show n + (l.toArray.size - n) = l.toArray.size by omega] at this
  exact wp_region_any hm this

end

section
variable {P : Program} {ops : Array Oper} {C : World → Prop} {R : World → World → Prop} {F : Nat → Option Value → Option (Known R)} {Q : Facts → Act → Prop}
theorem wpG_skipV {k : Nat} {o : Oper} {rest : List Oper} {S : Facts} {a : Act} (hw : Region.wanted o (yielded ops a.tmps) = false)
    (h : ∀ K : Act → Prop, (∀ a, wpGV P ops C R F Q (k + 1) rest S a → K a) → wpQuiet P ops C K [o] a) : wpGV P ops C R F Q k (o :: rest) S a := by
  have := h _ fun _ h => h
  unfold wpQuiet at this
  rw [if_neg (by rw [hw]; exact Bool.false_ne_true)] at this
  unfold wpGV
  rw [if_neg (by rw [hw]; exact Bool.false_ne_true)]
  exact this
theorem wpG_quietV {k : Nat} {o : Oper} {rest : List Oper} {S : Facts} {a : Act} (hF : F k (stAt o a) = none) (hp : plainOp o.op = true)
    (h : ∀ K : Act → Prop, (∀ a, wpGV P ops C R F Q (k + 1) rest S a → K a) → wpQuiet P ops (fun _ => True) K [o] a) : wpGV P ops C R F Q k (o :: rest) S a := by
  have := h _ fun _ h => h
  unfold wpQuiet at this
  unfold wpGV
  split
  · rename_i hw
    rw [if_pos hw] at this
    obtain ⟨v, h1, h2⟩ := this
    simp only [hF]
    exact ⟨v, fun w hw _ => readAt_of_quiet hp (h1 w trivial), h2⟩
  · rename_i hw
    rw [if_neg hw] at this
    exact this
theorem wpG_knownV {k : Nat} {o : Oper} {rest : List Oper} {S : Facts} {a : Act} (g : Known R) (hF : F k (stAt o a) = some g) (hw : Region.wanted o (yielded ops a.tmps) = true)
    (h1 : ∀ (w' : World) (G : Value → World → Prop), C w' → S.at ops o w' → (∀ x w'', R w' w'' → (∀ φ, g.fact x = some φ → φ w'') → G (g.val x) w'') → growAt P o a w' G)
    (h2 : ∀ x (K : Act → Prop), (∀ a, wpGV P ops C R F Q (k + 1) rest (S.add o (g.fact x)) a → K a) → K (a.put o.dst (g.val x))) : wpGV P ops C R F Q k (o :: rest) S a := by
  unfold wpGV
  rw [if_pos hw]
  simp only [hF]
  exact ⟨fun w' hC hS => h1 w' _ hC hS fun x w'' hR hφ => ⟨hR, x, rfl, hφ⟩, fun x => h2 x _ fun _ h => h⟩
/-- a slot whose value is told -/
theorem wpG_exactV {k : Nat} {o : Oper} {rest : List Oper} {S : Facts} {a : Act} {v : Value} (hF : F k (stAt o a) = some (.exact R v)) (hw : Region.wanted o (yielded ops a.tmps) = true)
    (h1 : ∀ (w' : World) (G : Value → World → Prop), C w' → S.at ops o w' → (∀ w'', R w' w'' → G v w'') → growAt P o a w' G)
    (h2 : ∀ (K : Act → Prop), (∀ a, wpGV P ops C R F Q (k + 1) rest S a → K a) → K (a.put o.dst v)) : wpGV P ops C R F Q k (o :: rest) S a := by
  refine wpG_knownV (.exact R v) hF hw (fun w' G hC hS hG => h1 w' G hC hS fun w'' hR => hG () w'' hR (fun _ h => by cases h)) (fun x K hK => h2 K fun a ha => hK a ?_)
  simp only [Known.exact, Facts.add_none]
  exact ha

end
end Go.Proofs.Ytahmacnmphjhgaa
namespace Go.Proofs.Ytahmacnmphjhgaa
open Go.RowKit

/-- worlds grow; blocks behind B that hold z may come to hold p -/
def RelS (B : Nat) (T : TypeId) (z p : Array Value) (w w' : World) : Prop :=
  Below B w w' ∧ (∀ b, B ≤ b → (w.heap[b]? = some (.cells z T (0, 0)) ∨ w.heap[b]? = some (.cells p T (0, 0))) → (w'.heap[b]? = some (.cells z T (0, 0)) ∨ w'.heap[b]? = some (.cells p T (0, 0)))) ∧
    (∀ b, B ≤ b → w.heap[b]? = some (.cells p T (0, 0)) → w'.heap[b]? = some (.cells p T (0, 0)))
section
variable {B : Nat} {T : TypeId} {z p : Array Value}
theorem RelS.trans {a b c : World} (h : RelS B T z p a b) (k : RelS B T z p b c) : RelS B T z p a c :=
  ⟨h.1.trans k.1, fun x hx hv => k.2.1 x hx (h.2.1 x hx hv), fun x hx hv => k.2.2 x hx (h.2.2 x hx hv)⟩
theorem RelS.of_bel {w w' : World} (hb : B ≤ w.heap.size) (h : Bel w w') : RelS B T z p w w' := by
  have key : ∀ (x : Nat) (o : Obj), w.heap[x]? = some o → w'.heap[x]? = some o := fun x o hx => (h.block x (Array.getElem?_eq_some_iff.1 hx).1).trans hx
  exact ⟨h.mono hb, fun x _ hv => hv.imp (key x _) (key x _), fun x _ hv => key x _ hv⟩
theorem RelS.size {w w' : World} (h : RelS B T z p w w') : w.heap.size ≤ w'.heap.size := h.1.size
theorem RelS.store {w w' : World} {x : Nat} (hx : B ≤ x) (hB : B ≤ w.heap.size) (hc : Chg (fun k => k = x) w w') (hs : w'.heap[x]? = some (.cells p T (0, 0))) : RelS B T z p w w' := by
  have key : ∀ (b : Nat) (o : Obj), b ≠ x → w.heap[b]? = some o → w'.heap[b]? = some o := fun b o hb h => (hc.block b (Array.getElem?_eq_some_iff.1 h).1 hb).trans h
  refine ⟨hc.below (fun k hk => by omega) hB, fun b _ hv => ?_, fun b _ hv => ?_⟩
  · by_cases hb : b = x
    · subst hb; exact .inr hs
    · exact hv.imp (key b _ hb) (key b _ hb)
  · by_cases hb : b = x
    · subst hb; exact hs
    · exact key b _ hb hv
/-- the block that is made -/
def kMade (B : Nat) (T : TypeId) (z p : Array Value) : Known (RelS B T z p) :=
  ⟨Nat, fun x => .pointer (some ⟨x, 0, none⟩), fun x => some fun w => B ≤ x ∧ (w.heap[x]? = some (.cells z T (0, 0)) ∨ w.heap[x]? = some (.cells p T (0, 0))), fun x _ h _ _ hφ hR => by cases h; exact ⟨hφ.1, hR.2.1 x hφ.1 hφ.2⟩⟩
@[go_sem] theorem kMade_val (B : Nat) (T : TypeId) (z p : Array Value) (x : Nat) : (kMade B T z p).val x = .pointer (some ⟨x, 0, none⟩) := rfl
/-- its filling -/
def kFilled (B : Nat) (T : TypeId) (z p : Array Value) (v : Value) : Known (RelS B T z p) :=
  ⟨Unit, fun _ => undef, fun _ => some fun w => ∀ x, v = .pointer (some ⟨x, 0, none⟩) → B ≤ x ∧ w.heap[x]? = some (.cells p T (0, 0)), fun _ _ h _ _ hφ hR => by cases h; exact fun x hv => ⟨(hφ x hv).1, hR.2.2 x (hφ x hv).1 (hφ x hv).2⟩⟩
def knownPut {R : World → World → Prop} (L : List (Nat × Known R)) (m : Nat) (K : Value → Known R) (k : Nat) (v : Option Value) : Option (Known R) := if k = m then v.map K else knownAt L k
theorem region_place {P : Program} {id : Nat} {Q : Exit → Act → World → Prop} {a : Act} {w : World} {l : List Oper} (T : TypeId) (z p : Array Value) (m : Nat) (L : List (Nat × Known (RelS w.heap.size T z p))) (hm : P.follows .mixedOrders = true) (hB : splitB l.toArray l.length = true)
    (h : wpGV P l.toArray (RelS w.heap.size T z p w) (RelS w.heap.size T z p) (knownPut L m (kFilled w.heap.size T z p)) (fun S a' => ∀ w', RelS w.heap.size T z p w w' → S.all w' → Q .normal a' w') 0 l Facts.none a) : (Code.region id l.toArray true).wp P Q a w :=
  wp_region_grownV (C := RelS w.heap.size T z p w) (R := RelS w.heap.size T z p) _ l.length hm hB (fun _ _ h k => RelS.trans h k) (RelS.of_bel (Nat.le_refl _) (b_drew w)) (by rw [List.take_length, List.drop_length]; exact h)
theorem wpG_nilV {P : Program} {ops : Array Oper} {C : World → Prop} {R : World → World → Prop} {F : Nat → Option Value → Option (Known R)} {Q : Facts → Act → Prop} {k : Nat} {S : Facts} {a : Act} (h : Q S a) : wpGV P ops C R F Q k [] S a := h
/-- a callee's contract with a told result, under RelS -/
theorem calls_toldS {P : Program} {f : FuncId} {args : Array Value} {w : World} {v : Value} {G : Value → World → Prop} (hb : B ≤ w.heap.size) (hG : ∀ w'', RelS B T z p w w'' → G v w'') (h : Calls P f args w fun e w' => e = .returned v ∧ Below w.heap.size w w') :
    Calls P f args w fun e w'' => ∃ u, e = .returned u ∧ G u w'' := h.mono fun _ _ ⟨he, hb'⟩ => ⟨v, he, hG _ (RelS.of_bel hb hb')⟩
theorem RelS.refl (w : World) : RelS B T z p w w := ⟨Below.refl _ _, fun _ _ h => h, fun _ _ h => h⟩
end
end Go.Proofs.Ytahmacnmphjhgaa
namespace Go.Proofs.Ytahmacnmphjhgaa
open Go.RowKit Oct
theorem wpG_nilYJ {P : Program} {ops : Array Oper} {C : World → Prop} {R : World → World → Prop} {F : Nat → Option (Known R)} {Q : Facts → Act → Prop} {k : Nat} {S : Facts} {a : Act} (h : Q S a) : wpG P ops C R F Q k [] S a := h
attribute [local irreducible] wpG
attribute [local irreducible] wpGV

theorem build_yesJ {w' : World} {l : List (List UInt8)} {e : Ending} (h : b23R w' l e) (hid : allIds l = true) (hl : l.length ≤ 4096) : ∃ a c, e = .returned (.tuple #[.agg #[.slice a (buildF l).length c, .int .i64 (l.length : Int)], .int .i64 0]) ∧ NR w' (.slice a (buildF l).length c) (buildF l) := by
  obtain ⟨v, he, hn⟩ := build_good h hid hl
  obtain ⟨a, c, rfl, _, _⟩ := NR_open hn
  exact ⟨a, c, he, hn⟩
def nucells (u : List Int) : List Value := u.map fun x => .int .i64 x
theorem nucells_get {u : List Int} {k : Nat} (hk : k < u.length) : (nucells u)[k]? = some (.int .i64 (u.getD k 0)) := by simp [nucells, List.getD, hk]
theorem nucells_set (u : List Int) (k : Nat) (x : Int) : (nucells u).set k (.int .i64 x) = nucells (u.set k x) := by simp [nucells, List.map_set]
theorem nucells_len (u : List Int) : (nucells u).length = u.length := by simp [nucells]
theorem mk_used (n : Nat) (hn : n ≤ 1000000) (w : World) : (Instr.makeSlice 49 (.int .i64 (n : Int)) (.int .i64 (n : Int))).run Try.prog w = .ok (.slice (some ⟨w.heap.size, 0, none⟩) n n) (w.alloc (.cells (nucells (List.replicate n 0)).toArray 3)) := by
  have := make_one (P := Try.prog) 49 3 (.int .i64 0) 8 Try.underlying49 (by kernel_rfl) rfl n (by omega) (by omega) w
  rw [this]; simp [nucells]

/-- a row that a call made, its place known -/
def kOwnP {α : Type} (R : Rec α) (base : Nat) (l : List α) : Known Bel :=
  ⟨Nat × Nat × Nat, fun x => .slice (some ⟨x.1, x.2.1, none⟩) l.length x.2.2, fun x => some fun w => R.Own w base (.slice (some ⟨x.1, x.2.1, none⟩) l.length x.2.2) l, fun _ _ h _ _ hφ hB => by cases h; exact Rec.Own.below hφ hB⟩
@[go_sem] theorem kOwnP_val {α : Type} (R : Rec α) (base : Nat) (l : List α) (b o c : Nat) : (kOwnP R base l).val (b, o, c) = .slice (some ⟨b, o, none⟩) l.length c := rfl

/-- a place whose cell is known -/
def kCell (v : Value) : Known Bel :=
  ⟨Nat × Nat, fun x => .pointer (some ⟨x.1, x.2, none⟩), fun x => some fun w => w.cell? ⟨x.1, x.2, none⟩ = some v, fun _ _ h _ _ hφ hB => by cases h; exact Below.keeps hB hφ⟩
@[go_sem] theorem kCell_val (v : Value) (b o : Nat) : (kCell v).val (b, o) = .pointer (some ⟨b, o, none⟩) := rfl

theorem own_cellJ {w : World} {base b o n c : Nat} {l : List (List UInt8)} (h : recS.Own w base (.slice (some ⟨b, o, none⟩) n c) l) {i : Nat} (hi : i < l.length) : w.cell? ⟨b, o + i, none⟩ = some (.string (bs l[i])) := by
  obtain ⟨_, _, hv5, _, hc5⟩ := recS_open h.row
  obtain ⟨b', o', he5, y1⟩ := hc5 i hi
  injection hv5 with hv5 _ _
  rw [← hv5] at he5
  injection he5 with he5
  injection he5 with e1 e2 _
  subst e1 e2
  exact y1

set_option maxRecDepth 100000 in
set_option maxHeartbeats 8000000 in
theorem TreeSpans_any (v : Value) (l : List (List UInt8)) (w : World) (hr : recS.Row w v l) (hl : l.length ≤ 140737488355328) (hm : ∀ s ∈ l, s.length ≤ 140737488355328) :
    Calls Try.prog 5 #[v] w fun e w' => e = .returned (.bool true) ∧ Below w.heap.size w w' := by
  obtain ⟨a0, c0, rfl, _⟩ := hr.2
  have HL := Lib.hid (long23_any _ l w hr hl hm)
  have HR := Lib.hid hr
  clear hr hm
  cases h1 : long23 l with
  | true =>
    rw [h1] at HL
    clear h1
    go_enter Try.func5, Try.ntmps5
    go_wp2_with fail
    refine HL.out.mono ?_
    rintro e w1 ⟨rfl, rfl⟩
    go_wp2_with fail
    refine (alive23 _).mono ?_
    rintro e w1 ⟨rfl, hB1⟩
    go_wp2_with fail
    go_ret
    exact ⟨rfl, hB1⟩
  | false =>
    rw [h1] at HL
    obtain ⟨n1, m1⟩ := long23_no h1
    have M1 := Lib.hid m1
    obtain ⟨ids, hids⟩ : ∃ ids, ids = idsF l := ⟨_, rfl⟩
    have hall : allIds ids = true := by rw [hids]; exact idsF_all l
    have hil : ids.length = l.length := by rw [hids]; exact idsF_len l
    have hsz := buildF_sizes hall
    obtain ⟨sp, level, hlv, hgd⟩ := buildF_gd hall
    obtain ⟨N, hN⟩ : ∃ N, N = buildF ids := ⟨_, rfl⟩
    rw [← hN] at hsz hgd
    have HIDS := Lib.hid hids
    have HALL := Lib.hid hall
    have HIL := Lib.hid hil
    have HSZ := Lib.hid hsz
    have HGD := Lib.hid hgd
    have HLV := Lib.hid hlv
    have HN := Lib.hid hN
    have hNl : N.length ≤ 120 := by have := hsz.2.1; omega
    have hck : ∀ x ∈ N, x.2.length ≤ 140737488355328 := fun x hx => by have := hsz.2.2.2 x hx; omega
    have hci : ∀ x ∈ N, x.1.length ≤ 140737488355328 := fun x hx => by have := hsz.2.2.1 x hx; omega
    have HCK := Lib.hid hck
    have HCI := Lib.hid hci
    clear h1 m1 hids hall hil hsz hgd hlv hN hck hci
    go_enter Try.func5, Try.ntmps5
    go_wp2_with fail
    refine HL.out.mono ?_
    rintro e w1 ⟨rfl, rfl⟩
    go_wp2_with fail
    refine (Ids23_any _ l _ HR.out (by omega) M1.out).mono ?_
    rintro e w1 ⟨⟨u1, rfl, hown1⟩, hB1⟩
    obtain ⟨a1, c1, rfl⟩ := owns_slice hown1
    rw [← HIDS.out] at hown1 ⊢
    have HO1 := Lib.hid hown1
    have HB1 := Lib.hid hB1
    clear hown1 hB1
    go_wp2_with fail
    refine (Build_any _ ids _ HO1.out.row (fun b hb => (HO1.out.lt b hb).2) (by rw [HIL.out]; omega) (all_len HALL.out)).mono ?_
    rintro e w2 ⟨hres, hB2⟩
    obtain ⟨a2, c2, rfl, hn2⟩ := build_yesJ hres HALL.out (by rw [HIL.out]; omega)
    rw [← HN.out] at hn2 ⊢
    obtain ⟨A, hA⟩ : ∃ A, A = w2.alloc (.cells #[.slice a2 N.length c2, .int .i64 (ids.length : Int)] 44) := ⟨_, rfl⟩
    have hx2 := World.alloc_heap_new w2 (.cells #[.slice a2 N.length c2, .int .i64 (ids.length : Int)] 44)
    have hbA : Below w2.heap.size w2 A := by rw [hA]; exact b_alloc w2 _
    rw [← hA] at hx2
    rw [HIL.out] at hx2 hA
    have HX2 := Lib.hid hx2
    have HNA := Lib.hid (hn2.below hbA)
    have HBA := Lib.hid (bt (bt HB1.out hB2) hbA)
    have hck2 := Check23_any (.slice a2 N.length c2) (l.length : Int) N
    have hcf : checkF N (l.length : Int) = true := by rw [HN.out, ← HIL.out]; exact checkF_build HALL.out (by rw [HIL.out]; omega)
    rw [hcf] at hck2
    have HCF := Lib.hid hcf
    have HCH := Lib.hid (fun w' (hB : Below A.heap.size A w') => hck2 w' (HNA.out.below hB) (by omega) HCK.out HCI.out)
    obtain ⟨p1, p2, _, _⟩ := two_cells hx2
    obtain ⟨T, hT⟩ : ∃ T, T = w2.heap.size := ⟨_, rfl⟩
    have HTL := Lib.hid (show T < A.heap.size by rw [hT]; exact (Array.getElem?_eq_some_iff.1 HX2.out).1)
    rw [HIL.out]
    have n2 : N.length < 2 * l.length ∨ l.length = 0 := by
      rcases Nat.eq_zero_or_pos l.length with h | h
      · exact .inr h
      · have := HGD.out.few HLV.out (by rw [HIL.out]; exact h)
        rw [HIL.out] at this; exact .inl this
    have n3 : (l.length : Int) ≤ (N.length : Int) := by
      have := HSZ.out.1
      rw [HIL.out] at this; omega
    have n4 : (l.length : Int) ≤ 60 := by omega
    have n5 : (N.length : Int) ≤ 120 := by omega
    rw [← hT] at HX2 p1 p2
    clear hres hB2 hn2 hx2 hbA hcf hck2
    go_upto_region 4 with fail
    rw [← hA]
    try rw [← hT]
    clear hA hT
    go_cut [63] (fun s wx => s = .bool false ∧ Hid (Below A.heap.size A wx))
    case first =>
      have n6 : ¬ ((N.length : Int) < (l.length : Int)) := by omega
      by_cases h0 : (0 : Int) < (l.length : Int)
      · have n7 : ¬ (2 * (l.length : Int) ≤ (N.length : Int)) := by omega
        clear n2
        go_wp2_with fail
        refine (HCH.out _ (Below.refl _ _)).mono ?_
        rintro e w3 ⟨rfl, hB3⟩
        rw [show chkV true = 0 from rfl]
        go_wp2_with fail
        go_meet
        case rel => exact ⟨rfl, hB3⟩
      · clear n2
        go_wp2_with fail
        refine (HCH.out _ (Below.refl _ _)).mono ?_
        rintro e w3 ⟨rfl, hB3⟩
        rw [show chkV true = 0 from rfl]
        go_wp2_with fail
        go_meet
        case rel => exact ⟨rfl, hB3⟩
    case rest =>
      obtain ⟨rfl, HB3⟩ := hcut
      have HK := fun w => mk_used N.length (by omega) w
      have q1 := Below.keeps HB3.out p1
      have q2 := Below.keeps HB3.out p2
      clear p1 p2 n2
      have HNC := Lib.hid (HNA.out.below HB3.out)
      have HWC := Lib.hid (bt HBA.out HB3.out)
      have HRC := Lib.hid (HR.out.below HWC.out)
      have hui := fun w' (hB : Below wc.heap.size wc w') (i : Nat) (hi : i < N.length) => Under23_any (.slice a2 N.length c2) (l.length : Int) (i : Int) N w' (HNC.out.below hB) (by omega) HCK.out HCI.out
      rw [HCF.out] at hui
      have HUN := Lib.hid (show ∀ w', Below wc.heap.size wc w' → ∀ i : Nat, i < N.length → Calls Try.prog 26 #[.agg #[.slice a2 N.length c2, .int .i64 (l.length : Int)], .int .i64 (i : Int)] w' fun e w'' => e = .returned (.tuple #[spV (under N i), .int .i64 0]) ∧ Below w'.heap.size w' w'' from fun w' hB i hi => by
        have := hui w' hB i hi
        rwa [underE_in hi] at this)
      have hro := Root23_any (.slice a2 N.length c2) (l.length : Int) N
      rw [HCF.out] at hro
      have HRO := Lib.hid (fun w' (hB : Below wc.heap.size wc w') => hro w' (HNC.out.below hB) (by omega) HCK.out HCI.out)
      clear hui hro
      go_upto_region 7 with fail
      obtain ⟨D, hD⟩ : ∃ D, D = wc.heap.size := ⟨_, rfl⟩
      obtain ⟨B, hB⟩ : ∃ B, B = wc.alloc (.cells (nucells (List.replicate N.length 0)).toArray 3) := ⟨_, rfl⟩
      have hblk : Blk B D 3 (nucells (uF N 0 0)) := by rw [hB, hD, uF_start]; exact Blk.new _ _ _
      have hbB : Below D wc B := by rw [hB, hD]; exact b_alloc wc _
      rw [← hB, ← hD]
      rw [← hD] at HUN HRO
      have HDW := Lib.hid hD
      have HBLK := Lib.hid hblk
      have HBB := Lib.hid hbB
      clear hB hD hblk hbB HK
      go_wp2
      go_loopw [6] (fun vi wr => ∃ i : Nat, vi = .int .i64 (i : Int) ∧ i ≤ N.length ∧ Hid (Blk wr D 3 (nucells (uF N i 0))) ∧ Hid (Below D wc wr)) (fun vi _ => N.length - (intOf vi).toNat)
      case atStart => exact ⟨0, rfl, Nat.zero_le _, HBLK.out, HBB.out⟩
      case round =>
        obtain ⟨i, rfl, hi, HBK, HB⟩ := hrel
        have r1 := Below.keeps (by rw [← HDW.out]; exact HB.out) q1
        have r2 := Below.keeps (by rw [← HDW.out]; exact HB.out) q2
        by_cases hin : i < N.length
        · obtain ⟨a6, c6, b, off, ak, nk, ck, hv6, rfl, y1, y2, hrow⟩ := HNC.out.at hin
          have d1 := Below.keeps (by rw [← HDW.out]; exact HB.out) y1
          have d2 := Below.keeps (by rw [← HDW.out]; exact HB.out) y2
          injection hv6 with f1 _ f3
          subst f1 f3
          obtain ⟨_, _, hvk, _, hkc⟩ := recI_open hrow
          injection hvk with f1 f2 f3
          subst f1 f2 f3
          have HKC := Lib.hid hkc
          have i0 : (0 : Int) ≤ (i : Int) := by omega
          have i1 : (i : Int) < (N.length : Int) := by omega
          obtain ⟨KS, hKS⟩ : ∃ KS, KS = kidsOf N i := ⟨_, rfl⟩
          rw [← hKS] at HKC d2
          obtain ⟨u, hu⟩ : ∃ u, u = under N i := ⟨_, rfl⟩
          have HKS := Lib.hid hKS
          have HU := Lib.hid hu
          clear hrow hkc hKS hu y1 y2
          go_wp2_with fail
          refine (HUN.out _ HB.out i hin).mono ?_
          rintro e w3 ⟨rfl, hB3⟩
          rw [← HU.out, spV_mk]
          obtain ⟨S, hS⟩ : ∃ S, S = w3.heap.size := ⟨_, rfl⟩
          obtain ⟨V, hV⟩ : ∃ V, V = w3.alloc (.cells #[.int .i64 (u.1 : Int), .int .i64 (u.2 : Int)] 53) := ⟨_, rfl⟩
          have hsv : V.heap[S]? = some (.cells #[.int .i64 (u.1 : Int), .int .i64 (u.2 : Int)] 53 (0, 0)) := by rw [hV, hS]; exact World.alloc_heap_new w3 _
          have hb3 : Below wr.heap.size wr V := bt hB3 (by rw [hV]; exact b_alloc w3 _)
          have hSD : wr.heap.size ≤ S := by rw [hS]; exact hB3.size
          obtain ⟨v1, v2, _, _⟩ := two_cells hsv
          have g1 := Below.keeps hb3 r1
          have g2 := Below.keeps hb3 r2
          have g3 := Below.keeps hb3 d1
          have g4 := Below.keeps hb3 d2
          have HBV := Lib.hid (HBK.out.below hb3)
          have hDr : D ≤ wr.heap.size := by rw [HDW.out]; exact HB.out.size
          have HVB := Lib.hid (HB.out.trans (hb3.mono hDr))
          have HVR := Lib.hid hb3
          have HSV := Lib.hid hsv
          have HSD := Lib.hid hSD
          go_upto_region 12 with fail
          rw [← hV]
          rw [← hS]
          clear hV hS hb3 hSD hsv hB3 r1 r2 d1 d2 hDr
          by_cases hleaf : i < l.length
          · have hlf := HGD.out.leaf i (by rw [HIL.out]; exact hleaf)
            have hil2 : i < ids.length := by rw [HIL.out]; exact hleaf
            have hlf1 := hlf.1
            rw [List.getElem?_eq_getElem hin] at hlf1
            have hlf2 := Option.some.inj hlf1
            have hks0 : KS = [] := by rw [HKS.out]; unfold kidsOf; rw [List.getD, List.getElem?_eq_getElem hin, hlf2]; rfl
            have hu1 : u = (i, i + 1) := by rw [HU.out]; exact under_leaf (by rw [← HKS.out, hks0]; rfl)
            subst hu1
            have HKS0 := Lib.hid hks0
            subst hks0
            obtain ⟨J, hJ⟩ : ∃ J, J = N[i].1 := ⟨_, rfl⟩
            have HJ := Lib.hid (show ids[i] = J by rw [hJ, hlf2])
            rw [← hJ] at g3
            have w1 : (i : Int) < (l.length : Int) := by omega
            have w2 : (i : Int) < (ids.length : Int) := by omega
            have w3 : ((i + 1 : Nat) : Int) = (i : Int) + 1 := by omega
            rw [w3] at v2
            have HUF := Lib.hid (show uF N i 0 = uF N (i + 1) 0 by have := uF_next hin; rw [← HKS.out] at this; exact this)
            have HRV := Lib.hid (HRC.out.below (by rw [← HDW.out]; exact HVB.out))
            have HI2 := Lib.hid hil2
            have HDV := Lib.hid (Nat.le_of_lt HBV.out.lt)
            clear hlf hlf1 hlf2 hJ w3
            rw [List.length_nil] at g4
            go_upto_region 15 with fail
            refine region_known [(4, .exact _ (.agg #[.int .i64 (i : Int), .int .i64 ((i : Int) + 1)])), (13, .exact _ (.slice (some ⟨b, off, none⟩) N.length c2)), (17, .exact _ (.string (bs J))), (19, kOwnP recS V.heap.size ids), (21, kCell (.string (bs J))), (22, .exact _ (.string (bs J)))] (by kernel_rfl) (by kernel_rfl) ?_
            (repeat (first | (refine wpG_skip (by kernel_rfl) (fun K hK => ?_); go_big_quiet_skip; refine wpQuiet_nil (hK _ ?_); clear hK K) | (refine wpG_quiet (by rfl) (by rfl) (fun K hK => ?_); go_big_quiet_want; go_big_quiet_op; go_big_quiet_on; refine wpQuiet_nil (hK _ ?_); clear hK K)))
            refine wpG_exact rfl (by kernel_rfl) (fun w' G hB hS hG => ?_) (fun K hK => ?_)
            · have y1 := Below.keeps hB v1
              have y2 := Below.keeps hB v2
              go_simp; exact hG _ (Bel.refl _)
            go_simp; refine hK _ ?_; clear hK K; (repeat (first | (refine wpG_skip (by kernel_rfl) (fun K hK => ?_); go_big_quiet_skip; refine wpQuiet_nil (hK _ ?_); clear hK K) | (refine wpG_quiet (by rfl) (by rfl) (fun K hK => ?_); go_big_quiet_want; go_big_quiet_op; go_big_quiet_on; refine wpQuiet_nil (hK _ ?_); clear hK K)))
            refine wpG_exact rfl (by kernel_rfl) (fun w' G hB hS hG => ?_) (fun K hK => ?_)
            · have y1 := Below.keeps hB g1
              go_simp; exact hG _ (Bel.refl _)
            go_simp; refine hK _ ?_; clear hK K; (repeat (first | (refine wpG_skip (by kernel_rfl) (fun K hK => ?_); go_big_quiet_skip; refine wpQuiet_nil (hK _ ?_); clear hK K) | (refine wpG_quiet (by rfl) (by rfl) (fun K hK => ?_); go_big_quiet_want; go_big_quiet_op; go_big_quiet_on; refine wpQuiet_nil (hK _ ?_); clear hK K)))
            refine wpG_exact rfl (by kernel_rfl) (fun w' G hB hS hG => ?_) (fun K hK => ?_)
            · have y1 := Below.keeps hB g3
              go_simp; exact hG _ (Bel.refl _)
            go_simp; refine hK _ ?_; clear hK K; (repeat (first | (refine wpG_skip (by kernel_rfl) (fun K hK => ?_); go_big_quiet_skip; refine wpQuiet_nil (hK _ ?_); clear hK K) | (refine wpG_quiet (by rfl) (by rfl) (fun K hK => ?_); go_big_quiet_want; go_big_quiet_op; go_big_quiet_on; refine wpQuiet_nil (hK _ ?_); clear hK K)))
            refine wpG_known (kOwnP recS V.heap.size ids) rfl (by kernel_rfl) (fun w' G hB hS hG => ?_) (fun x K hK => ?_)
            · go_simp
              refine (Ids23_any _ l w' (HRV.out.below hB) (by omega) M1.out).mono ?_
              rintro e w'' ⟨⟨uu, rfl, hown⟩, hB''⟩
              rw [← HIDS.out] at hown
              obtain ⟨a5, c5, rfl⟩ := owns_slice hown
              obtain ⟨_, _, hv5, _, hc5⟩ := recS_open hown.row
              obtain ⟨b5, o5, he5, _⟩ := hc5 i HI2.out
              injection hv5 with hv5 _ _
              rw [he5] at hv5
              subst hv5
              exact ⟨_, rfl, hG (b5, o5, c5) w'' hB'' (fun φ h => by cases h; exact hown.mono hB.size)⟩
            obtain ⟨b5, o5, c5⟩ := x
            go_simp; refine hK _ ?_; clear hK K; (repeat (first | (refine wpG_skip (by kernel_rfl) (fun K hK => ?_); go_big_quiet_skip; refine wpQuiet_nil (hK _ ?_); clear hK K) | (refine wpG_quiet (by rfl) (by rfl) (fun K hK => ?_); go_big_quiet_want; go_big_quiet_op; go_big_quiet_on; refine wpQuiet_nil (hK _ ?_); clear hK K)))
            refine wpG_known (kCell (.string (bs J))) rfl (by kernel_rfl) (fun w' G hB hS hG => ?_) (fun x K hK => ?_)
            · have hown : recS.Own w' V.heap.size (.slice (some ⟨b5, o5, none⟩) ids.length c5) ids := at0 hS (by kernel_rfl)
              have y1 := own_cellJ hown HI2.out
              rw [HJ.out] at y1
              have Y1 := Lib.hid y1
              clear hown y1 hS
              go_simp
              exact hG (b5, o5 + i) _ (Bel.refl _) (fun φ h => by cases h; exact Y1.out)
            obtain ⟨b6, o6⟩ := x
            go_simp; refine hK _ ?_; clear hK K; (repeat (first | (refine wpG_skip (by kernel_rfl) (fun K hK => ?_); go_big_quiet_skip; refine wpQuiet_nil (hK _ ?_); clear hK K) | (refine wpG_quiet (by rfl) (by rfl) (fun K hK => ?_); go_big_quiet_want; go_big_quiet_op; go_big_quiet_on; refine wpQuiet_nil (hK _ ?_); clear hK K)))
            refine wpG_exact rfl (by kernel_rfl) (fun w' G hB hS hG => ?_) (fun K hK => ?_)
            · have y1 : w'.cell? ⟨b6, o6, none⟩ = some (.string (bs J)) := at0 hS (by kernel_rfl)
              clear hS
              go_simp; exact hG _ (Bel.refl _)
            go_simp; refine hK _ ?_; clear hK K; (repeat (first | (refine wpG_skip (by kernel_rfl) (fun K hK => ?_); go_big_quiet_skip; refine wpQuiet_nil (hK _ ?_); clear hK K) | (refine wpG_quiet (by rfl) (by rfl) (fun K hK => ?_); go_big_quiet_want; go_big_quiet_op; go_big_quiet_on; refine wpQuiet_nil (hK _ ?_); clear hK K)))
            refine wpG_nilYJ ?_
            intro w5 hB5 hA5
            have HB5 := Lib.hid hB5
            clear hB5 hA5 g1 g2 g3 g4 v1 v2
            go_wp2
            go_roundw
            case rel => exact ⟨i + 1, by go_num, by omega, by rw [← HUF.out]; exact HBV.out.below HB5.out, HVB.out.trans (HB5.out.mono HDV.out)⟩
            case measure => simp [intOf]; omega
          · have hks := HGD.out.kidSp (i := i) (by rw [HIL.out]; omega) hin
            have hko := HGD.out.kidsOk i hin
            rw [← HKS.out, ← HU.out] at hks
            rw [← HKS.out] at hko
            obtain ⟨k1, k2, htl⟩ := hks
            have hkl : (kidSp N i).length = KS.length := by rw [kidSp_len, ← HKS.out]
            have HKL := Lib.hid hkl
            have HTI := Lib.hid htl
            have HKO := Lib.hid hko
            have w1 : ¬ (i : Int) < (l.length : Int) := by omega
            have w2 : ¬ (KS.length : Int) < 2 := by omega
            have w3 : ¬ (8 : Int) < (KS.length : Int) := by omega
            have w4 : (KS.length : Int) ≤ 8 := by omega
            have HU2 := Lib.hid (show (u.2 : Int) = ((atF (kidSp N i) u.1 KS.length : Nat) : Int) by rw [← hkl]; exact congrArg _ htl.lst.symm)
            have HBS := Lib.hid (show (uF N i KS.length) = uF N (i + 1) 0 by rw [HKS.out]; exact uF_next hin)
            obtain ⟨W0, hW0⟩ : ∃ W, W = wr := ⟨_, rfl⟩
            subst hW0
            clear hko hkl htl
            go_wp2
            go_loopw [10, 11] (fun va vn wx => ∃ n : Nat, va = .int .i64 ((atF (kidSp N i) u.1 n : Nat) : Int) ∧ vn = .int .i64 (n : Int) ∧ n ≤ KS.length ∧ Hid (Blk wx D 3 (nucells (uF N i n))) ∧ Hid (Chg (fun k => k = D) V wx) ∧ Hid (Below D wc wx)) (fun _ vn _ => KS.length - (intOf vn).toNat)
            case atStart => exact ⟨0, rfl, rfl, Nat.zero_le _, HBV.out, Chg.refl _ _, HVB.out⟩
            case round =>
              obtain ⟨n, rfl, rfl, hn, HBn, HCn, HWn⟩ := hrel
              have s1 := Below.keeps (by rw [← HDW.out]; exact HWn.out) q1
              have s2 := Below.keeps (by rw [← HDW.out]; exact HWn.out) q2
              by_cases hnk : n < KS.length
              · obtain ⟨kb, ko, rfl, x0⟩ := HKC.out n hnk
                have hkr := HKO.out KS[n] (List.getElem_mem hnk)
                obtain ⟨q, hq⟩ : ∃ q : Nat, (q : Int) = KS[n] := ⟨KS[n].toNat, by omega⟩
                have hgd : (kidsOf N i).getD n 0 = (q : Int) := by rw [← HKS.out, List.getD, List.getElem?_eq_getElem hnk, hq]; rfl
                rw [← hq] at x0 hkr
                have x1 := Below.keeps (by rw [← HDW.out]; exact HWn.out) x0
                have hqN : q < N.length := by omega
                obtain ⟨c, hc⟩ : ∃ c, c = (uF N i n).getD q 0 := ⟨_, rfl⟩
                have hcb := HGD.out.use_le (n := n) hin hqN
                have z1 := HBn.out.cell (nucells_get (u := uF N i n) (k := q) (by rw [uF_len]; omega))
                have z2 := HBn.out.free (k := q) (by rw [nucells_len, uF_len]; exact hqN)
                rw [← hc] at hcb z1
                have hst : Blk (wr.setCell ⟨D, q, none⟩ (.int .i64 (c + 1))) D 3 (nucells (uF N i (n + 1))) := by
                  have := HBn.out.set q (.int .i64 (c + 1))
                  rw [nucells_set, hc, uF_step (by rw [← HKS.out]; exact hnk) hgd] at this
                  rwa [hc]
                have hat : (atF (kidSp N i) u.1 n) = (under N q).1 := by
                  rw [← HTI.out.fst n (by rw [HKL.out]; exact hnk), kidSp_get (by rw [← HKS.out]; exact hnk), hgd]; rfl
                have hat1 : (atF (kidSp N i) u.1 (n + 1)) = (under N q).2 := by
                  show ((kidSp N i).getD n (0, 0)).2 = _
                  rw [kidSp_get (by rw [← HKS.out]; exact hnk), hgd]; rfl
                obtain ⟨p, hp⟩ : ∃ p, p = under N q := ⟨_, rfl⟩
                rw [← hp] at hat hat1
                have HP := Lib.hid hp
                have HAT1 := Lib.hid hat1
                have HST := Lib.hid hst
                have HX0 := Lib.hid x0
                obtain ⟨c0, c1⟩ := hcb
                have j0 : (0 : Int) ≤ (n : Int) := by omega
                have j1 : (n : Int) < (KS.length : Int) := by omega
                have j2 : (0 : Int) ≤ (q : Int) := by omega
                have j3 : (q : Int) < (N.length : Int) := by omega
                have j4 : (q : Int) < (i : Int) := by omega
                have j6 : ¬ (q : Int) < 0 := by omega
                have j7 : ¬ (i : Int) ≤ (q : Int) := by omega
                rw [hat]
                clear hkr hq hgd hc hst hat hat1 hp x0
                go_upto_region 26 with fail
                obtain ⟨Y, hY⟩ : ∃ Y, Y = wr.setCell ⟨D, q, none⟩ (.int .i64 (c + 1)) := ⟨_, rfl⟩
                rw [← hY]
                have hsy := HST.out
                rw [← hY] at hsy
                have hcy : Chg (fun k => k = D) wr Y := by rw [hY]; exact Chg.setCell _ _ _ rfl
                have hwy : Below D wc Y := HWn.out.trans (hcy.below (fun k hk => by omega) (by rw [HDW.out]; exact HWn.out.size))
                have t1 := Below.keeps (by rw [← HDW.out]; exact hwy) q1
                have t2 := Below.keeps (by rw [← HDW.out]; exact hwy) q2
                have t3 := Below.keeps (by rw [← HDW.out]; exact hwy) HX0.out
                have hDY : D ≤ Y.heap.size := by rw [HDW.out]; exact hwy.size
                have HDY := Lib.hid hDY
                have HSY := Lib.hid hsy
                have HCY := Lib.hid (HCn.out.trans hcy)
                have HWY := Lib.hid hwy
                have HQN := Lib.hid hqN
                clear hY hsy hcy hwy s1 s2 x1 z1 z2 HST HCn HWn HBn hDY
                refine region_place 53 #[.int .i64 0, .int .i64 0] #[.int .i64 (p.1 : Int), .int .i64 (p.2 : Int)] 10 [(0, .exact _ (.agg #[.slice (some ⟨b, off, none⟩) N.length c2, .int .i64 (l.length : Int)])), (4, .exact _ (.int .i64 (q : Int))), (5, .exact _ (.tuple #[.agg #[.int .i64 (p.1 : Int), .int .i64 (p.2 : Int)], .int .i64 0])), (9, kMade Y.heap.size 53 #[.int .i64 0, .int .i64 0] #[.int .i64 (p.1 : Int), .int .i64 (p.2 : Int)])] (by kernel_rfl) (by kernel_rfl) ?_
                (repeat (first | (refine wpG_skipV (by kernel_rfl) (fun K hK => ?_); go_big_quiet_skip; refine wpQuiet_nil (hK _ ?_); clear hK K) | (refine wpG_quietV (by rfl) (by rfl) (fun K hK => ?_); go_big_quiet_want; go_big_quiet_op; go_big_quiet_on; refine wpQuiet_nil (hK _ ?_); clear hK K)))
                refine wpG_exactV rfl (by kernel_rfl) (fun w' G hB hS hG => ?_) (fun K hK => ?_)
                · have hb := hB.1
                  have y1 := Below.keeps hb t1
                  have y2 := Below.keeps hb t2
                  clear hB hS hb
                  go_simp; exact hG _ (RelS.refl _)
                go_simp; refine hK _ ?_; clear hK K; (repeat (first | (refine wpG_skipV (by kernel_rfl) (fun K hK => ?_); go_big_quiet_skip; refine wpQuiet_nil (hK _ ?_); clear hK K) | (refine wpG_quietV (by rfl) (by rfl) (fun K hK => ?_); go_big_quiet_want; go_big_quiet_op; go_big_quiet_on; refine wpQuiet_nil (hK _ ?_); clear hK K)))
                refine wpG_exactV rfl (by kernel_rfl) (fun w' G hB hS hG => ?_) (fun K hK => ?_)
                · have hb := hB.1
                  have y1 := Below.keeps hb t3
                  clear hB hS hb
                  go_simp; exact hG _ (RelS.refl _)
                go_simp; refine hK _ ?_; clear hK K; (repeat (first | (refine wpG_skipV (by kernel_rfl) (fun K hK => ?_); go_big_quiet_skip; refine wpQuiet_nil (hK _ ?_); clear hK K) | (refine wpG_quietV (by rfl) (by rfl) (fun K hK => ?_); go_big_quiet_want; go_big_quiet_op; go_big_quiet_on; refine wpQuiet_nil (hK _ ?_); clear hK K)))
                refine wpG_exactV rfl (by kernel_rfl) (fun w' G hB hS hG => ?_) (fun K hK => ?_)
                · have hu := HUN.out w' (HWY.out.trans (hB.1.mono HDY.out)) q HQN.out
                  rw [← HP.out, spV_mk] at hu
                  have HSZ2 := Lib.hid hB.size
                  clear hB hS
                  go_simp
                  exact calls_toldS HSZ2.out hG hu
                go_simp; refine hK _ ?_; clear hK K; (repeat (first | (refine wpG_skipV (by kernel_rfl) (fun K hK => ?_); go_big_quiet_skip; refine wpQuiet_nil (hK _ ?_); clear hK K) | (refine wpG_quietV (by rfl) (by rfl) (fun K hK => ?_); go_big_quiet_want; go_big_quiet_op; go_big_quiet_on; refine wpQuiet_nil (hK _ ?_); clear hK K)))
                refine wpG_knownV (kMade Y.heap.size 53 #[.int .i64 0, .int .i64 0] #[.int .i64 (p.1 : Int), .int .i64 (p.2 : Int)]) rfl (by kernel_rfl) (fun w' G hB hS hG => ?_) (fun (x : Nat) K hK => ?_)
                · have HSZ2 := Lib.hid hB.size
                  clear hB hS
                  go_simp
                  exact hG w'.heap.size _ (RelS.of_bel HSZ2.out (b_alloc _ _)) (fun φ h => by cases h; exact ⟨HSZ2.out, .inl (World.alloc_heap_new _ _)⟩)
                go_simp; refine hK _ ?_; clear hK K; (repeat (first | (refine wpG_skipV (by kernel_rfl) (fun K hK => ?_); go_big_quiet_skip; refine wpQuiet_nil (hK _ ?_); clear hK K) | (refine wpG_quietV (by rfl) (by rfl) (fun K hK => ?_); go_big_quiet_want; go_big_quiet_op; go_big_quiet_on; refine wpQuiet_nil (hK _ ?_); clear hK K)))
                refine wpG_knownV (kFilled Y.heap.size 53 #[.int .i64 0, .int .i64 0] #[.int .i64 (p.1 : Int), .int .i64 (p.2 : Int)] (.pointer (some ⟨x, 0, none⟩))) rfl (by kernel_rfl) (fun w' G hB hS hG => ?_) (fun _ K hK => ?_)
                · have hx := at0 hS (by kernel_rfl)
                  have HSZ2 := Lib.hid hB.size
                  have HX1 := Lib.hid hx.1
                  obtain ⟨o1, o2, hx2⟩ : ∃ o1 o2, w'.heap[x]? = some (.cells #[o1, o2] 53 (0, 0)) := by rcases hx.2 with h | h <;> exact ⟨_, _, h⟩
                  obtain ⟨e1, e2, e3, e4⟩ := two_cells hx2
                  have HX2 := Lib.hid hx2
                  clear hB hS hx hx2
                  go_simp
                  exact hG () _ (RelS.store HX1.out HSZ2.out (two_chg _ _ _ _) (two_set HX2.out)) (fun φ h => by cases h; exact fun x' hv => by cases hv; exact ⟨HX1.out, two_set HX2.out⟩)
                go_simp; refine hK _ ?_; clear hK K; (repeat (first | (refine wpG_skipV (by kernel_rfl) (fun K hK => ?_); go_big_quiet_skip; refine wpQuiet_nil (hK _ ?_); clear hK K) | (refine wpG_quietV (by rfl) (by rfl) (fun K hK => ?_); go_big_quiet_want; go_big_quiet_op; go_big_quiet_on; refine wpQuiet_nil (hK _ ?_); clear hK K)))
                refine wpG_nilV ?_
                intro w5 hR5 hA5
                have hx5 := (all0 hA5 x rfl).2
                have hY5 := hR5.1
                obtain ⟨e1, e2, e3, e4⟩ := two_cells hx5
                have HW5 := Lib.hid (HWY.out.trans (hY5.mono HDY.out))
                have HB5 := Lib.hid (HSY.out.below hY5)
                have HC5 := Lib.hid (HCY.out.trans (Chg.of_below hY5))
                clear hR5 hA5 hx5 hY5 t1 t2 t3 HSY HCY HWY
                go_wp2
                go_roundw
                case rel => exact ⟨n + 1, by rw [HAT1.out], by go_num, by omega, HB5.out, HC5.out, HW5.out⟩
                case measure => simp [intOf]; omega
              · obtain rfl : n = KS.length := by omega
                rw [← HU2.out]
                have hSV := HSD.out
                have hsd : S ≠ D := by have := HBV.out.lt; have := HBK.out.lt; omega
                have z1 := HCn.out.cell v1 (fun e => hsd e)
                have z2 := HCn.out.cell v2 (fun e => hsd e)
                have HWn' := Lib.hid HWn.out
                have HBn' := Lib.hid (show Blk wr D 3 (nucells (uF N (i + 1) 0)) by rw [← HBS.out]; exact HBn.out)
                clear hSV hsd HWn HBn HCn g1 g2 g3 g4 v1 v2
                go_wp2
                go_roundw
                case rel => exact ⟨i + 1, by go_num, by omega, HBn'.out, HWn'.out⟩
                case measure => simp [intOf]; omega
        · obtain rfl : i = N.length := by omega
          have hus := fun k (hk : k + 1 < N.length) => HGD.out.used HLV.out hk
          have HUS := Lib.hid hus
          have HUL := Lib.hid (uF_len N N.length 0)
          obtain ⟨F, hF⟩ : ∃ F, F = uF N N.length 0 := ⟨_, rfl⟩
          rw [← hF] at HUS HUL HBK
          clear hus hF
          obtain ⟨W0, hW0⟩ : ∃ W, W = wr := ⟨_, rfl⟩
          subst hW0
          go_wp2
          go_loopw [14] (fun vi wx => ∃ k : Nat, vi = .int .i64 (k : Int) ∧ k ≤ N.length ∧ wx = W0) (fun vi _ => N.length - (intOf vi).toNat)
          case atStart => exact ⟨0, rfl, Nat.zero_le _, rfl⟩
          case round =>
            obtain ⟨k, rfl, hk, rfl⟩ := hrel
            by_cases hkn : k + 1 < N.length
            · have y1 := HBK.out.cell (nucells_get (u := F) (k := k) (by rw [HUL.out]; omega))
              rw [HUS.out k hkn] at y1
              have j1 : (k : Int) + 1 < (N.length : Int) := by omega
              have j2 : (k : Int) < (N.length : Int) := by omega
              go_wp2
              go_roundw
              case rel => exact ⟨k + 1, by go_num, by omega, trivial⟩
              case measure => simp [intOf]; omega
            · have j1 : ¬ ((k : Int) + 1 < (N.length : Int)) := by omega
              by_cases hz : N.length = 0
              · have hz1 : (true && decide (0 < N.length)) = false := by rw [hz]; rfl
                have hz2 : ((l.length : Int) == 0) = true := by rw [beq_iff_eq]; omega
                rw [hz1] at HRO
                clear hz hz1
                go_wp2_with fail
                refine (HRO.out _ HB.out).mono ?_
                rintro e w3 ⟨rfl, hB3⟩
                rw [show rootF N false = (0, false) from rfl]
                have HW3 := Lib.hid (bt HWC.out (by rw [← HDW.out]; exact HB.out.trans (hB3.mono (by rw [HDW.out]; exact HB.out.size))))
                clear hB3
                go_wp2_with fail
                refine (alive23 _).mono ?_
                rintro e w4 ⟨rfl, hB4⟩
                go_wp2_with fail
                go_ret
                exact ⟨rfl, bt HW3.out hB4⟩
              · have hz1 : (true && decide (0 < N.length)) = true := by rw [decide_eq_true (by omega : 0 < N.length)]; rfl
                rw [hz1] at HRO
                have hr := HGD.out.root HLV.out (by omega)
                rw [HIL.out] at hr
                have HR2 := Lib.hid hr
                clear hz1 hr
                go_wp2_with fail
                refine (HRO.out _ HB.out).mono ?_
                rintro e w3 ⟨rfl, hB3⟩
                rw [show rootF N true = (((N.length - 1 : Nat) : Int), true) by unfold rootF; rw [show ((N.length : Int) - 1) = ((N.length - 1 : Nat) : Int) by omega]]
                have HB3' := Lib.hid (HB.out.trans (hB3.mono (by rw [HDW.out]; exact HB.out.size)))
                have t1 := Below.keeps (by rw [← HDW.out]; exact HB3'.out) q1
                have t2 := Below.keeps (by rw [← HDW.out]; exact HB3'.out) q2
                clear hB3
                go_wp2_with fail
                refine (HUN.out _ HB3'.out (N.length - 1) (by omega)).mono ?_
                rintro e w4 ⟨rfl, hB4⟩
                rw [HR2.out, spV_mk]
                have HW4 := Lib.hid (bt (bt HWC.out (by rw [← HDW.out]; exact HB3'.out)) hB4)
                clear hB4 t1 t2
                go_wp2_with fail
                refine (alive23 _).mono ?_
                rintro e w5 ⟨rfl, hB5⟩
                go_wp2_with fail
                go_ret
                exact ⟨rfl, bt (bt HW4.out (b_alloc w4 _)) hB5⟩

end Go.Proofs.Ytahmacnmphjhgaa
namespace Go.Proofs.Ytahmacnmphjhgaa
open Go.ChangeShapes Go.WideShapes Go.ChangeAt Go.RowKit Oct
open Go.ChangeMaps (open_string shut_string)

theorem u64_nat {a : Int} (h : (Lit.int .u64 a).wf = true) : ∃ n : Nat, a = (n : Int) ∧ n < 18446744073709551616 := by
  have h2 : 0 ≤ a ∧ a < 18446744073709551616 := by
    have := bounds_u64 h; omega
  exact ⟨a.toNat, by omega, by omega⟩

section
variable {P : Program} {H : Type} {enc : TypeId × Value → H} {W : World} {base : Nat}
theorem open_str {t j : Nat} {v : Value} {d : DataW H} {ps : List MemPlace} {ts : List TypeId} {ds : List (DataW H)} (ht : P.underlying t = some .string) (hv : Value.okWide P W .any base t v)
    (h : DataW.Trod enc P W 0 (fun _ => true) true t v d ps) (hsz : (DataW.weightsEach P ts ds).all (· ≤ reachBytes) = true) (hj : ts[j]? = some t) (hd : ds[j]? = some d) :
    ∃ l : List UInt8, v = .string (bs l) ∧ l.length ≤ 140737488355328 := by
  obtain ⟨s, rfl, rfl, _, _⟩ := open_string ht hv h
  refine ⟨s.data.toList, by rw [bs_of], ?_⟩
  have := sized_string hsz hj hd
  have h2 := reachBytes_lt
  omega

theorem weights_strs (e : TypeId) : ∀ (ss : List ByteArray) (s : ByteArray), s ∈ ss → s.data.toList.length ∈ DataW.weightsAll (H := H) P e (strs ss)
  | [], _, h => by simp at h
  | x :: ss, s, h => by
    have hx : strs (H := H) (x :: ss) = DataW.lit (.string x.data.toList) :: strs ss := rfl
    rw [hx, DataW.weightsAll]
    rcases List.mem_cons.1 h with rfl | h
    · simp [DataW.weights]
    · exact List.mem_append.2 (.inr (weights_strs e ss s h))
theorem add_cell {w : World} {a : Addr} {i : Nat} {u : Value} (h : w.cell? (a.add i) = some u) : a.add i = ⟨a.block, a.off + i, none⟩ := by
  unfold Addr.add at h ⊢
  split
  · rename_i hi
    rw [if_pos hi] at h
    subst hi
    cases a with
    | mk b o sp =>
      cases sp with
      | none => rfl
      | some x => exfalso; revert h; simp only [World.cell?]; split <;> simp
  · rfl
theorem open_texts {t e j : Nat} {v : Value} {d : DataW H} {ps : List MemPlace} {ts : List TypeId} {ds : List (DataW H)} (ht : P.underlying t = some (.slice e)) (he : P.underlying e = some .string) (hc : P.cellsOf e = 1) (hby : P.bytesOf e = 16)
    (hv : Value.okWide P W .any base t v) (h : DataW.Trod enc P W 0 (fun _ => true) true t v d ps) (hsz : (DataW.weightsEach P ts ds).all (· ≤ reachBytes) = true) (hj : ts[j]? = some t) (hd : ds[j]? = some d) :
    ∃ r : List (List UInt8), Reads W v r.length (tcells r) ∧ r.length ≤ 140737488355328 ∧ ∀ l ∈ r, l.length ≤ 140737488355328 := by
  have h47 := reachBytes_lt
  obtain ⟨a0, len, cap, rfl⟩ := okWide_slice ht hv
  obtain ⟨fuel, hf⟩ := h
  rcases open_strings ht he hc hf with ⟨hcs, hx⟩ | ⟨a, len', cap', ss, hcs, _, hl, hm, hz, hx, hcell, hws⟩
  · simp [Value.cells] at hcs
    obtain ⟨rfl, rfl, rfl⟩ := hcs
    exact ⟨[], Reads.nil _, by simp, by simp⟩
  · simp [Value.cells] at hcs
    obtain ⟨rfl, rfl, rfl⟩ := hcs
    simp at hz
    simp only [Prod.mk.injEq] at hx
    have hd2 := hx.1
    subst hd2
    have s1 := sized_slice hsz hj hd ht
    rw [hby] at s1
    simp only [strs, List.length_map, List.length_take, List.length_drop] at s1
    have hlen : (ss.take len).length = len := by simp; omega
    refine ⟨(ss.take len).map fun s => s.data.toList, ?_, ?_, ?_⟩
    · refine ⟨some a, cap, by rw [List.length_map, hlen], by simp, fun i u hu => ?_⟩
      have hi : i < len := by
        rcases Nat.lt_or_ge i len with h | h
        · exact h
        · rw [List.getElem?_eq_none (by simp [tcells]; omega)] at hu; simp at hu
      have hcl := hcell i (by omega)
      have e1 := add_cell hcl
      have e2 : a = ⟨a.block, a.off, none⟩ := by
        have h0 := add_cell (hcell 0 (by omega))
        simpa [Addr.add] using h0
      rw [e1] at hcl
      refine ⟨a.block, a.off, by rw [← e2], ?_⟩
      rw [hcl, ← hu]
      have hss : i < ss.length := by omega
      simp [tcells, List.getElem?_take, hi, hss, bs_of, List.getD]
    · simp; omega
    · intro l hl
      obtain ⟨s, hs, rfl⟩ := List.mem_map.1 hl
      have hin : s.data.toList.length ∈ DataW.weightsEach P ts ds := by
        refine DataW.weights_mem_each hj hd _ ?_
        simp only [DataW.weights, ht]
        exact List.mem_cons.2 (.inr (List.mem_append.2 (.inl (weights_strs e _ s hs))))
      have := List.all_eq_true.1 hsz _ hin
      simp at this
      simp
      omega
end
end Go.Proofs.Ytahmacnmphjhgaa
namespace Go.Proofs.Ytahmacnmphjhgaa
open Go.ChangeShapes Go.WideShapes Go.ChangeAt Go.RowKit Oct
open Go.ChangeMaps (open_string shut_string)

section
variable {P : Program} {H : Type} {enc : TypeId × Value → H} {W : World} {α β γ : Type}

/-- whatever the cells of a type read as, they hold an x; its measure is at most the datum's bulk -/
def Opens (enc : TypeId × Value → H) (P : Program) (W : World) (t : TypeId) (mu : α → Nat) (He : List Value → α → Prop) : Prop :=
  ∀ n cs d ps, DataW.trod enc P W 0 (fun _ => true) true n t cs = some (d, ps) → (∀ x ∈ d.weights P t, x ≤ reachBytes) → ∃ x, He cs x ∧ mu x ≤ Rows.uptoBulk d
theorem bulk_range (D : Nat → DataW H) (f : Nat → α) (mu : α → Nat) : ∀ n, (∀ i, i < n → mu (f i) ≤ Rows.uptoBulk (D i)) → (((List.range n).map f).map mu).sum ≤ Rows.uptoBulkAll ((List.range n).map D)
  | 0, _ => by simp
  | n + 1, h => by
    have ih := bulk_range D f mu n (fun i hi => h i (by omega))
    have app : ∀ (l r : List (DataW H)), Rows.uptoBulkAll (l ++ r) = Rows.uptoBulkAll l + Rows.uptoBulkAll r := by
      intro l r
      induction l with
      | nil => simp [Rows.uptoBulkAll]
      | cons x l ih => simp only [List.cons_append, Rows.uptoBulkAll, ih]; omega
    have := h n (by omega)
    simp only [List.range_succ, List.map_append, List.sum_append, app, List.map_cons, List.map_nil, List.sum_cons, List.sum_nil, Rows.uptoBulkAll]
    omega

theorem Opens.imp {t : TypeId} {mu : α → Nat} {He He' : List Value → α → Prop} (h : Opens enc P W t mu He) (hi : ∀ cs x, He cs x → He' cs x) : Opens enc P W t mu He' := by
  intro n cs d ps hd hw
  obtain ⟨x, hx, hb⟩ := h n cs d ps hd hw
  exact ⟨x, hi _ _ hx, hb⟩
/-- v is a row of elements of 'size' cells -/
def SliceOf (W : World) (size : Nat) (He : List Value → α → Prop) (v : Value) (xs : List α) : Prop :=
  ∃ a cap, v = .slice a xs.length cap ∧ xs.length ≤ cap ∧ (a = none → xs.length = 0 ∧ cap = 0) ∧
    ∀ k (h : k < xs.length), ∃ b off cs, a = some ⟨b, off, none⟩ ∧ cs.length = size ∧ (∀ j u, cs[j]? = some u → W.cell? ⟨b, off + k * size + j, none⟩ = some u) ∧ He cs xs[k]

theorem weights_all_mem (e : TypeId) : ∀ (ds : List (DataW H)) (d : DataW H), d ∈ ds → ∀ x ∈ d.weights P e, x ∈ DataW.weightsAll P e ds
  | [], _, h => by simp at h
  | d0 :: ds, d, h => by
    intro x hx
    rw [DataW.weightsAll]
    rcases List.mem_cons.1 h with rfl | h
    · exact List.mem_append.2 (.inl hx)
    · exact List.mem_append.2 (.inr (weights_all_mem e ds d h x hx))

theorem opens_str {t : TypeId} (ht : P.underlying t = some .string) : Opens enc P W t (fun l : List UInt8 => l.length + 1) fun cs (l : List UInt8) => cs = [.string (bs l)] ∧ l.length ≤ 140737488355328 := by
  intro n cs d ps h hw
  obtain ⟨s, rfl, hx, _⟩ := DataW.trod_string ht h
  simp only [Prod.mk.injEq] at hx
  obtain ⟨rfl, rfl⟩ := hx
  have := hw s.data.toList.length (by simp [DataW.weights])
  have h2 := reachBytes_lt
  exact ⟨s.data.toList, ⟨by rw [bs_of], by omega⟩, by simp [Rows.uptoBulk]⟩
theorem opens_int {t : TypeId} {k : IntKind} (ht : P.underlying t = some (.int k)) : Opens enc P W t (fun _ => 1) fun cs (a : Int) => cs = [.int k a] ∧ (Lit.int k a).wf = true := by
  intro n cs d ps h hw
  obtain ⟨a, rfl, hx, hwf⟩ := DataW.trod_int ht h
  simp only [Prod.mk.injEq] at hx
  obtain ⟨rfl, rfl⟩ := hx
  exact ⟨a, ⟨rfl, hwf⟩, by simp [Rows.uptoBulk]⟩
theorem opens_struct2 {t : TypeId} {f0 f1 : Field} {c0 c1 : Nat} {m0 : α → Nat} {m1 : β → Nat} {H0 : List Value → α → Prop} {H1 : List Value → β → Prop} (ht : P.underlying t = some (.struct #[f0, f1])) (hc : P.cellsOf t = c0 + c1)
    (hc0 : P.cellsOf f0.type = c0) (hc1 : P.cellsOf f1.type = c1) (o0 : f0.offset = 0) (o1 : f1.offset = c0)
    (h0 : Opens enc P W f0.type m0 H0) (h1 : Opens enc P W f1.type m1 H1) : Opens enc P W t (fun p => m0 p.1 + m1 p.2 + 1) fun cs (p : α × β) => ∃ cs0 cs1, cs = cs0 ++ cs1 ∧ cs0.length = c0 ∧ cs1.length = c1 ∧ H0 cs0 p.1 ∧ H1 cs1 p.2 := by
  intro n cs d ps h hw
  obtain ⟨y0, y1, m, hx, hl, e0, e1⟩ := trod_struct2 ht h
  simp only [Prod.mk.injEq] at hx
  obtain ⟨rfl, rfl⟩ := hx
  have hw' : ∀ x, x ∈ y0.1.weights P f0.type ∨ x ∈ y1.1.weights P f1.type → x ≤ reachBytes := by
    intro x hx
    refine hw x ?_
    simp only [DataW.weights, ht, DataW.weightsEach, List.map_cons, List.mem_append]
    rcases hx with hx | hx
    · exact .inl hx
    · exact .inr (.inl hx)
  obtain ⟨x0, k0, b0⟩ := h0 _ _ _ _ e0 (fun x hx => hw' x (.inl hx))
  obtain ⟨x1, k1, b1⟩ := h1 _ _ _ _ e1 (fun x hx => hw' x (.inr hx))
  rw [o0, hc0, List.drop_zero] at k0
  rw [o1, hc1] at k1
  refine ⟨(x0, x1), ⟨cs.take c0, (cs.drop c0).take c1, ?_, ?_, ?_, k0, k1⟩, by simp only [Rows.uptoBulk, Rows.uptoBulkAll]; omega⟩
  · have : (cs.drop c0).take c1 = cs.drop c0 := List.take_of_length_le (by simp; omega)
    rw [this, List.take_append_drop]
  · simp; omega
  · simp; omega
theorem opens_slice {t e : TypeId} {size : Nat} {mu : α → Nat} {He : List Value → α → Prop} (ht : P.underlying t = some (.slice e)) (hc : P.cellsOf e = size) (hpos : 0 < size) (he : Opens enc P W e mu He) :
    Opens enc P W t (fun xs => (xs.map mu).sum + 1) fun cs (xs : List α) => ∃ v, cs = [v] ∧ SliceOf W size He v xs ∧ xs.length * P.bytesOf e ≤ reachBytes := by
  intro n cs d ps h hw
  rcases Deep.open_slice ht h with ⟨rfl, hx⟩ | ⟨a, len, cap, m, n', D, Pl, rfl, _, hl, hm, hmm, hx, hcell⟩
  · simp only [Prod.mk.injEq] at hx
    obtain ⟨rfl, _⟩ := hx
    exact ⟨[], ⟨_, rfl, ⟨none, 0, rfl, Nat.le_refl _, fun _ => ⟨rfl, rfl⟩, fun k hk => by simp at hk⟩, by simp⟩, by simp [Rows.uptoBulk]⟩
  · simp only [Prod.mk.injEq] at hx
    obtain ⟨rfl, _⟩ := hx
    simp only [if_true] at hmm
    subst hmm
    have hin : ∀ i, i < len → ∀ x ∈ (D i).weights P e, x ≤ reachBytes := by
      intro i hi x hx
      refine hw x ?_
      simp only [DataW.weights, ht]
      exact List.mem_cons.2 (.inr (List.mem_append.2 (.inl (weights_all_mem e _ (D i) (List.mem_map.2 ⟨i, by simpa using hi, rfl⟩) x hx))))
    have each : ∀ i, i < len → ∃ x : α, (∃ cs', W.cells? 0 (a.add (i * size)) size = some cs' ∧ He cs' x) ∧ mu x ≤ Rows.uptoBulk (D i) := by
      intro i hi
      obtain ⟨cs', h1, h2⟩ := hcell i (by omega)
      rw [hc] at h1
      obtain ⟨x, hx, hb⟩ := he _ _ _ _ h2 (hin i hi)
      exact ⟨x, ⟨cs', h1, hx⟩, hb⟩
    have hlen := hw ((len + (m - len)) * P.bytesOf e) (by simp [DataW.weights, ht])
    have hlb : len * P.bytesOf e ≤ (len + (m - len)) * P.bytesOf e := Nat.mul_le_mul_right _ (by omega)
    by_cases h0 : len = 0
    · subst h0
      exact ⟨[], ⟨_, rfl, ⟨some a, m, rfl, Nat.zero_le _, by simp, fun k hk => by simp at hk⟩, by simp⟩, by simp [Rows.uptoBulk]⟩
    obtain ⟨x0, _⟩ := each 0 (by omega)
    haveI : Inhabited α := ⟨x0⟩
    obtain ⟨f, hf⟩ := Deep.choose_lt each
    have haddr : a = ⟨a.block, a.off, none⟩ := by
      obtain ⟨⟨cs', h1, _⟩, _⟩ := hf 0 (by omega)
      obtain ⟨_, hl', hcs⟩ := World.cells?_some h1
      have h2 := hcs 0 (by omega)
      rw [Nat.zero_mul] at h2
      have h3 : ∃ u, cs'[0]? = some u := ⟨cs'[0]'(by omega), List.getElem?_eq_getElem _⟩
      obtain ⟨u, hu⟩ := h3
      rw [hu] at h2
      have := add_cell (a := a.add 0) (i := 0) h2
      simpa [Addr.add] using this
    have hbulk := bulk_range D f mu len (fun i hi => (hf i hi).2)
    refine ⟨(List.range len).map f, ⟨_, rfl, ⟨some a, m, by simp, by simpa using hl, by simp, ?_⟩, ?_⟩, by simp only [Rows.uptoBulk]; omega⟩
    · intro k hk
      have hk' : k < len := by simpa using hk
      obtain ⟨⟨cs', h1, hHe⟩, _⟩ := hf k hk'
      obtain ⟨_, hl', hcs⟩ := World.cells?_some h1
      refine ⟨a.block, a.off, cs', by rw [← haddr], hl', ?_, by simpa using hHe⟩
      intro j u hj
      have hjl : j < size := by
        rcases Nat.lt_or_ge j size with h | h
        · exact h
        · rw [List.getElem?_eq_none (by omega)] at hj; cases hj
      have h2 := hcs j hjl
      rw [haddr, hj, Addr.add_lit, Addr.add_lit] at h2
      rw [← h2]
    · simp only [List.length_map, List.length_range]; omega

theorem open_any {t j : Nat} {v : Value} {d : DataW H} {ps : List MemPlace} {ts : List TypeId} {ds : List (DataW H)} {mu : α → Nat} {He : List Value → α → Prop} (ho : Opens enc P W t mu He)
    (h : DataW.Trod enc P W 0 (fun _ => true) true t v d ps) (hsz : (DataW.weightsEach P ts ds).all (· ≤ reachBytes) = true) (hj : ts[j]? = some t) (hd : ds[j]? = some d) : ∃ x, He v.cells.toList x ∧ mu x ≤ Rows.uptoBulk d := by
  obtain ⟨fuel, hf⟩ := h
  refine ho _ _ _ _ hf fun x hx => ?_
  simpa using List.all_eq_true.1 hsz x (DataW.weights_mem_each hj hd x hx)
theorem cells_slice {base : Nat} {t e : TypeId} {v v' : Value} (ht : P.underlying t = some (.slice e)) (hv : Value.okWide P W .any base t v) (h : v.cells.toList = [v']) : v = v' := by
  obtain ⟨a0, len, cap, rfl⟩ := okWide_slice ht hv
  simpa [Value.cells] using h
end
end Go.Proofs.Ytahmacnmphjhgaa
namespace Go.Proofs.Ytahmacnmphjhgaa
open Go.ChangeShapes Go.WideShapes Go.ChangeAt Go.RowKit Oct

section
variable {H : Type} {enc : TypeId × Value → H} {W : World}
theorem rec_of {α : Type} (R : Rec α) {He : List Value → α → Prop} (hcs0 : ∀ cs x, He cs x → cs = R.cell x) {v : Value} {xs : List α} (h : SliceOf W R.n He v xs) : R.Row W v xs ∧ ∀ x ∈ xs, ∃ cs, He cs x := by
  obtain ⟨a, cap, rfl, hle, hn, hc⟩ := h
  have hpos := R.pos
  refine ⟨⟨⟨a, cap, rfl, hn, ?_⟩, a, cap, rfl, hle⟩, ?_⟩
  · intro j u hj
    have hjl : j < xs.length * R.n := by
      rcases Nat.lt_or_ge j (xs.length * R.n) with h | h
      · exact h
      · rw [List.getElem?_eq_none (by rw [Rec.cells_length]; exact h)] at hj; cases hj
    have hk : j / R.n < xs.length := Nat.div_lt_of_lt_mul (by rw [Nat.mul_comm]; exact hjl)
    obtain ⟨b, off, cs, ha, hl, hcell, hcs⟩ := hc (j / R.n) hk
    obtain rfl := hcs0 _ _ hcs
    refine ⟨b, off, ha, ?_⟩
    have hm : j % R.n < R.n := Nat.mod_lt _ hpos
    have hu : (R.cell xs[j / R.n])[j % R.n]? = some ((R.cell xs[j / R.n])[j % R.n]'(by rw [R.len]; exact hm)) := List.getElem?_eq_getElem _
    have h1 := R.cells_at xs (j / R.n) hk (j % R.n) _ hu
    have e : j / R.n * R.n + j % R.n = j := Nat.div_add_mod' j R.n
    rw [e, hj] at h1
    have h2 := hcell (j % R.n) _ hu
    rw [← Option.some.inj h1, Nat.add_assoc, e] at h2
    exact h2
  · intro p hp
    obtain ⟨k, hk, rfl⟩ := List.getElem_of_mem hp
    obtain ⟨_, _, cs, _, _, _, h⟩ := hc k hk
    exact ⟨cs, h⟩
set_option maxRecDepth 100000 in
theorem open_strs {base j : Nat} {v : Value} {d : DataW H} {ps : List MemPlace} {ts : List TypeId} {ds : List (DataW H)}
    (hv : Value.okWide Try.prog W .any base 40 v) (h : DataW.Trod enc Try.prog W 0 (fun _ => true) true 40 v d ps) (hsz : (DataW.weightsEach Try.prog ts ds).all (· ≤ reachBytes) = true) (hj : ts[j]? = some 40) (hd : ds[j]? = some d) :
    ∃ l : List (List UInt8), recS.Row W v l ∧ l.length ≤ 140737488355328 ∧ ∀ s ∈ l, s.length ≤ 140737488355328 := by
  have ho : Opens enc Try.prog W 40 _ _ := opens_slice (size := 1) Try.underlying40 (by kernel_rfl) (by decide) (opens_str Try.underlying9)
  obtain ⟨l, ⟨v', hcs, h1, h2⟩, _⟩ := open_any ho h hsz hj hd
  obtain rfl := cells_slice Try.underlying40 hv hcs
  have hby : Try.prog.bytesOf 9 = 16 := by kernel_rfl
  rw [hby] at h2
  have h3 := reachBytes_lt
  obtain ⟨h4, h5⟩ := rec_of recS (fun cs x h => h.1) h1
  exact ⟨l, h4, by omega, fun s hs => by obtain ⟨cs, _, h⟩ := h5 s hs; exact h⟩
end
end Go.Proofs.Ytahmacnmphjhgaa
