/- Lemmas for DeltaTells, part 4: walks of the functions that it reaches, and the plain laws behind them. -/
import Derived.Deep.DeepCutAuto
import Derived.OwnWalkIn
import Derived.TacticsInMore
import Derived.LoopNIn
import Derived.LoopIn
import Derived.Test.YtahmacnmphjhgaaDeltaTellsK3
set_option linter.unusedSimpArgs false
set_option linter.unusedVariables false
namespace Go.Proofs.Ytahmacnmphjhgaa
open Oct

theorem rise_cons (k : List UInt8) : ∀ l : List (List UInt8), rise (k :: l) = true ↔ (∀ y ∈ l, lt k y = true) ∧ rise l = true
  | [] => by simp [rise]
  | q :: l => by
    have ih := rise_cons q l
    simp only [rise, Bool.and_eq_true]
    constructor
    · rintro ⟨h1, h2⟩
      refine ⟨fun y hy => ?_, h2⟩
      rcases List.mem_cons.1 hy with rfl | hy
      · exact h1
      · exact lt_trans' h1 ((ih.1 h2).1 y hy)
    · rintro ⟨h1, h2⟩
      exact ⟨h1 q (by simp), h2⟩
theorem once_cons (x : PR) (l : List PR) : once (x :: l) = true ↔ (∀ y ∈ l, lt x.1 y.1 = true) ∧ once l = true := by
  unfold once keysP
  rw [List.map_cons, rise_cons]
  simp
theorem riseT_cons (x : TR) (l : List TR) : riseT (x :: l) = true ↔ (∀ y ∈ l, lt x.key y.key = true) ∧ riseT l = true := by
  unfold riseT keysT
  rw [List.map_cons, rise_cons]
  simp
/-- all keys of turns come of the rows -/
theorem ofF_above (k : List UInt8) : ∀ a b : List PR, (∀ x ∈ a, lt k x.1 = true) → (∀ y ∈ b, lt k y.1 = true) → ∀ t ∈ ofF a b, lt k t.key = true := by
  have key : ∀ n, ∀ a b : List PR, a.length + b.length = n → (∀ x ∈ a, lt k x.1 = true) → (∀ y ∈ b, lt k y.1 = true) → ∀ t ∈ ofF a b, lt k t.key = true := by
    intro n
    induction n using Nat.strongRecOn with
    | ind n ih =>
      intro a b hn ha hb t ht
      match a, b with
      | [], [] => rw [ofF_nil] at ht; simp at ht
      | x :: a, [] =>
        rw [ofF_left, List.mem_append] at ht
        rcases ht with ht | ht
        · simp [turnOf] at ht; subst ht; exact ha x (by simp)
        · exact ih _ (by simp only [List.length_cons, List.length_nil] at hn ⊢; omega) a [] rfl (fun z hz => ha z (by simp [hz])) hb t ht
      | [], y :: b =>
        rw [ofF_right, List.mem_append] at ht
        rcases ht with ht | ht
        · simp [turnOf] at ht; subst ht; exact hb y (by simp)
        · exact ih _ (by simp only [List.length_cons, List.length_nil] at hn ⊢; omega) [] b rfl ha (fun z hz => hb z (by simp [hz])) t ht
      | x :: a, y :: b =>
        cases h1 : lt x.1 y.1 with
        | true =>
          rw [ofF_lt _ _ _ _ h1, List.mem_append] at ht
          rcases ht with ht | ht
          · simp [turnOf] at ht; subst ht; exact ha x (by simp)
          · exact ih _ (by simp only [List.length_cons, List.length_nil] at hn ⊢; omega) a (y :: b) rfl (fun z hz => ha z (by simp [hz])) hb t ht
        | false =>
          cases h2 : lt y.1 x.1 with
          | true =>
            rw [ofF_gt _ _ _ _ h1 h2, List.mem_append] at ht
            rcases ht with ht | ht
            · simp [turnOf] at ht; subst ht; exact hb y (by simp)
            · exact ih _ (by simp only [List.length_cons, List.length_nil] at hn ⊢; omega) (x :: a) b rfl ha (fun z hz => hb z (by simp [hz])) t ht
          | false =>
            rw [ofF_eq _ _ _ _ h1 h2, List.mem_append] at ht
            rcases ht with ht | ht
            · rw [show turnOf (some x) (some y) = if x = y then [] else [⟨y.1, x.2, y.2, true, true⟩] from rfl] at ht
              split at ht
              · simp at ht
              · simp at ht; subst ht; exact hb y (by simp)
            · exact ih _ (by simp only [List.length_cons, List.length_nil] at hn ⊢; omega) a b rfl (fun z hz => ha z (by simp [hz])) (fun z hz => hb z (by simp [hz])) t ht
  exact fun a b => key _ a b rfl
theorem lt_or_eq {a b : List UInt8} (h1 : lt a b = false) (h2 : lt b a = false) : a = b := by
  rcases lt3 a b with ⟨h, _⟩ | ⟨_, h, _⟩ | ⟨h, _⟩
  · rw [h1] at h; cases h
  · rw [h2] at h; cases h
  · exact h
/-- turns, applied to a, are b; they rise -/
theorem ap_of : ∀ (n : Nat) (a b : List PR), a.length + b.length = n → once a = true → once b = true → riseT (ofF a b) = true ∧ ∀ s, apF a (ofF a b) s = (s.1 ++ b, s.2) := by
  intro n
  induction n using Nat.strongRecOn with
  | ind n ih =>
    intro a b hn ha hb
    match a, b with
    | [], [] =>
      rw [ofF_nil]
      exact ⟨rfl, fun s => by rw [apF_nil]; simp⟩
    | x :: a, [] =>
      obtain ⟨hx, ha'⟩ := (once_cons x a).1 ha
      obtain ⟨i1, i2⟩ := ih _ (by simp only [List.length_cons, List.length_nil] at hn ⊢; omega) a [] rfl ha' hb
      rw [ofF_left]
      refine ⟨(riseT_cons _ _).2 ⟨ofF_above x.1 a [] hx (by simp), i1⟩, fun s => ?_⟩
      show apF (x :: a) (⟨x.1, x.2, [], true, false⟩ :: ofF a []) s = _
      rw [apF_eq _ _ _ _ _ (lt_irr x.1) (lt_irr x.1), i2]
      simp [stepA, fitsF]
    | [], y :: b =>
      obtain ⟨hy, hb'⟩ := (once_cons y b).1 hb
      obtain ⟨i1, i2⟩ := ih _ (by simp only [List.length_cons, List.length_nil] at hn ⊢; omega) [] b rfl ha hb'
      rw [ofF_right]
      refine ⟨(riseT_cons _ _).2 ⟨ofF_above y.1 [] b (by simp) hy, i1⟩, fun s => ?_⟩
      show apF [] (⟨y.1, [], y.2, false, true⟩ :: ofF [] b) s = _
      rw [apF_right, i2]
      simp [stepA, fitsF]
    | x :: a, y :: b =>
      obtain ⟨hx, ha'⟩ := (once_cons x a).1 ha
      obtain ⟨hy, hb'⟩ := (once_cons y b).1 hb
      cases h1 : lt x.1 y.1 with
      | true =>
        obtain ⟨i1, i2⟩ := ih _ (by simp only [List.length_cons, List.length_nil] at hn ⊢; omega) a (y :: b) rfl ha' hb
        rw [ofF_lt _ _ _ _ h1]
        refine ⟨(riseT_cons _ _).2 ⟨ofF_above x.1 a (y :: b) hx (fun z hz => ?_), i1⟩, fun s => ?_⟩
        · rcases List.mem_cons.1 hz with rfl | hz
          · exact h1
          · exact lt_trans' h1 (hy z hz)
        · show apF (x :: a) (⟨x.1, x.2, [], true, false⟩ :: ofF a (y :: b)) s = _
          rw [apF_eq _ _ _ _ _ (lt_irr x.1) (lt_irr x.1), i2]
          simp [stepA, fitsF]
      | false =>
        cases h2 : lt y.1 x.1 with
        | true =>
          obtain ⟨i1, i2⟩ := ih _ (by simp only [List.length_cons, List.length_nil] at hn ⊢; omega) (x :: a) b rfl ha hb'
          rw [ofF_gt _ _ _ _ h1 h2]
          refine ⟨(riseT_cons _ _).2 ⟨ofF_above y.1 (x :: a) b (fun z hz => ?_) hy, i1⟩, fun s => ?_⟩
          · rcases List.mem_cons.1 hz with rfl | hz
            · exact h2
            · exact lt_trans' h2 (hx z hz)
          · show apF (x :: a) (⟨y.1, [], y.2, false, true⟩ :: ofF (x :: a) b) s = _
            rw [apF_gt _ _ _ _ _ h1 h2, i2]
            simp [stepA, fitsF]
        | false =>
          have he := lt_or_eq h1 h2
          obtain ⟨i1, i2⟩ := ih _ (by simp only [List.length_cons, List.length_nil] at hn ⊢; omega) a b rfl ha' hb'
          rw [ofF_eq _ _ _ _ h1 h2]
          have hab := ofF_above x.1 a b hx (by rw [he]; exact hy)
          by_cases hxy : x = y
          · subst hxy
            rw [show turnOf (some x) (some x) = [] from if_pos rfl, List.nil_append]
            refine ⟨i1, fun s => ?_⟩
            have hap : apF (x :: a) (ofF a b) s = apF a (ofF a b) (stepA s (some x, none)) := by
              cases hl : ofF a b with
              | nil => rw [apF_left]
              | cons t l => rw [apF_lt _ _ _ _ _ (hab t (by rw [hl]; simp))]
            rw [hap, i2]
            simp [stepA]
          · rw [show turnOf (some x) (some y) = [⟨y.1, x.2, y.2, true, true⟩] from if_neg hxy]
            refine ⟨(riseT_cons _ _).2 ⟨by rw [← he]; exact hab, i1⟩, fun s => ?_⟩
            show apF (x :: a) (⟨y.1, x.2, y.2, true, true⟩ :: ofF a b) s = _
            have hne : (x.2 != y.2) = true := by
              rw [bne_iff_ne]
              exact fun h => hxy (Prod.ext he h)
            rw [apF_eq _ _ _ _ _ h1 h2, i2]
            simp [stepA, fitsF, hne]
theorem turnOf_back (o p : Option PR) (h : ∀ x y, o = some x → p = some y → x.1 = y.1) : turnOf p o = (turnOf o p).map backT := by
  cases o <;> cases p <;> simp [turnOf, backT]
  rename_i x y
  have := h x y rfl rfl
  by_cases e : x = y
  · simp [e]
  · rw [if_neg e, if_neg (fun h => e h.symm)]
    simp [backT, this]
theorem of_back : ∀ (n : Nat) (a b : List PR), a.length + b.length = n → ofF b a = (ofF a b).map backT := by
  intro n
  induction n using Nat.strongRecOn with
  | ind n ih =>
    intro a b hn
    match a, b with
    | [], [] => rw [ofF_nil]; rfl
    | x :: a, [] =>
      rw [ofF_left, ofF_right, List.map_append, ih _ (by simp only [List.length_cons, List.length_nil] at hn ⊢; omega) a [] rfl]
      rfl
    | [], y :: b =>
      rw [ofF_left, ofF_right, List.map_append, ih _ (by simp only [List.length_cons, List.length_nil] at hn ⊢; omega) [] b rfl]
      rfl
    | x :: a, y :: b =>
      cases h1 : lt x.1 y.1 with
      | true =>
        rw [ofF_lt _ _ _ _ h1, ofF_gt _ _ _ _ (lt_asymm' h1) h1, List.map_append, ih _ (by simp only [List.length_cons, List.length_nil] at hn ⊢; omega) a (y :: b) rfl]
        rfl
      | false =>
        cases h2 : lt y.1 x.1 with
        | true =>
          rw [ofF_gt _ _ _ _ h1 h2, ofF_lt _ _ _ _ h2, List.map_append, ih _ (by simp only [List.length_cons, List.length_nil] at hn ⊢; omega) (x :: a) b rfl]
          rfl
        | false =>
          rw [ofF_eq _ _ _ _ h1 h2, ofF_eq _ _ _ _ h2 h1, List.map_append, ih _ (by simp only [List.length_cons, List.length_nil] at hn ⊢; omega) a b rfl]
          rw [turnOf_back (some x) (some y) (fun x' y' e1 e2 => by cases e1; cases e2; exact lt_or_eq h1 h2)]
theorem ap_nil : ∀ (a : List PR) (s : List PR × Bool), apF a [] s = (s.1 ++ a, s.2)
  | [], s => by rw [apF_nil]; simp
  | x :: a, s => by rw [apF_left, ap_nil a]; simp [stepA]
theorem of_same : ∀ a : List PR, ofF a a = []
  | [] => ofF_nil
  | x :: a => by rw [ofF_eq _ _ _ _ (lt_irr _) (lt_irr _), of_same a, show turnOf (some x) (some x) = [] from if_pos rfl]; rfl
theorem of_nil (a b : List PR) (ha : once a = true) (hb : once b = true) : (ofF a b = []) ↔ a = b := by
  constructor
  · intro h
    have := (ap_of _ a b rfl ha hb).2 ([], false)
    rw [h, ap_nil] at this
    simpa using this
  · rintro rfl
    exact of_same a
theorem ofF_length : ∀ (n : Nat) (a b : List PR), a.length + b.length = n → (ofF a b).length ≤ n := by
  intro n
  induction n using Nat.strongRecOn with
  | ind n ih =>
    intro a b hn
    match a, b with
    | [], [] => rw [ofF_nil]; simp
    | x :: a, [] =>
      have := ih (a.length + 0) (by simp at hn; omega) a [] rfl
      rw [ofF_left, List.length_append]
      have := turnOf_le (some x) none
      simp at hn; omega
    | [], y :: b =>
      have := ih (0 + b.length) (by simp at hn; omega) [] b rfl
      rw [ofF_right, List.length_append]
      have := turnOf_le none (some y)
      simp at hn; omega
    | x :: a, y :: b =>
      simp at hn
      cases h1 : lt x.1 y.1 with
      | true =>
        have := ih (a.length + (b.length + 1)) (by omega) a (y :: b) rfl
        rw [ofF_lt _ _ _ _ h1, List.length_append]
        have := turnOf_le (some x) none
        omega
      | false =>
        cases h2 : lt y.1 x.1 with
        | true =>
          have := ih (a.length + 1 + b.length) (by omega) (x :: a) b rfl
          rw [ofF_gt _ _ _ _ h1 h2, List.length_append]
          have := turnOf_le none (some y)
          omega
        | false =>
          have := ih (a.length + b.length) (by omega) a b rfl
          rw [ofF_eq _ _ _ _ h1 h2, List.length_append]
          have := turnOf_le (some x) (some y)
          omega
end Go.Proofs.Ytahmacnmphjhgaa
namespace Go.Proofs.Ytahmacnmphjhgaa
open Go.RowKit Oct

/-- how many pairs at the head have this key -/
def run1 (k : List UInt8) : List PR → Nat
  | [] => 0
  | p :: l => if p.1 = k then run1 k l + 1 else 0
theorem run1_le (k : List UInt8) : ∀ l, run1 k l ≤ l.length
  | [] => Nat.le_refl _
  | p :: l => by have := run1_le k l; unfold run1; split <;> simp; omega
/-- the first group's length -/
def head1 : List PR → Nat
  | [] => 0
  | p :: l => run1 p.1 l + 1
theorem head1_pos (l : List PR) (h : 0 < l.length) : 1 ≤ head1 l ∧ head1 l ≤ l.length := by
  cases l with
  | nil => simp at h
  | cons p l => have := run1_le p.1 l; simp only [head1, List.length_cons]; omega
theorem head1_in (l : List PR) (h : 0 < l.length) (k : Nat) (hk : k < head1 l) (hl : k < l.length) : l[k].1 = l[0].1 := by
  cases l with
  | nil => simp at h
  | cons p l =>
    have key : ∀ (l : List PR) (k : Nat) (hl : k < l.length), k < run1 p.1 l → l[k].1 = p.1 := by
      intro l
      induction l with
      | nil => intro k hl; simp at hl
      | cons q l ih =>
        intro k hl hk
        unfold run1 at hk
        split at hk
        · cases k with
          | zero => assumption
          | succ k => exact ih k (by simpa using hl) (by omega)
        · omega
    cases k with
    | zero => rfl
    | succ k => exact key l k (by simpa using hl) (by simpa [head1] using hk)
theorem head1_out (l : List PR) (h : 0 < l.length) (hl : head1 l < l.length) : l[head1 l].1 ≠ l[0].1 := by
  cases l with
  | nil => simp at h
  | cons p l =>
    have key : ∀ (l : List PR) (hl : run1 p.1 l < l.length), l[run1 p.1 l].1 ≠ p.1 := by
      intro l
      induction l with
      | nil => intro hl; simp at hl
      | cons q l ih =>
        intro hl
        by_cases hq : q.1 = p.1
        · have e : run1 p.1 (q :: l) = run1 p.1 l + 1 := if_pos hq
          simp only [e, List.getElem_cons_succ]
          exact ih (by rw [e] at hl; simpa using hl)
        · have e : run1 p.1 (q :: l) = 0 := if_neg hq
          simp only [e, List.getElem_cons_zero]
          exact hq
    simp only [head1, List.getElem_cons_succ, List.getElem_cons_zero]
    exact key l (by simpa [head1] using hl)
/-- it is the one number of its kind -/
theorem head1_eq (l : List PR) (h : 0 < l.length) (k : Nat) (h1 : 1 ≤ k) (hl : k ≤ l.length) (hin : ∀ j (hj : j < k), l[j].1 = l[0].1) (hout : ∀ (hk : k < l.length), l[k].1 ≠ l[0].1) : k = head1 l := by
  have hp := head1_pos l h
  rcases Nat.lt_trichotomy k (head1 l) with hlt | he | hgt
  · exact absurd (head1_in l h k hlt (by omega)) (hout (by omega))
  · exact he
  · exact absurd (hin (head1 l) hgt) (head1_out l h (by omega))
def grpF : Nat → List PR → List (List PR)
  | 0, _ => []
  | n + 1, l => if l.length = 0 then [] else l.take (head1 l) :: grpF n (l.drop (head1 l))
/-- the groups -/
def grp (l : List PR) : List (List PR) := grpF l.length l
theorem grpF_more : ∀ (n m : Nat) (l : List PR), l.length ≤ n → l.length ≤ m → grpF n l = grpF m l
  | 0, 0, _, _, _ => rfl
  | 0, m + 1, l, h, _ => by simp [grpF, show l.length = 0 by omega]
  | n + 1, 0, l, _, h => by simp [grpF, show l.length = 0 by omega]
  | n + 1, m + 1, l, h, h' => by
    unfold grpF
    split
    · rfl
    · have := head1_pos l (by omega)
      rw [grpF_more n m _ (by simp; omega) (by simp; omega)]
theorem grp_nil : grp [] = [] := rfl
theorem grp_step (l : List PR) (h : 0 < l.length) : grp l = l.take (head1 l) :: grp (l.drop (head1 l)) := by
  have hp := head1_pos l h
  obtain ⟨n, hn⟩ : ∃ n, l.length = n + 1 := ⟨l.length - 1, by omega⟩
  unfold grp
  rw [hn, grpF, if_neg (by omega)]
  congr 1
  exact grpF_more _ _ _ (by simp; omega) (by simp)
theorem grp_length_le : ∀ (n : Nat) (l : List PR), l.length ≤ n → (grp l).length ≤ l.length
  | 0, l, h => by
    have : l = [] := List.eq_nil_of_length_eq_zero (by omega)
    subst this; simp [grp_nil]
  | n + 1, l, h => by
    by_cases h0 : 0 < l.length
    · have hp := head1_pos l h0
      rw [grp_step l h0]
      have := grp_length_le n (l.drop (head1 l)) (by simp; omega)
      simp at this ⊢; omega
    · have : l = [] := List.eq_nil_of_length_eq_zero (by omega)
      subst this; simp [grp_nil]
theorem grp_flat : ∀ (n : Nat) (l : List PR), l.length ≤ n → (grp l).flatten = l
  | 0, l, h => by
    have : l = [] := List.eq_nil_of_length_eq_zero (by omega)
    subst this; rfl
  | n + 1, l, h => by
    by_cases h0 : 0 < l.length
    · have hp := head1_pos l h0
      rw [grp_step l h0, List.flatten_cons, grp_flat n _ (by simp; omega), List.take_append_drop]
    · have : l = [] := List.eq_nil_of_length_eq_zero (by omega)
      subst this; rfl
theorem grp_ne : ∀ (n : Nat) (l : List PR), l.length ≤ n → ∀ g ∈ grp l, 0 < g.length
  | 0, l, h => by
    have : l = [] := List.eq_nil_of_length_eq_zero (by omega)
    subst this; simp [grp_nil]
  | n + 1, l, h => by
    by_cases h0 : 0 < l.length
    · have hp := head1_pos l h0
      rw [grp_step l h0]
      intro g hg
      rcases List.mem_cons.1 hg with rfl | hg
      · simp; omega
      · exact grp_ne n _ (by simp; omega) g hg
    · have : l = [] := List.eq_nil_of_length_eq_zero (by omega)
      subst this; simp [grp_nil]
end Go.Proofs.Ytahmacnmphjhgaa
namespace Go.Proofs.Ytahmacnmphjhgaa
open Go.RowKit Oct

/-- what a row has of a key -/
def ofKey (k : List UInt8) (l : List PR) : List PR := l.filter fun p => p.1 == k
theorem ofKey_nil (k : List UInt8) : ofKey k [] = [] := rfl
theorem ofKey_app (k : List UInt8) (a b : List PR) : ofKey k (a ++ b) = ofKey k a ++ ofKey k b := by simp [ofKey]
theorem ofKey_none (k : List UInt8) (l : List PR) (h : ∀ p ∈ l, p.1 ≠ k) : ofKey k l = [] := by
  rw [ofKey, List.filter_eq_nil_iff]
  intro p hp
  simpa using h p hp
theorem ofKey_all (k : List UInt8) (l : List PR) (h : ∀ p ∈ l, p.1 = k) : ofKey k l = l := by
  rw [ofKey, List.filter_eq_self]
  intro p hp
  simpa using h p hp
theorem lt_ne {a b : List UInt8} (h : lt a b = true) : a ≠ b := by
  rintro rfl
  rw [lt_irr] at h
  cases h
theorem ofKey_ins (k : List UInt8) (p : PR) : ∀ l : List PR, sorted l = true → ofKey k (ins p l) = ofKey k l ++ ofKey k [p]
  | [], _ => by simp [ins, ofKey]
  | q :: l, hs => by
    obtain ⟨h1, h2⟩ := sorted_cons.1 hs
    unfold ins
    split
    · rename_i hlt
      have e : p :: q :: l = [p] ++ (q :: l) := rfl
      rw [e, ofKey_app]
      by_cases hp : p.1 = k
      · have : ofKey k (q :: l) = [] := by
          refine ofKey_none _ _ fun y hy => ?_
          rcases List.mem_cons.1 hy with rfl | hy
          · exact fun e => lt_ne hlt (hp.trans e.symm)
          · intro e
            have h3 := h1 y hy
            have h4 : lt q.1 p.1 = false := by
              rw [e, ← hp] at h3; exact lt_asymm' hlt
            have h5 : lt y.1 q.1 = true := by rw [e, ← hp]; exact hlt
            rw [h5] at h3
            cases h3
        rw [this, List.append_nil, List.nil_append]
      · have : ofKey k [p] = [] := ofKey_none _ _ fun y hy => by simp at hy; subst hy; exact hp
        rw [this, List.append_nil, List.nil_append]
    · have ih := ofKey_ins k p l h2
      have e1 : q :: ins p l = [q] ++ ins p l := rfl
      have e2 : q :: l = [q] ++ l := rfl
      rw [e1, e2, ofKey_app, ofKey_app, ih, List.append_assoc]
theorem ofKey_srt (k : List UInt8) (l : List PR) : ofKey k (srt l) = ofKey k l := by
  have h : ∀ (l : List PR), ofKey k (srt l.reverse) = ofKey k l.reverse := by
    intro l
    induction l with
    | nil => rfl
    | cons p l ih => rw [List.reverse_cons, srt_snoc, ofKey_ins _ _ _ (srt_sorted _), ih, ofKey_app]
  have := h l.reverse
  rwa [List.reverse_reverse] at this

theorem sorted_drop (l : List PR) (k : Nat) (h : sorted l = true) : sorted (l.drop k) = true := by
  rw [sorted_iff] at h ⊢
  intro j hj
  simp only [List.getElem_drop]
  exact h (k + j) (by simp at hj; omega)
/-- a later pair's key is at least as great -/
theorem sorted_le (l : List PR) (h : sorted l = true) : ∀ (i j : Nat) (hi : i ≤ j) (hj : j < l.length), lt l[j].1 l[i].1 = false := by
  intro i j hi hj
  induction j with
  | zero => obtain rfl : i = 0 := by omega
            exact lt_irr _
  | succ j ih =>
    by_cases he : i = j + 1
    · subst he; exact lt_irr _
    · have h1 := ih (by omega) (by omega)
      have h2 := (sorted_iff l).1 h j hj
      exact le_trans' h1 h2
theorem lt_of_le_ne {a b : List UInt8} (h : lt b a = false) (hne : a ≠ b) : lt a b = true := by
  have := gt_eq b a
  rw [h, Bool.false_or] at this
  have e : (b == a) = false := by simpa using fun e : b = a => hne e.symm
  rw [e] at this
  simpa using this.symm
theorem head1_key (l : List PR) (h : 0 < l.length) : ∀ p ∈ l.take (head1 l), p.1 = l[0].1 := by
  intro p hp
  obtain ⟨k, hk, rfl⟩ := List.getElem_of_mem hp
  rw [List.getElem_take]
  exact head1_in l h k (by simp at hk; omega) (by simp at hk; omega)
theorem drop_key (l : List PR) (h : 0 < l.length) (hs : sorted l = true) : ∀ p ∈ l.drop (head1 l), lt l[0].1 p.1 = true := by
  intro p hp
  obtain ⟨k, hk, rfl⟩ := List.getElem_of_mem hp
  rw [List.getElem_drop]
  have hk' : head1 l + k < l.length := by simp at hk; omega
  have h1 := head1_out l h (by omega)
  have h2 := sorted_le l hs 0 (head1 l) (by omega) (by omega)
  have h3 := sorted_le l hs (head1 l) (head1 l + k) (by omega) hk'
  have h4 : lt l[0].1 l[head1 l].1 = true := lt_of_le_ne h2 (Ne.symm h1)
  by_cases he : l[head1 l + k].1 = l[head1 l].1
  · rw [he]; exact h4
  · exact lt_trans' h4 (lt_of_le_ne h3 (Ne.symm he))
/-- a group's key -/
def hk1 : List PR → List UInt8
  | [] => []
  | p :: _ => p.1
/-- each group is what the row has of its key; the keys rise -/
def GrpOk (G : List (List PR)) (l : List PR) : Prop := (∀ g ∈ G, g = ofKey (hk1 g) l ∧ (∃ p ∈ l, hk1 g = p.1)) ∧ ∀ i (h : i + 1 < G.length), lt (hk1 G[i]) (hk1 G[i + 1]) = true
theorem grp_spec : ∀ (n : Nat) (l : List PR), l.length ≤ n → sorted l = true → GrpOk (grp l) l
  | 0, l, hn, _ => by
    have : l = [] := List.eq_nil_of_length_eq_zero (by omega)
    subst this
    rw [grp_nil]
    exact ⟨by simp, fun i h => by simp at h⟩
  | n + 1, l, hn, hs => by
    by_cases h0 : 0 < l.length
    · have hp := head1_pos l h0
      obtain ⟨ih1, ih2⟩ := grp_spec n (l.drop (head1 l)) (by simp; omega) (sorted_drop l _ hs)
      have hk0 : hk1 (l.take (head1 l)) = l[0].1 := by
        cases l with
        | nil => simp at h0
        | cons p l => obtain ⟨m, hm⟩ : ∃ m, head1 (p :: l) = m + 1 := ⟨head1 (p :: l) - 1, by omega⟩
                      rw [hm]; rfl
      have hsplit : ∀ k, ofKey k l = ofKey k (l.take (head1 l)) ++ ofKey k (l.drop (head1 l)) := fun k => by rw [← ofKey_app, List.take_append_drop]
      have hfirst : ∀ g ∈ grp (l.drop (head1 l)), lt l[0].1 (hk1 g) = true := by
        intro g hg
        obtain ⟨_, p, hp1, hp2⟩ := ih1 g hg
        rw [hp2]
        exact drop_key l h0 hs p hp1
      rw [grp_step l h0]
      refine ⟨fun g hg => ?_, fun i hi => ?_⟩
      · rcases List.mem_cons.1 hg with rfl | hg
        · rw [hk0, hsplit, ofKey_all _ _ (head1_key l h0), ofKey_none _ (l.drop (head1 l)) (fun p hp e => lt_ne (drop_key l h0 hs p hp) e.symm), List.append_nil]
          exact ⟨rfl, l[0], List.getElem_mem h0, rfl⟩
        · obtain ⟨e1, p, hp1, hp2⟩ := ih1 g hg
          refine ⟨?_, p, List.mem_of_mem_drop hp1, hp2⟩
          rw [hsplit, ofKey_none _ (l.take (head1 l)) (fun q hq e => lt_ne (hfirst g hg) (by rw [← e]; exact (head1_key l h0 q hq).symm)), List.nil_append]
          exact e1
      · cases i with
        | zero =>
          simp only [List.getElem_cons_zero, List.getElem_cons_succ, Nat.zero_add]
          rw [hk0]
          exact hfirst _ (List.getElem_mem _)
        | succ i =>
          simp only [List.getElem_cons_succ]
          exact ih2 i (by simpa using hi)
    · have : l = [] := List.eq_nil_of_length_eq_zero (by omega)
      subst this
      rw [grp_nil]
      exact ⟨by simp, fun i h => by simp at h⟩
theorem ofKey_take (k : List UInt8) (l : List PR) (j : Nat) (h : j < l.length) : ofKey k (l.take (j + 1)) = ofKey k (l.take j) ++ (if l[j].1 = k then [l[j]] else []) := by
  rw [List.take_succ_eq_append_getElem h, ofKey_app]
  congr 1
  by_cases hk : l[j].1 = k
  · rw [if_pos hk, ofKey_all]; intro p hp; simp at hp; subst hp; exact hk
  · rw [if_neg hk, ofKey_none]; intro p hp; simp at hp; subst hp; exact hk
theorem ofKey_len (k : List UInt8) (l : List PR) (j : Nat) : (ofKey k (l.take j)).length ≤ (ofKey k l).length := by
  have h : ofKey k l = ofKey k (l.take j) ++ ofKey k (l.drop j) := by rw [← ofKey_app, List.take_append_drop]
  rw [h, List.length_append]; omega
theorem ofKey_at (k : List UInt8) (l : List PR) (j : Nat) (h : j < l.length) (hk : l[j].1 = k) : ∃ hn : (ofKey k (l.take j)).length < (ofKey k l).length, (ofKey k l)[(ofKey k (l.take j)).length] = l[j] := by
  have h1 : ofKey k l = ofKey k (l.take j) ++ (l[j] :: ofKey k (l.drop (j + 1))) := by
    have e : l = l.take j ++ (l[j] :: l.drop (j + 1)) := by rw [← List.drop_eq_getElem_cons h, List.take_append_drop]
    have := congrArg (ofKey k) e
    rw [ofKey_app] at this
    rw [this]
    congr 1
    show ofKey k ([l[j]] ++ l.drop (j + 1)) = _
    rw [ofKey_app, ofKey_all k [l[j]] (by intro p hp; simp at hp; subst hp; exact hk)]; rfl
  refine ⟨by rw [h1]; simp, ?_⟩
  have h2 : ∀ (x y : List PR) (p : PR) (hx : x.length < (x ++ p :: y).length), (x ++ p :: y)[x.length] = p := by
    intro x y p hx; simp
  have h3 : ∀ (a b : List PR) (i : Nat) (ha : i < a.length) (e : a = b), a[i] = b[i]'(e ▸ ha) := by rintro a b i ha rfl; rfl
  rw [h3 _ _ _ _ h1]
  exact h2 _ _ _ _
end Go.Proofs.Ytahmacnmphjhgaa
namespace Go.Proofs.Ytahmacnmphjhgaa
open Go.RowKit Oct

theorem OP.mono {w : World} {base base' : Nat} {v : Value} {l : List PR} (h : OP w base v l) (hb : base' ≤ base) : OP w base' v l := owns_mono h hb

theorem owns_two {w : World} {base : Nat} {v : Value} {p q : PR} (h : OP w base v [p, q]) : ∃ g cap, v = .slice (some ⟨g, 0, none⟩) 2 cap ∧ base ≤ g := by
  rcases h.2 with ⟨_, h0⟩ | ⟨g', cap', cur, hv, hg, _⟩
  · simp at h0
  · exact ⟨g', cap', hv, hg⟩
theorem owns_cells2 {w : World} {base g cap : Nat} {p q : PR} (h : OP w base (.slice (some ⟨g, 0, none⟩) 2 cap) [p, q]) :
    w.cell? ⟨g, 0, none⟩ = some (.string (bs p.1)) ∧ w.cell? ⟨g, 1, none⟩ = some (.string (bs p.2)) ∧ w.cell? ⟨g, 2, none⟩ = some (.string (bs q.1)) ∧ w.cell? ⟨g, 3, none⟩ = some (.string (bs q.2)) ∧
    w.frozen? ⟨g, 0, none⟩ = false ∧ w.frozen? ⟨g, 1, none⟩ = false ∧ w.frozen? ⟨g, 2, none⟩ = false ∧ w.frozen? ⟨g, 3, none⟩ = false := by
  have hc := World.ownsRow.cells (g := g) h rfl
  have hf : ∀ j, w.frozen? ⟨g, j, none⟩ = false := by
    rcases h.2 with ⟨hv, _⟩ | ⟨g', cap', cur, hv, _, hh, _⟩
    · simp at hv
    · simp only [Value.slice.injEq, Option.some.injEq, Addr.mk.injEq, and_true, true_and] at hv
      obtain ⟨rfl, _, rfl⟩ := hv
      intro j
      simp [World.frozen?, hh]
  refine ⟨?_, ?_, ?_, ?_, hf _, hf _, hf _, hf _⟩
  · have := hc 0 _ rfl; rwa [Addr.add_lit] at this
  · have := hc 1 _ rfl; rwa [Addr.add_lit] at this
  · have := hc 2 _ rfl; rwa [Addr.add_lit] at this
  · have := hc 3 _ rfl; rwa [Addr.add_lit] at this

theorem owns_swap {w : World} {base g cap : Nat} {p q : PR} (h : OP w base (.slice (some ⟨g, 0, none⟩) 2 cap) [p, q]) (hb : base ≤ g) (hs : base ≤ w.heap.size) :
    OP ((((w.setCell ⟨g, 0, none⟩ (.string (bs q.1))).setCell ⟨g, 1, none⟩ (.string (bs q.2))).setCell ⟨g, 2, none⟩ (.string (bs p.1))).setCell ⟨g, 3, none⟩ (.string (bs p.2))).drew base (.slice (some ⟨g, 0, none⟩) 2 cap) [q, p] ∧
    Below base w ((((w.setCell ⟨g, 0, none⟩ (.string (bs q.1))).setCell ⟨g, 1, none⟩ (.string (bs q.2))).setCell ⟨g, 2, none⟩ (.string (bs p.1))).setCell ⟨g, 3, none⟩ (.string (bs p.2))).drew := by
  have h1 := (World.ownsRow.stored h 0 (.string (bs q.1))).1
  have h2 := (World.ownsRow.stored h1 1 (.string (bs q.2))).1
  have h3 := (World.ownsRow.stored h2 2 (.string (bs p.1))).1
  have h4 := (World.ownsRow.stored h3 3 (.string (bs p.2))).1
  exact ⟨World.ownsRow.drew h4, (((((Below.refl base w).setCell hb _).setCell hb _).setCell hb _).setCell hb _).drew⟩

end Go.Proofs.Ytahmacnmphjhgaa
namespace Go.Proofs.Ytahmacnmphjhgaa
open Go.RowKit Oct
attribute [local go_sem] Oper.semAt_some

theorem add_block (a : Addr) (i : Nat) : (a.add i).block = a.block := by unfold Addr.add; split <;> rfl
theorem RP.move {w w' : World} {a : Option Addr} {n c : Nat} {l : List PR} (h : RP w (.slice a n c) l) (hk : ∀ ad, a = some ad → w'.heap[ad.block]? = w.heap[ad.block]?) : RP w' (.slice a n c) l := by
  obtain ⟨⟨a', cap, hv, hn, hc⟩, h2⟩ := h
  injection hv with e1 e2 e3
  subst e1 e3
  refine ⟨⟨a, c, by rw [e2], hn, fun j u hj => ?_⟩, h2⟩
  obtain ⟨b, off, ha, hu⟩ := hc j u hj
  have e : w'.cell? ⟨b, off + j, none⟩ = w.cell? ⟨b, off + j, none⟩ := World.cell?_of_block (w := w) (a := ⟨b, off + j, none⟩) (hk ⟨b, off, none⟩ ha)
  exact ⟨b, off, ha, e.trans hu⟩
theorem RP.cutRunB {w : World} {a : Option Addr} {cap : Nat} {l : List PR} (h : RP w (.slice a l.length cap) l) (k : Nat) (hk : k ≤ l.length) :
    ∃ A C, (∀ wx, (Instr.slice 22 (.slice a l.length cap) (some (.int .i64 (k : Int))) none none).run Try.prog wx = .ok (.slice A (l.length - k) C) wx) ∧ RP w (.slice A (l.length - k) C) (l.drop k) ∧ (∀ ad, A = some ad → ∃ ad0, a = some ad0 ∧ ad.block = ad0.block) := by
  refine ⟨_, _, fun wx => ?_, h.cut k hk, ?_⟩
  · rw [run_slice_l wx 22 a l.length cap (by kernel_rfl) .i64 k (by omega) (by omega)]
    have he : (sizeOf (Try.prog.elem 22)).run Try.prog wx = .ok 2 wx := by kernel_rfl
    rw [he]
    simp [Result.andThen, sliced]
  · intro ad hA
    split at hA
    · exact ⟨ad, hA, rfl⟩
    · obtain ⟨ad0, h1, h2⟩ := Option.map_eq_some_iff.1 hA
      exact ⟨ad0, h1, by rw [← h2, add_block]⟩
/-- s[:k:k], run -/
theorem RP.fullRun {w : World} {a : Option Addr} {cap : Nat} {l : List PR} (h : RP w (.slice a l.length cap) l) (k : Nat) (h1 : 1 ≤ k) (hk : k ≤ l.length) :
    ∃ A, (∀ wx, (Instr.slice 22 (.slice a l.length cap) none (some (.int .i64 (k : Int))) (some (.int .i64 (k : Int)))).run Try.prog wx = .ok (.slice A k k) wx) ∧ RP w (.slice A k k) (l.take k) ∧ (∀ ad, A = some ad → ∃ ad0, a = some ad0 ∧ ad.block = ad0.block) := by
  have hx := RP.head h k hk
  obtain ⟨_, a', cap', hv, hle⟩ := id h
  injection hv with _ _ h3
  subst h3
  refine ⟨a.map (·.add (0 * 2)), fun wx => ?_, ?_, fun ad hA => by obtain ⟨ad0, h1, h2⟩ := Option.map_eq_some_iff.1 hA; exact ⟨ad0, h1, by rw [← h2, add_block]⟩⟩
  · rw [run_slice_hm wx 22 a l.length cap (by kernel_rfl) .i64 .i64 k k (by omega) (by omega) (by omega)]
    have he : (sizeOf (Try.prog.elem 22)).run Try.prog wx = .ok 2 wx := by kernel_rfl
    rw [he]
    simp [Result.andThen, sliced, show k ≠ 0 by omega]
  · have hlen : (l.take k).length = k := by simp; omega
    unfold sliced at hx
    rw [if_neg (by omega)] at hx
    obtain ⟨⟨a1, c1, hv1, hn1, hc1⟩, _⟩ := hx
    injection hv1 with e1 e2 e3
    refine ⟨⟨_, k, by rw [hlen], ?_, ?_⟩, _, k, by rw [hlen], by rw [hlen]; exact Nat.le_refl _⟩
    · intro hnone
      rw [e1] at hnone
      have := hn1 hnone
      omega
    · rw [e1]; exact hc1

/-- what an iterator over groups hands out -/
def ElP (Yr : Nat → Prop) (x : List PR) (vs : Array Value) (U : World) : Prop := ∃ A C, vs = #[.slice A x.length C] ∧ RP U (.slice A x.length C) x ∧ ∀ ad, A = some ad → Yr ad.block
/-- a slice's length, in a cell -/
def mlen : Option Value → Nat
  | some (.slice _ n _) => n
  | _ => 0

theorem one_in (q : List PR) : Hid (∀ j (hj : j < 1) (h : j < q.length), q[j].1 = q[0].1) := by
  intro j hj h
  obtain rfl : j = 0 := by omega
  rfl
theorem grp_rel {B k n : Nat} {q r : List PR} {dn : List (List PR)} {Yr : Nat → Prop} {J : List (List PR) → World → Prop} {W6 W7 : World} {Ac : Option Addr} {Cc : Nat} (hc : Chg (fun k => ¬ (k = B ∨ Yr k)) W6 W7)
    (hB : W6.heap[B]? = some (.cells #[.slice Ac (q.length - k) Cc] 22 (0, 0))) (hR : RP W6 (.slice Ac (q.length - k) Cc) (q.drop k)) (hb : ∀ ad, Ac = some ad → Yr ad.block) (hG : grp r = (dn ++ [q.take k]) ++ grp (q.drop k)) (hJ : J (dn ++ [q.take k]) W7) (hq : q.length ≤ n) (hk : k ≤ q.length) :
    ∃ (q : List PR) (A : Option Addr) (C : Nat) (dn : List (List PR)), q.length ≤ n ∧ Hid (W7.heap[B]? = some (.cells #[.slice A q.length C] 22 (0, 0))) ∧ Hid (RP W7 (.slice A q.length C) q) ∧ Hid (∀ ad, A = some ad → Yr ad.block) ∧ Hid (grp r = dn ++ grp q) ∧ Hid (J dn W7) := by
  have hl : (q.drop k).length = q.length - k := by simp
  refine ⟨q.drop k, Ac, Cc, dn ++ [q.take k], by omega, ?_, ?_, hb, hG, hJ⟩
  · rw [hl]; exact hc.at hB fun h => h (.inl rfl)
  · rw [hl]
    by_cases h0 : (q.drop k).length = 0
    · obtain ⟨⟨a', cap, hv, hn, hcc⟩, h2⟩ := hR
      refine ⟨⟨a', cap, hv, hn, fun j u hj => ?_⟩, h2⟩
      have : q.drop k = [] := List.eq_nil_of_length_eq_zero h0
      rw [this] at hj
      simp [pcells] at hj
    · refine hR.move fun ad had => ?_
      rw [← hl] at hR
      obtain ⟨a', cap', hv, _, hcc⟩ := hR.open
      injection hv with e1 _ _
      subst e1
      obtain ⟨b, off, hab, hu, _⟩ := hcc 0 (by omega)
      rw [had] at hab
      cases hab
      exact hc.block b (lt_of_cell hu) fun h => h (.inr (hb _ had))
theorem grp_left {B m : Nat} {Yr : Nat → Prop} {W6 W7 : World} {Ac : Option Addr} {Cc : Nat} (hc : Chg (fun k => ¬ (k = B ∨ Yr k)) W6 W7) (hB : W6.heap[B]? = some (.cells #[.slice Ac m Cc] 22 (0, 0))) : mlen (W7.cell? ⟨B, 0, none⟩) = m := by
  rw [cell_of_one (hc.at hB fun h => h (.inl rfl))]; rfl
theorem take_len {α : Type} {q : List α} {k : Nat} (h : k ≤ q.length) : (q.take k).length = k := by simp [Nat.min_eq_left h]
theorem grp_at6 {B k nq : Nat} {q r : List PR} {dn : List (List PR)} {Yr : Nat → Prop} {W0 wr : World} {A Ac Af : Option Addr} {C Cc : Nat} (hB : W0.heap[B]? = some (.cells #[.slice A q.length C] 22 (0, 0))) (hbel : Below W0.heap.size W0 wr)
    (hRF : RP W0 (.slice Af k k) (q.take k)) (hRC : RP W0 (.slice Ac (q.length - k) Cc) (q.drop k)) (hbF : ∀ ad, Af = some ad → Yr ad.block) (hbC : ∀ ad, Ac = some ad → Yr ad.block) (hYB : ¬ Yr B) (hG : grp r = dn ++ grp q) (hk : k = head1 q) (h0 : 0 < q.length) :
    ((wr.drewN nq).setCell ⟨B, 0, none⟩ (.slice Ac (q.length - k) Cc)).heap[B]? = some (.cells #[.slice Ac (q.length - k) Cc] 22 (0, 0)) ∧ Chg (fun k => k = B) W0 ((wr.drewN nq).setCell ⟨B, 0, none⟩ (.slice Ac (q.length - k) Cc)) ∧
      RP ((wr.drewN nq).setCell ⟨B, 0, none⟩ (.slice Ac (q.length - k) Cc)) (.slice Af k k) (q.take k) ∧ RP ((wr.drewN nq).setCell ⟨B, 0, none⟩ (.slice Ac (q.length - k) Cc)) (.slice Ac (q.length - k) Cc) (q.drop k) ∧
      (dn ++ [q.take k] <+: grp r) ∧ grp r = (dn ++ [q.take k]) ++ grp (q.drop k) := by
  have hlt := (Array.getElem?_eq_some_iff.1 hB).1
  have hc : Chg (fun k => k = B) W0 ((wr.drewN nq).setCell ⟨B, 0, none⟩ (.slice Ac (q.length - k) Cc)) :=
    (Chg.of_below (bt hbel (Below.drewN' wr nq))).trans (Chg.setCell _ _ _ rfl)
  have hg : grp r = (dn ++ [q.take k]) ++ grp (q.drop k) := by rw [hG, grp_step q h0, ← hk]; simp
  have mv : ∀ {a : Option Addr} {n c : Nat} {l : List PR}, RP W0 (.slice a n c) l → (∀ ad, a = some ad → Yr ad.block) → RP ((wr.drewN nq).setCell ⟨B, 0, none⟩ (.slice Ac (q.length - k) Cc)) (.slice a n c) l := by
    intro a n c l h hb
    by_cases hl : l.length = 0
    · obtain ⟨⟨a', cap, hv, hn, hcc⟩, h2⟩ := h
      refine ⟨⟨a', cap, hv, hn, fun j u hj => ?_⟩, h2⟩
      have : l = [] := List.eq_nil_of_length_eq_zero hl
      subst this
      simp [pcells] at hj
    · refine h.move fun ad had => ?_
      obtain ⟨a', cap', hv, _, hcc⟩ := h.open
      injection hv with e1 _ _
      subst e1
      obtain ⟨b, off, hab, hu, _⟩ := hcc 0 (by omega)
      rw [had] at hab
      cases hab
      exact hc.block b (lt_of_cell hu) fun e => hYB (by rw [← e]; exact hb _ had)
  exact ⟨one_setCell (v := .slice A q.length C) ((hbel.block B hlt).trans hB), hc, mv hRF hbF, mv hRC hbC, ⟨_, hg.symm⟩, hg⟩

end Go.Proofs.Ytahmacnmphjhgaa
namespace Go.Proofs.Ytahmacnmphjhgaa
open Go.RowKit Oct

/-- v is a row of rows of pairs -/
def RR (w : World) (v : Value) (rows : List (List PR)) : Prop := ∃ a cap, v = .slice a rows.length cap ∧ rows.length ≤ cap ∧ (a = none → rows.length = 0 ∧ cap = 0) ∧
  ∀ k (hk : k < rows.length), ∃ b off u, a = some ⟨b, off, none⟩ ∧ w.cell? ⟨b, off + k, none⟩ = some u ∧ RP w u rows[k]
theorem RR.below {w w' : World} {v : Value} {rows : List (List PR)} (h : RR w v rows) (hB : Below w.heap.size w w') : RR w' v rows := by
  obtain ⟨a, cap, hv, hle, hn, hc⟩ := h
  refine ⟨a, cap, hv, hle, hn, fun k hk => ?_⟩
  obtain ⟨b, off, u, ha, hu, hr⟩ := hc k hk
  exact ⟨b, off, u, ha, Below.keeps hB hu, hr.below hB⟩
theorem flat_take (rows : List (List PR)) (k : Nat) (h : k < rows.length) : (rows.take (k + 1)).flatten = (rows.take k).flatten ++ rows[k] := by
  rw [List.take_succ_eq_append_getElem h, List.flatten_append]; simp only [List.flatten_cons, List.flatten_nil, List.append_nil]
theorem flat_le (rows : List (List PR)) (k : Nat) : (rows.take k).flatten.length ≤ rows.flatten.length := by
  have h : rows.flatten = (rows.take k).flatten ++ (rows.drop k).flatten := by rw [← List.flatten_append, List.take_append_drop]
  rw [h, List.length_append]; omega

end Go.Proofs.Ytahmacnmphjhgaa
namespace Go.Proofs.Ytahmacnmphjhgaa
open Go.RowKit Oct

set_option maxRecDepth 100000 in
set_option maxHeartbeats 4000000 in
theorem rSortP_any (v : Value) (l : List PR) (w : World) (hr : RP w v l) (hl : l.length ≤ 1000000) :
    Calls Try.prog 78 #[v] w fun e w' => ∃ v', e = .returned v' ∧ OP w' w.heap.size v' (srt l) ∧ Below w.heap.size w w' := by
  obtain ⟨a, cap, rfl, _, hc⟩ := hr.open
  have HC := Lib.hid hc
  clear hr hc
  go_enter Try.func78, Try.ntmps78
  go_wp2
  go_loopw [3, 4] (fun o t wx => ∃ k : Nat, k ≤ l.length ∧ t = .int .i64 (k : Int) ∧ Hid (OP wx w.heap.size o (srt (l.take k))) ∧ Hid (Below w.heap.size w wx)) (fun _ t _ => l.length - (intOf t).toNat)
  case atStart => exact ⟨0, by omega, rfl, OP.nil _ _, b_refl _⟩
  case round =>
    obtain ⟨k, hk, rfl, HO, HB⟩ := hrel
    obtain ⟨ao, co, rfl⟩ := owns_slice HO.out
    by_cases hkl : k < l.length
    · have k0 : (0 : Int) ≤ (k : Int) := by omega
      have k1 : (k : Int) < (l.length : Int) := by omega
      obtain ⟨bl, ol, rfl, d1, d2⟩ := HC.out k hkl
      have HD1 := Lib.hid d1
      have HD2 := Lib.hid d2
      have HSN := Lib.hid (show srt (l.take (k + 1)) = ins l[k] (srt (l.take k)) by rw [List.take_succ_eq_append_getElem hkl, srt_snoc])
      have HSO := Lib.hid (srt_sorted (l.take k))
      have HRL := Lib.hid (show (srt (l.take k)).length ≤ 1000000 by rw [srt_length, List.length_take]; omega)
      obtain ⟨p, hp⟩ : ∃ p, p = l[k] := ⟨_, rfl⟩
      rw [← hp] at HD1 HD2 HSN
      obtain ⟨R, hR⟩ : ∃ R, R = srt (l.take k) := ⟨_, rfl⟩
      rw [← hR] at HO HSN HSO HRL ⊢
      clear hp hR d1 d2
      have hrp := HO.out.reads
      obtain ⟨_, _, hv, _, hcr⟩ := hrp.open
      injection hv with e1 _ e3
      subst e1 e3
      have HCR := Lib.hid hcr
      have HRP := Lib.hid hrp
      have hRL := HRL.out
      clear hcr hrp
      obtain ⟨Wr, hWr⟩ : ∃ Wr, Wr = wr := ⟨_, rfl⟩
      subst hWr
      go_wp2
      go_loopw [5] (fun t wx => ∃ j : Nat, j ≤ R.length ∧ t = .int .i64 (j : Int) ∧ Hid (∀ i (h : i < R.length), j ≤ i → lt p.1 R[i].1 = true) ∧ Hid (Below Wr.heap.size Wr wx)) (fun t _ => (intOf t).toNat)
      case atStart => exact ⟨R.length, by omega, rfl, fun i h h' => by omega, b_refl _⟩
      case round =>
        obtain ⟨j, hj, rfl, HJ, HX⟩ := hrel
        have e1 := Below.keeps HX.out (Below.keeps HB.out HD1.out)
        by_cases hj0 : 0 < j
        · obtain ⟨i, rfl⟩ : ∃ i, j = i + 1 := ⟨j - 1, by omega⟩
          have hiR : i < R.length := by omega
          obtain ⟨b, off, rfl, d3, _⟩ := HCR.out i hiR
          replace d3 := Below.keeps HX.out d3
          have i0 : (0 : Int) ≤ (i : Int) := by omega
          have i1 : (i : Int) < (R.length : Int) := by omega
          have c0 : (0 : Int) < ((i + 1 : Nat) : Int) := by omega
          have ei : (((i + 1 : Nat) : Int) - 1) = (i : Int) := by omega
          cases hlt : lt p.1 R[i].1 with
          | true =>
            have h2 := lt_asymm' hlt
            have h3 : (R[i].1 == p.1) = false := by
              rw [beq_eq_false_iff_ne]; intro e; rw [e, lt_irr] at hlt; cases hlt
            have HJ2 := Lib.hid (show ∀ i' (h : i' < R.length), i ≤ i' → lt p.1 R[i'].1 = true from fun i' h h' => by
              rcases Nat.lt_or_ge i i' with h4 | h4
              · exact HJ.out i' h (by omega)
              · obtain rfl : i' = i := by omega
                exact hlt)
            have HLT := Lib.hid hlt
            clear hlt
            unfold lt at h2
            go_wp2
            go_quiet (fail)
            go_wp2
            refine ⟨?_, by simp [intOf]⟩
            first
              | exact ⟨i, by omega, rfl, HJ2.out, bt HX.out (Below.drewN' _ _)⟩
              | ((repeat apply Exists.intro); exact ⟨⟨i, by omega, rfl, HJ2.out, bt HX.out (Below.drewN' _ _)⟩, rfl⟩)
          | false =>
            have HINS := Lib.hid (show srt (l.take (k + 1)) = R.take (i + 1) ++ p :: R.drop (i + 1) by
              rw [HSN.out]
              exact ins_at p R (i + 1) (by omega) HSO.out HJ.out (fun _ h' => hlt))
            have hJR : i + 1 ≤ R.length := by omega
            clear HJ
            cases hgt : lt R[i].1 p.1 with
            | true =>
              clear hlt
              unfold lt at hgt
              go_wp2
              go_quiet (fail)
              obtain ⟨wz, hwz⟩ : ∃ wz, wz = wr.drewN nq := ⟨_, rfl⟩
              have HXw := Lib.hid (show Below Wr.heap.size Wr wz by rw [hwz]; exact bt HX.out (Below.drewN' _ _))
              rw [← hwz]
              obtain ⟨J, hJ⟩ : ∃ J, J = i + 1 := ⟨_, rfl⟩
              have HJE := Lib.hid hJ
              rw [← hJ] at HINS hJR ⊢
              clear hwz hgt d3 e1 hJ
              have HRPw := Lib.hid (HRP.out.below HXw.out)
              obtain ⟨A1, C1, hrun1, hrp1⟩ := HRPw.out.headRun J (J : Int) rfl hJR
              have HRP1 := Lib.hid hrp1
              have hJ0 : (0 : Int) ≤ (J : Int) := by omega
              have hJ1 : (J : Int) ≤ (R.length : Int) := by omega
              clear hrp1
              have hlT : (R.take J).length = J := by rw [List.length_take]; omega
              have HLT2 := Lib.hid hlT
              have HRP1' := Lib.hid (show RP wz (.slice A1 (R.take J).length C1) (R.take J) by rw [hlT]; exact HRP1.out)
              have HBw := Lib.hid (show Below w.heap.size w wz from bt HB.out HXw.out)
              clear hlT
              go_wp2_with (at_builtin; go_must (refine appendP wz rfl _ _ 22 rfl Try.underlying22 wz.heap.size _ [] rfl (OP.nil _ _) _ (R.take J) rfl HRP1.out (by rw [HLT2.out]; simp; omega) (Nat.le_refl _) ?_))
              intro v7 w7 hown7 hB7
              obtain ⟨a7, c7, rfl⟩ := owns_slice hown7
              have HO7 := Lib.hid (show OP w7 wz.heap.size _ (R.take J) from hown7)
              have HB7 := Lib.hid hB7
              have hs7 := hB7.size
              have e1 := Below.keeps (bt HBw.out HB7.out) HD1.out
              have e2 := Below.keeps (bt HBw.out HB7.out) HD2.out
              clear hown7 hB7 hrun1
              go_wp2_with (at_builtin; go_must (refine append1P w7 p rfl _ _ 22 rfl Try.underlying22 wz.heap.size _ (R.take J) rfl HO7.out _ rfl (by rw [HLT2.out]; omega) hs7 ?_))
              intro v8 w8 hown8 hB8
              obtain ⟨a8, c8, rfl⟩ := owns_slice hown8
              have HO8 := Lib.hid hown8
              have HB8 := Lib.hid (HB7.out.trans hB8)
              have hs8 := HB8.out.size
              obtain ⟨A2, C2, hrun2, hrp2⟩ := (HRPw.out.below HB8.out).cutRun J (J : Int) rfl hJR
              have HRP2 := Lib.hid hrp2
              clear hown8 hB8 e1 e2 hrp2
              go_wp2_with (at_builtin; go_must (refine appendP w8 rfl _ _ 22 rfl Try.underlying22 wz.heap.size _ (R.take J ++ [p]) rfl HO8.out _ (R.drop J) rfl HRP2.out (by rw [List.length_append, HLT2.out, List.length_drop]; simp; omega) hs8 ?_))
              intro v9 w9 hown9 hB9
              have HO9 := Lib.hid (show OP w9 w.heap.size v9 (srt (l.take (k + 1))) by
                rw [HINS.out]
                have := OP.mono hown9 (show w.heap.size ≤ wz.heap.size from HBw.out.size)
                simpa [List.append_assoc] using this)
              have HB9 := Lib.hid (show Below w.heap.size w w9 from bt HBw.out (HB8.out.trans hB9))
              clear hown9 hB9 hrun2
              go_wp2
              refine ⟨?_, by simp [intOf]; omega⟩
              first
                | exact ⟨k + 1, by omega, by go_num, HO9.out, HB9.out⟩
                | ((repeat apply Exists.intro); exact ⟨⟨k + 1, by omega, by go_num, HO9.out, HB9.out⟩, rfl⟩)
            | false =>
              have heq : R[i].1 = p.1 := by
                have := gt_eq R[i].1 p.1
                rw [hgt, hlt, Bool.false_or] at this
                have h' : (R[i].1 == p.1) = true := by simpa using this
                simpa using h'
              have h3 : (R[i].1 == p.1) = true := by simpa using heq
              clear hlt heq
              unfold lt at hgt
              go_wp2
              go_quiet (fail)
              obtain ⟨wz, hwz⟩ : ∃ wz, wz = wr.drewN nq := ⟨_, rfl⟩
              have HXw := Lib.hid (show Below Wr.heap.size Wr wz by rw [hwz]; exact bt HX.out (Below.drewN' _ _))
              rw [← hwz]
              obtain ⟨J, hJ⟩ : ∃ J, J = i + 1 := ⟨_, rfl⟩
              have HJE := Lib.hid hJ
              rw [← hJ] at HINS hJR ⊢
              clear hwz hgt h3 d3 e1 hJ
              have HRPw := Lib.hid (HRP.out.below HXw.out)
              obtain ⟨A1, C1, hrun1, hrp1⟩ := HRPw.out.headRun J (J : Int) rfl hJR
              have HRP1 := Lib.hid hrp1
              have hJ0 : (0 : Int) ≤ (J : Int) := by omega
              have hJ1 : (J : Int) ≤ (R.length : Int) := by omega
              clear hrp1
              have hlT : (R.take J).length = J := by rw [List.length_take]; omega
              have HLT2 := Lib.hid hlT
              have HRP1' := Lib.hid (show RP wz (.slice A1 (R.take J).length C1) (R.take J) by rw [hlT]; exact HRP1.out)
              have HBw := Lib.hid (show Below w.heap.size w wz from bt HB.out HXw.out)
              clear hlT
              go_wp2_with (at_builtin; go_must (refine appendP wz rfl _ _ 22 rfl Try.underlying22 wz.heap.size _ [] rfl (OP.nil _ _) _ (R.take J) rfl HRP1.out (by rw [HLT2.out]; simp; omega) (Nat.le_refl _) ?_))
              intro v7 w7 hown7 hB7
              obtain ⟨a7, c7, rfl⟩ := owns_slice hown7
              have HO7 := Lib.hid (show OP w7 wz.heap.size _ (R.take J) from hown7)
              have HB7 := Lib.hid hB7
              have hs7 := hB7.size
              have e1 := Below.keeps (bt HBw.out HB7.out) HD1.out
              have e2 := Below.keeps (bt HBw.out HB7.out) HD2.out
              clear hown7 hB7 hrun1
              go_wp2_with (at_builtin; go_must (refine append1P w7 p rfl _ _ 22 rfl Try.underlying22 wz.heap.size _ (R.take J) rfl HO7.out _ rfl (by rw [HLT2.out]; omega) hs7 ?_))
              intro v8 w8 hown8 hB8
              obtain ⟨a8, c8, rfl⟩ := owns_slice hown8
              have HO8 := Lib.hid hown8
              have HB8 := Lib.hid (HB7.out.trans hB8)
              have hs8 := HB8.out.size
              obtain ⟨A2, C2, hrun2, hrp2⟩ := (HRPw.out.below HB8.out).cutRun J (J : Int) rfl hJR
              have HRP2 := Lib.hid hrp2
              clear hown8 hB8 e1 e2 hrp2
              go_wp2_with (at_builtin; go_must (refine appendP w8 rfl _ _ 22 rfl Try.underlying22 wz.heap.size _ (R.take J ++ [p]) rfl HO8.out _ (R.drop J) rfl HRP2.out (by rw [List.length_append, HLT2.out, List.length_drop]; simp; omega) hs8 ?_))
              intro v9 w9 hown9 hB9
              have HO9 := Lib.hid (show OP w9 w.heap.size v9 (srt (l.take (k + 1))) by
                rw [HINS.out]
                have := OP.mono hown9 (show w.heap.size ≤ wz.heap.size from HBw.out.size)
                simpa [List.append_assoc] using this)
              have HB9 := Lib.hid (show Below w.heap.size w w9 from bt HBw.out (HB8.out.trans hB9))
              clear hown9 hB9 hrun2
              go_wp2
              refine ⟨?_, by simp [intOf]; omega⟩
              first
                | exact ⟨k + 1, by omega, by go_num, HO9.out, HB9.out⟩
                | ((repeat apply Exists.intro); exact ⟨⟨k + 1, by omega, by go_num, HO9.out, HB9.out⟩, rfl⟩)
        · have HINS := Lib.hid (show srt (l.take (k + 1)) = R.take j ++ p :: R.drop j by
            rw [HSN.out]
            exact ins_at p R j hj HSO.out HJ.out (fun h _ => by omega))
          have hJR : j ≤ R.length := hj
          have c0 : ¬ (0 : Int) < (j : Int) := by omega
          go_wp2
          go_quiet (fail)
          obtain ⟨wz, hwz⟩ : ∃ wz, wz = wr.drewN nq := ⟨_, rfl⟩
          have HXw := Lib.hid (show Below Wr.heap.size Wr wz by rw [hwz]; exact bt HX.out (Below.drewN' _ _))
          rw [← hwz]
          obtain ⟨J, hJ⟩ : ∃ J, J = j := ⟨_, rfl⟩
          have HJE := Lib.hid hJ
          rw [← hJ] at HINS hJR ⊢
          clear hwz e1 hj hj0 HJ c0 hJ
          have HRPw := Lib.hid (HRP.out.below HXw.out)
          obtain ⟨A1, C1, hrun1, hrp1⟩ := HRPw.out.headRun J (J : Int) rfl hJR
          have HRP1 := Lib.hid hrp1
          have hJ0 : (0 : Int) ≤ (J : Int) := by omega
          have hJ1 : (J : Int) ≤ (R.length : Int) := by omega
          clear hrp1
          have hlT : (R.take J).length = J := by rw [List.length_take]; omega
          have HLT2 := Lib.hid hlT
          have HRP1' := Lib.hid (show RP wz (.slice A1 (R.take J).length C1) (R.take J) by rw [hlT]; exact HRP1.out)
          have HBw := Lib.hid (show Below w.heap.size w wz from bt HB.out HXw.out)
          clear hlT
          go_wp2_with (at_builtin; go_must (refine appendP wz rfl _ _ 22 rfl Try.underlying22 wz.heap.size _ [] rfl (OP.nil _ _) _ (R.take J) rfl HRP1.out (by rw [HLT2.out]; simp; omega) (Nat.le_refl _) ?_))
          intro v7 w7 hown7 hB7
          obtain ⟨a7, c7, rfl⟩ := owns_slice hown7
          have HO7 := Lib.hid (show OP w7 wz.heap.size _ (R.take J) from hown7)
          have HB7 := Lib.hid hB7
          have hs7 := hB7.size
          have e1 := Below.keeps (bt HBw.out HB7.out) HD1.out
          have e2 := Below.keeps (bt HBw.out HB7.out) HD2.out
          clear hown7 hB7 hrun1
          go_wp2_with (at_builtin; go_must (refine append1P w7 p rfl _ _ 22 rfl Try.underlying22 wz.heap.size _ (R.take J) rfl HO7.out _ rfl (by rw [HLT2.out]; omega) hs7 ?_))
          intro v8 w8 hown8 hB8
          obtain ⟨a8, c8, rfl⟩ := owns_slice hown8
          have HO8 := Lib.hid hown8
          have HB8 := Lib.hid (HB7.out.trans hB8)
          have hs8 := HB8.out.size
          obtain ⟨A2, C2, hrun2, hrp2⟩ := (HRPw.out.below HB8.out).cutRun J (J : Int) rfl hJR
          have HRP2 := Lib.hid hrp2
          clear hown8 hB8 e1 e2 hrp2
          go_wp2_with (at_builtin; go_must (refine appendP w8 rfl _ _ 22 rfl Try.underlying22 wz.heap.size _ (R.take J ++ [p]) rfl HO8.out _ (R.drop J) rfl HRP2.out (by rw [List.length_append, HLT2.out, List.length_drop]; simp; omega) hs8 ?_))
          intro v9 w9 hown9 hB9
          have HO9 := Lib.hid (show OP w9 w.heap.size v9 (srt (l.take (k + 1))) by
            rw [HINS.out]
            have := OP.mono hown9 (show w.heap.size ≤ wz.heap.size from HBw.out.size)
            simpa [List.append_assoc] using this)
          have HB9 := Lib.hid (show Below w.heap.size w w9 from bt HBw.out (HB8.out.trans hB9))
          clear hown9 hB9 hrun2
          go_wp2
          refine ⟨?_, by simp [intOf]; omega⟩
          first
            | exact ⟨k + 1, by omega, by go_num, HO9.out, HB9.out⟩
            | ((repeat apply Exists.intro); exact ⟨⟨k + 1, by omega, by go_num, HO9.out, HB9.out⟩, rfl⟩)
    · obtain rfl : k = l.length := by omega
      have HF := Lib.hid (List.take_length (l := l))
      go_wp2
      go_ret
      have hx : OP wr w.heap.size (.slice ao (srt (l.take l.length)).length co) (srt l) := by
        have := HO.out
        simp only [HF.out] at this ⊢
        exact this
      exact ⟨_, rfl, hx, HB.out⟩
end Go.Proofs.Ytahmacnmphjhgaa
namespace Go.Proofs.Ytahmacnmphjhgaa
open Go.RowKit Oct

/-- append(s, x), and what it leaves alone -/
theorem append1K {P : Program} {ops : Array Oper} {rest : List Oper} {o : Oper} {a : Act} {Q : Exit → Act → World → Prop} (wr : World) (news : List Value) (e : TypeId) (hgd : o.guard = none) (s x : Operand) (t : TypeId)
    (ho : o.op = .call { callee := .builtin .append, args := #[s, x], argTypes := #[t, t] })
    (base : Nat) (z : Value) (size bytes : Nat) (ht : P.underlying t = some (.slice e)) (hinfo : (P.info? e).map (fun i => (i.zero, i.size, i.bytes)) = some (some z, size, bytes))
    (hzs : z.cells.size = size) (hsz : 0 < size) (v : Value) (n : Nat) (xs : List Value) (hown : wr.ownsRow base e size v n xs) (hs : a.eval s = v)
    (c : Nat) (hx : a.eval x = .slice (some ⟨wr.heap.size, 0, none⟩) 1 c) (hl : news.length = size) (h1 : ∀ u ∈ news, u.oneCell' = true) (hby : 0 < bytes)
    (hbytes : (n + 1) * bytes ≤ 140737488355328) (hbase : base ≤ wr.heap.size)
    (h : ∀ g cap w', w'.ownsRow base e size (.slice (some ⟨g, 0, none⟩) (n + 1) cap) (n + 1) (xs ++ news) → (∀ j, j < wr.heap.size → v.ownBlock ≠ some j → w'.heap[j]? = wr.heap[j]?) → (v.ownBlock = some g ∨ wr.heap.size ≤ g) → Below base wr w' → wr.heap.size ≤ w'.heap.size →
      wpList P ops Q rest (a.put o.dst (.slice (some ⟨g, 0, none⟩) (n + 1) cap)) w') : wpList P ops Q (o :: rest) a (wr.alloc (.cells news.toArray e)) := by
  obtain ⟨i, hi, hz, hi1, hi2⟩ := info_parts hinfo
  have hn : n + 1 ≤ (n + 1) * bytes := Nat.le_mul_of_pos_right _ hby
  refine wpList_append_lies _ hgd s x t ho base e i z size bytes ht hi hz hi1 hi2 hzs hsz v n xs hs (hown.alloc _) ⟨wr.heap.size, 0, none⟩ 1 c news hx (by simpa using hl) ?_ h1 (by decide) (by unfold maxLen; omega) hbytes (by simp; omega) _ rfl ?_
  · intro j u hj
    have : j < news.length := by
      rcases Nat.lt_or_ge j news.length with h | h
      · exact h
      · simp [List.getElem?_eq_none h] at hj
    rw [Addr.add_lit, Nat.zero_add, World.cell?_alloc_new]
    simpa using hj
  · intro g cap w' h2 h3 h4 h5
    have hB : Below base wr w' := ((Below.refl base wr).alloc hbase _).grown h3 (by simp; omega) (fun k hk => (hown.lt k hk).1)
    refine h g cap w' h2 (fun j hj hne => ?_) ?_ hB hB.size
    · rw [h3.block j (by simp; omega) (fun e => hne e.symm)]
      exact Below.heap_alloc _ _ _ hj
    · rcases h4 with h4 | h4
      · exact .inl h4
      · exact .inr (by simp at h4; omega)

theorem RP.frame {w w' : World} {u : Value} {l : List PR} (h : RP w u l) (hb : ∀ b, u.ownBlock = some b → w'.heap[b]? = w.heap[b]?) : RP w' u l := by
  obtain ⟨⟨a, cap, rfl, hn, hc⟩, h2⟩ := h
  refine ⟨⟨a, cap, rfl, hn, fun j x hj => ?_⟩, h2⟩
  obtain ⟨b, off, rfl, hx⟩ := hc j x hj
  exact ⟨b, off, rfl, (World.cell?_of_block (w := w) (hb b rfl)).trans hx⟩
/-- rows that lie apart, in a row of the call's own -/
def GRP (w : World) (base : Nat) (v : Value) (Z : List (List PR)) : Prop := ∃ CS : List Value, w.ownsRow base 22 1 v Z.length CS ∧
  ∀ i (h : i < CS.length) (h' : i < Z.length), RP w CS[i] Z[i] ∧ ∀ b, CS[i].ownBlock = some b → b < w.heap.size ∧ v.ownBlock ≠ some b
theorem GRP.below {w w' : World} {base : Nat} {v : Value} {Z : List (List PR)} (h : GRP w base v Z) (hB : Below w.heap.size w w') : GRP w' base v Z := by
  obtain ⟨CS, h1, h2⟩ := h
  exact ⟨CS, ownsRow_below h1 hB, fun i h h' => ⟨(h2 i h h').1.below hB, fun b hb => ⟨Nat.lt_of_lt_of_le ((h2 i h h').2 b hb).1 hB.size, ((h2 i h h').2 b hb).2⟩⟩⟩
theorem GRP.nil (w : World) (base : Nat) : GRP w base (.slice none 0 0) [] := ⟨[], World.ownsRow_nil _ _ _ _, fun i h _ => absurd h (by simp)⟩
theorem GRP.slice {w : World} {base : Nat} {v : Value} {Z : List (List PR)} (h : GRP w base v Z) : ∃ a c, v = .slice a Z.length c := by
  obtain ⟨CS, h1, _⟩ := h
  exact owns_slice h1
theorem GRP.rr {w : World} {base : Nat} {v : Value} {Z : List (List PR)} (h : GRP w base v Z) : RR w v Z := by
  obtain ⟨CS, h1, h2⟩ := h
  have hl : CS.length = Z.length := by have := h1.1; omega
  obtain ⟨⟨a, cap, rfl, hn, hc⟩, hcap⟩ : Reads w v Z.length CS ∧ ∃ a cap, v = .slice a Z.length cap ∧ Z.length ≤ cap := by
    refine ⟨Reads.owned h1, ?_⟩
    rcases h1.2 with ⟨hv, h0⟩ | ⟨g, cap, cur, hv, _, _, hc, _⟩
    · exact ⟨none, 0, by rw [hv, h0], by omega⟩
    · exact ⟨_, _, hv, hc⟩
  obtain ⟨a', cap', hv, hle⟩ := hcap
  injection hv with _ _ e3
  subst e3
  refine ⟨a, cap, rfl, hle, hn, fun k hk => ?_⟩
  obtain ⟨b, off, ha, hu⟩ := hc k CS[k] (List.getElem?_eq_getElem (by omega))
  exact ⟨b, off, CS[k], ha, hu, (h2 k (by omega) hk).1⟩
theorem GRP.snoc {w w' : World} {base : Nat} {v v' u : Value} {Z : List (List PR)} {g : List PR} {CS : List Value} {gb cap : Nat} (h2 : ∀ i (h : i < CS.length) (h' : i < Z.length), RP w CS[i] Z[i] ∧ ∀ b, CS[i].ownBlock = some b → b < w.heap.size ∧ v.ownBlock ≠ some b)
    (hl : CS.length = Z.length) (hu : RP w u g) (hub : ∀ b, u.ownBlock = some b → b < w.heap.size ∧ v.ownBlock ≠ some b) (hv : v' = .slice (some ⟨gb, 0, none⟩) (Z.length + 1) cap)
    (hown : w'.ownsRow base 22 1 v' (Z.length + 1) (CS ++ [u])) (hfr : ∀ j, j < w.heap.size → v.ownBlock ≠ some j → w'.heap[j]? = w.heap[j]?) (hg : v.ownBlock = some gb ∨ w.heap.size ≤ gb) (hsz : w.heap.size ≤ w'.heap.size) : GRP w' base v' (Z ++ [g]) := by
  have key : ∀ (x : Value) (r : List PR), RP w x r → (∀ b, x.ownBlock = some b → b < w.heap.size ∧ v.ownBlock ≠ some b) → RP w' x r ∧ ∀ b, x.ownBlock = some b → b < w'.heap.size ∧ v'.ownBlock ≠ some b := by
    intro x r hx hb
    refine ⟨hx.frame fun b h => hfr b (hb b h).1 (hb b h).2, fun b h => ⟨Nat.lt_of_lt_of_le (hb b h).1 hsz, ?_⟩⟩
    subst hv
    intro e
    have e2 : gb = b := by simpa [Value.ownBlock] using e
    subst e2
    rcases hg with hg | hg
    · exact (hb gb h).2 hg
    · exact absurd (hb gb h).1 (by omega)
  refine ⟨CS ++ [u], by rw [List.length_append]; exact hown, fun i h h' => ?_⟩
  by_cases hi : i < CS.length
  · rw [List.getElem_append_left hi, List.getElem_append_left (by omega)]
    exact key _ _ (h2 i hi (by omega)).1 (h2 i hi (by omega)).2
  · have e : i = CS.length := by simp at h; omega
    subst e
    rw [List.getElem_append_right (by omega), List.getElem_append_right (by omega)]
    simp only [Nat.sub_self, hl, List.getElem_cons_zero]
    exact key _ _ hu hub
theorem RP.subRun {w : World} {a : Option Addr} {cap : Nat} {l : List PR} (h : RP w (.slice a l.length cap) l) (lo hi : Nat) (h1 : lo ≤ hi) (h2 : hi ≤ l.length) :
    ∃ A C, (∀ wx, (Instr.slice 22 (.slice a l.length cap) (some (.int .i64 (lo : Int))) (some (.int .i64 (hi : Int))) none).run Try.prog wx = .ok (.slice A (hi - lo) C) wx) ∧ RP w (.slice A (hi - lo) C) ((l.drop lo).take (hi - lo)) := by
  obtain ⟨_, a', cap', hv, hle⟩ := id h
  injection hv with _ _ h3
  subst h3
  refine ⟨_, _, fun wx => ?_, h.sub lo hi h1 h2⟩
  rw [run_slice_lh wx 22 a l.length cap (by kernel_rfl) .i64 .i64 lo hi (by omega) (by omega) (by omega)]
  have he : (sizeOf (Try.prog.elem 22)).run Try.prog wx = .ok 2 wx := by kernel_rfl
  rw [he]
  simp [Result.andThen, sliced]
theorem infoRow : (Try.prog.info? 22).map (fun i => (i.zero, i.size, i.bytes)) = some (some (.slice none 0 0), 1, 24) := by kernel_rfl
/-- one more group is done -/
theorem grp_more {A : List PR} {Z : List (List PR)} {f i : Nat} (hf : f < i) (hi : i ≤ A.length) (hZ : Z ++ grp (A.drop f) = grp A) (hin : ∀ j (h : j < A.length), f ≤ j → j < i → A[j].1 = (A[f]'(by omega)).1) (hout : ∀ (h : i < A.length), A[i].1 ≠ (A[f]'(by omega)).1) :
    (Z ++ [(A.drop f).take (i - f)]) ++ grp (A.drop i) = grp A := by
  have hh : i - f = head1 (A.drop f) := by
    refine head1_eq (A.drop f) (by simp; omega) (i - f) (by omega) (by simp; omega) (fun j hj => ?_) (fun hk => ?_)
    · simp only [List.getElem_drop, Nat.add_zero]
      exact hin (f + j) (by omega) (by omega) (by omega)
    · simp only [List.getElem_drop, Nat.add_zero, show f + (i - f) = i by omega]
      exact hout (by simp at hk; omega)
  rw [← hZ, grp_step (A.drop f) (by simp; omega), ← hh, List.drop_drop, show f + (i - f) = i by omega, List.append_assoc]
  rfl
end Go.Proofs.Ytahmacnmphjhgaa
namespace Go.Proofs.Ytahmacnmphjhgaa
open Go.RowKit Oct

theorem wpG_nil' {P : Program} {ops : Array Oper} {C : World → Prop} {R : World → World → Prop} {F : Nat → Option (Known R)} {Q : Facts → Act → Prop} {k : Nat} {S : Facts} {a : Act} (h : Q S a) : wpG P ops C R F Q k [] S a := h
attribute [local irreducible] wpG
theorem GRP.mono {w : World} {base base' : Nat} {v : Value} {Z : List (List PR)} (h : GRP w base v Z) (hb : base' ≤ base) : GRP w base' v Z := by
  obtain ⟨CS, h1, h2⟩ := h
  exact ⟨CS, owns_mono h1 hb, h2⟩

theorem by24 {n k : Nat} (hn : n ≤ 1000000) (hk : k ≤ n) : (k + 1) * 24 ≤ 140737488355328 := by omega
theorem by32 {n k : Nat} (hn : n ≤ 1000000) (hk : k ≤ n) : (0 + k) * 32 ≤ 140737488355328 := by omega
theorem grp_len {A : List PR} {Z R : List (List PR)} (h : Z ++ R = grp A) : Z.length ≤ A.length := by
  have := grp_length_le A.length A (Nat.le_refl _)
  rw [← h, List.length_append] at this
  omega
theorem sub_len {A : List PR} {f i : Nat} (hi : i ≤ A.length) (hf : f ≤ i) : ((A.drop f).take (i - f)).length = i - f := by simp; omega

set_option maxRecDepth 100000 in
set_option maxHeartbeats 4000000 in
theorem rGroups_any (v : Value) (l : List PR) (w : World) (hr : RP w v l) (hl : l.length ≤ 1000000) :
    Calls Try.prog 67 #[v] w fun e w' => (∃ u, e = .returned u ∧ GRP w' w.heap.size u (grp (srt l))) ∧ Below w.heap.size w w' := by
  obtain ⟨a0, c0, rfl, _, _⟩ := hr.open
  obtain ⟨A, hA⟩ : ∃ A, A = srt l := ⟨_, rfl⟩
  have hsrt := rSortP_any _ l w hr hl
  have hAl : A.length = l.length := by rw [hA]; exact srt_length l
  rw [← hA] at hsrt ⊢
  have HSRT := Lib.hid hsrt
  clear hr hsrt hA
  go_enter Try.func67, Try.ntmps67
  go_wp2_with fail
  refine HSRT.out.mono ?_
  rintro e w1 ⟨v1, rfl, hown1, hB1⟩
  obtain ⟨aA, cA, rfl, hcap, hcA⟩ := (OP.reads hown1).open
  clear hcap
  have HCA := Lib.hid hcA
  have HA := Lib.hid (OP.reads hown1)
  have HB1 := Lib.hid hB1
  have hAn : A.length ≤ 1000000 := by rw [hAl]; exact hl
  have HAN := Lib.hid hAn
  clear hown1 hB1 hAl hl HSRT hcA
  go_wp2
  go_loopw [4, 5, 6] (fun vo vf vi wr => ∃ f i : Nat, ∃ Z Av Cv, vf = .int .i64 (f : Int) ∧ vi = .int .i64 (i : Int) ∧ vo = .slice Av (List.length Z) Cv ∧ 1 ≤ i ∧ i ≤ A.length + 1 ∧ Hid (f ≤ A.length ∧ (i ≤ A.length → f < i) ∧ (i = A.length + 1 → f = A.length)) ∧
    Hid (∀ j (h : j < A.length) (hf : f < A.length), f ≤ j → j < i → A[j].1 = A[f].1) ∧ Hid (Z ++ grp (A.drop f) = grp A) ∧ Hid (GRP wr w1.heap.size (.slice Av Z.length Cv) Z) ∧ Hid (Below w1.heap.size w1 wr)) (fun _ _ i _ => A.length + 1 - (intOf i).toNat)
  case atStart =>
    have h00 : ∀ j (h : j < A.length) (hf : 0 < A.length), 0 ≤ j → j < 1 → A[j].1 = A[0].1 := by
      intro j h hf _ h2
      obtain rfl : j = 0 := by omega
      rfl
    exact ⟨0, 1, [], none, 0, rfl, rfl, rfl, by omega, by omega, ⟨by omega, by omega, by omega⟩, h00, rfl, GRP.nil _ _, b_refl _⟩
  case round =>
    obtain ⟨f, i, Z, Av, Cv, rfl, rfl, rfl, hi1, hi2, HF, HIN, HZ, HG, HB⟩ := hrel
    obtain ⟨Wr, hWr⟩ : ∃ Wr, Wr = wr := ⟨_, rfl⟩
    subst hWr
    by_cases h0 : i ≤ A.length
    · have hfi := HF.out.2.1 h0
      have hfl : f < A.length := by omega
      obtain ⟨b, off, rfl, cf, _⟩ := HCA.out f hfl
      have HFc := Lib.hid (Below.keeps HB.out cf)
      obtain ⟨X, C, hrun, hsub⟩ := RP.subRun HA.out f i (Nat.le_of_lt hfi) h0
      have HSUB := Lib.hid (hsub.below HB.out)
      have hsl := sub_len h0 (Nat.le_of_lt hfi)
      obtain ⟨G, hG⟩ : ∃ G, G = (A.drop f).take (i - f) := ⟨_, rfl⟩
      rw [← hG] at HSUB hsl
      have HGG := Lib.hid hG
      have HSL := Lib.hid hsl
      rw [← hsl] at hrun HSUB
      clear cf hsub hsl hG
      have i0 : (i : Int) ≤ (A.length : Int) := by omega
      have i1 : (0 : Int) ≤ (i : Int) := by omega
      have i2 : (0 : Int) ≤ (f : Int) := by omega
      have i3 : (f : Int) < (A.length : Int) := by omega
      have i4 : (f : Int) ≤ (i : Int) := by omega
      by_cases hin : i = A.length
      · have e1 : ((i : Int) == (A.length : Int)) = true := by rw [beq_iff_eq]; omega
        have HE := Lib.hid hin
        clear hin
        go_wp2
        refine region_known [] (by kernel_rfl) (by kernel_rfl) ?_
        (repeat (first | (refine wpG_skip (by kernel_rfl) (fun K hK => ?_); go_big_quiet_skip; refine wpQuiet_nil (hK _ ?_); clear hK K) | (refine wpG_quiet (by rfl) (by rfl) (fun K hK => ?_); go_big_quiet_want; go_big_quiet_op; go_big_quiet_on; refine wpQuiet_nil (hK _ ?_); clear hK K)))
        refine wpG_nil' ?_
        intro w2 hB2 hA2
        have HB2 := Lib.hid hB2
        have HS2 := Lib.hid (HSUB.out.below hB2)
        have HG2 := Lib.hid (HG.out.below hB2)
        have hw12 : w1.heap.size ≤ w2.heap.size := Nat.le_trans HB.out.size hB2.size
        have HW12 := Lib.hid hw12
        clear hB2 hA2 hw12
        go_wp2_with (first
          | (at_builtin; (refine appendP w2 rfl _ _ 22 rfl Try.underlying22 w2.heap.size (.slice none 0 0) [] rfl (OP.nil _ _) (.slice X G.length C) G rfl HS2.out (by rw [HSL.out]; exact by32 HAN.out (Nat.le_trans (Nat.sub_le _ _) h0)) (Nat.le_refl _) ?_); intro v3 w3 hown3 hB3; rw [List.nil_append] at hown3; obtain ⟨a3, c3, rfl⟩ := owns_slice hown3; have HO3 := Lib.hid hown3; have HG3 := Lib.hid (HG2.out.below hB3); have HB3 := Lib.hid hB3; obtain ⟨CS, hcs, hcs2⟩ := HG3.out; have HCS := Lib.hid hcs; have HCS2 := Lib.hid hcs2; clear hown3 hB3 hcs hcs2)
          | (at_builtin; (refine append1K w3 [.slice a3 G.length c3] 22 rfl _ _ 25 rfl w1.heap.size (.slice none 0 0) 1 24 Try.underlying25 infoRow rfl (by decide) _ Z.length CS HCS.out rfl _ rfl rfl (by simp [Value.oneCell']) (by decide) (by24 HAN.out (grp_len HZ.out)) (Nat.le_trans HW12.out HB3.out.size) ?_); intro g cap w4 hown4 hfr hgb hB4 hsz4; have HO4 := Lib.hid hown4; have HFR := Lib.hid hfr; have HGB := Lib.hid hgb; have HB4 := Lib.hid hB4; have HSZ4 := Lib.hid hsz4; clear hown4 hfr hgb hB4 hsz4))
        go_roundw
        case rel =>
          have hout : ∀ b, (Value.slice a3 G.length c3).ownBlock = some b → b < w3.heap.size ∧ (Value.slice Av Z.length Cv).ownBlock ≠ some b := by
            intro b hb
            have h1 := World.ownsRow.lt HO3.out b hb
            refine ⟨h1.2, fun e => ?_⟩
            obtain ⟨CS2, hc2, _⟩ := HG2.out
            have h2 := World.ownsRow.lt hc2 b e
            omega
          have hii : ∀ j (h : j < A.length) (hf : i < A.length), i ≤ j → j < i + 1 → A[j].1 = A[i].1 := by
            intro j h hf _ h2
            obtain rfl : j = i := by omega
            rfl
          have hsn := GRP.snoc HCS2.out (by have := HCS.out.1; omega) (OP.reads HO3.out) hout rfl HO4.out HFR.out HGB.out HSZ4.out
          refine ⟨i, i + 1, Z ++ [G], _, _, rfl, by go_num, by rw [List.length_append]; rfl, by omega, by omega, ⟨h0, fun h => by omega, fun h => by omega⟩, hii, ?_, by rw [List.length_append]; exact hsn, ?_⟩
          · have := grp_more (A := A) (Z := Z) hfi h0 HZ.out (fun j h h1 h2 => HIN.out j h (by omega) h1 h2) (fun h => absurd h (by have := HE.out; omega))
            rw [← HGG.out] at this
            exact this
          · exact HB.out.trans ((HB2.out.mono HB.out.size).trans ((HB3.out.mono HW12.out).trans HB4.out))
        case measure => simp [intOf]; omega
      · have e1 : ((i : Int) == (A.length : Int)) = false := by rw [beq_eq_false_iff_ne]; omega
        have hil : i < A.length := by omega
        have i5 : (i : Int) < (A.length : Int) := by omega
        obtain ⟨b', off', hb, ci, _⟩ := HCA.out i hil
        cases hb
        have HI := Lib.hid (Below.keeps HB.out ci)
        clear ci hin
        by_cases hk : A[i].1 = A[f].1
        · have HK := Lib.hid hk
          have e2 : (A[i].1 == A[f].1) = true := by rw [beq_iff_eq]; exact hk
          have e3 : (A[i].1 != A[f].1) = false := by rw [bne_eq_false_iff_eq]; exact hk
          clear hk
          go_wp2
          refine region_known [(9, .exact Bel (.string (bs A[i].1))), (14, .exact Bel (.string (bs A[f].1)))] (by kernel_rfl) (by kernel_rfl) ?_
          (repeat (first | (refine wpG_skip (by kernel_rfl) (fun K hK => ?_); go_big_quiet_skip; refine wpQuiet_nil (hK _ ?_); clear hK K) | (refine wpG_quiet (by rfl) (by rfl) (fun K hK => ?_); go_big_quiet_want; go_big_quiet_op; go_big_quiet_on; refine wpQuiet_nil (hK _ ?_); clear hK K)))
          refine wpG_exact rfl (by kernel_rfl) (fun w' G hB hS hG => ?_) (fun K hK => ?_)
          · have c := Below.keeps hB HI.out
            go_simp
            exact hG _ (Bel.refl _)
          go_simp; refine hK _ ?_; clear hK K; (repeat (first | (refine wpG_skip (by kernel_rfl) (fun K hK => ?_); go_big_quiet_skip; refine wpQuiet_nil (hK _ ?_); clear hK K) | (refine wpG_quiet (by rfl) (by rfl) (fun K hK => ?_); go_big_quiet_want; go_big_quiet_op; go_big_quiet_on; refine wpQuiet_nil (hK _ ?_); clear hK K)))
          refine wpG_exact rfl (by kernel_rfl) (fun w' G hB hS hG => ?_) (fun K hK => ?_)
          · have c := Below.keeps hB HFc.out
            go_simp
            exact hG _ (Bel.refl _)
          go_simp; refine hK _ ?_; clear hK K; (repeat (first | (refine wpG_skip (by kernel_rfl) (fun K hK => ?_); go_big_quiet_skip; refine wpQuiet_nil (hK _ ?_); clear hK K) | (refine wpG_quiet (by rfl) (by rfl) (fun K hK => ?_); go_big_quiet_want; go_big_quiet_op; go_big_quiet_on; refine wpQuiet_nil (hK _ ?_); clear hK K)))
          refine wpG_nil' ?_
          intro w2 hB2 hA2
          have HB2 := Lib.hid hB2
          have HG2 := Lib.hid (HG.out.below hB2)
          clear hB2 hA2
          go_wp2
          refine ⟨?_, by simp [intOf]; omega⟩
          refine ⟨f, i + 1, Z, _, _, rfl, by go_num, rfl, by omega, by omega, ⟨by omega, fun h => by omega, fun h => by omega⟩, fun j h hf h1 h2 => ?_, HZ.out, HG2.out, HB.out.trans (HB2.out.mono HB.out.size)⟩
          by_cases hji : j = i
          · subst hji; exact HK.out
          · exact HIN.out j h hf h1 (by omega)
        · have HK := Lib.hid hk
          have e2 : (A[i].1 == A[f].1) = false := by rw [beq_eq_false_iff_ne]; exact hk
          have e3 : (A[i].1 != A[f].1) = true := by rw [bne_iff_ne]; exact hk
          clear hk
          go_wp2
          refine region_known [(9, .exact Bel (.string (bs A[i].1))), (14, .exact Bel (.string (bs A[f].1)))] (by kernel_rfl) (by kernel_rfl) ?_
          (repeat (first | (refine wpG_skip (by kernel_rfl) (fun K hK => ?_); go_big_quiet_skip; refine wpQuiet_nil (hK _ ?_); clear hK K) | (refine wpG_quiet (by rfl) (by rfl) (fun K hK => ?_); go_big_quiet_want; go_big_quiet_op; go_big_quiet_on; refine wpQuiet_nil (hK _ ?_); clear hK K)))
          refine wpG_exact rfl (by kernel_rfl) (fun w' G hB hS hG => ?_) (fun K hK => ?_)
          · have c := Below.keeps hB HI.out
            go_simp
            exact hG _ (Bel.refl _)
          go_simp; refine hK _ ?_; clear hK K; (repeat (first | (refine wpG_skip (by kernel_rfl) (fun K hK => ?_); go_big_quiet_skip; refine wpQuiet_nil (hK _ ?_); clear hK K) | (refine wpG_quiet (by rfl) (by rfl) (fun K hK => ?_); go_big_quiet_want; go_big_quiet_op; go_big_quiet_on; refine wpQuiet_nil (hK _ ?_); clear hK K)))
          refine wpG_exact rfl (by kernel_rfl) (fun w' G hB hS hG => ?_) (fun K hK => ?_)
          · have c := Below.keeps hB HFc.out
            go_simp
            exact hG _ (Bel.refl _)
          go_simp; refine hK _ ?_; clear hK K; (repeat (first | (refine wpG_skip (by kernel_rfl) (fun K hK => ?_); go_big_quiet_skip; refine wpQuiet_nil (hK _ ?_); clear hK K) | (refine wpG_quiet (by rfl) (by rfl) (fun K hK => ?_); go_big_quiet_want; go_big_quiet_op; go_big_quiet_on; refine wpQuiet_nil (hK _ ?_); clear hK K)))
          refine wpG_nil' ?_
          intro w2 hB2 hA2
          have HB2 := Lib.hid hB2
          have HS2 := Lib.hid (HSUB.out.below hB2)
          have HG2 := Lib.hid (HG.out.below hB2)
          have hw12 : w1.heap.size ≤ w2.heap.size := Nat.le_trans HB.out.size hB2.size
          have HW12 := Lib.hid hw12
          clear hB2 hA2 hw12
          go_wp2_with (first
            | (at_builtin; (refine appendP w2 rfl _ _ 22 rfl Try.underlying22 w2.heap.size (.slice none 0 0) [] rfl (OP.nil _ _) (.slice X G.length C) G rfl HS2.out (by rw [HSL.out]; exact by32 HAN.out (Nat.le_trans (Nat.sub_le _ _) h0)) (Nat.le_refl _) ?_); intro v3 w3 hown3 hB3; rw [List.nil_append] at hown3; obtain ⟨a3, c3, rfl⟩ := owns_slice hown3; have HO3 := Lib.hid hown3; have HG3 := Lib.hid (HG2.out.below hB3); have HB3 := Lib.hid hB3; obtain ⟨CS, hcs, hcs2⟩ := HG3.out; have HCS := Lib.hid hcs; have HCS2 := Lib.hid hcs2; clear hown3 hB3 hcs hcs2)
            | (at_builtin; (refine append1K w3 [.slice a3 G.length c3] 22 rfl _ _ 25 rfl w1.heap.size (.slice none 0 0) 1 24 Try.underlying25 infoRow rfl (by decide) _ Z.length CS HCS.out rfl _ rfl rfl (by simp [Value.oneCell']) (by decide) (by24 HAN.out (grp_len HZ.out)) (Nat.le_trans HW12.out HB3.out.size) ?_); intro g cap w4 hown4 hfr hgb hB4 hsz4; have HO4 := Lib.hid hown4; have HFR := Lib.hid hfr; have HGB := Lib.hid hgb; have HB4 := Lib.hid hB4; have HSZ4 := Lib.hid hsz4; clear hown4 hfr hgb hB4 hsz4))
          go_roundw
          case rel =>
            have hout : ∀ b, (Value.slice a3 G.length c3).ownBlock = some b → b < w3.heap.size ∧ (Value.slice Av Z.length Cv).ownBlock ≠ some b := by
              intro b hb
              have h1 := World.ownsRow.lt HO3.out b hb
              refine ⟨h1.2, fun e => ?_⟩
              obtain ⟨CS2, hc2, _⟩ := HG2.out
              have h2 := World.ownsRow.lt hc2 b e
              omega
            have hii : ∀ j (h : j < A.length) (hf : i < A.length), i ≤ j → j < i + 1 → A[j].1 = A[i].1 := by
              intro j h hf _ h2
              obtain rfl : j = i := by omega
              rfl
            have hsn := GRP.snoc HCS2.out (by have := HCS.out.1; omega) (OP.reads HO3.out) hout rfl HO4.out HFR.out HGB.out HSZ4.out
            refine ⟨i, i + 1, Z ++ [G], _, _, rfl, by go_num, by rw [List.length_append]; rfl, by omega, by omega, ⟨h0, fun h => by omega, fun h => by omega⟩, hii, ?_, by rw [List.length_append]; exact hsn, ?_⟩
            · have := grp_more (A := A) (Z := Z) hfi h0 HZ.out (fun j h h1 h2 => HIN.out j h (by omega) h1 h2) (fun h => HK.out)
              rw [← HGG.out] at this
              exact this
            · exact HB.out.trans ((HB2.out.mono HB.out.size).trans ((HB3.out.mono HW12.out).trans HB4.out))
          case measure => simp [intOf]; omega
    · have hie : i = A.length + 1 := by omega
      have hfin : Z = grp A := by
        have h1 := HF.out.2.2 hie
        have h2 := HZ.out
        rw [h1, List.drop_length, grp_nil, List.append_nil] at h2
        exact h2
      subst hfin
      have i0 : ¬ (i : Int) ≤ (A.length : Int) := by omega
      clear hie
      go_wp2
      go_ret
      exact ⟨⟨_, rfl, HG.out.mono HB1.out.size⟩, HB1.out.trans (HB.out.mono HB1.out.size)⟩
end Go.Proofs.Ytahmacnmphjhgaa
namespace Go.Proofs.Ytahmacnmphjhgaa
open Go.RowKit Oct

theorem hk1_zero (l : List PR) (h : 0 < l.length) : l[0].1 = hk1 l := by cases l with | nil => simp at h | cons x l => rfl
theorem infoStrK : (Try.prog.info? 9).map (fun i => (i.zero, i.size, i.bytes)) = some (some (.string ByteArray.empty), 1, 16) := by kernel_rfl
theorem by16 {n k : Nat} (hn : n ≤ 1000000) (hk : k ≤ n) : (k + 1) * 16 ≤ 140737488355328 := by omega

set_option maxRecDepth 100000 in
set_option maxHeartbeats 4000000 in
theorem rKeys_any (v : Value) (l : List PR) (w : World) (hr : RP w v l) (hl : l.length ≤ 1000000) :
    Calls Try.prog 42 #[v] w fun e w' => (∃ u, e = .returned u ∧ w'.ownsRow w.heap.size 9 1 u ((grp (srt l)).map hk1).length (tcells ((grp (srt l)).map hk1))) ∧ Below w.heap.size w w' := by
  obtain ⟨a0, c0, rfl, _, _⟩ := hr.open
  have hgr := rGroups_any _ l w hr hl
  have hn := grp_ne (srt l).length (srt l) (Nat.le_refl _)
  have hgl := grp_length_le (srt l).length (srt l) (Nat.le_refl _)
  rw [srt_length] at hgl
  obtain ⟨Z, hZ⟩ : ∃ Z, Z = grp (srt l) := ⟨_, rfl⟩
  rw [← hZ] at hgr hn hgl ⊢
  have HGR := Lib.hid hgr
  have HN := Lib.hid hn
  have HZL := Lib.hid (Nat.le_trans hgl hl)
  clear hgr hn hgl hZ hr
  go_enter Try.func42, Try.ntmps42
  go_wp2_with fail
  refine HGR.out.mono ?_
  rintro e w1 ⟨⟨u1, rfl, hg1⟩, hB1⟩
  obtain ⟨a1, c1, rfl⟩ := hg1.slice
  obtain ⟨aa, ca, hv, _, _, hc⟩ := hg1.rr
  injection hv with e1 _ e3
  subst e1 e3
  have HC := Lib.hid hc
  have HB1 := Lib.hid hB1
  clear hc hB1 hg1 HGR
  go_wp2
  go_loopw [3, 5] (fun vo vi wr => ∃ i : Nat, ∃ Av Cv, vi = .int .i64 (i : Int) ∧ vo = .slice Av i Cv ∧ i ≤ Z.length ∧ Hid (wr.ownsRow w1.heap.size 9 1 (.slice Av i Cv) i (tcells ((Z.take i).map hk1))) ∧ Hid (Below w1.heap.size w1 wr)) (fun _ i _ => Z.length - (intOf i).toNat)
  case atStart => exact ⟨0, none, 0, rfl, rfl, by omega, World.ownsRow_nil _ _ _ _, b_refl _⟩
  case round =>
    obtain ⟨i, Av, Cv, rfl, rfl, hi, HO, HB⟩ := hrel
    obtain ⟨Wr, hWr⟩ : ∃ Wr, Wr = wr := ⟨_, rfl⟩
    subst hWr
    by_cases h0 : i < Z.length
    · obtain ⟨b, off, u, rfl, d1, hru⟩ := HC.out i h0
      obtain ⟨a2, c2, rfl, _, hc2⟩ := hru.open
      have hz0 := HN.out Z[i] (List.getElem_mem h0)
      obtain ⟨b2, o2, rfl, d2, _⟩ := hc2 0 hz0
      rw [Nat.zero_mul, Nat.add_zero, hk1_zero Z[i] hz0] at d2
      have d1' := Below.keeps HB.out d1
      have d2' := Below.keeps HB.out d2
      obtain ⟨x, hx⟩ : ∃ x, x = Z[i] := ⟨_, rfl⟩
      rw [← hx] at d1' d2' hz0
      have HX := Lib.hid hx
      have i0 : (0 : Int) ≤ (i : Int) := by omega
      have i1 : (i : Int) < (Z.length : Int) := by omega
      have i2 : (0 : Int) < (x.length : Int) := by omega
      have hby := by16 HZL.out hi
      have hsz := HB.out.size
      clear d1 d2 hc2 hru hx hz0
      go_wp2_with (at_builtin; go_must (refine append1 Wr [.string (bs (hk1 x))] 9 rfl _ _ 40 rfl w1.heap.size (.string ByteArray.empty) 1 16 Try.underlying40 infoStrK rfl (by decide) (.slice Av i Cv) i _ rfl HO.out _ rfl rfl (by simp [Value.oneCell']) hby (by decide) hsz ?_); intro v3 w3 hown3 hB3; obtain ⟨g, cap, rfl⟩ := ownsRow_succ hown3; have HO3 := Lib.hid hown3; have HB3 := Lib.hid hB3; clear hown3 hB3 d1' d2')
      go_roundw
      case rel =>
        refine ⟨i + 1, _, _, by go_num, rfl, by omega, ?_, HB.out.trans HB3.out⟩
        rw [List.take_succ_eq_append_getElem h0, List.map_append, ← HX.out]
        have := HO3.out
        rw [tcells_snoc] at this
        exact this
      case measure => simp [intOf]; omega
    · obtain rfl : i = Z.length := by omega
      have hfin := HO.out
      rw [List.take_length] at hfin
      have HF := Lib.hid hfin
      clear hfin HO
      go_wp2
      go_ret
      refine ⟨⟨_, rfl, ?_⟩, HB1.out.trans (HB.out.mono HB1.out.size)⟩
      rw [List.length_map]
      exact owns_mono HF.out HB1.out.size
end Go.Proofs.Ytahmacnmphjhgaa
namespace Go.Proofs.Ytahmacnmphjhgaa
open Go.RowKit Oct

/-- a key's value -/
def fnd (k : List UInt8) : List PR → Option (List UInt8)
  | [] => none
  | p :: l => if p.1 = k then some p.2 else fnd k l
theorem fnd_at : ∀ (l : List PR) (k : List UInt8) (i : Nat) (h : i < l.length), (∀ j (hj : j < l.length), j < i → l[j].1 ≠ k) → l[i].1 = k → fnd k l = some l[i].2
  | p :: l, k, 0, _, _, he => by simp at he; simp [fnd, he]
  | p :: l, k, i + 1, h, hn, he => by
    have h0 := hn 0 (by simp) (by omega)
    simp at h0
    rw [fnd, if_neg h0, fnd_at l k i (by simpa using h) (fun j hj hji => hn (j + 1) (Nat.succ_lt_succ hj) (Nat.succ_lt_succ hji)) (by simpa using he)]
    simp
theorem fnd_none : ∀ (l : List PR) (k : List UInt8), (∀ j (hj : j < l.length), l[j].1 ≠ k) → fnd k l = none
  | [], _, _ => rfl
  | p :: l, k, hn => by
    have h0 := hn 0 (by simp)
    simp at h0
    rw [fnd, if_neg h0, fnd_none l k fun j hj => hn (j + 1) (Nat.succ_lt_succ hj)]

set_option maxRecDepth 100000 in
set_option maxHeartbeats 1000000 in
theorem find_any (v : Value) (l : List PR) (k : List UInt8) (w : World) (hr : RP w v l) (hl : l.length ≤ 140737488355328) :
    Calls Try.prog 43 #[v, .string (bs k)] w fun e w' => e = .returned (.tuple #[.string (bs ((fnd k l).getD [])), .bool (fnd k l).isSome]) ∧ w = w' := by
  obtain ⟨a, cap, rfl, _, hc⟩ := hr.open
  have HC := Lib.hid hc
  clear hc hr
  go_enter Try.func43, Try.ntmps43
  go_wp2
  go_loop [6] (fun t => ∃ i : Nat, i ≤ l.length ∧ t = .int .i64 (i : Int) ∧ Hid (∀ j (hj : j < l.length), j < i → l[j].1 ≠ k)) (fun t => l.length - (intOf t).toNat)
  case atStart => exact ⟨0, by omega, rfl, fun j _ h => absurd h (by omega)⟩
  case round =>
    obtain ⟨i, hi, rfl, hH⟩ := hrel
    by_cases h0 : i < l.length
    · obtain ⟨b, off, rfl, c1, c2⟩ := HC.out i h0
      have kk0 : (0 : Int) ≤ (i : Int) := by omega
      have kk1 : (i : Int) < (l.length : Int) := by omega
      by_cases he : l[i].1 = k
      · have HF := Lib.hid (fnd_at l k i h0 hH.out he)
        have hq : (l[i].1 == k) = true := by rw [beq_iff_eq]; exact he
        clear he
        go_wp2
        go_ret2
        exact ⟨by rw [HF.out]; rfl, rfl⟩
      · have HE := Lib.hid he
        have hq : (l[i].1 == k) = false := by rw [beq_eq_false_iff_ne]; exact he
        clear he
        go_wp2
        go_round
        case rel =>
          refine ⟨i + 1, by omega, by go_num, ?_⟩
          intro j hj hji
          by_cases e : j = i
          · subst e; exact HE.out
          · exact hH.out j hj (by omega)
        case measure => simp [intOf]; omega
    · have HF := Lib.hid (fnd_none l k fun j hj => hH.out j hj (by omega))
      obtain rfl : i = l.length := by omega
      go_wp2
      go_ret2
      exact ⟨by rw [HF.out]; rfl, rfl⟩

def l40 (t : TR) : Nat := t.key.length + t.was.length + t.now.length
def n40 (l : List TR) : Nat := (l.map l40).sum
def long40 (l : List TR) : Bool := decide (60 < l.length) || decide (4000 < n40 (l.take 100))
theorem n40_take (l : List TR) (k : Nat) (h : k < l.length) : n40 (l.take (k + 1)) = n40 (l.take k) + l40 l[k] := by
  unfold n40
  rw [List.take_succ_eq_append_getElem h, List.map_append, List.sum_append]
  simp
theorem long40_le (l : List TR) (h : long40 l = false) : l.length ≤ 60 := by
  simp [long40] at h
  exact h.1
theorem n40_int (x : Nat) (t : TR) : ((x : Int) + (t.key.length : Int) + (t.was.length : Int) + (t.now.length : Int)) = ((x + l40 t : Nat) : Int) := by unfold l40; omega
theorem b40 {x k n : Nat} (h : x ≤ k * 422212465065984) (hn : n ≤ 422212465065984) : x + n ≤ (k + 1) * 422212465065984 := by omega
theorem b40i {x k a b c : Nat} (h : x ≤ k * 422212465065984) (hk : k ≤ 100) (ha : a ≤ 140737488355328) (hb : b ≤ 140737488355328) (hc : c ≤ 140737488355328) : (x : Int) + a < 9223372036854775807 ∧ (x : Int) + a + b < 9223372036854775807 ∧ (x : Int) + a + b + c < 9223372036854775807 := by omega
set_option maxRecDepth 100000 in
set_option maxHeartbeats 2000000 in
theorem long40_any (v : Value) (r : List TR) (w : World) (hr : recT.Row w v r) (hl : r.length ≤ 140737488355328) (hm : ∀ p ∈ r, p.key.length ≤ 140737488355328 ∧ p.was.length ≤ 140737488355328 ∧ p.now.length ≤ 140737488355328) :
    Calls Try.prog 10 #[v] w fun e w' => e = .returned (.bool (long40 r)) ∧ Below w.heap.size w w' := by
  obtain ⟨a, cap, rfl, _, hc⟩ := recT_open hr
  have HC := Lib.hid hc
  have HM := Lib.hid hm
  clear hc hm hr
  go_enter Try.func10, Try.ntmps10
  go_wp2
  go_loopw [3, 4] (fun n i wr => ∃ k x : Nat, k ≤ r.length ∧ k ≤ 100 ∧ i = .int .i64 (k : Int) ∧ n = .int .i64 (x : Int) ∧ Hid (x ≤ k * 422212465065984) ∧ Hid (x = n40 (r.take k)) ∧ Hid (Below w.heap.size w wr)) (fun _ i _ => 100 - (intOf i).toNat)
  case atStart => exact ⟨0, 0, by omega, by omega, rfl, rfl, by simp [Hid], rfl, Below.refl _ _⟩
  case round =>
    obtain ⟨k, x, hk, hk2, rfl, rfl, hx, hH, HB⟩ := hrel
    by_cases h0 : k < r.length ∧ k < 100
    · obtain ⟨h1, h2⟩ := h0
      obtain ⟨b1, o1, rfl, d1, d2, d3, _, _⟩ := HC.out k h1
      replace d1 := Below.keeps HB.out d1
      replace d2 := Below.keeps HB.out d2
      replace d3 := Below.keeps HB.out d3
      obtain ⟨m1, m2, m3⟩ := HM.out r[k] (List.getElem_mem h1)
      have HS := Lib.hid (n40_take r k h1)
      obtain ⟨q1, q2, q3⟩ := b40i hx.out hk2 m1 m2 m3
      have hbn := Lib.hid (b40 hx.out (show l40 r[k] ≤ 422212465065984 by unfold l40; omega))
      have kk0 : (0 : Int) ≤ (k : Int) := by omega
      have kk1 : (k : Int) < (r.length : Int) := by omega
      have kk2 : (k : Int) < 100 := by omega
      go_wp2
      go_quiet (fail)
      go_wp2
      refine ⟨⟨k + 1, x + l40 r[k], h1, h2, by go_num, v_int (n40_int x r[k]), hbn.out, ?_, bt HB.out (Below.drewN' _ _)⟩, by simp [intOf]; omega⟩
      unfold Hid
      rw [HS.out, hH.out]
    · have hfin : n40 (r.take k) = n40 (r.take 100) := by
        by_cases h1 : k < r.length
        · rw [show k = 100 by omega]
        · rw [List.take_of_length_le (by omega), List.take_of_length_le (by omega)]
      have HX := Lib.hid (show x = n40 (r.take 100) by rw [← hfin]; exact hH.out)
      clear hfin hH
      have HLG := Lib.hid (show long40 r = (decide (60 < r.length) || decide (4000 < x)) by rw [HX.out]; rfl)
      by_cases h4 : 60 < r.length
      · have c3 : (60 : Int) < (r.length : Int) := by omega
        have HL := Lib.hid (show long40 r = true by rw [HLG.out]; simp [h4])
        by_cases h1 : k < r.length
        · have c1 : (k : Int) < (r.length : Int) := by omega
          have c2 : ¬ (k : Int) < 100 := by omega
          clear h0
          go_wp2
          go_ret
          exact ⟨by rw [HL.out]; rfl, HB.out⟩
        · have c1 : ¬ (k : Int) < (r.length : Int) := by omega
          clear h0
          go_wp2
          go_ret
          exact ⟨by rw [HL.out]; rfl, HB.out⟩
      · have c1 : ¬ (k : Int) < (r.length : Int) := by omega
        have c3 : ¬ (60 : Int) < (r.length : Int) := by omega
        clear h0
        by_cases h5 : 4000 < x
        · have c4 : (4000 : Int) < (x : Int) := by omega
          have HL := Lib.hid (show long40 r = true by rw [HLG.out]; simp [h5])
          go_wp2
          go_ret
          exact ⟨by rw [HL.out]; rfl, HB.out⟩
        · have c4 : ¬ (4000 : Int) < (x : Int) := by omega
          have HL := Lib.hid (show long40 r = false by rw [HLG.out]; simp [h4, h5])
          go_wp2
          go_ret
          exact ⟨by rw [HL.out]; rfl, HB.out⟩
end Go.Proofs.Ytahmacnmphjhgaa
