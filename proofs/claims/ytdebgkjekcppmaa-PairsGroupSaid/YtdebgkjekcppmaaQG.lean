/- Plain law of a sorted row's groups. -/
import Derived.Test.YtdebgkjekcppmaaQP
namespace Go.Proofs.Ytdebgkjekcppmaa
open Go.RowKit Oct

/-- how many pairs at the head have this key -/
def run1 (k : List UInt8) : List PR → Nat
  | [] => 0
  | p :: l => if p.1 = k then run1 k l + 1 else 0
theorem run1_le (k : List UInt8) : ∀ l, run1 k l ≤ l.length
  | [] => Nat.le_refl _
  | p :: l => by have := run1_le k l; unfold run1; split <;> simp; omega
/-- the first group's length -/
def head1 : List PR → Nat
  | [] => 0
  | p :: l => run1 p.1 l + 1
theorem head1_pos (l : List PR) (h : 0 < l.length) : 1 ≤ head1 l ∧ head1 l ≤ l.length := by
  cases l with
  | nil => simp at h
  | cons p l => have := run1_le p.1 l; simp only [head1, List.length_cons]; omega
theorem head1_in (l : List PR) (h : 0 < l.length) (k : Nat) (hk : k < head1 l) (hl : k < l.length) : l[k].1 = l[0].1 := by
  cases l with
  | nil => simp at h
  | cons p l =>
    have key : ∀ (l : List PR) (k : Nat) (hl : k < l.length), k < run1 p.1 l → l[k].1 = p.1 := by
      intro l
      induction l with
      | nil => intro k hl; simp at hl
      | cons q l ih =>
        intro k hl hk
        unfold run1 at hk
        split at hk
        · cases k with
          | zero => assumption
          | succ k => exact ih k (by simpa using hl) (by omega)
        · omega
    cases k with
    | zero => rfl
    | succ k => exact key l k (by simpa using hl) (by simpa [head1] using hk)
theorem head1_out (l : List PR) (h : 0 < l.length) (hl : head1 l < l.length) : l[head1 l].1 ≠ l[0].1 := by
  cases l with
  | nil => simp at h
  | cons p l =>
    have key : ∀ (l : List PR) (hl : run1 p.1 l < l.length), l[run1 p.1 l].1 ≠ p.1 := by
      intro l
      induction l with
      | nil => intro hl; simp at hl
      | cons q l ih =>
        intro hl
        by_cases hq : q.1 = p.1
        · have e : run1 p.1 (q :: l) = run1 p.1 l + 1 := if_pos hq
          simp only [e, List.getElem_cons_succ]
          exact ih (by rw [e] at hl; simpa using hl)
        · have e : run1 p.1 (q :: l) = 0 := if_neg hq
          simp only [e, List.getElem_cons_zero]
          exact hq
    simp only [head1, List.getElem_cons_succ, List.getElem_cons_zero]
    exact key l (by simpa [head1] using hl)
/-- it is the one number of its kind -/
theorem head1_eq (l : List PR) (h : 0 < l.length) (k : Nat) (h1 : 1 ≤ k) (hl : k ≤ l.length) (hin : ∀ j (hj : j < k), l[j].1 = l[0].1) (hout : ∀ (hk : k < l.length), l[k].1 ≠ l[0].1) : k = head1 l := by
  have hp := head1_pos l h
  rcases Nat.lt_trichotomy k (head1 l) with hlt | he | hgt
  · exact absurd (head1_in l h k hlt (by omega)) (hout (by omega))
  · exact he
  · exact absurd (hin (head1 l) hgt) (head1_out l h (by omega))
def grpF : Nat → List PR → List (List PR)
  | 0, _ => []
  | n + 1, l => if l.length = 0 then [] else l.take (head1 l) :: grpF n (l.drop (head1 l))
/-- the groups -/
def grp (l : List PR) : List (List PR) := grpF l.length l
theorem grpF_more : ∀ (n m : Nat) (l : List PR), l.length ≤ n → l.length ≤ m → grpF n l = grpF m l
  | 0, 0, _, _, _ => rfl
  | 0, m + 1, l, h, _ => by simp [grpF, show l.length = 0 by omega]
  | n + 1, 0, l, _, h => by simp [grpF, show l.length = 0 by omega]
  | n + 1, m + 1, l, h, h' => by
    unfold grpF
    split
    · rfl
    · have := head1_pos l (by omega)
      rw [grpF_more n m _ (by simp; omega) (by simp; omega)]
theorem grp_nil : grp [] = [] := rfl
theorem grp_step (l : List PR) (h : 0 < l.length) : grp l = l.take (head1 l) :: grp (l.drop (head1 l)) := by
  have hp := head1_pos l h
  obtain ⟨n, hn⟩ : ∃ n, l.length = n + 1 := ⟨l.length - 1, by omega⟩
  unfold grp
  rw [hn, grpF, if_neg (by omega)]
  congr 1
  exact grpF_more _ _ _ (by simp; omega) (by simp)
theorem grp_length_le : ∀ (n : Nat) (l : List PR), l.length ≤ n → (grp l).length ≤ l.length
  | 0, l, h => by
    have : l = [] := List.eq_nil_of_length_eq_zero (by omega)
    subst this; simp [grp_nil]
  | n + 1, l, h => by
    by_cases h0 : 0 < l.length
    · have hp := head1_pos l h0
      rw [grp_step l h0]
      have := grp_length_le n (l.drop (head1 l)) (by simp; omega)
      simp at this ⊢; omega
    · have : l = [] := List.eq_nil_of_length_eq_zero (by omega)
      subst this; simp [grp_nil]
theorem grp_flat : ∀ (n : Nat) (l : List PR), l.length ≤ n → (grp l).flatten = l
  | 0, l, h => by
    have : l = [] := List.eq_nil_of_length_eq_zero (by omega)
    subst this; rfl
  | n + 1, l, h => by
    by_cases h0 : 0 < l.length
    · have hp := head1_pos l h0
      rw [grp_step l h0, List.flatten_cons, grp_flat n _ (by simp; omega), List.take_append_drop]
    · have : l = [] := List.eq_nil_of_length_eq_zero (by omega)
      subst this; rfl
theorem grp_ne : ∀ (n : Nat) (l : List PR), l.length ≤ n → ∀ g ∈ grp l, 0 < g.length
  | 0, l, h => by
    have : l = [] := List.eq_nil_of_length_eq_zero (by omega)
    subst this; simp [grp_nil]
  | n + 1, l, h => by
    by_cases h0 : 0 < l.length
    · have hp := head1_pos l h0
      rw [grp_step l h0]
      intro g hg
      rcases List.mem_cons.1 hg with rfl | hg
      · simp; omega
      · exact grp_ne n _ (by simp; omega) g hg
    · have : l = [] := List.eq_nil_of_length_eq_zero (by omega)
      subst this; simp [grp_nil]
end Go.Proofs.Ytdebgkjekcppmaa
