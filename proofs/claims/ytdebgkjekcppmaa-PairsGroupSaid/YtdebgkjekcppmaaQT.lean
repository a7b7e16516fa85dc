/- Plain laws: what was put as a row of pairs is got, what is got is put as it stood. -/
import Derived.Test.YtdebgkjekcppmaaQS
namespace Go.Proofs.Ytdebgkjekcppmaa
open Go.RowKit Oct

theorem tx_length (r : List PR) : (tx r).length = 2 * r.length := by
  induction r with
  | nil => rfl
  | cons p r ih => simp only [tx, List.length_cons, ih]; omega
theorem readPs_texts : ∀ (k : Nat) (l : List UInt8) (r : List PR), readPs k l = some r → readTexts (2 * k) l = some (tx r) ∧ r.length = k
  | 0, l, r, h => by
    rw [readPs] at h
    split at h
    · rename_i hl
      simp at h; subst h; subst hl; exact ⟨rfl, rfl⟩
    · simp at h
  | k + 1, l, r, h => by
    by_cases ho : pok l
    · rw [readPs_ok k l ho] at h
      obtain ⟨r', h1, rfl⟩ := Option.map_eq_some_iff.1 h
      obtain ⟨e1, e2⟩ := readPs_texts k _ r' h1
      refine ⟨?_, by simp [e2]⟩
      rw [show 2 * (k + 1) = (2 * k + 1) + 1 by omega, readTexts_ok _ _ ho.1]
      have h2 := ho.2
      unfold rest1 at h2
      rw [readTexts_ok _ _ h2, List.drop_drop]
      unfold plen rest1 at e1
      rw [e1]
      rfl
    · rw [readPs_no k l ho] at h; simp at h
theorem readTexts_cons {k : Nat} {l x : List UInt8} {q : List (List UInt8)} (h : readTexts (k + 1) l = some (x :: q)) : (readT l).2.2 = 0 ∧ (readT l).1 = x ∧ readTexts k (l.drop (readT l).2.1) = some q := by
  by_cases ho : (readT l).2.2 = 0
  · rw [readTexts_ok k l ho] at h
    obtain ⟨q', h1, h2⟩ := Option.map_eq_some_iff.1 h
    injection h2 with h2 h3
    subst h3
    exact ⟨ho, h2, h1⟩
  · rw [readTexts_no k l ho] at h; simp at h
theorem readPs_of : ∀ (r : List PR) (l : List UInt8), readTexts (2 * r.length) l = some (tx r) → readPs r.length l = some r
  | [], l, h => by
    simp only [List.length_nil, Nat.mul_zero, readTexts] at h
    split at h
    · rename_i hl; simp [readPs, hl]
    · simp at h
  | p :: r, l, h => by
    rw [List.length_cons, show 2 * (r.length + 1) = (2 * r.length + 1) + 1 by omega, tx] at h
    obtain ⟨a1, a2, a3⟩ := readTexts_cons h
    obtain ⟨b1, b2, b3⟩ := readTexts_cons a3
    have ho : pok l := ⟨a1, b1⟩
    rw [List.drop_drop] at b3
    rw [List.length_cons, readPs_ok _ _ ho]
    unfold plen rest1
    rw [readPs_of r _ b3]
    unfold pnow rest1
    rw [a2, b2]
    rfl
theorem getP_cases (l : List UInt8) (q : List PR) (h : getP l = some q) : ¬ l.length < 2 ∧ readPs (val (l.take 2)) (l.drop 2) = some q ∧ sorted q = true := by
  unfold getP at h
  split at h
  · simp at h
  · rename_i h0
    obtain ⟨r, h1, h2⟩ := Option.bind_eq_some_iff.1 h
    split at h2
    · rename_i hs
      simp at h2; subst h2
      exact ⟨h0, h1, hs⟩
    · simp at h2
theorem getP_length (l : List UInt8) (q : List PR) (h : getP l = some q) : q.length ≤ 65535 := by
  obtain ⟨_, h1, _⟩ := getP_cases l q h
  have := (readPs_texts _ _ _ h1).2
  have := val2_lt l
  omega
theorem putP_get (l : List UInt8) (q : List PR) (h : getP l = some q) : putP q = (l, 0) := by
  have hl := getP_length l q h
  obtain ⟨h0, h1, hs⟩ := getP_cases l q h
  obtain ⟨e1, e2⟩ := readPs_texts _ _ _ h1
  obtain ⟨f1, f2⟩ := readTexts_back _ _ _ e1
  rw [putP_ok q hl f1 hs, f2, e2]
  have e3 := num_val (l.take 2)
  rw [show (l.take 2).length = 2 by simp; omega] at e3
  rw [e3, List.take_append_drop]
theorem getP_put (b : List UInt8) (r : List PR) (h : putP r = (b, 0)) : getP b = some r := by
  unfold putP at h
  split at h
  · rename_i h1
    split at h
    · rename_i h2
      split at h
      · rename_i h3
        simp only [Prod.mk.injEq] at h
        obtain ⟨rfl, _⟩ := h
        have e1 : (num r.length 2 ++ texts (tx r)).take 2 = num r.length 2 := List.take_left' (num_length 2 _)
        have e2 : val (num r.length 2) = r.length := by rw [val_num]; omega
        have e3 : (num r.length 2 ++ texts (tx r)).drop 2 = texts (tx r) := List.drop_left' (num_length 2 _)
        have e4 := readTexts_texts (tx r) h2
        rw [tx_length] at e4
        have e5 := readPs_of r _ e4
        rw [getP_some _ (by simp) r (by rw [e1, e2, e3]; exact e5), if_pos h3]
      · simp at h
    · simp at h
  · simp at h
theorem putP_err (r : List PR) (h : (putP r).2 ≠ 0) : (putP r).2 = 5 ∨ (putP r).2 = 2 := by
  unfold putP at h ⊢
  repeat' split
  all_goals simp_all
theorem putP_len (r : List PR) (h : (putP r).1.length ≤ (texts (tx r)).length + 2 → False) : False := by
  apply h
  unfold putP
  repeat' split
  all_goals simp
  all_goals omega
end Go.Proofs.Ytdebgkjekcppmaa
