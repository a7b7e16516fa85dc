/- Plain law of OctetBack: what was put is got, what is got is put as it stood. -/
import Derived.Test.YtdfppopmephaaaaP3
namespace Go.Proofs.Ytdfppopmephaaaa.Oct

theorem put_back (v n : Int) (h0 : 0 ≤ v) (l : List UInt8) (h : putS v n = (l, 0)) : getS l = (v, 0) ∧ (l.length : Int) = n := by
  unfold putS at h
  split at h
  · rename_i hp
    simp only [putOk, decide_eq_true_eq] at hp
    simp only [Prod.mk.injEq] at h
    obtain ⟨rfl, _⟩ := h
    have hl := num_length n.toNat v.toNat
    refine ⟨?_, by omega⟩
    rw [getS, if_pos (by omega), val_num, Nat.mod_eq_of_lt hp.2.2]
    congr 1; omega
  · simp at h
theorem get_back (l : List UInt8) (x : Int) (h : getS l = (x, 0)) : 0 ≤ x ∧ x < 18446744073709551616 ∧ putS x l.length = (l, 0) := by
  unfold getS at h
  split at h
  · rename_i hl
    simp only [Prod.mk.injEq] at h
    obtain ⟨rfl, _⟩ := h
    have h8 := val_lt8 l hl.2
    refine ⟨by omega, by omega, ?_⟩
    have hv := val_lt l
    have : putOk (val l : Int) (l.length : Int) = true := by
      simp only [putOk, decide_eq_true_eq]
      refine ⟨by omega, by omega, ?_⟩
      simpa using hv
    rw [putS, if_pos this]
    simp [num_val]
  · simp at h
theorem shortF_length : ∀ f v : Nat, (shortF f v).length ≤ f
  | 0, _ => by simp [shortF]
  | f + 1, v => by
    have := shortF_length f (v / 128)
    unfold shortF
    split
    · simp
    · simp; omega
theorem lead_wf7 (s : List UInt8) : ∀ l : List UInt8, wf7 l = true → lead (l ++ s) + 1 = l.length
  | [], h => by simp [wf7] at h
  | c :: l, h => by
    rw [wf7_cons] at h
    by_cases hl : l = []
    · subst hl
      simp only [if_true, decide_eq_true_eq] at h
      have hc : ¬ 128 ≤ c.toNat := by omega
      simp [lead, hc]
    · simp only [hl, if_false, Bool.and_eq_true, decide_eq_true_eq] at h
      have := lead_wf7 s l h.1.2
      simp only [List.cons_append, lead, h.1.1, if_true, List.length_cons]
      omega
theorem readShort_short (v : Nat) (hv : v < 18446744073709551616) (s : List UInt8) : readShort (short v ++ s) = (v, (short v).length, 0) := by
  have hw : wf7 (short v) = true := wf7_shortF 9 v (by omega)
  have hl := shortF_length 10 v
  have h1 := lead_wf7 s (short v) hw
  have e1 : (short v ++ s).take (lead (short v ++ s) + 1) = short v := by rw [h1, List.take_left' rfl]
  have e2 : val7 (short v) = v := val7_shortF 10 v (by omega)
  have hlen : lead (short v ++ s) < (short v ++ s).length := by simp; omega
  rw [short] at h1 ⊢
  rw [short] at e1 e2 hlen
  rw [readShort_ref _ hlen (by omega), e1, e2, Nat.mod_eq_of_lt hv, short, if_pos rfl, h1]
theorem readShort_back (l : List UInt8) (z m : Nat) (h : readShort l = (z, m, 0)) : 1 ≤ m ∧ m ≤ l.length ∧ z < 18446744073709551616 ∧ short z = l.take m := by
  have hle := lead_le l
  by_cases h1 : 10 ≤ lead l
  · rw [readShort_big l h1] at h; simp at h
  · by_cases h2 : lead l = l.length
    · rw [readShort_end l h2 (by omega)] at h; simp at h
    · rw [readShort_ref l (by omega) (by omega)] at h
      split at h
      · rename_i hs
        simp only [Prod.mk.injEq] at h
        obtain ⟨rfl, rfl, _⟩ := h
        exact ⟨by omega, by omega, Nat.mod_lt _ (by decide), hs⟩
      · simp at h
theorem text_back (s c t : List UInt8) (h : text s = (c, 0)) : readT (c ++ t) = (s, c.length, 0) ∧ c.length = 2 + s.length := by
  unfold text at h
  split at h
  · rename_i hl
    simp only [Prod.mk.injEq] at h
    obtain ⟨rfl, _⟩ := h
    have hlen : (num s.length 2 ++ s).length = 2 + s.length := by simp
    rw [readT_text s t hl, hlen]
    exact ⟨rfl, rfl⟩
  · simp at h
end Go.Proofs.Ytdfppopmephaaaa.Oct
