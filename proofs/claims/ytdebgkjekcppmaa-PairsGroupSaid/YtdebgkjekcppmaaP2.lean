/- Plain facts on short numbers. -/
import Derived.Test.YtdebgkjekcppmaaP1
namespace Go.Proofs.Ytdebgkjekcppmaa.Oct

/-- seven bits a byte, the lowest first -/
def val7 : List UInt8 → Nat
  | [] => 0
  | c :: l => c.toNat % 128 + 128 * val7 l

theorem val7_lt : ∀ l : List UInt8, val7 l < 128 ^ l.length
  | [] => by simp [val7]
  | c :: l => by
    have := val7_lt l
    have hc := Nat.mod_lt c.toNat (show 0 < 128 by decide)
    simp only [val7, List.length_cons, Nat.pow_succ]
    omega
theorem val7_append : ∀ a b : List UInt8, val7 (a ++ b) = val7 a + 128 ^ a.length * val7 b
  | [], b => by simp [val7]
  | c :: a, b => by
    simp only [List.cons_append, val7, val7_append a b, List.length_cons, Nat.pow_succ]
    rw [Nat.mul_add, Nat.mul_comm (128 ^ a.length) 128, Nat.mul_assoc, Nat.add_assoc]

theorem ofNat_toNat (x : Nat) (h : x < 256) : (UInt8.ofNat x).toNat = x := by simp; omega
theorem add128_toNat (x : Nat) : (UInt8.ofNat (x % 128) + 128).toNat = x % 128 + 128 := by
  rw [UInt8.toNat_add]; simp; omega

theorem val7_shortF : ∀ (f v : Nat), v < 128 ^ f → val7 (shortF f v) = v
  | 0, v, h => by simp at h; simp [shortF, val7, h]
  | f + 1, v, h => by
    by_cases hv : v < 128
    · rw [shortF_lt _ _ hv]; simp [val7]; omega
    · rw [shortF_ge _ _ (by omega)]
      have := val7_shortF f (v / 128) (by rw [Nat.pow_succ] at h; omega)
      rw [val7, this, add128_toNat]; omega

/-- the form of a short number's bytes -/
def wf7 : List UInt8 → Bool
  | [] => false
  | [c] => decide (c.toNat < 128)
  | [c, d] => decide (128 ≤ c.toNat) && decide (0 < d.toNat) && decide (d.toNat < 128)
  | c :: d :: e :: l => decide (128 ≤ c.toNat) && wf7 (d :: e :: l)

theorem wf7_cons (c : UInt8) (l : List UInt8) : wf7 (c :: l) = if l = [] then decide (c.toNat < 128) else decide (128 ≤ c.toNat) && wf7 l && !(l == [0]) := by
  match l with
  | [] => rfl
  | [d] =>
    simp only [wf7, reduceCtorEq, if_false]
    have : (([d] : List UInt8) == [0]) = decide (d.toNat = 0) := by
      rw [Bool.eq_iff_iff]; simp [← UInt8.toNat_inj]
    rw [this]
    by_cases h : d.toNat = 0 <;> by_cases h2 : d.toNat < 128 <;> simp [h, h2] <;> omega
  | d :: e :: l =>
    simp only [wf7, reduceCtorEq, if_false]
    have : ((d :: e :: l : List UInt8) == [0]) = false := by simp
    rw [this]; simp

theorem val7_pos : ∀ l : List UInt8, wf7 l = true → l ≠ [0] → 0 < val7 l
  | [], h, _ => by simp [wf7] at h
  | c :: l, h, h0 => by
    rw [wf7_cons] at h
    by_cases hl : l = []
    · subst hl
      simp at h
      have : c ≠ 0 := by rintro rfl; exact h0 rfl
      have : c.toNat ≠ 0 := fun e => this (by rw [← UInt8.toNat_inj]; simpa using e)
      simp [val7]; omega
    · simp [hl] at h
      have := val7_pos l h.1.2 h.2
      simp [val7]; omega

theorem shortF_val7 : ∀ (l : List UInt8) (f : Nat), wf7 l = true → l.length ≤ f → shortF f (val7 l) = l
  | [], _, h, _ => by simp [wf7] at h
  | c :: l, f, h, hf => by
    obtain ⟨f, rfl⟩ : ∃ f', f = f' + 1 := ⟨f - 1, by simp at hf; omega⟩
    rw [wf7_cons] at h
    by_cases hl : l = []
    · subst hl
      simp at h
      have hv : val7 [c] = c.toNat := by simp [val7]; omega
      rw [hv, shortF_lt _ _ h]; simp
    · simp [hl] at h
      have hp := val7_pos l h.1.2 h.2
      have hc := c.toNat_lt
      have e1 : (c.toNat % 128 + 128 * val7 l) / 128 = val7 l := by omega
      have e2 : (c.toNat % 128 + 128 * val7 l) % 128 = c.toNat - 128 := by omega
      have e3 : UInt8.ofNat (c.toNat - 128) + 128 = c := by
        rw [← UInt8.toNat_inj, UInt8.toNat_add]
        simp; omega
      rw [val7, shortF_ge _ _ (by omega), e1, e2, shortF_val7 l f h.1.2 (by simp at hf; omega), e3]

theorem wf7_shortF : ∀ (f v : Nat), v < 128 ^ (f + 1) → wf7 (shortF (f + 1) v) = true
  | f, v, h => by
    by_cases hv : v < 128
    · rw [shortF_lt _ _ hv, wf7, ofNat_toNat _ (by omega)]; exact decide_eq_true hv
    · match f with
      | 0 => rw [Nat.zero_add, Nat.pow_one] at h; omega
      | f + 1 =>
        have h2 := wf7_shortF f (v / 128) (by rw [Nat.pow_succ] at h; omega)
        rw [shortF_ge _ _ (by omega), wf7_cons]
        have hne : shortF (f + 1) (v / 128) ≠ [] := by intro e; rw [e] at h2; simp [wf7] at h2
        have hz : shortF (f + 1) (v / 128) ≠ [0] := by
          intro e
          have := val7_shortF (f + 1) (v / 128) (by rw [Nat.pow_succ] at h; omega)
          rw [e] at this; simp [val7] at this; omega
        have h128 : 128 ≤ (UInt8.ofNat (v % 128) + 128).toNat := by rw [add128_toNat]; omega
        simp only [hne, if_false, h2, hz, h128]; simp [hz]

/-- the end of ReadShort: k bytes ahead, that come to a; c is the next -/
def rsFin (k a : Nat) (c : UInt8) : Nat × Nat × Int :=
  if 0 < k ∧ c.toNat = 0 then (0, 0, 7) else if k = 9 ∧ 1 < c.toNat then (0, 0, 7) else (a + c.toNat * 128 ^ k, k + 1, 0)
def rsF : Nat → Nat → List UInt8 → Nat × Nat × Int
  | _, _, [] => (0, 0, 6)
  | k, a, c :: l => if 128 ≤ c.toNat ∧ k < 9 then rsF (k + 1) (a + c.toNat % 128 * 128 ^ k) l else rsFin k a c
/-- ReadShort -/
def readShort (l : List UInt8) : Nat × Nat × Int := rsF 0 0 l

/-- how many bytes at the head are 128 or more -/
def lead : List UInt8 → Nat
  | [] => 0
  | c :: l => if 128 ≤ c.toNat then lead l + 1 else 0
theorem lead_le : ∀ l, lead l ≤ l.length
  | [] => by simp [lead]
  | c :: l => by have := lead_le l; simp only [lead]; split <;> simp <;> omega

theorem rsF_end : ∀ (l : List UInt8) (k a : Nat), lead l = l.length → k + l.length ≤ 9 → rsF k a l = (0, 0, 6)
  | [], _, _, _, _ => rfl
  | c :: l, k, a, h, hk => by
    simp only [lead] at h
    split at h
    · rename_i hc
      simp at h hk
      rw [rsF, if_pos ⟨hc, by omega⟩, rsF_end l _ _ h (by omega)]
    · simp at h
theorem rsF_step : ∀ (l : List UInt8) (k a n : Nat) (h : n < l.length), n ≤ lead l → k + n ≤ 9 → rsF k a l = rsF (k + n) (a + 128 ^ k * val7 (l.take n)) (l.drop n)
  | l, k, a, 0, _, _, _ => by simp [val7]
  | [], _, _, n + 1, h, _, _ => by simp at h
  | c :: l, k, a, n + 1, h, hl, hk => by
    simp only [lead] at hl
    split at hl
    · rename_i hc
      simp at h
      rw [rsF, if_pos ⟨hc, by omega⟩, rsF_step l (k + 1) _ n h (by omega) (by omega)]
      have e : k + (n + 1) = k + 1 + n := by omega
      simp only [List.take_succ_cons, List.drop_succ_cons, val7, Nat.pow_succ, e]
      congr 1
      rw [Nat.mul_add, Nat.add_assoc, Nat.mul_comm (c.toNat % 128), Nat.mul_assoc]
    · omega
theorem lead_not : ∀ (l : List UInt8) (h : lead l < l.length), (l[lead l]'h).toNat < 128
  | [], h => by simp at h
  | c :: l, h => by
    by_cases hc : 128 ≤ c.toNat
    · have e : lead (c :: l) = lead l + 1 := by simp [lead, hc]
      simp only [e, List.getElem_cons_succ]
      exact lead_not l _
    · have e : lead (c :: l) = 0 := by simp [lead, hc]
      simp only [e, List.getElem_cons_zero]; omega
theorem lead_yes : ∀ (l : List UInt8) (i : Nat) (h : i < l.length), i < lead l → 128 ≤ (l[i]'h).toNat
  | [], _, h, _ => by simp at h
  | c :: l, i, h, hi => by
    simp only [lead] at hi
    split at hi
    · rename_i hc
      cases i with
      | zero => exact hc
      | succ i => exact lead_yes l i _ (by omega)
    · omega

theorem readShort_end (l : List UInt8) (h : lead l = l.length) (h9 : l.length ≤ 9) : readShort l = (0, 0, 6) := rsF_end l 0 0 h (by omega)
theorem readShort_big (l : List UInt8) (h : 10 ≤ lead l) : readShort l = (0, 0, 7) := by
  have hle := lead_le l
  have hc := lead_yes l 9 (by omega) (by omega)
  rw [readShort, rsF_step l 0 0 9 (by omega) (by omega) (by omega), List.drop_eq_getElem_cons (by omega), rsF, if_neg (by omega), rsFin, if_neg (by omega), if_pos (by omega)]
theorem readShort_mid (l : List UInt8) (h : lead l < l.length) (h9 : lead l ≤ 9) : readShort l = rsFin (lead l) (val7 (l.take (lead l))) l[lead l] := by
  have hc := lead_not l h
  rw [readShort, rsF_step l 0 0 (lead l) h (Nat.le_refl _) (by omega), List.drop_eq_getElem_cons h, rsF, if_neg (by omega)]
  simp

theorem wf7_mid : ∀ (l : List UInt8) (n : Nat) (h : n < l.length), (∀ i (hi : i < n), 128 ≤ (l[i]'(by omega)).toNat) → (l[n]'h).toNat < 128 → wf7 (l.take (n + 1)) = (decide (n = 0) || decide (0 < (l[n]'h).toNat))
  | [], _, h, _, _ => by simp at h
  | c :: l, 0, h, _, hc => by simp at hc; simp [wf7, hc]
  | c :: l, n + 1, h, ha, hc => by
    have h0 := ha 0 (by omega)
    simp at h0 h hc
    have ih := wf7_mid l n h (fun i hi => by have := ha (i + 1) (by omega); simpa using this) hc
    rw [List.take_succ_cons, wf7_cons, ih]
    have hne : l.take (n + 1) ≠ [] := by intro e; have := congrArg List.length e; simp at this; subst this; simp at h
    simp only [hne, if_false, h0, decide_true, Bool.true_and, List.getElem_cons_succ]
    by_cases hn : n = 0
    · subst hn
      cases l with
      | nil => simp at h
      | cons d l =>
        have e : (List.take (0 + 1) (d :: l) == [0]) = decide (d.toNat = 0) := by rw [Bool.eq_iff_iff]; simp [← UInt8.toNat_inj]
        rw [e]
        by_cases hd : d.toNat = 0 <;> simp [hd]; omega
    · have : (l.take (n + 1) == [0]) = false := by
        rw [beq_eq_false_iff_ne]; intro e; have := congrArg List.length e; simp at this; omega
      simp [this, hn]

/-- what the reference asks: is the short form of the number these bytes? -/
theorem readShort_ref (l : List UInt8) (h : lead l < l.length) (h9 : lead l ≤ 9) :
    readShort l = if short (val7 (l.take (lead l + 1)) % 18446744073709551616) = l.take (lead l + 1) then (val7 (l.take (lead l + 1)) % 18446744073709551616, lead l + 1, 0) else (0, 0, 7) := by
  have hc := lead_not l h
  have hw := wf7_mid l (lead l) h (fun i hi => lead_yes l i (by omega) hi) hc
  have hlen : (l.take (lead l + 1)).length = lead l + 1 := by simp; omega
  have hv : val7 (l.take (lead l + 1)) = val7 (l.take (lead l)) + l[lead l].toNat * 128 ^ lead l := by
    rw [List.take_succ_eq_append_getElem h, val7_append]
    have : (l.take (lead l)).length = lead l := by simp; omega
    rw [this]
    simp [val7, Nat.mul_comm, Nat.mod_eq_of_lt hc]
  rw [readShort_mid l h h9, rsFin]
  generalize hn : lead l = n at *
  generalize hd : (l[n]'h) = c at *
  generalize ht : l.take (n + 1) = t at *
  have hlt : val7 (l.take n) < 128 ^ n := by
    have := val7_lt (l.take n)
    rwa [show (l.take n).length = n by simp; omega] at this
  have hp : 128 ^ n ≤ 128 ^ 9 := Nat.pow_le_pow_right (by decide) h9
  by_cases h1 : 0 < n ∧ c.toNat = 0
  · rw [if_pos h1, if_neg]
    intro e
    have : wf7 t = true := by rw [← e]; exact wf7_shortF 9 _ (by omega)
    rw [hw] at this
    simp at this; omega
  · rw [if_neg h1]
    have hwt : wf7 t = true := by rw [hw]; simp; omega
    by_cases h2 : n = 9 ∧ 1 < c.toNat
    · rw [if_pos h2, if_neg]
      intro e
      have e2 := val7_shortF 10 (val7 t % 18446744073709551616) (by omega)
      rw [short] at e
      rw [e] at e2
      obtain ⟨rfl, h3⟩ := h2
      omega
    · rw [if_neg h2]
      have hsmall : val7 t < 18446744073709551616 := by
        rw [hv]
        by_cases h3 : n = 9
        · subst h3
          have : c.toNat ≤ 1 := by omega
          have := Nat.mul_le_mul_right (128 ^ 9) this
          omega
        · have hp8 : 128 ^ n ≤ 128 ^ 8 := Nat.pow_le_pow_right (by decide) (by omega)
          have := Nat.mul_le_mul (show c.toNat ≤ 127 by omega) hp8
          omega
      rw [Nat.mod_eq_of_lt hsmall, short, shortF_val7 t 10 hwt (by omega), if_pos rfl, hv]
end Go.Proofs.Ytdebgkjekcppmaa.Oct
