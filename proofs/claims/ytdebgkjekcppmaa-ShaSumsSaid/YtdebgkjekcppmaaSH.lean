/- What was told in digits is read back, and what is read is told as it stood. -/
import Derived.Test.YtdebgkjekcppmaaS7
namespace Go.Proofs.Ytdebgkjekcppmaa
open Go.RowKit Oct

theorem dig_hexd : ∀ n, n < 16 → dig (hexd n) = some n := by decide
theorem hexd_dig (c : UInt8) (n : Nat) (h : dig c = some n) : hexd n = c := by
  have k1 : ∀ n, n < 10 → hexd n = UInt8.ofNat (48 + n) := by decide
  have k2 : ∀ n, n < 16 → 10 ≤ n → hexd n = UInt8.ofNat (87 + n) := by decide
  unfold dig at h
  split at h
  · cases h
    rw [k1 _ (by omega), show 48 + (c.toNat - 48) = c.toNat by omega, UInt8.ofNat_toNat]
  · split at h
    · cases h
      rw [k2 _ (by omega) (by omega), show 87 + (c.toNat - 87) = c.toNat by omega, UInt8.ofNat_toNat]
    · cases h
theorem unhGo_hex (l : List UInt8) : ∀ acc, unhGo acc (hexF l) = some (acc ++ l) := by
  induction l with
  | nil => intro acc; simp [hexF, unhGo]
  | cons c l ih =>
    intro acc
    have hc := c.toNat_lt
    have e : hexF (c :: l) = hexd (c.toNat / 16) :: hexd (c.toNat % 16) :: hexF l := rfl
    rw [e, unhGo, dig_hexd _ (by omega), dig_hexd _ (by omega)]
    simp only []
    rw [ih, show 16 * (c.toNat / 16) + c.toNat % 16 = c.toNat by omega, UInt8.ofNat_toNat, List.append_assoc]
    rfl
theorem unhF_hex (l : List UInt8) : unhF (hexF l) = some l := by
  rw [unhF, if_neg (by rw [hexF_length]; omega), unhGo_hex]; rfl
theorem hexF_append (a b : List UInt8) : hexF (a ++ b) = hexF a ++ hexF b := by simp [hexF]
theorem hex_unhGo : ∀ (n : Nat) (t acc y : List UInt8), t.length ≤ n → unhGo acc t = some y → hexF y = hexF acc ++ t
  | _, [], acc, y, _, h => by simp only [unhGo, Option.some.injEq] at h; subst h; simp
  | _, [a], acc, y, _, h => by simp [unhGo] at h
  | 0, a :: b :: t, acc, y, hn, h => by simp at hn
  | n + 1, a :: b :: t, acc, y, hn, h => by
    rw [unhGo] at h
    cases ha : dig a with
    | none => rw [ha] at h; simp at h
    | some p =>
      cases hb : dig b with
      | none => rw [ha, hb] at h; simp at h
      | some q =>
        rw [ha, hb] at h
        have hp := dig_lt a p ha
        have hq := dig_lt b q hb
        have := hex_unhGo n t _ y (by simp at hn; omega) h
        have e : hexF [UInt8.ofNat (16 * p + q)] = [a, b] := by
          have e1 : (UInt8.ofNat (16 * p + q)).toNat = 16 * p + q := UInt8.toNat_ofNat_of_lt' (by show 16 * p + q < 256; omega)
          simp only [hexF, List.flatMap_cons, List.flatMap_nil, List.append_nil, e1]
          rw [show (16 * p + q) / 16 = p by omega, show (16 * p + q) % 16 = q by omega, hexd_dig a p ha, hexd_dig b q hb]
        rw [this, hexF_append, e, List.append_assoc]; rfl
theorem hex_unhF (t y : List UInt8) (h : unhF t = some y) : hexF y = t := by
  unfold unhF at h
  split at h
  · cases h
  · have := hex_unhGo t.length t [] y (Nat.le_refl _) h
    simpa [hexF] using this
end Go.Proofs.Ytdebgkjekcppmaa
