/- Walks of package octet: Put, Get. -/
import Derived.Test.YtdebgkjekcppmaaW1
import Derived.Lib.Hide
import Derived.BigQuiet
import Derived.Deep.QuietTactic
namespace Go.Proofs.Ytdebgkjekcppmaa
open Go.RowKit Oct

theorem put_no (v n : Int) (h : n < 1 ∨ 8 < n) : putS v n = ([], 2) := by
  have : putOk v n = false := by unfold putOk; simp; omega
  simp [putS, this]
theorem pow28 (n : Nat) : (2 : Int) ^ (8 * n) = ((256 ^ n : Nat) : Int) := by rw [Int.pow_mul]; simp
theorem put_ok (v n : Int) (h : 1 ≤ n) (h' : n ≤ 8) (h3 : v.toNat < 256 ^ n.toNat) : putS v n = (num v.toNat n.toNat, 0) := by
  have : putOk v n = true := by unfold putOk; simp; omega
  simp [putS, this]
theorem put_big (v n : Int) (h3 : ¬ v.toNat < 256 ^ n.toNat) : putS v n = ([], 2) := by
  have : putOk v n = false := by unfold putOk; simp; omega
  simp [putS, this]
theorem put_ok' (v n : Int) (h : 1 ≤ n) (h' : n ≤ 8) (h0 : 0 ≤ v) (h3 : (v / 2 ^ (8 * n).toNat != 0) = false) : putS v n = (num v.toNat n.toNat, 0) := by
  refine put_ok v n h h' ?_
  obtain ⟨n, rfl⟩ := Int.eq_ofNat_of_zero_le (show 0 ≤ n by omega)
  obtain ⟨v, rfl⟩ := Int.eq_ofNat_of_zero_le h0
  have e : (8 * (n : Int)).toNat = 8 * n := by omega
  rw [e, pow28, bne_eq_false_iff_eq] at h3
  norm_cast at h3
  exact (Nat.div_eq_zero_iff_lt (Nat.pow_pos (by decide))).1 h3
theorem put_big' (v n : Int) (h : 1 ≤ n) (h0 : 0 ≤ v) (h3 : (v / 2 ^ (8 * n).toNat != 0) = true) : putS v n = ([], 2) := by
  refine put_big v n ?_
  obtain ⟨n, rfl⟩ := Int.eq_ofNat_of_zero_le (show 0 ≤ n by omega)
  obtain ⟨v, rfl⟩ := Int.eq_ofNat_of_zero_le h0
  have e : (8 * (n : Int)).toNat = 8 * n := by omega
  rw [e, pow28, bne_iff_ne] at h3
  intro h5
  apply h3
  norm_cast
  exact Nat.div_eq_of_lt h5

theorem t_put {p q : List UInt8 × Int} (h : p = q) : Ending.returned (.tuple #[.string (bs q.1), .int .i64 q.2]) = .returned (.tuple #[.string (bs p.1), .int .i64 p.2]) := by rw [h]

set_option maxRecDepth 100000 in
set_option maxHeartbeats 400000 in
theorem Put_any (v n : Int) (w : World) (h3 : 0 ≤ v) (h4 : v < 18446744073709551616) :
    Calls Try.prog 64 #[.int .u64 v, .int .i64 n] w fun e w' => e = .returned (.tuple #[.string (bs (putS v n).1), .int .i64 (putS v n).2]) ∧ Below w.heap.size w w' := by
  by_cases hn : n < 1 ∨ 8 < n
  · go_enter Try.func64, Try.ntmps64
    have hp := Hid.out (put_no v n hn)
    rw [put_no v n hn]
    rcases hn with hn | hn
    all_goals
      go_wp2
      go_ret2
      exact ⟨rfl, Below.refl _ _⟩
  · by_cases h8 : n = 8
    · subst h8
      rw [put_ok v 8 (by omega) (by omega) (by simp; omega)]
      go_enter Try.func64, Try.ntmps64
      go_wp2_with (go_at_call 93; refine (bytes_any _ _ _ (by omega) (by omega) h3 h4).mono ?_; rintro e w' ⟨rfl, hB⟩)
      go_ret2
      exact ⟨rfl, hB⟩
    · have hlo : 1 ≤ n := by omega
      have hhi : n ≤ 7 := by omega
      cases hv : (v / 2 ^ (8 * n).toNat != 0)
      · rw [put_ok' v n hlo (by omega) h3 hv]
        go_enter Try.func64, Try.ntmps64
        go_wp2_with (go_at_call 93; refine (bytes_any _ _ _ (by omega) (by omega) h3 h4).mono ?_; rintro e w' ⟨rfl, hB⟩)
        go_ret2
        exact ⟨rfl, hB⟩
      · rw [put_big' v n hlo h3 hv]
        go_enter Try.func64, Try.ntmps64
        go_wp2
        go_ret2
        exact ⟨rfl, Below.refl _ _⟩

end Go.Proofs.Ytdebgkjekcppmaa
