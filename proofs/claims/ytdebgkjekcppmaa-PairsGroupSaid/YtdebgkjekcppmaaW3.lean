/- Walks of package octet: Get. -/
import Derived.Test.YtdebgkjekcppmaaW2
namespace Go.Proofs.Ytdebgkjekcppmaa
open Go.RowKit Oct

theorem get_no (l : List UInt8) (h : l.length < 1 ∨ 8 < l.length) : getS l = (0, 2) := by unfold getS; rw [if_neg (by omega)]
theorem get_ok (l : List UInt8) (h : 1 ≤ l.length) (h' : l.length ≤ 8) : getS l = ((val l : Int), 0) := by unfold getS; rw [if_pos (by omega)]
theorem len_data (s : ByteArray) : s.data.toList.length = s.size := by simp

set_option maxRecDepth 100000 in
set_option maxHeartbeats 400000 in
theorem Get_any (s : ByteArray) (w : World) (hs : s.size ≤ maxLen) :
    Calls Try.prog 70 #[.string s] w fun e w' => e = .returned (.tuple #[.int .u64 (getS s.data.toList).1, .int .i64 (getS s.data.toList).2]) ∧ w = w' := by
  unfold maxLen at hs
  have hl := len_data s
  by_cases h1 : s.size < 1 ∨ 8 < s.size
  · rw [get_no s.data.toList (by omega)]
    clear hl
    rcases h1 with h1 | h1
    all_goals
      go_enter Try.func70, Try.ntmps70
      go_wp2
      go_ret2
      exact ⟨rfl, rfl⟩
  · rw [get_ok s.data.toList (by omega) (by omega)]
    go_enter Try.func70, Try.ntmps70
    go_wp2
    go_loop [2, 15] (fun v i => ∃ k x : Nat, k ≤ s.size ∧ i = .int .i64 k ∧ v = .int .u64 x ∧ x < 256 ^ k ∧ Hid (x = val (s.data.toList.take k))) (fun _ i => s.size - (intOf i).toNat)
    case atStart => exact ⟨0, 0, by omega, rfl, rfl, by decide, rfl⟩
    case round =>
      obtain ⟨k, x, hk, rfl, rfl, hx, hH⟩ := hrel
      by_cases h0 : k < s.size
      · have hp : 256 ^ k ≤ 256 ^ 7 := Nat.pow_le_pow_right (by decide) (by omega)
        have hp0 : 0 < 256 ^ k := Nat.pow_pos (by decide)
        have hc := s[k].toNat_lt
        have hp8 : (2 : Nat) ^ (8 * k) = 256 ^ k := by rw [Nat.pow_mul]
        have hmul : s[k].toNat * 256 ^ k ≤ 255 * 256 ^ k := Nat.mul_le_mul_right _ (by omega)
        have E := or_hi x s[k].toNat (8 * k) (by omega) (by rw [hp8]; exact hx) (by rw [hp8]; omega)
        have V := val_take s.data.toList k (by omega)
        have e : (s.data.toList[k]'(by omega)) = s[k] := by simp; rfl
        rw [e] at V
        rw [hp8] at E
        have E := Lib.hid E
        have V := Lib.hid V
        have hx2 : Hid (x + s[k].toNat * 256 ^ k < 256 ^ (k + 1)) := by show _ < _; rw [Nat.pow_succ]; omega
        clear hp hp0 hp8 hmul hc
        rename_i E1 V1; clear E1 V1
        go_wp2
        go_round
        case rel => exact ⟨k + 1, x + s[k].toNat * 256 ^ k, by omega, by go_num, v_int E.out, hx2.out, by show _ = _; rw [V.out, hH.out]⟩
        case measure => simp [intOf]; omega
      · obtain rfl : k = s.size := by omega
        go_wp2
        go_ret2
        have hh : x = val s.data.toList := by rw [hH.out, List.take_of_length_le (by omega)]
        subst hh
        exact ⟨rfl, rfl⟩
end Go.Proofs.Ytdebgkjekcppmaa
