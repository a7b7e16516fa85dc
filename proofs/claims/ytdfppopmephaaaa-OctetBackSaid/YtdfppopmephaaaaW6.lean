/- Walks of package octet: ReadShort. -/
import Derived.Test.YtdfppopmephaaaaW5
namespace Go.Proofs.Ytdfppopmephaaaa
open Go.RowKit Oct

theorem and127 (c : UInt8) : bits .and .u8 (c.toNat : Int) 127 = ((c.toNat % 128 : Nat) : Int) := by
  have h := c.toNat_lt
  have := bits_mask .u8 8 (by decide) wraps_u8 7 (by decide) (c.toNat : Int) (by omega) (by omega)
  rw [show (127 : Int) = 2 ^ 7 - 1 from rfl, this]; rfl

theorem p7 (k : Nat) : (2 : Nat) ^ (7 * k) = 128 ^ k := by rw [Nat.pow_mul]
/-- one step -/
theorem or7 (a k : Nat) (c : Nat) (hk : k ≤ 9) (ha : a < 128 ^ k) (hc : c < 128) (h9 : k = 9 → c ≤ 1) :
    bits .or .u64 (a : Int) (IntKind.u64.wrap ((c : Int) * 2 ^ (7 * k))) = ((a + c * 128 ^ k : Nat) : Int) := by
  have h : c * 2 ^ (7 * k) < 18446744073709551616 := by
    rw [p7]
    by_cases h3 : k = 9
    · subst h3
      have := Nat.mul_le_mul_right (128 ^ 9) (h9 rfl)
      omega
    · have hp8 : 128 ^ k ≤ 128 ^ 8 := Nat.pow_le_pow_right (by decide) (by omega)
      have := Nat.mul_le_mul (show c ≤ 127 by omega) hp8
      omega
  have := or_hi a c (7 * k) (by omega) (by rw [p7]; exact ha) h
  rw [wrap_u64_nat c (by omega)] at this
  rw [this, p7]

theorem rs_next (s : ByteArray) (k a : Nat) (hk : k < s.size) (h : readShort s.data.toList = rsF k a (s.data.toList.drop k)) :
    readShort s.data.toList = if 128 ≤ s[k].toNat ∧ k < 9 then rsF (k + 1) (a + s[k].toNat % 128 * 128 ^ k) (s.data.toList.drop (k + 1)) else rsFin k a s[k] := by
  rw [h, List.drop_eq_getElem_cons (by simpa using hk), rsF, byte_data s k hk]

set_option maxRecDepth 100000 in
set_option maxHeartbeats 2000000 in
theorem ReadShort_any (s : ByteArray) (w : World) (hs : s.size ≤ maxLen) :
    Calls Try.prog 14 #[.string s] w fun e w' => e = .returned (rsV (readShort s.data.toList)) ∧ w = w' := by
  unfold maxLen at hs
  go_enter Try.func14, Try.ntmps14
  go_wp2
  all_goals
    go_loop [2, 10] (fun v i => ∃ k a : Nat, k ≤ s.size ∧ k ≤ 9 ∧ i = .int .i64 k ∧ v = .int .u64 a ∧ a < 128 ^ k ∧ Hid (readShort s.data.toList = rsF k a (s.data.toList.drop k))) (fun _ i => (10 - (intOf i).toNat))
    case atStart => exact ⟨0, 0, by omega, by omega, rfl, rfl, by decide, rfl⟩
    case round =>
      obtain ⟨k, a, hk, hk2, rfl, rfl, ha, hH⟩ := hrel
      by_cases h0 : k < s.size
      · have R := Lib.hid (rs_next s k a h0 hH.out)
        have hc := s[k].toNat_lt
        have HA := Lib.hid ha
        clear ha hH
        by_cases hA : 128 ≤ s[k].toNat ∧ k < 9
        · obtain ⟨hA1, hA2⟩ := hA
          have R2 := R.out
          rw [if_pos ⟨hA1, hA2⟩] at R2
          have RH := Lib.hid R2
          clear R2
          have hA3 : (128 : Int) ≤ (s[k].toNat : Int) := by omega
          have e1 := and127 s[k]
          have E := Lib.hid (or7 a k (s[k].toNat % 128) (by omega) HA.out (Nat.mod_lt _ (by decide)) (by omega))
          clear R
          go_wp2
          go_round
          case rel =>
            refine ⟨k + 1, _, by omega, by omega, by go_num, v_int E.out, ?_, RH.out⟩
            have h1 := Nat.mul_le_mul_right (128 ^ k) (show s[k].toNat % 128 ≤ 127 by omega)
            have h2 := HA.out
            rw [Nat.pow_succ]; omega
          case measure => simp [intOf]; omega
        · have R2 := R.out
          rw [if_neg hA] at R2
          have RH := Lib.hid R2
          clear R R2
          by_cases hk9 : k = 9
          · subst hk9
            by_cases hz : s[9].toNat = 0
            · have hz3 : ((s[9].toNat : Int) == 0) = true := beq_iff_eq.2 (by omega)
              have RR : Hid (readShort s.data.toList = (0, 0, 7)) := by show _ = _; rw [RH.out, rsFin, if_pos ⟨by omega, hz⟩]
              clear RH hz
              go_wp2
              all_goals
                go_ret3
                exact ⟨by rw [RR.out]; rfl, rfl⟩
            · have hz3 : ((s[9].toNat : Int) == 0) = false := beq_eq_false_iff_ne.2 (by omega)
              by_cases h1 : 1 < s[9].toNat
              · have h1' : (1 : Int) < (s[9].toNat : Int) := by omega
                have RR : Hid (readShort s.data.toList = (0, 0, 7)) := by show _ = _; rw [RH.out, rsFin, if_neg (by omega), if_pos ⟨rfl, h1⟩]
                clear RH hz
                go_wp2
                all_goals
                  go_ret3
                  exact ⟨by rw [RR.out]; rfl, rfl⟩
              · have RR : Hid (readShort s.data.toList = (a + s[9].toNat * 128 ^ 9, 9 + 1, 0)) := by show _ = _; rw [RH.out, rsFin, if_neg (by omega), if_neg (by omega)]
                have E2 := or7 a 9 s[9].toNat (by omega) HA.out (by omega) (by omega)
                rw [IntWalk.u64_in _ (by omega)] at E2
                have E := Lib.hid E2
                have h1' : (s[9].toNat : Int) < 128 := by omega
                have h1'' : (s[9].toNat : Int) ≤ 1 := by omega
                clear E2 RH hz
                go_wp2
                all_goals
                  go_ret3
                  exact ⟨by rw [RR.out, rsV_mk, ← E.out]; rfl, rfl⟩
          · have hA1 : (s[k].toNat : Int) < 128 := by omega
            have hk8 : k < 9 := by omega
            by_cases hz : 0 < k ∧ s[k].toNat = 0
            · obtain ⟨hz1, hz2⟩ := hz
              have hz3 : ((s[k].toNat : Int) == 0) = true := beq_iff_eq.2 (by omega)
              have RR : Hid (readShort s.data.toList = (0, 0, 7)) := by show _ = _; rw [RH.out, rsFin, if_pos ⟨hz1, hz2⟩]
              clear RH hz2
              go_wp2
              go_ret3
              exact ⟨by rw [RR.out]; rfl, rfl⟩
            · have RR : Hid (readShort s.data.toList = (a + s[k].toNat * 128 ^ k, k + 1, 0)) := by show _ = _; rw [RH.out, rsFin, if_neg hz, if_neg (by omega)]
              have E2 := or7 a k s[k].toNat (by omega) HA.out (by omega) (by omega)
              have E := Lib.hid E2
              clear RH E2
              go_wp2
              all_goals
                go_ret3
                exact ⟨by rw [RR.out, rsV_mk, ← E.out]; rfl, rfl⟩
      · obtain rfl : k = s.size := by omega
        go_wp2
        all_goals
          go_ret3
          exact ⟨by rw [hH.out, List.drop_of_length_le (by simp)]; rfl, rfl⟩

end Go.Proofs.Ytdfppopmephaaaa
