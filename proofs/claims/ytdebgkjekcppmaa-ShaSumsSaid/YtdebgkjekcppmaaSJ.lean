/- Walks of package maslinref02: rot, pad. -/
import Derived.Test.YtdebgkjekcppmaaSC
namespace Go.Proofs.Ytdebgkjekcppmaa
open Go.RowKit Oct

set_option maxRecDepth 100000 in
set_option maxHeartbeats 1000000 in
theorem rrot_any (x : UInt32) (n : Nat) (w : World) (h1 : 1 ≤ n) (h2 : n ≤ 31) :
    Calls Try.prog 103 #[.int .u32 (U x), .int .i64 n] w fun e w' => e = .returned (.int .u32 (U (rotr x n))) ∧ Below w.heap.size w w' := by
  have n1 : (1 : Int) ≤ (n : Int) := by omega
  have n2 : (n : Int) ≤ 31 := by omega
  go_enter Try.func103, Try.ntmps103
  go_wp2
  rw [U_shr x n (by omega), U_shl x (32 - n) (by omega), U_or]
  go_wp2
  go_ret
  exact ⟨rfl, b_refl _⟩

theorem pad_fin (n J X : Nat) (hJ : J < 8) (hX : X % 256 = be8_num (8 * n) J) (Z : List UInt8) : Z ++ ((be8 (8 * n)).take J ++ [UInt8.ofNat X]) = Z ++ (be8 (8 * n)).take (J + 1) := by
  have h := be8_val n J _ hJ rfl
  injection h with _ h
  have e : UInt8.ofNat X = (be8 (8 * n)).getD J 0 := by
    apply UInt8.toNat_inj.1
    rw [UInt8.toNat_ofNat']
    have : (be8_num (8 * n) J : Int) = (((be8 (8 * n)).getD J 0).toNat : Int) := h
    omega
  rw [be8_step _ _ hJ, e]
theorem be8_length (n : Nat) : (be8 n).length ≤ 8 := Nat.le_refl 8
set_option maxRecDepth 100000 in
set_option maxHeartbeats 4000000 in
theorem pad_any (l : List UInt8) (w : World) (hl : l.length ≤ 1099511627776) :
    Calls Try.prog 86 #[.string (bs l)] w fun e w' => e = .returned (.string (bs (padTail l l.length))) ∧ Below w.heap.size w w' := by
  have hz := zc_le l.length
  have H1 := Lib.hid (zpad_one l)
  have hcv := fun (w : World) (x : Int) => conv_one (P := Try.prog) 75 9 5 Try.underlying75 Try.underlying5 Try.underlying9 w x
  have HCV := Lib.hid hcv
  clear hcv
  go_enter Try.func86, Try.ntmps86
  go_wp2
  go_loop [0] (fun v => ∃ k : Nat, k ≤ zc l.length ∧ v = .string (bs (zpad l k))) (fun v => 9000000000000 - slenC (some v))
  case atStart => exact ⟨0, Nat.zero_le _, by rw [H1.out]⟩
  case round =>
    obtain ⟨k, hk, rfl⟩ := hrel
    have hzl := zpad_length l k
    by_cases hkz : k < zc l.length
    · have m1 : (((zpad l k).length : Int) % 64 != 56) = true := by have := zc_mod l.length k hkz; rw [bne_iff_ne]; omega
      have HS := Lib.hid (zpad_succ l k)
      have HL := Lib.hid hzl
      clear hzl
      have hz2 : (zpad l k).length ≤ 2000000000000 := by have := HL.out; omega
      generalize zpad l k = Z at *
      go_wp2
      go_round
      case rel => exact ⟨k + 1, by omega, by rw [← HS.out]; exact v_str (bs_append Z [0])⟩
      case measure =>
        rw [show bs Z ++ ⟨#[0]⟩ = bs (Z ++ [0]) from bs_append Z [0]]
        simp [slenC, bs_size]; omega
    · obtain rfl : k = zc l.length := by omega
      have m1 : (((zpad l (zc l.length)).length : Int) % 64 != 56) = false := by have := zc_end l.length; rw [bne_eq_false_iff_eq]; omega
      obtain ⟨Z, hZ⟩ : ∃ Z, Z = zpad l (zc l.length) := ⟨_, rfl⟩
      rw [← hZ] at m1 hzl ⊢
      have HZ := Lib.hid hZ
      have HZL := Lib.hid (show Z.length ≤ 2000000000000 by omega)
      clear hZ hk hkz hzl hz
      go_wp2
      clear m1
      go_loopw [0, 4] (fun v i wx => ∃ j : Nat, j ≤ 8 ∧ i = .int .i64 (7 - (j : Int)) ∧ v = .string (bs (Z ++ (be8 (8 * l.length)).take j)) ∧ Hid (Below w.heap.size w wx)) (fun v _ _ => 9000000000000 - slenC (some v))
      case atStart => exact ⟨0, by omega, rfl, by simp, b_refl _⟩
      case round =>
        obtain ⟨j, hj, rfl, rfl, HB⟩ := hrel
        have HL2 := Lib.hid (show (Z ++ (be8 (8 * l.length)).take j).length ≤ 2000000000010 by rw [List.length_append, List.length_take]; have := HZL.out; simp [be8]; omega)
        by_cases hj8 : j < 8
        · have HJ := Lib.hid hj8
          clear hj8 hj
          have hj := HJ.out
          obtain ⟨jn, hjn⟩ : ∃ jn, jn = j + 1 := ⟨_, rfl⟩
          have HJN := Lib.hid hjn
          clear hjn
          have hcv := HCV.out
          rcases (by omega : j = 0 ∨ j = 1 ∨ j = 2 ∨ j = 3 ∨ j = 4 ∨ j = 5 ∨ j = 6 ∨ j = 7) with rfl | rfl | rfl | rfl | rfl | rfl | rfl | rfl
          all_goals
            clear hj
            have hlen := HZL.out
            have hb8 := be8_length (8 * l.length)
            go_wp2
            have hjn := HJN.out
            refine ⟨⟨jn, by omega, ?_, ?_, HB.out.trans ((b_alloc _ _).mono HB.out.size)⟩, ?_⟩
            · subst hjn; rfl
            · subst hjn; exact v_str (congrArg bs (pad_fin l.length _ _ HJ.out (by simp only [be8_num]; omega) Z))
            · simp [slenC]; omega
        · obtain rfl : j = 8 := by omega
          go_wp2
          go_ret
          refine ⟨?_, HB.out⟩
          show Ending.returned (.string (bs (Z ++ (be8 (8 * l.length)).take 8))) = _
          rw [HZ.out]
          rfl
end Go.Proofs.Ytdebgkjekcppmaa
