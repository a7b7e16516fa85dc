/- Lemmas for PartAgain, part 4: walks of the functions that it reaches, and the plain laws behind them. -/
import Derived.Laws.MakeOwn
import Derived.Test.YtdebgkjekcppmaaPartAgainK3
set_option linter.unusedSimpArgs false
set_option linter.unusedVariables false
namespace Go.Proofs.Ytdebgkjekcppmaa
open Go.RowKit Oct

set_option maxRecDepth 100000 in
set_option maxHeartbeats 1000000 in
theorem rrot_any (x : UInt32) (n : Nat) (w : World) (h1 : 1 ≤ n) (h2 : n ≤ 31) :
    Calls Try.prog 103 #[.int .u32 (U x), .int .i64 n] w fun e w' => e = .returned (.int .u32 (U (rotr x n))) ∧ Below w.heap.size w w' := by
  have n1 : (1 : Int) ≤ (n : Int) := by omega
  have n2 : (n : Int) ≤ 31 := by omega
  go_enter Try.func103, Try.ntmps103
  go_wp2
  rw [U_shr x n (by omega), U_shl x (32 - n) (by omega), U_or]
  go_wp2
  go_ret
  exact ⟨rfl, b_refl _⟩

theorem pad_fin (n J X : Nat) (hJ : J < 8) (hX : X % 256 = be8_num (8 * n) J) (Z : List UInt8) : Z ++ ((be8 (8 * n)).take J ++ [UInt8.ofNat X]) = Z ++ (be8 (8 * n)).take (J + 1) := by
  have h := be8_val n J _ hJ rfl
  injection h with _ h
  have e : UInt8.ofNat X = (be8 (8 * n)).getD J 0 := by
    apply UInt8.toNat_inj.1
    rw [UInt8.toNat_ofNat']
    have : (be8_num (8 * n) J : Int) = (((be8 (8 * n)).getD J 0).toNat : Int) := h
    omega
  rw [be8_step _ _ hJ, e]
theorem be8_length (n : Nat) : (be8 n).length ≤ 8 := Nat.le_refl 8
set_option maxRecDepth 100000 in
set_option maxHeartbeats 4000000 in
theorem pad_any (l : List UInt8) (w : World) (hl : l.length ≤ 1099511627776) :
    Calls Try.prog 86 #[.string (bs l)] w fun e w' => e = .returned (.string (bs (padTail l l.length))) ∧ Below w.heap.size w w' := by
  have hz := zc_le l.length
  have H1 := Lib.hid (zpad_one l)
  have hcv := fun (w : World) (x : Int) => conv_one (P := Try.prog) 75 9 5 Try.underlying75 Try.underlying5 Try.underlying9 w x
  have HCV := Lib.hid hcv
  clear hcv
  go_enter Try.func86, Try.ntmps86
  go_wp2
  go_loop [0] (fun v => ∃ k : Nat, k ≤ zc l.length ∧ v = .string (bs (zpad l k))) (fun v => 9000000000000 - slenC (some v))
  case atStart => exact ⟨0, Nat.zero_le _, by rw [H1.out]⟩
  case round =>
    obtain ⟨k, hk, rfl⟩ := hrel
    have hzl := zpad_length l k
    by_cases hkz : k < zc l.length
    · have m1 : (((zpad l k).length : Int) % 64 != 56) = true := by have := zc_mod l.length k hkz; rw [bne_iff_ne]; omega
      have HS := Lib.hid (zpad_succ l k)
      have HL := Lib.hid hzl
      clear hzl
      have hz2 : (zpad l k).length ≤ 2000000000000 := by have := HL.out; omega
      generalize zpad l k = Z at *
      go_wp2
      go_round
      case rel => exact ⟨k + 1, by omega, by rw [← HS.out]; exact v_str (bs_append Z [0])⟩
      case measure =>
        rw [show bs Z ++ ⟨#[0]⟩ = bs (Z ++ [0]) from bs_append Z [0]]
        simp [slenC, bs_size]; omega
    · obtain rfl : k = zc l.length := by omega
      have m1 : (((zpad l (zc l.length)).length : Int) % 64 != 56) = false := by have := zc_end l.length; rw [bne_eq_false_iff_eq]; omega
      obtain ⟨Z, hZ⟩ : ∃ Z, Z = zpad l (zc l.length) := ⟨_, rfl⟩
      rw [← hZ] at m1 hzl ⊢
      have HZ := Lib.hid hZ
      have HZL := Lib.hid (show Z.length ≤ 2000000000000 by omega)
      clear hZ hk hkz hzl hz
      go_wp2
      clear m1
      go_loopw [0, 4] (fun v i wx => ∃ j : Nat, j ≤ 8 ∧ i = .int .i64 (7 - (j : Int)) ∧ v = .string (bs (Z ++ (be8 (8 * l.length)).take j)) ∧ Hid (Below w.heap.size w wx)) (fun v _ _ => 9000000000000 - slenC (some v))
      case atStart => exact ⟨0, by omega, rfl, by simp, b_refl _⟩
      case round =>
        obtain ⟨j, hj, rfl, rfl, HB⟩ := hrel
        have HL2 := Lib.hid (show (Z ++ (be8 (8 * l.length)).take j).length ≤ 2000000000010 by rw [List.length_append, List.length_take]; have := HZL.out; simp [be8]; omega)
        by_cases hj8 : j < 8
        · have HJ := Lib.hid hj8
          clear hj8 hj
          have hj := HJ.out
          obtain ⟨jn, hjn⟩ : ∃ jn, jn = j + 1 := ⟨_, rfl⟩
          have HJN := Lib.hid hjn
          clear hjn
          have hcv := HCV.out
          rcases (by omega : j = 0 ∨ j = 1 ∨ j = 2 ∨ j = 3 ∨ j = 4 ∨ j = 5 ∨ j = 6 ∨ j = 7) with rfl | rfl | rfl | rfl | rfl | rfl | rfl | rfl
          all_goals
            clear hj
            have hlen := HZL.out
            have hb8 := be8_length (8 * l.length)
            go_wp2
            have hjn := HJN.out
            refine ⟨⟨jn, by omega, ?_, ?_, HB.out.trans ((b_alloc _ _).mono HB.out.size)⟩, ?_⟩
            · subst hjn; rfl
            · subst hjn; exact v_str (congrArg bs (pad_fin l.length _ _ HJ.out (by simp only [be8_num]; omega) Z))
            · simp [slenC]; omega
        · obtain rfl : j = 8 := by omega
          go_wp2
          go_ret
          refine ⟨?_, HB.out⟩
          show Ending.returned (.string (bs (Z ++ (be8 (8 * l.length)).take 8))) = _
          rw [HZ.out]
          rfl
end Go.Proofs.Ytdebgkjekcppmaa
namespace Go.Proofs.Ytdebgkjekcppmaa
open Go.RowKit
variable {P : Program}
theorem madeCells_one (z : Value) (n : Nat) : madeCells #[z] n = (List.replicate n z).toArray := by
  apply Array.ext
  · simp [madeCells]
  · intro i h1 h2
    simp [madeCells]
    simp [madeCells, Nat.mod_one]
theorem make_one (t e : TypeId) (z : Value) (bytes : Nat) (ht : P.underlying t = some (.slice e)) (hinfo : (P.info? e).map (fun i => (i.zero, i.size, i.bytes)) = some (some z, 1, bytes)) (hz : z.cells = #[z]) (n : Nat) (hb : (bytes : Int) * (n : Int) ≤ 281474976710656) (hn : n ≤ 140737488355328) (w : World) :
    (Instr.makeSlice t (.int .i64 (n : Int)) (.int .i64 (n : Int))).run P w = .ok (.slice (some ⟨w.heap.size, 0, none⟩) n n) (w.alloc (.cells (List.replicate n z).toArray e)) := by
  obtain ⟨i, hi, hz0, hi1, hi2⟩ := info_parts hinfo
  have := run_make (P := P) w t e i z ht hi hz0 .i64 .i64 n n (by omega) (Int.le_refl _) (by rw [hi2]; exact hb) (by omega)
  rw [this, hz, hi1, Nat.mul_one, Int.toNat_natCast, madeCells_one]
end Go.Proofs.Ytdebgkjekcppmaa
namespace Go.Proofs.Ytdebgkjekcppmaa
open Go.RowKit Oct

set_option maxRecDepth 100000 in
set_option maxHeartbeats 4000000 in
theorem schedule_any (l : List UInt8) (w : World) (hl : 64 ≤ l.length) :
    Calls Try.prog 102 #[.string (bs l)] w fun e w' => e = .returned (.slice (some ⟨w.heap.size, 0, none⟩) 64 64) ∧ Blk w' w.heap.size 85 (ucells (wl l 64)) ∧ Below w.heap.size w w' := by
  have hmk : (Instr.makeSlice 70 (.int .i64 64) (.int .i64 64)).run Try.prog w = .ok (.slice (some ⟨w.heap.size, 0, none⟩) 64 64) (w.alloc (.cells (List.replicate 64 (.int .u32 0)).toArray 85)) := make_one (P := Try.prog) 70 85 (.int .u32 0) 4 Try.underlying70 (by kernel_rfl) rfl 64 (by decide) (by decide) w
  go_enter Try.func102, Try.ntmps102
  go_wp2
  clear hmk
  go_loopw [4] (fun t wx => ∃ k : Nat, k ≤ 16 ∧ t = .int .i64 k ∧ Hid (Blk wx w.heap.size 85 (ucells (wrow l k))) ∧ Hid (Below w.heap.size w wx)) (fun t _ => 16 - (intOf t).toNat)
  case atStart => exact ⟨0, by omega, rfl, Blk.new w _ _, b_alloc w _⟩
  case round =>
    obtain ⟨k, hk, rfl, HB, HW⟩ := hrel
    by_cases hk16 : k < 16
    · have k1 : (k : Int) < 16 := by omega
      have k0 : (0 : Int) ≤ (k : Int) := by omega
      have k64 : (k : Int) < 64 := by omega
      have x0 : (0 : Int) ≤ 4 * (k : Int) := by omega
      have x1 : 4 * (k : Int) < (l.length : Int) := by omega
      have x2 : 4 * (k : Int) + 1 < (l.length : Int) := by omega
      have x3 : 4 * (k : Int) + 2 < (l.length : Int) := by omega
      have y2 : 0 ≤ 4 * (k : Int) + 1 := by omega
      have y3 : 0 ≤ 4 * (k : Int) + 2 := by omega
      have y4 : 0 ≤ 4 * (k : Int) + 3 := by omega
      have x4 : 4 * (k : Int) + 3 < (l.length : Int) := by omega
      go_wp2
      refine region_tail 31 [] (by kernel_rfl) (by kernel_rfl) ?_
      simp only [List.take_succ_cons, List.take_zero, List.drop_succ_cons, List.drop_zero]
      (repeat (first | (refine wpG_skip (by kernel_rfl) (fun K hK => ?_); go_big_quiet_skip; refine wpQuiet_nil (hK _ ?_); clear hK K) | (refine wpG_quiet (by rfl) (by rfl) (fun K hK => ?_); go_big_quiet_want; go_big_quiet_op; go_big_quiet_on; refine wpQuiet_nil (hK _ ?_); clear hK K)))
      (try simp only [U_byte, U_shl24, U_shl16, U_shl8, U_shr3, U_shr10, U_or, U_xor, U_and, U_add, U_add', U_add3, U_add4, U_add5])
      (intro w' hB hA; simp only [Facts.all_some, Facts.all_none, and_true] at hA)
      have B' := HB.out.below hB
      have hc := wrow_set l k (by omega)
      rw [wnext_low l k hk16] at hc
      have hlen : k < (ucells (wrow l k)).length := by rw [ucells_length, wrow_length l k (by omega)]; omega
      have HE := Lib.hid (be32_get l (4 * k) (by omega) (by omega) (by omega) (by omega))
      obtain ⟨cu, c1⟩ := B'.ex hlen
      have f1 := B'.free hlen
      have HS := Lib.hid (B'.set k (.int .u32 (U (be32 l (4 * k)))))
      have HC := Lib.hid hc
      have HB1 := Lib.hid hB
      clear B' hc hB hlen
      go_wp2
      rw [HE.out]
      refine ⟨⟨k + 1, by omega, by go_num, ?_, (bt HW.out HB1.out).setCell (Nat.le_refl _) _⟩, by simp [intOf]; omega⟩
      have := HS.out
      rw [ucells_set, HC.out] at this
      exact this
    · have hk : k = 16 := by omega
      subst hk
      go_wp2
      go_loopw [5] (fun t wx => ∃ k : Nat, 16 ≤ k ∧ k ≤ 64 ∧ t = .int .i64 k ∧ Hid (Blk wx w.heap.size 85 (ucells (wrow l k))) ∧ Hid (Below w.heap.size w wx)) (fun t _ => 64 - (intOf t).toNat)
      case atStart => exact ⟨16, by omega, by omega, rfl, HB, HW⟩
      case round =>
        obtain ⟨k, hk, hk', rfl, HB, HW⟩ := hrel
        by_cases hk16 : k < 64
        · have k1 : (k : Int) < 64 := by omega
          have k0 : (0 : Int) ≤ (k : Int) := by omega
          have x0 : (0 : Int) ≤ (k : Int) - 15 := by omega
          have x1 : (k : Int) - 15 < 64 := by omega
          have y0 : (0 : Int) ≤ (k : Int) - 2 := by omega
          have y1 : (k : Int) - 2 < 64 := by omega
          have z0 : (0 : Int) ≤ (k : Int) - 16 := by omega
          have z1 : (k : Int) - 16 < 64 := by omega
          have v0 : (0 : Int) ≤ (k : Int) - 7 := by omega
          have v1 : (k : Int) - 7 < 64 := by omega
          have c15 := HB.out.cell (wrow_at l k (k - 15) (by omega) (by omega))
          have c2 := HB.out.cell (wrow_at l k (k - 2) (by omega) (by omega))
          have c16 := HB.out.cell (wrow_at l k (k - 16) (by omega) (by omega))
          have c7 := HB.out.cell (wrow_at l k (k - 7) (by omega) (by omega))
          have hc := wrow_set l k (by omega)
          rw [wnext_high l k hk] at hc
          generalize (wl l k).getD (k - 15) 0 = a at *
          generalize (wl l k).getD (k - 2) 0 = b at *
          generalize (wl l k).getD (k - 16) 0 = c at *
          generalize (wl l k).getD (k - 7) 0 = d at *
          have HC := Lib.hid hc
          clear hc
          go_wp2
          refine region_known [(4, .exact Bel (.int .u32 (U a))), (5, .exact Bel (.int .u32 (U (rotr a 7)))), (10, .exact Bel (.int .u32 (U a))), (11, .exact Bel (.int .u32 (U (rotr a 18)))), (17, .exact Bel (.int .u32 (U a)))] (by kernel_rfl) (by kernel_rfl) ?_
          (repeat (first | (refine wpG_skip (by kernel_rfl) (fun K hK => ?_); go_big_quiet_skip; refine wpQuiet_nil (hK _ ?_); clear hK K) | (refine wpG_quiet (by rfl) (by rfl) (fun K hK => ?_); go_big_quiet_want; go_big_quiet_op; go_big_quiet_on; refine wpQuiet_nil (hK _ ?_); clear hK K)))
          refine wpG_exact rfl (by kernel_rfl) (fun w' G hB hS hG => ?_) (fun K hK => ?_)
          · have cc := Below.keeps hB c15
            go_simp
            exact hG _ (Bel.refl _)
          go_simp; refine hK _ ?_; clear hK K; (repeat (first | (refine wpG_skip (by kernel_rfl) (fun K hK => ?_); go_big_quiet_skip; refine wpQuiet_nil (hK _ ?_); clear hK K) | (refine wpG_quiet (by rfl) (by rfl) (fun K hK => ?_); go_big_quiet_want; go_big_quiet_op; go_big_quiet_on; refine wpQuiet_nil (hK _ ?_); clear hK K)))
          refine wpG_exact rfl (by kernel_rfl) (fun w' G hB hS hG => ?_) (fun K hK => ?_)
          · go_simp
            exact calls_told hG (rrot_any a 7 _ (by omega) (by omega))
          go_simp; refine hK _ ?_; clear hK K; (repeat (first | (refine wpG_skip (by kernel_rfl) (fun K hK => ?_); go_big_quiet_skip; refine wpQuiet_nil (hK _ ?_); clear hK K) | (refine wpG_quiet (by rfl) (by rfl) (fun K hK => ?_); go_big_quiet_want; go_big_quiet_op; go_big_quiet_on; refine wpQuiet_nil (hK _ ?_); clear hK K)))
          refine wpG_exact rfl (by kernel_rfl) (fun w' G hB hS hG => ?_) (fun K hK => ?_)
          · have cc := Below.keeps hB c15
            go_simp
            exact hG _ (Bel.refl _)
          go_simp; refine hK _ ?_; clear hK K; (repeat (first | (refine wpG_skip (by kernel_rfl) (fun K hK => ?_); go_big_quiet_skip; refine wpQuiet_nil (hK _ ?_); clear hK K) | (refine wpG_quiet (by rfl) (by rfl) (fun K hK => ?_); go_big_quiet_want; go_big_quiet_op; go_big_quiet_on; refine wpQuiet_nil (hK _ ?_); clear hK K)))
          refine wpG_exact rfl (by kernel_rfl) (fun w' G hB hS hG => ?_) (fun K hK => ?_)
          · go_simp
            exact calls_told hG (rrot_any a 18 _ (by omega) (by omega))
          go_simp; refine hK _ ?_; clear hK K; (repeat (first | (refine wpG_skip (by kernel_rfl) (fun K hK => ?_); go_big_quiet_skip; refine wpQuiet_nil (hK _ ?_); clear hK K) | (refine wpG_quiet (by rfl) (by rfl) (fun K hK => ?_); go_big_quiet_want; go_big_quiet_op; go_big_quiet_on; refine wpQuiet_nil (hK _ ?_); clear hK K)))
          refine wpG_exact rfl (by kernel_rfl) (fun w' G hB hS hG => ?_) (fun K hK => ?_)
          · have cc := Below.keeps hB c15
            go_simp
            exact hG _ (Bel.refl _)
          go_simp; refine hK _ ?_; clear hK K; (repeat (first | (refine wpG_skip (by kernel_rfl) (fun K hK => ?_); go_big_quiet_skip; refine wpQuiet_nil (hK _ ?_); clear hK K) | (refine wpG_quiet (by rfl) (by rfl) (fun K hK => ?_); go_big_quiet_want; go_big_quiet_op; go_big_quiet_on; refine wpQuiet_nil (hK _ ?_); clear hK K)))
          (try simp only [U_byte, U_shl24, U_shl16, U_shl8, U_shr3, U_shr10, U_or, U_xor, U_and, U_add, U_add', U_add3, U_add4, U_add5])
          (intro w' hB hA; simp only [Facts.all_some, Facts.all_none, and_true] at hA)
          have hs0 : rotr a 7 ^^^ rotr a 18 ^^^ a >>> 3 = sg0 a := rfl
          rw [hs0]
          replace c2 := Below.keeps hB c2
          replace c16 := Below.keeps hB c16
          replace c7 := Below.keeps hB c7
          have HB2 := Lib.hid (HB.out.below hB)
          have HW2 := Lib.hid (bt HW.out hB)
          clear hA hB hs0 c15 HB HW x0 x1
          go_wp2
          refine region_known [(4, .exact Bel (.int .u32 (U b))), (5, .exact Bel (.int .u32 (U (rotr b 17)))), (10, .exact Bel (.int .u32 (U b))), (11, .exact Bel (.int .u32 (U (rotr b 19)))), (17, .exact Bel (.int .u32 (U b)))] (by kernel_rfl) (by kernel_rfl) ?_
          (repeat (first | (refine wpG_skip (by kernel_rfl) (fun K hK => ?_); go_big_quiet_skip; refine wpQuiet_nil (hK _ ?_); clear hK K) | (refine wpG_quiet (by rfl) (by rfl) (fun K hK => ?_); go_big_quiet_want; go_big_quiet_op; go_big_quiet_on; refine wpQuiet_nil (hK _ ?_); clear hK K)))
          refine wpG_exact rfl (by kernel_rfl) (fun w' G hB hS hG => ?_) (fun K hK => ?_)
          · have cc := Below.keeps hB c2
            go_simp
            exact hG _ (Bel.refl _)
          go_simp; refine hK _ ?_; clear hK K; (repeat (first | (refine wpG_skip (by kernel_rfl) (fun K hK => ?_); go_big_quiet_skip; refine wpQuiet_nil (hK _ ?_); clear hK K) | (refine wpG_quiet (by rfl) (by rfl) (fun K hK => ?_); go_big_quiet_want; go_big_quiet_op; go_big_quiet_on; refine wpQuiet_nil (hK _ ?_); clear hK K)))
          refine wpG_exact rfl (by kernel_rfl) (fun w' G hB hS hG => ?_) (fun K hK => ?_)
          · go_simp
            exact calls_told hG (rrot_any b 17 _ (by omega) (by omega))
          go_simp; refine hK _ ?_; clear hK K; (repeat (first | (refine wpG_skip (by kernel_rfl) (fun K hK => ?_); go_big_quiet_skip; refine wpQuiet_nil (hK _ ?_); clear hK K) | (refine wpG_quiet (by rfl) (by rfl) (fun K hK => ?_); go_big_quiet_want; go_big_quiet_op; go_big_quiet_on; refine wpQuiet_nil (hK _ ?_); clear hK K)))
          refine wpG_exact rfl (by kernel_rfl) (fun w' G hB hS hG => ?_) (fun K hK => ?_)
          · have cc := Below.keeps hB c2
            go_simp
            exact hG _ (Bel.refl _)
          go_simp; refine hK _ ?_; clear hK K; (repeat (first | (refine wpG_skip (by kernel_rfl) (fun K hK => ?_); go_big_quiet_skip; refine wpQuiet_nil (hK _ ?_); clear hK K) | (refine wpG_quiet (by rfl) (by rfl) (fun K hK => ?_); go_big_quiet_want; go_big_quiet_op; go_big_quiet_on; refine wpQuiet_nil (hK _ ?_); clear hK K)))
          refine wpG_exact rfl (by kernel_rfl) (fun w' G hB hS hG => ?_) (fun K hK => ?_)
          · go_simp
            exact calls_told hG (rrot_any b 19 _ (by omega) (by omega))
          go_simp; refine hK _ ?_; clear hK K; (repeat (first | (refine wpG_skip (by kernel_rfl) (fun K hK => ?_); go_big_quiet_skip; refine wpQuiet_nil (hK _ ?_); clear hK K) | (refine wpG_quiet (by rfl) (by rfl) (fun K hK => ?_); go_big_quiet_want; go_big_quiet_op; go_big_quiet_on; refine wpQuiet_nil (hK _ ?_); clear hK K)))
          refine wpG_exact rfl (by kernel_rfl) (fun w' G hB hS hG => ?_) (fun K hK => ?_)
          · have cc := Below.keeps hB c2
            go_simp
            exact hG _ (Bel.refl _)
          go_simp; refine hK _ ?_; clear hK K; (repeat (first | (refine wpG_skip (by kernel_rfl) (fun K hK => ?_); go_big_quiet_skip; refine wpQuiet_nil (hK _ ?_); clear hK K) | (refine wpG_quiet (by rfl) (by rfl) (fun K hK => ?_); go_big_quiet_want; go_big_quiet_op; go_big_quiet_on; refine wpQuiet_nil (hK _ ?_); clear hK K)))
          (try simp only [U_byte, U_shl24, U_shl16, U_shl8, U_shr3, U_shr10, U_or, U_xor, U_and, U_add, U_add', U_add3, U_add4, U_add5])
          intro w3 hB hA
          have hs1 : rotr b 17 ^^^ rotr b 19 ^^^ b >>> 10 = sg1 b := rfl
          rw [hs1]
          replace c16 := Below.keeps hB c16
          replace c7 := Below.keeps hB c7
          have HB3 := Lib.hid (HB2.out.below hB)
          have HW3 := Lib.hid (bt HW2.out hB)
          clear hA hB hs1 c2 HB2 HW2 y0 y1
          go_wp2
          refine region_tail 17 [(7, .exact Bel (.int .u32 (U d))), (15, .exact Bel (.int .u32 (U c)))] (by kernel_rfl) (by kernel_rfl) ?_
          simp only [List.take_succ_cons, List.take_zero, List.drop_succ_cons, List.drop_zero]
          (repeat (first | (refine wpG_skip (by kernel_rfl) (fun K hK => ?_); go_big_quiet_skip; refine wpQuiet_nil (hK _ ?_); clear hK K) | (refine wpG_quiet (by rfl) (by rfl) (fun K hK => ?_); go_big_quiet_want; go_big_quiet_op; go_big_quiet_on; refine wpQuiet_nil (hK _ ?_); clear hK K)))
          refine wpG_exact rfl (by kernel_rfl) (fun w' G hB hS hG => ?_) (fun K hK => ?_)
          · have cc := Below.keeps hB c7
            go_simp
            exact hG _ (Bel.refl _)
          go_simp; refine hK _ ?_; clear hK K; (repeat (first | (refine wpG_skip (by kernel_rfl) (fun K hK => ?_); go_big_quiet_skip; refine wpQuiet_nil (hK _ ?_); clear hK K) | (refine wpG_quiet (by rfl) (by rfl) (fun K hK => ?_); go_big_quiet_want; go_big_quiet_op; go_big_quiet_on; refine wpQuiet_nil (hK _ ?_); clear hK K)))
          refine wpG_exact rfl (by kernel_rfl) (fun w' G hB hS hG => ?_) (fun K hK => ?_)
          · have cc := Below.keeps hB c16
            go_simp
            exact hG _ (Bel.refl _)
          go_simp; refine hK _ ?_; clear hK K; (repeat (first | (refine wpG_skip (by kernel_rfl) (fun K hK => ?_); go_big_quiet_skip; refine wpQuiet_nil (hK _ ?_); clear hK K) | (refine wpG_quiet (by rfl) (by rfl) (fun K hK => ?_); go_big_quiet_want; go_big_quiet_op; go_big_quiet_on; refine wpQuiet_nil (hK _ ?_); clear hK K)))
          (try simp only [U_byte, U_shl24, U_shl16, U_shl8, U_shr3, U_shr10, U_or, U_xor, U_and, U_add, U_add', U_add3, U_add4, U_add5])
          intro w4 hB hA
          have B' := HB3.out.below hB
          have hlen : k < (ucells (wrow l k)).length := by rw [ucells_length, wrow_length l k (by omega)]; omega
          obtain ⟨cu, c1⟩ := B'.ex hlen
          have f1 := B'.free hlen
          have HS := Lib.hid (B'.set k (.int .u32 (U (sg1 b + d + sg0 a + c))))
          have HB4 := Lib.hid (bt HW3.out hB)
          clear B' hB hlen hA c7 c16
          go_wp2
          refine ⟨?_, by simp [intOf]; omega⟩
          (repeat apply Exists.intro)
          refine ⟨⟨k + 1, by omega, by omega, by go_num, ?_, HB4.out.setCell (Nat.le_refl _) _⟩, rfl⟩
          have := HS.out
          have hc := HC.out
          rw [show c + sg0 a + d + sg1 b = sg1 b + d + sg0 a + c by ac_rfl] at hc
          rw [ucells_set, hc] at this
          exact this
        · have hk : k = 64 := by omega
          subst hk
          rw [wrow_end] at HB
          go_wp2
          go_ret
          exact ⟨rfl, HB.out, HW.out⟩
end Go.Proofs.Ytdebgkjekcppmaa
namespace Go.Proofs.Ytdebgkjekcppmaa
open Go.RowKit Oct

theorem infoU32 : (Try.prog.info? 85).map (fun i => (i.zero, i.size, i.bytes)) = some (some (.int .u32 0), 1, 4) := by kernel_rfl
theorem ucells_ones (l : List UInt32) : ∀ u ∈ ucells l, u.oneCell' = true := by
  intro u hu
  simp only [ucells, List.mem_map] at hu
  obtain ⟨x, _, rfl⟩ := hu; rfl
theorem ucells_app (l m : List UInt32) : ucells (l ++ m) = ucells l ++ ucells m := by simp [ucells]
/-- the sums of words, so far -/
def zadd (h v : List UInt32) (k : Nat) : List UInt32 := List.zipWith (· + ·) (h.take k) (v.take k)
theorem zadd_length (h v : List UInt32) (hl : h.length = 8) (hv : v.length = 8) (k : Nat) (hk : k ≤ 8) : (zadd h v k).length = k := by simp [zadd, hl, hv]; omega
theorem zadd_all (h v : List UInt32) (hl : h.length = 8) (hv : v.length = 8) : zadd h v 8 = List.zipWith (· + ·) h v := by
  simp [zadd, List.take_of_length_le (Nat.le_of_eq hl), List.take_of_length_le (Nat.le_of_eq hv)]
theorem zadd_step (h v : List UInt32) (hl : h.length = 8) (hv : v.length = 8) (k : Nat) (hk : k < 8) : zadd h v k ++ [h.getD k 0 + v.getD k 0] = zadd h v (k + 1) := by
  obtain ⟨a, b, c, d, e, f, g, i, rfl⟩ := eight h hl
  obtain ⟨a', b', c', d', e', f', g', i', rfl⟩ := eight v hv
  match k, hk with
  | 0, _ | 1, _ | 2, _ | 3, _ | 4, _ | 5, _ | 6, _ | 7, _ => rfl
/-- a slice of words of the call's own or another's, in a block of which no cell is written -/
theorem Reads.u {w : World} {a : Option Addr} {n c : Nat} {l : List UInt32} (h : Reads w (.slice a n c) n (ucells l)) (k : Nat) (hk : k < l.length) : ∃ b off, a = some ⟨b, off, none⟩ ∧ w.cell? ⟨b, off + k, none⟩ = some (.int .u32 (U (l.getD k 0))) := by
  obtain ⟨a', c', hv, _, hc⟩ := h
  injection hv with e1 _ _
  subst e1
  exact hc k _ (u_at l k l.length rfl hk)

set_option maxRecDepth 100000 in
set_option maxHeartbeats 8000000 in
theorem rblock_any (vh vk : Value) (h : List UInt32) (hl : h.length = 8) (l : List UInt8) (h64 : 64 ≤ l.length) (w : World) (hh : Reads w vh 8 (ucells h)) (hk : Reads w vk 64 (ucells ktab)) :
    Calls Try.prog 87 #[vh, vk, .string (bs l)] w fun e w' => ∃ v, e = .returned v ∧ w'.ownsRow w.heap.size 85 1 v 8 (ucells (blockF h l)) ∧ Below w.heap.size w w' := by
  have hh0 := hh
  obtain ⟨ah, ch, rfl, _, _⟩ := hh
  have hk0 := hk
  obtain ⟨ak, ck, rfl, _, _⟩ := hk
  have HH := Lib.hid hh0
  have HK := Lib.hid hk0
  have HL := Lib.hid hl
  clear hh0 hk0 hl
  go_enter Try.func87, Try.ntmps87
  go_wp2_with fail
  refine (schedule_any l w h64).mono ?_
  rintro e w1 ⟨rfl, hW1, hB1⟩
  have HB1 := Lib.hid hB1
  obtain ⟨D, hD⟩ : ∃ D, D = w.heap.size := ⟨_, rfl⟩
  rw [← hD] at hW1 ⊢
  have HD := Lib.hid hD
  have HW := Lib.hid hW1
  have hsz1 := hB1.size
  clear hD hB1 hW1
  have hr1 := Lib.hid (HH.out.below HB1.out)
  go_wp2_with (at_builtin; go_must (refine appendN w1 (ucells h) 85 rfl _ _ 70 rfl w1.heap.size (.int .u32 0) 1 4 Try.underlying70 infoU32 rfl (by decide) _ 0 [] rfl (World.ownsRow_nil _ _ _ _) _ 8 rfl hr1.out (by rw [ucells_length, HL.out]) (ucells_ones h) (by decide) (by decide) (Nat.le_refl _) ?_))
  intro v0 w2 hown2 hB2
  have HW2 := Lib.hid (HW.out.below hB2)
  have HK2 := Lib.hid ((HK.out.below HB1.out).below hB2)
  have HH2 := Lib.hid ((HH.out.below HB1.out).below hB2)
  have HB2 := Lib.hid (bt HB1.out hB2)
  have hsz2 := hB2.size
  obtain ⟨a0, c0, rfl⟩ := owns_slice hown2
  have HV0 := Lib.hid (Reads.owned hown2)
  clear hown2 hB2 HW hr1 HB1
  go_wp2
  go_loopw [8, 9] (fun v t wx => ∃ (k : Nat) (a : Option Addr) (c : Nat), k ≤ 64 ∧ t = .int .i64 k ∧ v = .slice a 8 c ∧ Hid (Reads wx (.slice a 8 c) 8 (ucells (rounds (wl l 64) h k))) ∧ Hid (Below w2.heap.size w2 wx)) (fun _ t _ => 64 - (intOf t).toNat)
  case atStart => exact ⟨0, a0, c0, by omega, rfl, rfl, HV0, b_refl _⟩
  case round =>
    clear HV0
    obtain ⟨k, a, c, hk, rfl, rfl, HV, HB⟩ := hrel
    by_cases hk64 : k < 64
    · have k1 : (k : Int) < 64 := by omega
      have k0 : (0 : Int) ≤ (k : Int) := by omega
      have hst : rounds (wl l 64) h (k + 1) = step (ktab.getD k 0) ((wl l 64).getD k 0) (rounds (wl l 64) h k) := rfl
      obtain ⟨v0, v1, v2, v3, v4, v5, v6, v7, hv⟩ := eight _ (rounds_length (wl l 64) h HL.out k)
      rw [hv] at HV hst
      obtain ⟨b, off, rfl, d0⟩ := HV.out.u 0 (by simp)
      obtain ⟨_, _, e1, d1⟩ := HV.out.u 1 (by simp); cases e1
      obtain ⟨_, _, e1, d2⟩ := HV.out.u 2 (by simp); cases e1
      obtain ⟨_, _, e1, d3⟩ := HV.out.u 3 (by simp); cases e1
      obtain ⟨_, _, e1, d4⟩ := HV.out.u 4 (by simp); cases e1
      obtain ⟨_, _, e1, d5⟩ := HV.out.u 5 (by simp); cases e1
      obtain ⟨_, _, e1, d6⟩ := HV.out.u 6 (by simp); cases e1
      obtain ⟨_, _, e1, d7⟩ := HV.out.u 7 (by simp); cases e1
      have e0 : wr.cell? ⟨b, off, none⟩ = some (.int .u32 (U v0)) := d0
      replace d1 : wr.cell? ⟨b, off + 1, none⟩ = some (.int .u32 (U v1)) := d1
      replace d2 : wr.cell? ⟨b, off + 2, none⟩ = some (.int .u32 (U v2)) := d2
      replace d3 : wr.cell? ⟨b, off + 3, none⟩ = some (.int .u32 (U v3)) := d3
      replace d4 : wr.cell? ⟨b, off + 4, none⟩ = some (.int .u32 (U v4)) := d4
      replace d5 : wr.cell? ⟨b, off + 5, none⟩ = some (.int .u32 (U v5)) := d5
      replace d6 : wr.cell? ⟨b, off + 6, none⟩ = some (.int .u32 (U v6)) := d6
      replace d7 : wr.cell? ⟨b, off + 7, none⟩ = some (.int .u32 (U v7)) := d7
      clear d0
      have cw := (HW2.out.below HB.out).cell (u_at (wl l 64) k 64 (wl_length l 64) hk64)
      obtain ⟨bk, ok, rfl, ck⟩ := (HK2.out.below HB.out).u k (by rw [ktab_length]; exact hk64)
      generalize (wl l 64).getD k 0 = ww at *
      generalize ktab.getD k 0 = kk at *
      have HST := Lib.hid hst
      clear hst hv
      go_wp2
      refine region_known [(2, .exact Bel (.int .u32 (U v4))), (3, .exact Bel (.int .u32 (U (rotr v4 6)))), (6, .exact Bel (.int .u32 (U v4))), (7, .exact Bel (.int .u32 (U (rotr v4 11)))), (11, .exact Bel (.int .u32 (U v4))), (12, .exact Bel (.int .u32 (U (rotr v4 25))))] (by kernel_rfl) (by kernel_rfl) ?_
      (repeat (first | (refine wpG_skip (by kernel_rfl) (fun K hK => ?_); go_big_quiet_skip; refine wpQuiet_nil (hK _ ?_); clear hK K) | (refine wpG_quiet (by rfl) (by rfl) (fun K hK => ?_); go_big_quiet_want; go_big_quiet_op; go_big_quiet_on; refine wpQuiet_nil (hK _ ?_); clear hK K)))
      refine wpG_exact rfl (by kernel_rfl) (fun w' G hB hS hG => ?_) (fun K hK => ?_)
      · have cc := Below.keeps hB d4
        go_simp
        exact hG _ (Bel.refl _)
      go_simp; refine hK _ ?_; clear hK K; (repeat (first | (refine wpG_skip (by kernel_rfl) (fun K hK => ?_); go_big_quiet_skip; refine wpQuiet_nil (hK _ ?_); clear hK K) | (refine wpG_quiet (by rfl) (by rfl) (fun K hK => ?_); go_big_quiet_want; go_big_quiet_op; go_big_quiet_on; refine wpQuiet_nil (hK _ ?_); clear hK K)))
      refine wpG_exact rfl (by kernel_rfl) (fun w' G hB hS hG => ?_) (fun K hK => ?_)
      · go_simp
        exact calls_told hG (rrot_any v4 6 _ (by omega) (by omega))
      go_simp; refine hK _ ?_; clear hK K; (repeat (first | (refine wpG_skip (by kernel_rfl) (fun K hK => ?_); go_big_quiet_skip; refine wpQuiet_nil (hK _ ?_); clear hK K) | (refine wpG_quiet (by rfl) (by rfl) (fun K hK => ?_); go_big_quiet_want; go_big_quiet_op; go_big_quiet_on; refine wpQuiet_nil (hK _ ?_); clear hK K)))
      refine wpG_exact rfl (by kernel_rfl) (fun w' G hB hS hG => ?_) (fun K hK => ?_)
      · have cc := Below.keeps hB d4
        go_simp
        exact hG _ (Bel.refl _)
      go_simp; refine hK _ ?_; clear hK K; (repeat (first | (refine wpG_skip (by kernel_rfl) (fun K hK => ?_); go_big_quiet_skip; refine wpQuiet_nil (hK _ ?_); clear hK K) | (refine wpG_quiet (by rfl) (by rfl) (fun K hK => ?_); go_big_quiet_want; go_big_quiet_op; go_big_quiet_on; refine wpQuiet_nil (hK _ ?_); clear hK K)))
      refine wpG_exact rfl (by kernel_rfl) (fun w' G hB hS hG => ?_) (fun K hK => ?_)
      · go_simp
        exact calls_told hG (rrot_any v4 11 _ (by omega) (by omega))
      go_simp; refine hK _ ?_; clear hK K; (repeat (first | (refine wpG_skip (by kernel_rfl) (fun K hK => ?_); go_big_quiet_skip; refine wpQuiet_nil (hK _ ?_); clear hK K) | (refine wpG_quiet (by rfl) (by rfl) (fun K hK => ?_); go_big_quiet_want; go_big_quiet_op; go_big_quiet_on; refine wpQuiet_nil (hK _ ?_); clear hK K)))
      refine wpG_exact rfl (by kernel_rfl) (fun w' G hB hS hG => ?_) (fun K hK => ?_)
      · have cc := Below.keeps hB d4
        go_simp
        exact hG _ (Bel.refl _)
      go_simp; refine hK _ ?_; clear hK K; (repeat (first | (refine wpG_skip (by kernel_rfl) (fun K hK => ?_); go_big_quiet_skip; refine wpQuiet_nil (hK _ ?_); clear hK K) | (refine wpG_quiet (by rfl) (by rfl) (fun K hK => ?_); go_big_quiet_want; go_big_quiet_op; go_big_quiet_on; refine wpQuiet_nil (hK _ ?_); clear hK K)))
      refine wpG_exact rfl (by kernel_rfl) (fun w' G hB hS hG => ?_) (fun K hK => ?_)
      · go_simp
        exact calls_told hG (rrot_any v4 25 _ (by omega) (by omega))
      go_simp; refine hK _ ?_; clear hK K; (repeat (first | (refine wpG_skip (by kernel_rfl) (fun K hK => ?_); go_big_quiet_skip; refine wpQuiet_nil (hK _ ?_); clear hK K) | (refine wpG_quiet (by rfl) (by rfl) (fun K hK => ?_); go_big_quiet_want; go_big_quiet_op; go_big_quiet_on; refine wpQuiet_nil (hK _ ?_); clear hK K)))
      (try simp only [U_byte, U_shl24, U_shl16, U_shl8, U_shr3, U_shr10, U_or, U_xor, U_and, U_add, U_add', U_add3, U_add4, U_add5])
      intro w3 hB hA
      replace e0 := Below.keeps hB e0
      replace d1 := Below.keeps hB d1
      replace d2 := Below.keeps hB d2
      replace d3 := Below.keeps hB d3
      replace d4 := Below.keeps hB d4
      replace d5 := Below.keeps hB d5
      replace d6 := Below.keeps hB d6
      replace d7 := Below.keeps hB d7
      replace cw := Below.keeps hB cw
      replace ck := Below.keeps hB ck
      have HB3 := Lib.hid (HB.out.trans (hB.mono HB.out.size))
      clear hA hB
      go_wp2
      refine region_known [(2, .exact Bel (.int .u32 (U v0))), (3, .exact Bel (.int .u32 (U (rotr v0 2)))), (6, .exact Bel (.int .u32 (U v0))), (7, .exact Bel (.int .u32 (U (rotr v0 13)))), (11, .exact Bel (.int .u32 (U v0))), (12, .exact Bel (.int .u32 (U (rotr v0 22))))] (by kernel_rfl) (by kernel_rfl) ?_
      (repeat (first | (refine wpG_skip (by kernel_rfl) (fun K hK => ?_); go_big_quiet_skip; refine wpQuiet_nil (hK _ ?_); clear hK K) | (refine wpG_quiet (by rfl) (by rfl) (fun K hK => ?_); go_big_quiet_want; go_big_quiet_op; go_big_quiet_on; refine wpQuiet_nil (hK _ ?_); clear hK K)))
      refine wpG_exact rfl (by kernel_rfl) (fun w' G hB hS hG => ?_) (fun K hK => ?_)
      · have cc := Below.keeps hB e0
        go_simp
        exact hG _ (Bel.refl _)
      go_simp; refine hK _ ?_; clear hK K; (repeat (first | (refine wpG_skip (by kernel_rfl) (fun K hK => ?_); go_big_quiet_skip; refine wpQuiet_nil (hK _ ?_); clear hK K) | (refine wpG_quiet (by rfl) (by rfl) (fun K hK => ?_); go_big_quiet_want; go_big_quiet_op; go_big_quiet_on; refine wpQuiet_nil (hK _ ?_); clear hK K)))
      refine wpG_exact rfl (by kernel_rfl) (fun w' G hB hS hG => ?_) (fun K hK => ?_)
      · go_simp
        exact calls_told hG (rrot_any v0 2 _ (by omega) (by omega))
      go_simp; refine hK _ ?_; clear hK K; (repeat (first | (refine wpG_skip (by kernel_rfl) (fun K hK => ?_); go_big_quiet_skip; refine wpQuiet_nil (hK _ ?_); clear hK K) | (refine wpG_quiet (by rfl) (by rfl) (fun K hK => ?_); go_big_quiet_want; go_big_quiet_op; go_big_quiet_on; refine wpQuiet_nil (hK _ ?_); clear hK K)))
      refine wpG_exact rfl (by kernel_rfl) (fun w' G hB hS hG => ?_) (fun K hK => ?_)
      · have cc := Below.keeps hB e0
        go_simp
        exact hG _ (Bel.refl _)
      go_simp; refine hK _ ?_; clear hK K; (repeat (first | (refine wpG_skip (by kernel_rfl) (fun K hK => ?_); go_big_quiet_skip; refine wpQuiet_nil (hK _ ?_); clear hK K) | (refine wpG_quiet (by rfl) (by rfl) (fun K hK => ?_); go_big_quiet_want; go_big_quiet_op; go_big_quiet_on; refine wpQuiet_nil (hK _ ?_); clear hK K)))
      refine wpG_exact rfl (by kernel_rfl) (fun w' G hB hS hG => ?_) (fun K hK => ?_)
      · go_simp
        exact calls_told hG (rrot_any v0 13 _ (by omega) (by omega))
      go_simp; refine hK _ ?_; clear hK K; (repeat (first | (refine wpG_skip (by kernel_rfl) (fun K hK => ?_); go_big_quiet_skip; refine wpQuiet_nil (hK _ ?_); clear hK K) | (refine wpG_quiet (by rfl) (by rfl) (fun K hK => ?_); go_big_quiet_want; go_big_quiet_op; go_big_quiet_on; refine wpQuiet_nil (hK _ ?_); clear hK K)))
      refine wpG_exact rfl (by kernel_rfl) (fun w' G hB hS hG => ?_) (fun K hK => ?_)
      · have cc := Below.keeps hB e0
        go_simp
        exact hG _ (Bel.refl _)
      go_simp; refine hK _ ?_; clear hK K; (repeat (first | (refine wpG_skip (by kernel_rfl) (fun K hK => ?_); go_big_quiet_skip; refine wpQuiet_nil (hK _ ?_); clear hK K) | (refine wpG_quiet (by rfl) (by rfl) (fun K hK => ?_); go_big_quiet_want; go_big_quiet_op; go_big_quiet_on; refine wpQuiet_nil (hK _ ?_); clear hK K)))
      refine wpG_exact rfl (by kernel_rfl) (fun w' G hB hS hG => ?_) (fun K hK => ?_)
      · go_simp
        exact calls_told hG (rrot_any v0 22 _ (by omega) (by omega))
      go_simp; refine hK _ ?_; clear hK K; (repeat (first | (refine wpG_skip (by kernel_rfl) (fun K hK => ?_); go_big_quiet_skip; refine wpQuiet_nil (hK _ ?_); clear hK K) | (refine wpG_quiet (by rfl) (by rfl) (fun K hK => ?_); go_big_quiet_want; go_big_quiet_op; go_big_quiet_on; refine wpQuiet_nil (hK _ ?_); clear hK K)))
      (try simp only [U_byte, U_shl24, U_shl16, U_shl8, U_shr3, U_shr10, U_or, U_xor, U_and, U_add, U_add', U_add3, U_add4, U_add5])
      intro w4 hB hA
      replace e0 := Below.keeps hB e0
      replace d1 := Below.keeps hB d1
      replace d2 := Below.keeps hB d2
      replace d3 := Below.keeps hB d3
      replace d4 := Below.keeps hB d4
      replace d5 := Below.keeps hB d5
      replace d6 := Below.keeps hB d6
      replace d7 := Below.keeps hB d7
      replace cw := Below.keeps hB cw
      replace ck := Below.keeps hB ck
      have HB4 := Lib.hid (HB3.out.trans (hB.mono HB3.out.size))
      clear hA hB
      go_wp2
      go_quiet (fail)
      simp only [U_not]
      (try simp only [U_byte, U_shl24, U_shl16, U_shl8, U_shr3, U_shr10, U_or, U_xor, U_and, U_add, U_add', U_add3, U_add4, U_add5])
      have ht1 : v7 + (rotr v4 6 ^^^ rotr v4 11 ^^^ rotr v4 25) + (v4 &&& v5 ^^^ ~~~v4 &&& v6) + kk + ww = tmp1 v4 v5 v6 v7 kk ww := rfl
      rw [ht1]
      clear ht1 d7 cw ck
      obtain ⟨w5, hwq⟩ : ∃ wq, wq = w4.drewN nq := ⟨_, rfl⟩
      rw [← hwq]
      have hB : Below w4.heap.size w4 w5 := by rw [hwq]; exact Below.drewN' w4 nq
      clear hwq
      replace e0 := Below.keeps hB e0
      replace d1 := Below.keeps hB d1
      replace d2 := Below.keeps hB d2
      replace d3 := Below.keeps hB d3
      replace d4 := Below.keeps hB d4
      replace d5 := Below.keeps hB d5
      replace d6 := Below.keeps hB d6
      have HB5 := Lib.hid (HB4.out.trans (hB.mono HB4.out.size))
      clear hB nq
      go_wp2
      go_quiet (fail)
      (try simp only [U_byte, U_shl24, U_shl16, U_shl8, U_shr3, U_shr10, U_or, U_xor, U_and, U_add, U_add', U_add3, U_add4, U_add5])
      have ht2 : (rotr v0 2 ^^^ rotr v0 13 ^^^ rotr v0 22) + (v0 &&& v1 ^^^ v0 &&& v2 ^^^ v1 &&& v2) = tmp2 v0 v1 v2 := rfl
      rw [ht2]
      clear ht2
      obtain ⟨w6, hwq⟩ : ∃ wq, wq = w5.drewN nq := ⟨_, rfl⟩
      rw [← hwq]
      have hB : Below w5.heap.size w5 w6 := by rw [hwq]; exact Below.drewN' w5 nq
      clear hwq
      replace e0 := Below.keeps hB e0
      replace d1 := Below.keeps hB d1
      replace d2 := Below.keeps hB d2
      replace d3 := Below.keeps hB d3
      replace d4 := Below.keeps hB d4
      replace d5 := Below.keeps hB d5
      replace d6 := Below.keeps hB d6
      have HB6 := Lib.hid (HB5.out.trans (hB.mono HB5.out.size))
      have HST2 := Lib.hid (show rounds (wl l 64) h (k + 1) = [tmp1 v4 v5 v6 v7 kk ww + tmp2 v0 v1 v2, v0, v1, v2, v3 + tmp1 v4 v5 v6 v7 kk ww, v4, v5, v6] by rw [HST.out]; rfl)
      clear hB nq HST
      generalize tmp1 v4 v5 v6 v7 kk ww = t1 at *
      generalize tmp2 v0 v1 v2 = t2 at *
      go_wp2
      refine region_known [(5, .exact Bel (.int .u32 (U v0))), (8, .exact Bel (.int .u32 (U v1))), (11, .exact Bel (.int .u32 (U v2))), (14, .exact Bel (.int .u32 (U v3))), (19, .exact Bel (.int .u32 (U v4))), (22, .exact Bel (.int .u32 (U v5))), (25, .exact Bel (.int .u32 (U v6))), (26, kReads 8 (ucells [t1 + t2, v0, v1, v2, v3 + t1, v4, v5, v6]))] (by kernel_rfl) (by kernel_rfl) ?_
      (repeat (first | (refine wpG_skip (by kernel_rfl) (fun K hK => ?_); go_big_quiet_skip; refine wpQuiet_nil (hK _ ?_); clear hK K) | (refine wpG_quiet (by rfl) (by rfl) (fun K hK => ?_); go_big_quiet_want; go_big_quiet_op; go_big_quiet_on; refine wpQuiet_nil (hK _ ?_); clear hK K)))
      refine wpG_exact rfl (by kernel_rfl) (fun w' G hB hS hG => ?_) (fun K hK => ?_)
      · have cc := Below.keeps hB e0
        go_simp
        exact hG _ (Bel.refl _)
      go_simp; refine hK _ ?_; clear hK K; (repeat (first | (refine wpG_skip (by kernel_rfl) (fun K hK => ?_); go_big_quiet_skip; refine wpQuiet_nil (hK _ ?_); clear hK K) | (refine wpG_quiet (by rfl) (by rfl) (fun K hK => ?_); go_big_quiet_want; go_big_quiet_op; go_big_quiet_on; refine wpQuiet_nil (hK _ ?_); clear hK K)))
      refine wpG_exact rfl (by kernel_rfl) (fun w' G hB hS hG => ?_) (fun K hK => ?_)
      · have cc := Below.keeps hB d1
        go_simp
        exact hG _ (Bel.refl _)
      go_simp; refine hK _ ?_; clear hK K; (repeat (first | (refine wpG_skip (by kernel_rfl) (fun K hK => ?_); go_big_quiet_skip; refine wpQuiet_nil (hK _ ?_); clear hK K) | (refine wpG_quiet (by rfl) (by rfl) (fun K hK => ?_); go_big_quiet_want; go_big_quiet_op; go_big_quiet_on; refine wpQuiet_nil (hK _ ?_); clear hK K)))
      refine wpG_exact rfl (by kernel_rfl) (fun w' G hB hS hG => ?_) (fun K hK => ?_)
      · have cc := Below.keeps hB d2
        go_simp
        exact hG _ (Bel.refl _)
      go_simp; refine hK _ ?_; clear hK K; (repeat (first | (refine wpG_skip (by kernel_rfl) (fun K hK => ?_); go_big_quiet_skip; refine wpQuiet_nil (hK _ ?_); clear hK K) | (refine wpG_quiet (by rfl) (by rfl) (fun K hK => ?_); go_big_quiet_want; go_big_quiet_op; go_big_quiet_on; refine wpQuiet_nil (hK _ ?_); clear hK K)))
      refine wpG_exact rfl (by kernel_rfl) (fun w' G hB hS hG => ?_) (fun K hK => ?_)
      · have cc := Below.keeps hB d3
        go_simp
        exact hG _ (Bel.refl _)
      go_simp; refine hK _ ?_; clear hK K; (repeat (first | (refine wpG_skip (by kernel_rfl) (fun K hK => ?_); go_big_quiet_skip; refine wpQuiet_nil (hK _ ?_); clear hK K) | (refine wpG_quiet (by rfl) (by rfl) (fun K hK => ?_); go_big_quiet_want; go_big_quiet_op; go_big_quiet_on; refine wpQuiet_nil (hK _ ?_); clear hK K)))
      refine wpG_exact rfl (by kernel_rfl) (fun w' G hB hS hG => ?_) (fun K hK => ?_)
      · have cc := Below.keeps hB d4
        go_simp
        exact hG _ (Bel.refl _)
      go_simp; refine hK _ ?_; clear hK K; (repeat (first | (refine wpG_skip (by kernel_rfl) (fun K hK => ?_); go_big_quiet_skip; refine wpQuiet_nil (hK _ ?_); clear hK K) | (refine wpG_quiet (by rfl) (by rfl) (fun K hK => ?_); go_big_quiet_want; go_big_quiet_op; go_big_quiet_on; refine wpQuiet_nil (hK _ ?_); clear hK K)))
      refine wpG_exact rfl (by kernel_rfl) (fun w' G hB hS hG => ?_) (fun K hK => ?_)
      · have cc := Below.keeps hB d5
        go_simp
        exact hG _ (Bel.refl _)
      go_simp; refine hK _ ?_; clear hK K; (repeat (first | (refine wpG_skip (by kernel_rfl) (fun K hK => ?_); go_big_quiet_skip; refine wpQuiet_nil (hK _ ?_); clear hK K) | (refine wpG_quiet (by rfl) (by rfl) (fun K hK => ?_); go_big_quiet_want; go_big_quiet_op; go_big_quiet_on; refine wpQuiet_nil (hK _ ?_); clear hK K)))
      refine wpG_exact rfl (by kernel_rfl) (fun w' G hB hS hG => ?_) (fun K hK => ?_)
      · have cc := Below.keeps hB d6
        go_simp
        exact hG _ (Bel.refl _)
      go_simp; refine hK _ ?_; clear hK K; (repeat (first | (refine wpG_skip (by kernel_rfl) (fun K hK => ?_); go_big_quiet_skip; refine wpQuiet_nil (hK _ ?_); clear hK K) | (refine wpG_quiet (by rfl) (by rfl) (fun K hK => ?_); go_big_quiet_want; go_big_quiet_op; go_big_quiet_on; refine wpQuiet_nil (hK _ ?_); clear hK K)))
      (try simp only [U_byte, U_shl24, U_shl16, U_shl8, U_shr3, U_shr10, U_or, U_xor, U_and, U_add, U_add', U_add3, U_add4, U_add5])
      refine wpG_known (kReads 8 (ucells [t1 + t2, v0, v1, v2, v3 + t1, v4, v5, v6])) rfl (by kernel_rfl) (fun w' G hB hS hG => ?_) (fun x K hK => ?_)
      · go_simp
        exact reads_new hG rfl
      obtain ⟨ad, c⟩ := x; go_simp; refine hK _ ?_; clear hK K; (repeat (first | (refine wpG_skip (by kernel_rfl) (fun K hK => ?_); go_big_quiet_skip; refine wpQuiet_nil (hK _ ?_); clear hK K) | (refine wpG_quiet (by rfl) (by rfl) (fun K hK => ?_); go_big_quiet_want; go_big_quiet_op; go_big_quiet_on; refine wpQuiet_nil (hK _ ?_); clear hK K)))
      intro w7 hB hA
      have hr : Hid (Reads w7 (.slice ad 8 c) 8 (ucells [t1 + t2, v0, v1, v2, v3 + t1, v4, v5, v6])) := all0 hA
      have HB7 := Lib.hid (HB6.out.trans (hB.mono HB6.out.size))
      clear hA hB e0 d1 d2 d3 d4 d5 d6
      go_wp2
      refine ⟨?_, by simp [intOf]; omega⟩
      exact ⟨k + 1, ad, c, by omega, by go_num, rfl, by rw [HST2.out]; exact hr.out, HB7.out⟩
    · obtain rfl : k = 64 := by omega
      obtain ⟨Wr, hWr⟩ : ∃ Wr, Wr = wr := ⟨_, rfl⟩
      subst hWr
      obtain ⟨V, hV⟩ : ∃ V, V = rounds (wl l 64) h 64 := ⟨_, rfl⟩
      rw [← hV] at HV
      have HVL := Lib.hid (show V.length = 8 by rw [hV]; exact rounds_length _ _ HL.out 64)
      have HVD := Lib.hid hV
      clear hV
      have HH3 := Lib.hid (HH2.out.below HB.out)
      have hszr := HB.out.size
      go_wp2
      go_loopw [14, 15] (fun v t wx => ∃ k : Nat, k ≤ 8 ∧ t = .int .i64 k ∧ Hid (wx.ownsRow Wr.heap.size 85 1 v k (ucells (zadd h V k))) ∧ Hid (Below Wr.heap.size Wr wx)) (fun _ t _ => 8 - (intOf t).toNat)
      case atStart => exact ⟨0, by omega, rfl, World.ownsRow_nil _ _ _ _, b_refl _⟩
      case round =>
        obtain ⟨k, hk, rfl, HO, HX⟩ := hrel
        obtain ⟨ao, co, rfl⟩ := owns_slice HO.out
        by_cases hk8 : k < 8
        · have k1 : (k : Int) < 8 := by omega
          have k0 : (0 : Int) ≤ (k : Int) := by omega
          obtain ⟨bh, oh, rfl, dh⟩ := (HH3.out.below HX.out).u k (by rw [HL.out]; exact hk8)
          obtain ⟨bv, ov, rfl, dv⟩ := (HV.out.below HX.out).u k (by rw [HVL.out]; exact hk8)
          have HZ := Lib.hid (zadd_step h V HL.out HVL.out k hk8)
          generalize h.getD k 0 = hh at *
          generalize V.getD k 0 = vv at *
          go_wp2
          refine region_tail 11 [(4, .exact Bel (.int .u32 (U hh))), (8, .exact Bel (.int .u32 (U vv))), (10, kReads 1 (ucells [hh + vv]))] (by kernel_rfl) (by kernel_rfl) ?_
          simp only [List.take_succ_cons, List.take_zero, List.drop_succ_cons, List.drop_zero]
          (repeat (first | (refine wpG_skip (by kernel_rfl) (fun K hK => ?_); go_big_quiet_skip; refine wpQuiet_nil (hK _ ?_); clear hK K) | (refine wpG_quiet (by rfl) (by rfl) (fun K hK => ?_); go_big_quiet_want; go_big_quiet_op; go_big_quiet_on; refine wpQuiet_nil (hK _ ?_); clear hK K)))
          refine wpG_exact rfl (by kernel_rfl) (fun w' G hB hS hG => ?_) (fun K hK => ?_)
          · have cc := Below.keeps hB dh
            go_simp
            exact hG _ (Bel.refl _)
          go_simp; refine hK _ ?_; clear hK K; (repeat (first | (refine wpG_skip (by kernel_rfl) (fun K hK => ?_); go_big_quiet_skip; refine wpQuiet_nil (hK _ ?_); clear hK K) | (refine wpG_quiet (by rfl) (by rfl) (fun K hK => ?_); go_big_quiet_want; go_big_quiet_op; go_big_quiet_on; refine wpQuiet_nil (hK _ ?_); clear hK K)))
          refine wpG_exact rfl (by kernel_rfl) (fun w' G hB hS hG => ?_) (fun K hK => ?_)
          · have cc := Below.keeps hB dv
            go_simp
            exact hG _ (Bel.refl _)
          go_simp; refine hK _ ?_; clear hK K; (repeat (first | (refine wpG_skip (by kernel_rfl) (fun K hK => ?_); go_big_quiet_skip; refine wpQuiet_nil (hK _ ?_); clear hK K) | (refine wpG_quiet (by rfl) (by rfl) (fun K hK => ?_); go_big_quiet_want; go_big_quiet_op; go_big_quiet_on; refine wpQuiet_nil (hK _ ?_); clear hK K)))
          (try simp only [U_byte, U_shl24, U_shl16, U_shl8, U_shr3, U_shr10, U_or, U_xor, U_and, U_add, U_add', U_add3, U_add4, U_add5])
          refine wpG_known (kReads 1 (ucells [hh + vv])) rfl (by kernel_rfl) (fun w' G hB hS hG => ?_) (fun x K hK => ?_)
          · go_simp
            exact reads_new hG rfl
          obtain ⟨ad, c⟩ := x; go_simp; refine hK _ ?_; clear hK K; (repeat (first | (refine wpG_skip (by kernel_rfl) (fun K hK => ?_); go_big_quiet_skip; refine wpQuiet_nil (hK _ ?_); clear hK K) | (refine wpG_quiet (by rfl) (by rfl) (fun K hK => ?_); go_big_quiet_want; go_big_quiet_op; go_big_quiet_on; refine wpQuiet_nil (hK _ ?_); clear hK K)))
          intro w3 hB hA
          have hr : Hid (Reads w3 (.slice ad 1 c) 1 (ucells [hh + vv])) := all0 hA
          have HO3 := Lib.hid (ownsRow_below HO.out hB)
          have HX3 := Lib.hid (bt HX.out hB)
          have hsz3 : Wr.heap.size ≤ w3.heap.size := HX3.out.size
          clear hA hB dh dv
          go_wp2_with (at_builtin; go_must (refine appendN w3 (ucells [hh + vv]) 85 rfl _ _ 70 rfl Wr.heap.size (.int .u32 0) 1 4 Try.underlying70 infoU32 rfl (by decide) _ _ _ rfl HO3.out _ 1 rfl hr.out rfl (ucells_ones _) (by omega) (by decide) hsz3 ?_); intro v' w4 hown4 hB4)
          refine ⟨?_, by simp [intOf]; omega⟩
          (repeat apply Exists.intro)
          refine ⟨⟨k + 1, by omega, by go_num, ?_, HX3.out.trans hB4⟩, rfl⟩
          rw [← ucells_app, HZ.out] at hown4
          exact hown4
        · obtain rfl : k = 8 := by omega
          have HZ := Lib.hid (zadd_all h V HL.out HVL.out)
          go_wp2
          go_ret
          refine ⟨_, rfl, ?_, ?_⟩
          · have := owns_mono HO.out (show w.heap.size ≤ Wr.heap.size by omega)
            rw [HZ.out, HVD.out] at this
            exact this
          · exact bt HB2.out (bt HB.out HX.out)
end Go.Proofs.Ytdebgkjekcppmaa
namespace Go.Proofs.Ytdebgkjekcppmaa
open Go.RowKit Oct

theorem wb_cells (x : UInt32) : (#[.int .u8 (U x / 16777216), .int .u8 (U x / 65536 % 256), .int .u8 (U x / 256 % 256), .int .u8 (U x % 256)] : Array Value) = (bcells (wb x)).toArray := by
  have := U_lt x
  simp only [bcells, wb, List.map_cons, List.map_nil, U_nat]
  congr 1
  refine congr (congrArg _ (v_int ?_)) (congr (congrArg _ (v_int ?_)) (congr (congrArg _ (v_int ?_)) (congrArg (fun v => [v]) (v_int ?_))))
  all_goals
    rw [UInt8.toNat_ofNat']
    omega
set_option maxRecDepth 100000 in
set_option maxHeartbeats 4000000 in
theorem rsum_any (vk vh : Value) (l : List UInt8) (w : World) (hl : l.length ≤ 1099511627776) (hk : Reads w vk 64 (ucells ktab)) (hh : Reads w vh 8 (ucells h0)) :
    Calls Try.prog 55 #[.string (bs l), vk, vh] w fun e w' => e = .returned (.string (bs (shaF l))) ∧ Below w.heap.size w w' := by
  obtain ⟨ah, ch, rfl, hx1⟩ := id hh
  obtain ⟨ak, ck, rfl, hx2⟩ := id hk
  have HH := Lib.hid hh
  have HK := Lib.hid hk
  clear hh hk hx1 hx2
  go_enter Try.func55, Try.ntmps55
  go_wp2_with fail
  refine (pad_any l w hl).mono ?_
  rintro e w1 ⟨rfl, hB1⟩
  have HB1 := Lib.hid hB1
  have HH1 := Lib.hid (HH.out.below hB1)
  have HK1 := Lib.hid (HK.out.below hB1)
  obtain ⟨T, hT⟩ : ∃ T, T = padTail l l.length := ⟨_, rfl⟩
  have HTM := Lib.hid (show T.length % 64 = 0 by rw [hT]; exact padTail_mod _ _)
  have HTL := Lib.hid (show T.length ≤ 1099511627900 by rw [hT, padTail_length]; have := zc_le l.length; omega)
  have HS := Lib.hid (show outB (absorb h0 T) = shaF l by rw [hT]; rfl)
  rw [← hT]
  clear hT hB1 HH HK
  go_wp2
  go_loopw [2, 7] (fun v i wx => ∃ (k : Nat) (h : List UInt32) (a : Option Addr) (c : Nat), k ≤ T.length ∧ i = .int .i64 k ∧ v = .slice a 8 c ∧ h.length = 8 ∧ Hid (k % 64 = 0) ∧ Hid (Reads wx (.slice a 8 c) 8 (ucells h)) ∧ Hid (absorb h0 T = absorb h (T.drop k)) ∧ Hid (Below w1.heap.size w1 wx)) (fun _ i _ => T.length - (intOf i).toNat)
  case atStart => exact ⟨0, h0, ah, ch, by omega, rfl, rfl, rfl, rfl, HH1, rfl, b_refl _⟩
  case round =>
    obtain ⟨k, h, a, c, hk, rfl, rfl, hh8, HM, HV, HA, HB⟩ := hrel
    have HTL' := HTL.out
    have HH8 := Lib.hid hh8
    clear hh8
    by_cases hkl : k < T.length
    · have hk64 : k + 64 ≤ T.length := by have := HM.out; have := HTM.out; omega
      have k0 : (0 : Int) ≤ (k : Int) := by omega
      have k1 : (k : Int) < (T.length : Int) := by omega
      have k2 : (k : Int) + 64 ≤ (T.length : Int) := by omega
      have HC := Lib.hid (chunks_step (T.drop k) (by rw [List.length_drop]; omega))
      have HTK := Lib.hid (show 64 ≤ ((T.drop k).take 64).length by simp; omega)
      go_wp2_with fail
      refine (rblock_any _ _ h HH8.out _ HTK.out wr HV.out (HK1.out.below HB.out)).mono ?_
      rintro e w2 ⟨v2, rfl, hown2, hB2⟩
      obtain ⟨a2, c2, rfl⟩ := owns_slice hown2
      have HV2 := Lib.hid (Reads.owned hown2)
      have HB2 := Lib.hid (HB.out.trans (hB2.mono HB.out.size))
      clear hown2 hB2
      go_wp2
      refine ⟨?_, by simp [intOf]; omega⟩
      refine ⟨k + 64, _, a2, c2, by omega, by go_num, rfl, blockF_length _ _ HH8.out, by have := HM.out; show (k + 64) % 64 = 0; omega, HV2.out, ?_, HB2.out⟩
      show absorb h0 T = absorb _ (T.drop (k + 64))
      rw [HA.out]
      unfold absorb
      rw [HC.out, List.foldl_cons, List.drop_drop]
    · obtain rfl : k = T.length := by omega
      have hfin : absorb h0 T = h := by
        have := HA.out
        rw [List.drop_length] at this
        exact this
      have HF := Lib.hid hfin
      obtain ⟨Wr, hWr⟩ : ∃ Wr, Wr = wr := ⟨_, rfl⟩
      subst hWr
      clear hfin HA
      go_wp2
      go_loopw [8, 9] (fun v i wx => ∃ k : Nat, k ≤ 8 ∧ i = .int .i64 k ∧ Hid (wx.ownsRow Wr.heap.size 5 1 v (4 * k) (bcells (outB (h.take k)))) ∧ Hid (Below Wr.heap.size Wr wx)) (fun _ i _ => 8 - (intOf i).toNat)
      case atStart => exact ⟨0, by omega, rfl, World.ownsRow_nil _ _ _ _, b_refl _⟩
      case round =>
        obtain ⟨k, hk8', rfl, HO, HX⟩ := hrel
        obtain ⟨ao, co, rfl⟩ := owns_slice HO.out
        by_cases hk8 : k < 8
        · have k1 : (k : Int) < 8 := by omega
          have k0 : (0 : Int) ≤ (k : Int) := by omega
          obtain ⟨bh, oh, rfl, dh⟩ := (HV.out.below HX.out).u k (by rw [HH8.out]; exact hk8)
          have HOT := Lib.hid (outB_take h k (by rw [HH8.out]; exact hk8))
          generalize h.getD k 0 = x at *
          have hx1 : U x < 4294967296 := by have := U_lt x; rw [U_nat]; omega
          have hx0 : 0 ≤ U x := by rw [U_nat]; omega
          go_wp2
          refine region_tail 25 [(4, .exact Bel (.int .u32 (U x))), (10, .exact Bel (.int .u32 (U x))), (16, .exact Bel (.int .u32 (U x))), (22, .exact Bel (.int .u32 (U x))), (24, kReads 4 (bcells (wb x)))] (by kernel_rfl) (by kernel_rfl) ?_
          simp only [List.take_succ_cons, List.take_zero, List.drop_succ_cons, List.drop_zero]
          (repeat (first | (refine wpG_skip (by kernel_rfl) (fun K hK => ?_); go_big_quiet_skip; refine wpQuiet_nil (hK _ ?_); clear hK K) | (refine wpG_quiet (by rfl) (by rfl) (fun K hK => ?_); go_big_quiet_want; go_big_quiet_op; go_big_quiet_on; refine wpQuiet_nil (hK _ ?_); clear hK K)))
          refine wpG_exact rfl (by kernel_rfl) (fun w' G hB hS hG => ?_) (fun K hK => ?_)
          · have cc := Below.keeps hB dh
            go_simp
            exact hG _ (Bel.refl _)
          go_simp; refine hK _ ?_; clear hK K; (repeat (first | (refine wpG_skip (by kernel_rfl) (fun K hK => ?_); go_big_quiet_skip; refine wpQuiet_nil (hK _ ?_); clear hK K) | (refine wpG_quiet (by rfl) (by rfl) (fun K hK => ?_); go_big_quiet_want; go_big_quiet_op; go_big_quiet_on; refine wpQuiet_nil (hK _ ?_); clear hK K)))
          refine wpG_exact rfl (by kernel_rfl) (fun w' G hB hS hG => ?_) (fun K hK => ?_)
          · have cc := Below.keeps hB dh
            go_simp
            exact hG _ (Bel.refl _)
          go_simp; refine hK _ ?_; clear hK K; (repeat (first | (refine wpG_skip (by kernel_rfl) (fun K hK => ?_); go_big_quiet_skip; refine wpQuiet_nil (hK _ ?_); clear hK K) | (refine wpG_quiet (by rfl) (by rfl) (fun K hK => ?_); go_big_quiet_want; go_big_quiet_op; go_big_quiet_on; refine wpQuiet_nil (hK _ ?_); clear hK K)))
          refine wpG_exact rfl (by kernel_rfl) (fun w' G hB hS hG => ?_) (fun K hK => ?_)
          · have cc := Below.keeps hB dh
            go_simp
            exact hG _ (Bel.refl _)
          go_simp; refine hK _ ?_; clear hK K; (repeat (first | (refine wpG_skip (by kernel_rfl) (fun K hK => ?_); go_big_quiet_skip; refine wpQuiet_nil (hK _ ?_); clear hK K) | (refine wpG_quiet (by rfl) (by rfl) (fun K hK => ?_); go_big_quiet_want; go_big_quiet_op; go_big_quiet_on; refine wpQuiet_nil (hK _ ?_); clear hK K)))
          refine wpG_exact rfl (by kernel_rfl) (fun w' G hB hS hG => ?_) (fun K hK => ?_)
          · have cc := Below.keeps hB dh
            go_simp
            exact hG _ (Bel.refl _)
          go_simp; refine hK _ ?_; clear hK K; (repeat (first | (refine wpG_skip (by kernel_rfl) (fun K hK => ?_); go_big_quiet_skip; refine wpQuiet_nil (hK _ ?_); clear hK K) | (refine wpG_quiet (by rfl) (by rfl) (fun K hK => ?_); go_big_quiet_want; go_big_quiet_op; go_big_quiet_on; refine wpQuiet_nil (hK _ ?_); clear hK K)))
          refine wpG_known (kReads 4 (bcells (wb x))) rfl (by kernel_rfl) (fun w' G hB hS hG => ?_) (fun x K hK => ?_)
          · go_simp
            exact reads_new hG (wb_cells x)
          obtain ⟨ad, c⟩ := x; go_simp; refine hK _ ?_; clear hK K; (repeat (first | (refine wpG_skip (by kernel_rfl) (fun K hK => ?_); go_big_quiet_skip; refine wpQuiet_nil (hK _ ?_); clear hK K) | (refine wpG_quiet (by rfl) (by rfl) (fun K hK => ?_); go_big_quiet_want; go_big_quiet_op; go_big_quiet_on; refine wpQuiet_nil (hK _ ?_); clear hK K)))
          intro w3 hB hA
          have hr : Hid (Reads w3 (.slice ad 4 c) 4 (bcells (wb x))) := all0 hA
          have HO3 := Lib.hid (ownsRow_below HO.out hB)
          have HX3 := Lib.hid (bt HX.out hB)
          have hsz3 : Wr.heap.size ≤ w3.heap.size := HX3.out.size
          clear hA hB dh
          go_wp2_with (at_builtin; go_must (refine appendN w3 (bcells (wb x)) 5 rfl _ _ 75 rfl Wr.heap.size (.int .u8 0) 1 1 Try.underlying75 infoU8 rfl (by decide) _ _ _ rfl HO3.out _ 4 rfl hr.out rfl (bcells_one _) (by omega) (by decide) hsz3 ?_); intro v' w4 hown4 hB4)
          refine ⟨?_, by simp [intOf]; omega⟩
          rw [← bcells_app, ← HOT.out] at hown4
          first
            | exact ⟨k + 1, by omega, by go_num, hown4, HX3.out.trans hB4⟩
            | ((repeat apply Exists.intro); exact ⟨⟨k + 1, by omega, by go_num, hown4, HX3.out.trans hB4⟩, rfl⟩)
        · obtain rfl : k = 8 := by omega
          have HR2 := HO.out
          have HZ := Lib.hid (outB_all h HH8.out)
          have hcv := conv_own 75 9 5 Try.underlying75 Try.underlying5 Try.underlying9 _ _ _ _ _ HR2
          clear HR2
          go_wp2
          go_ret
          refine ⟨?_, bt HB1.out (bt HB.out HX.out)⟩
          show Ending.returned (.string (bs (outB (h.take 8)))) = _
          rw [HZ.out, ← HF.out, HS.out]

set_option maxRecDepth 100000 in
set_option maxHeartbeats 1000000 in
theorem told_any (w : World) :
    Calls Try.prog 56 #[] w fun e w' => ∃ a b, e = .returned (.tuple #[.slice (some ⟨a, 0, none⟩) 64 64, .slice (some ⟨b, 0, none⟩) 8 8]) ∧ Reads w' (.slice (some ⟨a, 0, none⟩) 64 64) 64 (ucells ktab) ∧ Reads w' (.slice (some ⟨b, 0, none⟩) 8 8) 8 (ucells h0) ∧ Below w.heap.size w w' := by
  go_enter Try.func56, Try.ntmps56
  go_wp2
  go_ret2
  have h1 := Reads.new w (ucells ktab) 64 85 64
  have h2 := Reads.new (w.alloc (.cells (ucells ktab).toArray 85)) (ucells h0) 8 85 8
  rw [show (w.alloc (.cells (ucells ktab).toArray 85)).heap.size = w.heap.size + 1 by simp] at h2
  exact ⟨_, _, rfl, h1.below (b_alloc _ _), h2, bt (b_alloc _ _) (b_alloc _ _)⟩

set_option maxRecDepth 100000 in
set_option maxHeartbeats 1000000 in
theorem rSum_any (l : List UInt8) (w : World) (hl : l.length ≤ 1099511627776) :
    Calls Try.prog 17 #[.string (bs l)] w fun e w' => e = .returned (.string (bs (shaF l))) ∧ Below w.heap.size w w' := by
  go_enter Try.func17, Try.ntmps17
  go_wp2_with fail
  refine (told_any w).mono ?_
  rintro e w1 ⟨a, b, rfl, hk, hh, hB1⟩
  have HK := Lib.hid hk
  have HH := Lib.hid hh
  have HB1 := Lib.hid hB1
  clear hk hh hB1
  go_wp2_with fail
  refine (rsum_any _ _ l w1 hl HK.out HH.out).mono ?_
  rintro e w2 ⟨rfl, hB2⟩
  have HB2 := Lib.hid (bt HB1.out hB2)
  clear hB2
  go_wp2_with fail
  go_ret
  exact ⟨rfl, HB2.out⟩
end Go.Proofs.Ytdebgkjekcppmaa
namespace Go.Proofs.Ytdebgkjekcppmaa
open Go.RowKit Oct

def hexAll : List UInt8 := [48, 49, 50, 51, 52, 53, 54, 55, 56, 57, 97, 98, 99, 100, 101, 102]
def hexd (n : Nat) : UInt8 := hexAll.getD n 0
def hexF (l : List UInt8) : List UInt8 := l.flatMap fun c => [hexd (c.toNat / 16), hexd (c.toNat % 16)]
theorem hexF_length (l : List UInt8) : (hexF l).length = 2 * l.length := by
  induction l with
  | nil => rfl
  | cons c l ih => simp only [hexF, List.flatMap_cons, List.length_append, List.length_cons, List.length_nil] at ih ⊢; omega
theorem hexF_snoc (l : List UInt8) (k : Nat) (h : k < l.length) : hexF (l.take (k + 1)) = hexF (l.take k) ++ [hexd (l[k].toNat / 16), hexd (l[k].toNat % 16)] := by
  rw [List.take_succ_eq_append_getElem h, hexF, List.flatMap_append]; simp [hexF]
set_option maxRecDepth 100000 in
theorem index16 (n : Nat) (h : n < 16) (w : World) :
    (Instr.index 9 (.string ⟨#[48, 49, 50, 51, 52, 53, 54, 55, 56, 57, 97, 98, 99, 100, 101, 102]⟩) (.int .u8 (n : Int))).run Try.prog w = .ok (.int .u8 ((hexd n).toNat : Int)) w := by
  rcases (by omega : n = 0 ∨ n = 1 ∨ n = 2 ∨ n = 3 ∨ n = 4 ∨ n = 5 ∨ n = 6 ∨ n = 7 ∨ n = 8 ∨ n = 9 ∨ n = 10 ∨ n = 11 ∨ n = 12 ∨ n = 13 ∨ n = 14 ∨ n = 15) with rfl | rfl | rfl | rfl | rfl | rfl | rfl | rfl | rfl | rfl | rfl | rfl | rfl | rfl | rfl | rfl
  all_goals clear h
  all_goals kernel_rfl

theorem grow_index {P : Program} {o : Oper} {a : Act} {w : World} {v : Value} {G : Value → World → Prop} (t : TypeId) (x y : Operand) (ho : o.op = .index t x y)
    (h : (Instr.index t (a.eval x) (a.eval y)).run P w = .ok v w) (hG : G v w) : growAt P o a w G := by
  unfold growAt execOp
  simp only [ho, Sem.run_bind, h, Result.andThen_ok, Sem.run_pure]
  exact hG

set_option maxRecDepth 100000 in
set_option maxHeartbeats 1000000 in
theorem rHex_any (l : List UInt8) (w : World) (hl : l.length ≤ 1099511627776) :
    Calls Try.prog 21 #[.string (bs l)] w fun e w' => e = .returned (.string (bs (hexF l))) ∧ Below w.heap.size w w' := by
  go_enter Try.func21, Try.ntmps21
  go_wp2
  go_loopw [3, 4] (fun v i wx => ∃ k : Nat, k ≤ l.length ∧ i = .int .i64 k ∧ Hid (wx.ownsRow w.heap.size 5 1 v (2 * k) (bcells (hexF (l.take k)))) ∧ Hid (Below w.heap.size w wx)) (fun _ i _ => l.length - (intOf i).toNat)
  case atStart => exact ⟨0, by omega, rfl, World.ownsRow_nil _ _ _ _, Below.refl _ _⟩
  case round =>
    obtain ⟨k, hk, rfl, HR, HW⟩ := hrel
    by_cases hkl : k < l.length
    · have k1 : (k : Int) < (l.length : Int) := by omega
      have k0 : (0 : Int) ≤ (k : Int) := by omega
      obtain ⟨av, cv, rfl⟩ := owns_slice HR.out
      have HS := Lib.hid (hexF_snoc l k hkl)
      have hlt := l[k].toNat_lt
      have hi1 : ∀ w, (Instr.index 9 (.string ⟨#[48, 49, 50, 51, 52, 53, 54, 55, 56, 57, 97, 98, 99, 100, 101, 102]⟩) (.int .u8 ((l[k].toNat : Int) / 16))).run Try.prog w = .ok (.int .u8 ((hexd (l[k].toNat / 16)).toNat : Int)) w := fun w => by
        rw [show (l[k].toNat : Int) / 16 = ((l[k].toNat / 16 : Nat) : Int) by omega]; exact index16 _ (by omega) w
      have hi2 : ∀ w, (Instr.index 9 (.string ⟨#[48, 49, 50, 51, 52, 53, 54, 55, 56, 57, 97, 98, 99, 100, 101, 102]⟩) (.int .u8 ((l[k].toNat : Int) % 16))).run Try.prog w = .ok (.int .u8 ((hexd (l[k].toNat % 16)).toNat : Int)) w := fun w => by
        rw [show (l[k].toNat : Int) % 16 = ((l[k].toNat % 16 : Nat) : Int) by omega]; exact index16 _ (by omega) w
      generalize hexd (l[k].toNat / 16) = x1 at *
      generalize hexd (l[k].toNat % 16) = x2 at *
      go_wp2
      refine region_tail 12 [(5, .exact Bel (.int .u8 (x1.toNat : Int))), (10, .exact Bel (.int .u8 (x2.toNat : Int))), (11, kReads 2 (bcells [x1, x2]))] (by kernel_rfl) (by kernel_rfl) ?_
      simp only [List.take_succ_cons, List.take_zero, List.drop_succ_cons, List.drop_zero]
      (repeat (first | (refine wpG_skip (by kernel_rfl) (fun K hK => ?_); go_big_quiet_skip; refine wpQuiet_nil (hK _ ?_); clear hK K) | (refine wpG_quiet (by rfl) (by rfl) (fun K hK => ?_); go_big_quiet_want; go_big_quiet_op; go_big_quiet_on; refine wpQuiet_nil (hK _ ?_); clear hK K)))
      refine wpG_exact rfl (by kernel_rfl) (fun w' G hB hS hG => ?_) (fun K hK => ?_)
      · exact grow_index _ _ _ rfl (hi1 w') (hG _ (Bel.refl _))
      go_simp; refine hK _ ?_; clear hK K; (repeat (first | (refine wpG_skip (by kernel_rfl) (fun K hK => ?_); go_big_quiet_skip; refine wpQuiet_nil (hK _ ?_); clear hK K) | (refine wpG_quiet (by rfl) (by rfl) (fun K hK => ?_); go_big_quiet_want; go_big_quiet_op; go_big_quiet_on; refine wpQuiet_nil (hK _ ?_); clear hK K)))
      refine wpG_exact rfl (by kernel_rfl) (fun w' G hB hS hG => ?_) (fun K hK => ?_)
      · exact grow_index _ _ _ rfl (hi2 w') (hG _ (Bel.refl _))
      go_simp; refine hK _ ?_; clear hK K; (repeat (first | (refine wpG_skip (by kernel_rfl) (fun K hK => ?_); go_big_quiet_skip; refine wpQuiet_nil (hK _ ?_); clear hK K) | (refine wpG_quiet (by rfl) (by rfl) (fun K hK => ?_); go_big_quiet_want; go_big_quiet_op; go_big_quiet_on; refine wpQuiet_nil (hK _ ?_); clear hK K)))
      refine wpG_known (kReads 2 (bcells [x1, x2])) rfl (by kernel_rfl) (fun w' G hB hS hG => ?_) (fun x K hK => ?_)
      · go_simp
        exact reads_new hG rfl
      obtain ⟨ad, c⟩ := x; go_simp; refine hK _ ?_; clear hK K; (repeat (first | (refine wpG_skip (by kernel_rfl) (fun K hK => ?_); go_big_quiet_skip; refine wpQuiet_nil (hK _ ?_); clear hK K) | (refine wpG_quiet (by rfl) (by rfl) (fun K hK => ?_); go_big_quiet_want; go_big_quiet_op; go_big_quiet_on; refine wpQuiet_nil (hK _ ?_); clear hK K)))
      intro w' hB hA
      have hr : Hid (Reads w' (.slice ad 2 c) 2 (bcells [x1, x2])) := all0 hA
      have HR' := Lib.hid (ownsRow_below HR.out hB)
      have HB' := Lib.hid (bt HW.out hB)
      have hsz : w.heap.size ≤ w'.heap.size := HB'.out.size
      clear hA hB hi1 hi2 hlt
      go_wp2_with (at_builtin; refine appendN w' (bcells [x1, x2]) 5 rfl _ _ 75 rfl w.heap.size (.int .u8 0) 1 1 Try.underlying75 infoU8 rfl (by decide) _ _ _ rfl HR'.out _ 2 rfl hr.out rfl (by simp [bcells, Value.oneCell']) (by omega) (by decide) hsz ?_; intro v' w1 hown1 hB1)
      refine ⟨⟨k + 1, by omega, by go_num, ?_, HB'.out.trans hB1⟩, by simp [intOf]; omega⟩
      rw [HS.out, show bcells (hexF (l.take k) ++ [x1, x2]) = bcells (hexF (l.take k)) ++ bcells [x1, x2] by simp [bcells]]
      exact hown1
    · have hk : k = l.length := by omega
      subst hk
      obtain ⟨av, cv, rfl⟩ := owns_slice HR.out
      have HR2 := HR.out
      rw [List.take_length] at HR2
      have hcv := conv_own 75 9 5 Try.underlying75 Try.underlying5 Try.underlying9 _ _ _ _ _ HR2
      clear HR2
      go_wp2
      go_ret
      exact ⟨rfl, HW.out⟩
end Go.Proofs.Ytdebgkjekcppmaa
namespace Go.Proofs.Ytdebgkjekcppmaa
open Go.RowKit Oct

def unhGo (acc : List UInt8) : List UInt8 → Option (List UInt8)
  | [] => some acc
  | [_] => none
  | a :: b :: r => match dig a, dig b with
    | some x, some y => unhGo (acc ++ [UInt8.ofNat (16 * x + y)]) r
    | _, _ => none
def unhF (l : List UInt8) : Option (List UInt8) := if l.length % 2 ≠ 0 then none else unhGo [] l
def uV (l : List UInt8) : Value := match unhF l with
  | some o => .tuple #[.string (bs o), .int .i64 0]
  | none => .tuple #[.string (bs []), .int .i64 7]
theorem uV_some {l o : List UInt8} (h : unhF l = some o) : uV l = .tuple #[.string (bs o), .int .i64 0] := by rw [uV, h]
theorem uV_none {l : List UInt8} (h : unhF l = none) : uV l = .tuple #[.string (bs []), .int .i64 7] := by rw [uV, h]
theorem unhGo_at (acc l : List UInt8) (k : Nat) (h : k + 1 < l.length) : unhGo acc (l.drop k) = match dig l[k], dig l[k + 1] with
    | some x, some y => unhGo (acc ++ [UInt8.ofNat (16 * x + y)]) (l.drop (k + 2))
    | _, _ => none := by
  rw [List.drop_eq_getElem_cons (show k < l.length by omega), List.drop_eq_getElem_cons h]; rfl

set_option maxRecDepth 100000 in
set_option maxHeartbeats 1000000 in
theorem rUnhex_any (l : List UInt8) (w : World) (hl : l.length ≤ 1099511627776) :
    Calls Try.prog 19 #[.string (bs l)] w fun e w' => e = .returned (uV l) ∧ Below w.heap.size w w' := by
  by_cases hp : l.length % 2 = 0
  · have p1 : (l.length : Int) % 2 = 0 := by omega
    have HP := Lib.hid hp
    have HU := Lib.hid (show unhF l = unhGo [] l by rw [unhF, if_neg (by omega)])
    clear hp
    go_enter Try.func19, Try.ntmps19
    go_wp2
    go_loopw [4, 5] (fun v i wx => ∃ (m : Nat) (out : List UInt8), m ≤ l.length ∧ m % 2 = 0 ∧ i = .int .i64 m ∧ Hid (wx.ownsRow w.heap.size 5 1 v (m / 2) (bcells out)) ∧ Hid (unhF l = unhGo out (l.drop m)) ∧ Hid (Below w.heap.size w wx)) (fun _ i _ => l.length - (intOf i).toNat)
    case atStart => exact ⟨0, [], by omega, by omega, rfl, World.ownsRow_nil _ _ _ _, HU, Below.refl _ _⟩
    case round =>
      obtain ⟨m, out, hj, hm, rfl, HR, HG, HW⟩ := hrel
      obtain ⟨av, cv, rfl⟩ := owns_slice HR.out
      have HM : Hid (m % 2 = 0) := hm
      clear hm
      by_cases hjl : m < l.length
      · have hj1 : m + 1 < l.length := by have := HP.out; have := HM.out; omega
        have hat := unhGo_at out l m hj1
        have k1 : (m : Int) < (l.length : Int) := by omega
        have k0 : (0 : Int) ≤ (m : Int) := by omega
        have k2 : (m : Int) + 1 < (l.length : Int) := by omega
        have k3 : (0 : Int) ≤ (m : Int) + 1 := by omega
        obtain ⟨a, ha⟩ : ∃ a, l[m] = a := ⟨_, rfl⟩
        obtain ⟨b, hb⟩ : ∃ b, l[m + 1] = b := ⟨_, rfl⟩
        rw [ha, hb] at hat
        have Ha := Lib.hid ha
        have Hb := Lib.hid hb
        have HA := Lib.hid hat
        have HJ := Lib.hid hj1
        clear hat ha hb
        go_wp2
        refine region_known [(3, .exact Bel (.int .i64 (rdig a))), (8, .exact Bel (.int .i64 (rdig b)))] (by kernel_rfl) (by kernel_rfl) ?_
        (repeat (first | (refine wpG_skip (by kernel_rfl) (fun K hK => ?_); go_big_quiet_skip; refine wpQuiet_nil (hK _ ?_); clear hK K) | (refine wpG_quiet (by rfl) (by rfl) (fun K hK => ?_); go_big_quiet_want; go_big_quiet_op; go_big_quiet_on; refine wpQuiet_nil (hK _ ?_); clear hK K)))
        refine wpG_exact rfl (by kernel_rfl) (fun w' G hB hS hG => ?_) (fun K hK => ?_)
        · go_simp
          rw [Ha.out]
          exact calls_told hG (rdigit_any _ _)
        go_simp; refine hK _ ?_; clear hK K; (repeat (first | (refine wpG_skip (by kernel_rfl) (fun K hK => ?_); go_big_quiet_skip; refine wpQuiet_nil (hK _ ?_); clear hK K) | (refine wpG_quiet (by rfl) (by rfl) (fun K hK => ?_); go_big_quiet_want; go_big_quiet_op; go_big_quiet_on; refine wpQuiet_nil (hK _ ?_); clear hK K)))
        refine wpG_exact rfl (by kernel_rfl) (fun w' G hB hS hG => ?_) (fun K hK => ?_)
        · go_simp
          rw [Hb.out]
          exact calls_told hG (rdigit_any _ _)
        go_simp; refine hK _ ?_; clear hK K; (repeat (first | (refine wpG_skip (by kernel_rfl) (fun K hK => ?_); go_big_quiet_skip; refine wpQuiet_nil (hK _ ?_); clear hK K) | (refine wpG_quiet (by rfl) (by rfl) (fun K hK => ?_); go_big_quiet_want; go_big_quiet_op; go_big_quiet_on; refine wpQuiet_nil (hK _ ?_); clear hK K)))
        intro w' hB hA
        have HB' := Lib.hid (bt HW.out hB)
        have HR' := Lib.hid (ownsRow_below HR.out hB)
        have hsz : w.heap.size ≤ w'.heap.size := HB'.out.size
        clear hA hB
        cases hda : dig a with
        | none =>
          have HN := Lib.hid (uV_none (l := l) (by rw [HG.out, HA.out, hda]))
          have hra : rdig a = -1 := by rw [rdig, hda]
          rw [hra]
          clear hda
          go_wp2
          go_ret2
          rw [HN.out]
          exact ⟨rfl, HB'.out⟩
        | some x =>
          have hra : rdig a = (x : Int) := by rw [rdig, hda]
          have hx := dig_lt a x hda
          have hx0 : ¬ (x : Int) < 0 := by omega
          rw [hra]
          cases hdb : dig b with
          | none =>
            have HN := Lib.hid (uV_none (l := l) (by rw [HG.out, HA.out, hda, hdb]))
            have hrb : rdig b = -1 := by rw [rdig, hdb]
            rw [hrb]
            clear hda hdb hra hrb
            go_wp2
            go_ret2
            rw [HN.out]
            exact ⟨rfl, HB'.out⟩
          | some y =>
            have hrb : rdig b = (y : Int) := by rw [rdig, hdb]
            have hy := dig_lt b y hdb
            have hy0 : ¬ (y : Int) < 0 := by omega
            have HN := Lib.hid (show unhF l = unhGo (out ++ [UInt8.ofNat (16 * x + y)]) (l.drop (m + 2)) by rw [HG.out, HA.out, hda, hdb])
            have HE := Lib.hid (show 16 * (x : Int) + (y : Int) = ((UInt8.ofNat (16 * x + y)).toNat : Int) by rw [UInt8.toNat_ofNat_of_lt' (by show 16 * x + y < 256; omega)]; norm_cast)
            rw [hrb]
            clear hda hdb hra hrb
            go_wp2_with (at_builtin; refine append1 w' [_] 5 rfl _ _ 75 rfl w.heap.size (.int .u8 0) 1 1 Try.underlying75 infoU8 rfl (by decide) _ _ _ rfl HR'.out _ rfl rfl (by simp [Value.oneCell']) (by omega) (by decide) hsz ?_; intro v' w1 hown1 hB1)
            rw [HE.out, bcells_snoc] at hown1
            refine ⟨⟨_, _, _, _, ⟨m + 2, by have := HJ.out; omega, by have := HM.out; omega, by go_num, out ++ [UInt8.ofNat (16 * x + y)], ?_, HN, HB'.out.trans hB1⟩, rfl, rfl, rfl, rfl⟩, by simp [intOf]; omega⟩
            rw [show (m + 2) / 2 = m / 2 + 1 by have := HM.out; omega]
            exact hown1
      · have hk : m = l.length := by omega
        subst hk
        have HR2 := HR.out
        have HN := Lib.hid (uV_some (l := l) (o := out) (by rw [HG.out, List.drop_length]; rfl))
        have hcv := conv_own 75 9 5 Try.underlying75 Try.underlying5 Try.underlying9 _ _ _ _ _ HR2
        clear HR2
        go_wp2
        go_ret2
        rw [HN.out]
        exact ⟨rfl, HW.out⟩
  · have p1 : (l.length : Int) % 2 = 1 := by omega
    have HN := Lib.hid (uV_none (l := l) (by rw [unhF, if_pos hp]))
    clear hp
    go_enter Try.func19, Try.ntmps19
    go_wp2
    go_ret2
    rw [HN.out]
    exact ⟨rfl, Below.refl _ _⟩
end Go.Proofs.Ytdebgkjekcppmaa
namespace Go.Proofs.Ytdebgkjekcppmaa
open Go.RowKit Oct

theorem dig_hexd : ∀ n, n < 16 → dig (hexd n) = some n := by decide
theorem hexd_dig (c : UInt8) (n : Nat) (h : dig c = some n) : hexd n = c := by
  have k1 : ∀ n, n < 10 → hexd n = UInt8.ofNat (48 + n) := by decide
  have k2 : ∀ n, n < 16 → 10 ≤ n → hexd n = UInt8.ofNat (87 + n) := by decide
  unfold dig at h
  split at h
  · cases h
    rw [k1 _ (by omega), show 48 + (c.toNat - 48) = c.toNat by omega, UInt8.ofNat_toNat]
  · split at h
    · cases h
      rw [k2 _ (by omega) (by omega), show 87 + (c.toNat - 87) = c.toNat by omega, UInt8.ofNat_toNat]
    · cases h
theorem unhGo_hex (l : List UInt8) : ∀ acc, unhGo acc (hexF l) = some (acc ++ l) := by
  induction l with
  | nil => intro acc; simp [hexF, unhGo]
  | cons c l ih =>
    intro acc
    have hc := c.toNat_lt
    have e : hexF (c :: l) = hexd (c.toNat / 16) :: hexd (c.toNat % 16) :: hexF l := rfl
    rw [e, unhGo, dig_hexd _ (by omega), dig_hexd _ (by omega)]
    simp only []
    rw [ih, show 16 * (c.toNat / 16) + c.toNat % 16 = c.toNat by omega, UInt8.ofNat_toNat, List.append_assoc]
    rfl
theorem unhF_hex (l : List UInt8) : unhF (hexF l) = some l := by
  rw [unhF, if_neg (by rw [hexF_length]; omega), unhGo_hex]; rfl
theorem hexF_append (a b : List UInt8) : hexF (a ++ b) = hexF a ++ hexF b := by simp [hexF]
theorem hex_unhGo : ∀ (n : Nat) (t acc y : List UInt8), t.length ≤ n → unhGo acc t = some y → hexF y = hexF acc ++ t
  | _, [], acc, y, _, h => by simp only [unhGo, Option.some.injEq] at h; subst h; simp
  | _, [a], acc, y, _, h => by simp [unhGo] at h
  | 0, a :: b :: t, acc, y, hn, h => by simp at hn
  | n + 1, a :: b :: t, acc, y, hn, h => by
    rw [unhGo] at h
    cases ha : dig a with
    | none => rw [ha] at h; simp at h
    | some p =>
      cases hb : dig b with
      | none => rw [ha, hb] at h; simp at h
      | some q =>
        rw [ha, hb] at h
        have hp := dig_lt a p ha
        have hq := dig_lt b q hb
        have := hex_unhGo n t _ y (by simp at hn; omega) h
        have e : hexF [UInt8.ofNat (16 * p + q)] = [a, b] := by
          have e1 : (UInt8.ofNat (16 * p + q)).toNat = 16 * p + q := UInt8.toNat_ofNat_of_lt' (by show 16 * p + q < 256; omega)
          simp only [hexF, List.flatMap_cons, List.flatMap_nil, List.append_nil, e1]
          rw [show (16 * p + q) / 16 = p by omega, show (16 * p + q) % 16 = q by omega, hexd_dig a p ha, hexd_dig b q hb]
        rw [this, hexF_append, e, List.append_assoc]; rfl
theorem hex_unhF (t y : List UInt8) (h : unhF t = some y) : hexF y = t := by
  unfold unhF at h
  split at h
  · cases h
  · have := hex_unhGo t.length t [] y (Nat.le_refl _) h
    simpa [hexF] using this
end Go.Proofs.Ytdebgkjekcppmaa
namespace Go.Proofs.Ytdebgkjekcppmaa
open Go.RowKit Oct

set_option maxRecDepth 100000 in
set_option maxHeartbeats 1000000 in
theorem Hex_any (l : List UInt8) (w : World) (hl : l.length ≤ 1099511627776) :
    Calls Try.prog 20 #[.string (bs l)] w fun e w' => e = .returned (.string (bs (hexF l))) ∧ Below w.heap.size w w' := by
  go_enter Try.func20, Try.ntmps20
  go_wp2
  obtain ⟨W1, hW1⟩ : ∃ W1, W1 = w.alloc (.cells #[.pointer none, .slice none 0 0] 77) := ⟨_, rfl⟩
  have hBld : Bld w.heap.size w.heap.size [] W1 := by rw [hW1]; exact Bld.fresh w
  have hBW : Below w.heap.size w W1 := by rw [hW1]; exact b_alloc _ _
  rw [← hW1]
  have HBld := Lib.hid hBld
  have HBW := Lib.hid hBW
  clear hW1 hBld hBW
  go_loopw [7] (fun i wx => ∃ k : Nat, k ≤ l.length ∧ i = .int .i64 k ∧ Hid (Bld w.heap.size w.heap.size (hexF (l.take k)) wx) ∧ Hid (Below w.heap.size w wx)) (fun i _ => l.length - (intOf i).toNat)
  case atStart => exact ⟨0, by omega, rfl, HBld, HBW⟩
  case round =>
    obtain ⟨k, hk, rfl, HB, HW⟩ := hrel
    by_cases hkl : k < l.length
    · have k1 : (k : Int) < (l.length : Int) := by omega
      have k0 : (0 : Int) ≤ (k : Int) := by omega
      have HS := Lib.hid (hexF_snoc l k hkl)
      have HL := Lib.hid (show (hexF (l.take k)).length + 2 ≤ 140737488355328 by rw [hexF_length, List.length_take]; omega)
      have hlt := l[k].toNat_lt
      have hi1 : ∀ w, (Instr.index 9 (.string ⟨#[48, 49, 50, 51, 52, 53, 54, 55, 56, 57, 97, 98, 99, 100, 101, 102]⟩) (.int .u8 ((l[k].toNat : Int) / 16))).run Try.prog w = .ok (.int .u8 ((hexd (l[k].toNat / 16)).toNat : Int)) w := fun w => by
        rw [show (l[k].toNat : Int) / 16 = ((l[k].toNat / 16 : Nat) : Int) by omega]; exact index16 _ (by omega) w
      have hi2 : ∀ w, (Instr.index 9 (.string ⟨#[48, 49, 50, 51, 52, 53, 54, 55, 56, 57, 97, 98, 99, 100, 101, 102]⟩) (.int .u8 ((l[k].toNat : Int) % 16))).run Try.prog w = .ok (.int .u8 ((hexd (l[k].toNat % 16)).toNat : Int)) w := fun w => by
        rw [show (l[k].toNat : Int) % 16 = ((l[k].toNat % 16 : Nat) : Int) by omega]; exact index16 _ (by omega) w
      generalize hexd (l[k].toNat / 16) = x1 at *
      generalize hexd (l[k].toNat % 16) = x2 at *
      go_wp2_with fail
      refine (WriteByte_kept w.heap.size w.heap.size _ x1 _ HB.out (by have := HL.out; omega)).mono ?_
      rintro e w2 ⟨rfl, hB2, hb2, _⟩
      have HB2 := Lib.hid hB2
      have HW2 := Lib.hid (HW.out.trans hb2)
      clear hB2 hb2
      go_wp2_with fail
      refine (WriteByte_kept w.heap.size w.heap.size _ x2 _ HB2.out (by rw [List.length_append]; have := HL.out; show _ + 1 + 1 ≤ _; omega)).mono ?_
      rintro e w3 ⟨rfl, hB3, hb3, _⟩
      have HB3 := Lib.hid hB3
      have HW3 := Lib.hid (HW2.out.trans hb3)
      clear hB3 hb3
      go_wp2_with fail
      refine ⟨⟨k + 1, by omega, by go_num, ?_, HW3.out⟩, by simp [intOf]; omega⟩
      have := HB3.out
      rw [List.append_assoc] at this
      rw [HS.out]
      exact this
    · have hk : k = l.length := by omega
      subst hk
      have HF := Lib.hid (List.take_length (l := l))
      go_wp2_with fail
      refine (BString_any w.heap.size w.heap.size _ _ HB.out).mono ?_
      rintro e w7 ⟨rfl, hB7⟩
      go_wp2_with fail
      go_ret
      exact ⟨rfl, HW.out.trans hB7⟩
theorem or16F : ∀ x y : Fin 16, bits .or .u8 ((x.val : Int) * 16) (y.val : Int) = ((UInt8.ofNat (16 * x.val + y.val)).toNat : Int) := by decide +kernel
theorem or16 (x y : Nat) (hx : x < 16) (hy : y < 16) : bits .or .u8 ((x : Int) * 16) (y : Int) = ((UInt8.ofNat (16 * x + y)).toNat : Int) := or16F ⟨x, hx⟩ ⟨y, hy⟩
set_option maxRecDepth 100000 in
set_option maxHeartbeats 1000000 in
theorem Unhex_any (l : List UInt8) (w : World) (hl : l.length ≤ 1099511627776) :
    Calls Try.prog 18 #[.string (bs l)] w fun e w' => e = .returned (uV l) ∧ Below w.heap.size w w' := by
  by_cases hp : l.length % 2 = 0
  · have p1 : (l.length : Int) % 2 = 0 := by omega
    have HP := Lib.hid hp
    have HU := Lib.hid (show unhF l = unhGo [] l by rw [unhF, if_neg (by omega)])
    clear hp
    go_enter Try.func18, Try.ntmps18
    go_wp2_with fail
    obtain ⟨W1, hW1⟩ : ∃ W1, W1 = w.alloc (.cells #[.pointer none, .slice none 0 0] 77) := ⟨_, rfl⟩
    have hBld : Bld w.heap.size w.heap.size [] W1 := by rw [hW1]; exact Bld.fresh w
    have hBW : Below w.heap.size w W1 := by rw [hW1]; exact b_alloc _ _
    rw [← hW1]
    have HBld := Lib.hid hBld
    have HBW := Lib.hid hBW
    clear hW1 hBld hBW p1
    go_loopw [5] (fun i wx => ∃ (m : Nat) (out : List UInt8), m ≤ l.length ∧ m % 2 = 0 ∧ out.length ≤ m ∧ i = .int .i64 m ∧ Hid (Bld w.heap.size w.heap.size out wx) ∧ Hid (unhF l = unhGo out (l.drop m)) ∧ Hid (Below w.heap.size w wx)) (fun i _ => l.length - (intOf i).toNat)
    case atStart => exact ⟨0, [], by omega, by omega, by simp, rfl, HBld, HU, HBW⟩
    case round =>
      clear HBld HBW
      obtain ⟨m, out, hj, hm, hol, rfl, HR, HG, HW⟩ := hrel
      have HM : Hid (m % 2 = 0) := hm
      have HOL := Lib.hid hol
      clear hm hol
      by_cases hjl : m < l.length
      · have hj1 : m + 1 < l.length := by have := HP.out; have := HM.out; omega
        have hat := unhGo_at out l m hj1
        have k1 : (m : Int) < (l.length : Int) := by omega
        have k0 : (0 : Int) ≤ (m : Int) := by omega
        have k2 : (m : Int) + 1 < (l.length : Int) := by omega
        have k3 : (0 : Int) ≤ (m : Int) + 1 := by omega
        obtain ⟨a, ha⟩ : ∃ a, l[m] = a := ⟨_, rfl⟩
        obtain ⟨b, hb⟩ : ∃ b, l[m + 1] = b := ⟨_, rfl⟩
        rw [ha, hb] at hat
        have HA := Lib.hid hat
        have HJ := Lib.hid hj1
        clear hat
        go_wp2_with fail
        refine (digit_any a _).mono ?_
        rintro e w2 ⟨rfl, hB2⟩
        have HR2 := Lib.hid (HR.out.below hB2)
        have HW2 := Lib.hid (bt HW.out hB2)
        clear hB2 HR HW
        go_wp2_with fail
        refine (digit_any b _).mono ?_
        rintro e w3 ⟨rfl, hB3⟩
        have HR3 := Lib.hid (HR2.out.below hB3)
        have HW3 := Lib.hid (bt HW2.out hB3)
        clear hB3 HR2 HW2
        cases hda : dig a with
        | none =>
          have HN := Lib.hid (uV_none (l := l) (by rw [HG.out, HA.out, hda]))
          simp only [Option.getD_none, Option.isSome_none]
          clear hda
          go_wp2
          go_ret2
          rw [HN.out]
          exact ⟨rfl, HW3.out⟩
        | some x =>
          have hx := dig_lt a x hda
          cases hdb : dig b with
          | none =>
            have HN := Lib.hid (uV_none (l := l) (by rw [HG.out, HA.out, hda, hdb]))
            simp only [Option.getD_none, Option.isSome_none, Option.getD_some, Option.isSome_some]
            clear hda hdb
            go_wp2
            go_ret2
            rw [HN.out]
            exact ⟨rfl, HW3.out⟩
          | some y =>
            have hy := dig_lt b y hdb
            have HN := Lib.hid (show unhF l = unhGo (out ++ [UInt8.ofNat (16 * x + y)]) (l.drop (m + 2)) by rw [HG.out, HA.out, hda, hdb])
            have hor := or16 x y hx hy
            have hx1 : (x : Int) < 16 := by omega
            simp only [Option.getD_none, Option.isSome_none, Option.getD_some, Option.isSome_some]
            clear hda hdb
            go_wp2_with fail
            refine (WriteByte_kept w.heap.size w.heap.size out (UInt8.ofNat (16 * x + y)) _ HR3.out (by have := HOL.out; omega)).mono ?_
            rintro e w4 ⟨rfl, hB4, hb4, _⟩
            have HB4 := Lib.hid hB4
            have HW4 := Lib.hid (HW3.out.trans hb4)
            clear hB4 hb4
            go_wp2_with fail
            refine ⟨?_, by simp [intOf]; omega⟩
            exact ⟨m + 2, out ++ [UInt8.ofNat (16 * x + y)], by have := HJ.out; omega, by have := HM.out; omega, by rw [List.length_append]; have := HOL.out; show _ + 1 ≤ _; omega, by go_num, HB4, HN, HW4⟩
      · have hk : m = l.length := by omega
        subst hk
        have k2 : ¬ (l.length : Int) + 1 < (l.length : Int) := by omega
        have HN := Lib.hid (uV_some (l := l) (o := out) (by rw [HG.out, List.drop_length]; rfl))
        go_wp2_with fail
        refine (BString_any w.heap.size w.heap.size _ _ HR.out).mono ?_
        rintro e w7 ⟨rfl, hB7⟩
        have HB7 := Lib.hid hB7
        clear hB7
        go_wp2_with fail
        go_ret2
        refine ⟨?_, HW.out.trans HB7.out⟩
        rw [HN.out]
        rfl
  · have p1 : (l.length : Int) % 2 = 1 := by omega
    have HN := Lib.hid (uV_none (l := l) (by rw [unhF, if_pos hp]))
    clear hp
    go_enter Try.func18, Try.ntmps18
    go_wp2
    go_ret2
    rw [HN.out]
    exact ⟨rfl, Below.refl _ _⟩
end Go.Proofs.Ytdebgkjekcppmaa
namespace Go.Proofs.Ytdebgkjekcppmaa
open Go.RowKit Oct

/-- block p is a Hash of the text t -/
def HashOf (w : World) (p : Nat) (t : List UInt8) : Prop := Blk w p 89 (hcells (absorb h0 t) (tailB t) ((t.length : Nat) : Int))
theorem HashOf.below {w w' : World} {p : Nat} {t : List UInt8} (h : HashOf w p t) (hB : Below w.heap.size w w') : HashOf w' p t := Blk.below h hB
theorem HashOf.chg {X : Nat → Prop} {w w' : World} {p : Nat} {t : List UInt8} (h : HashOf w p t) (hB : Chg X w w') (hX : ¬ X p) : HashOf w' p t := Blk.chg h hB hX
theorem NewH_any (w : World) : Calls Try.prog 22 #[] w fun e w' => ∃ b, e = .returned (.pointer (some ⟨b, 0, none⟩)) ∧ w.heap.size ≤ b ∧ HashOf w' b [] ∧ Below w.heap.size w w' := New_any w
theorem WriteH_any (p : Nat) (t s : List UInt8) (w : World) (hp : HashOf w p t) (hn : t.length + s.length ≤ 70368744177664) :
    Calls Try.prog 24 #[.pointer (some ⟨p, 0, none⟩), .string (bs s)] w fun e w' => e = .returned (.int .i64 0) ∧ HashOf w' p (t ++ s) ∧ Chg (· = p) w w' := by
  obtain ⟨e1, e2⟩ := absorb_tail h0 t s
  have hl := tailB_length t
  have h := Write_any p (absorb h0 t) (absorb_length _ _ rfl) (tailB t) s t.length w hp (by omega) (by omega)
  rw [e1, e2, ← List.length_append] at h
  exact h
theorem MSumH_any (p : Nat) (t : List UInt8) (w : World) (hp : HashOf w p t) (hn : t.length ≤ 70368744177664) :
    Calls Try.prog 23 #[.pointer (some ⟨p, 0, none⟩)] w fun e w' => e = .returned (.string (bs (shaF t))) ∧ Below w.heap.size w w' := by
  have hl := tailB_length t
  have h := MSum_any p (absorb h0 t) (absorb_length _ _ rfl) (tailB t) t.length w hp (by omega) (by omega)
  rw [shaF_pieces] at h
  exact h
set_option maxRecDepth 100000 in
set_option maxHeartbeats 1000000 in
theorem Sum_any (s : List UInt8) (w : World) (hs : s.length ≤ 70368744177664) :
    Calls Try.prog 15 #[.string (bs s)] w fun e w' => e = .returned (.string (bs (shaF s))) ∧ Below w.heap.size w w' := by
  have HS := Lib.hid hs
  clear hs
  go_enter Try.func15, Try.ntmps15
  go_wp2_with fail
  refine (NewH_any w).mono ?_
  rintro e w1 ⟨b, rfl, hb, hH1, hB1⟩
  have HH1 := Lib.hid hH1
  have HB1 := Lib.hid hB1
  clear hH1 hB1
  go_wp2_with fail
  refine (WriteH_any b [] s _ HH1.out (by have := HS.out; simp; omega)).mono ?_
  rintro e w2 ⟨rfl, hH2, hC2⟩
  rw [List.nil_append] at hH2
  have HH2 := Lib.hid hH2
  have HC2 := Lib.hid hC2
  clear hH2 hC2
  go_wp2_with fail
  refine (MSumH_any b s _ HH2.out HS.out).mono ?_
  rintro e w3 ⟨rfl, hB3⟩
  have HB3 := Lib.hid hB3
  clear hB3
  go_wp2_with fail
  go_ret
  have h2 : Below w.heap.size w w2 := HB1.out.trans (HC2.out.below (fun k hk => by subst hk; exact hb) HB1.out.size)
  exact ⟨rfl, h2.trans (HB3.out.mono h2.size)⟩

set_option maxRecDepth 100000 in
theorem hex_none : hexF (shaF []) = [101, 51, 98, 48, 99, 52, 52, 50, 57, 56, 102, 99, 49, 99, 49, 52, 57, 97, 102, 98, 102, 52, 99, 56, 57, 57, 54, 102, 98, 57, 50, 52, 50, 55, 97, 101, 52, 49, 101, 52, 54, 52, 57, 98, 57, 51, 52, 99, 97, 52, 57, 53, 57, 57, 49, 98, 55, 56, 53, 50, 98, 56, 53, 53] := by decide +kernel
set_option maxRecDepth 100000 in
theorem hex_abc : hexF (shaF [97, 98, 99]) = [98, 97, 55, 56, 49, 54, 98, 102, 56, 102, 48, 49, 99, 102, 101, 97, 52, 49, 52, 49, 52, 48, 100, 101, 53, 100, 97, 101, 50, 50, 50, 51, 98, 48, 48, 51, 54, 49, 97, 51, 57, 54, 49, 55, 55, 97, 57, 99, 98, 52, 49, 48, 102, 102, 54, 49, 102, 50, 48, 48, 49, 53, 97, 100] := by decide +kernel
theorem unh_0G : uV [48, 71] = .tuple #[.string (bs []), .int .i64 7] := uV_none (by decide +kernel)

set_option maxRecDepth 100000 in
set_option maxHeartbeats 2000000 in
theorem alive02 (w : World) : Calls Try.prog 14 #[] w fun e w' => e = .returned (.bool true) ∧ Below w.heap.size w w' := by
  go_enter Try.func14, Try.ntmps14
  go_wp2_with fail
  refine (NewH_any w).mono ?_
  rintro e w1 ⟨b, rfl, hb, hH1, hB1⟩
  have HH1 := Lib.hid hH1
  have HB1 := Lib.hid hB1
  clear hH1 hB1
  go_wp2_with fail
  refine (WriteH_any b [] [97, 98] _ HH1.out (by decide)).mono ?_
  rintro e w2 ⟨rfl, hH2, hC2⟩
  have HH2 := Lib.hid hH2
  have HC2 := Lib.hid hC2
  clear hH2 hC2
  go_wp2_with fail
  refine (WriteH_any b ([] ++ [97, 98]) [99] _ HH2.out (by decide)).mono ?_
  rintro e w3 ⟨rfl, hH3, hC3⟩
  have HH3 := Lib.hid (show HashOf w3 b [97, 98, 99] from hH3)
  have h3 : Below w.heap.size w w3 := HB1.out.trans ((HC2.out.trans hC3).below (fun k hk => by subst hk; exact hb) HB1.out.size)
  have HB3 := Lib.hid h3
  clear hH3 hC3 h3 HB1 HC2 HH2 HH1
  go_wp2_with fail
  refine (Unhex_any [48, 71] _ (by decide)).mono ?_
  rw [unh_0G]
  rintro e w4 ⟨rfl, hB4⟩
  have HH4 := Lib.hid (HH3.out.below hB4)
  have HB4 := Lib.hid (HB3.out.trans (hB4.mono HB3.out.size))
  clear hB4
  go_wp2_with fail
  refine (Sum_any [] _ (by decide)).mono ?_
  rintro e w5 ⟨rfl, hB5⟩
  have HH5 := Lib.hid (HH4.out.below hB5)
  have HB5 := Lib.hid (HB4.out.trans (hB5.mono HB4.out.size))
  clear hB5
  go_wp2_with fail
  refine (Hex_any (shaF []) _ (by rw [shaF_length]; decide)).mono ?_
  rw [hex_none]
  rintro e w6 ⟨rfl, hB6⟩
  have HH6 := Lib.hid (HH5.out.below hB6)
  have HB6 := Lib.hid (HB5.out.trans (hB6.mono HB5.out.size))
  clear hB6
  go_wp2_with fail
  refine (MSumH_any b [97, 98, 99] _ HH6.out (by decide)).mono ?_
  rintro e w7 ⟨rfl, hB7⟩
  have HH7 := Lib.hid (HH6.out.below hB7)
  have HB7 := Lib.hid (HB6.out.trans (hB7.mono HB6.out.size))
  clear hB7
  go_wp2_with fail
  refine (Hex_any (shaF [97, 98, 99]) _ (by rw [shaF_length]; decide)).mono ?_
  rw [hex_abc]
  rintro e w8 ⟨rfl, hB8⟩
  have HH8 := Lib.hid (HH7.out.below hB8)
  have HB8 := Lib.hid (HB7.out.trans (hB8.mono HB7.out.size))
  clear hB8
  go_wp2_with fail
  refine (MSumH_any b [97, 98, 99] _ HH8.out (by decide)).mono ?_
  rintro e w9 ⟨rfl, hB9⟩
  have HB9 := Lib.hid (HB8.out.trans (hB9.mono HB8.out.size))
  clear hB9
  go_wp2_with fail
  refine (Sum_any [97, 98, 99] _ (by decide)).mono ?_
  rintro e wA ⟨rfl, hBA⟩
  have HBA := Lib.hid (HB9.out.trans (hBA.mono HB9.out.size))
  clear hBA
  generalize shaF [97, 98, 99] = D
  go_wp2_with fail
  refine (Write_nil [97] _).mono ?_
  rintro e wB ⟨rfl, hBB⟩
  have HBB := Lib.hid (HBA.out.trans (hBB.mono HBA.out.size))
  clear hBB
  go_wp2_with fail
  refine (MSum_nil _).mono ?_
  rintro e wC ⟨rfl, hBC⟩
  have HBC := Lib.hid (HBB.out.trans (hBC.mono HBB.out.size))
  clear hBC
  go_wp2_with fail
  go_ret
  exact ⟨rfl, HBC.out⟩
end Go.Proofs.Ytdebgkjekcppmaa
