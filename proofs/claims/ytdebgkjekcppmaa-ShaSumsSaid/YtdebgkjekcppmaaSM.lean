/- Walks of package maslinref02: sum, told, Sum. -/
import Derived.Test.YtdebgkjekcppmaaSL
import Derived.Test.YtdebgkjekcppmaaSD
namespace Go.Proofs.Ytdebgkjekcppmaa
open Go.RowKit Oct

theorem wb_cells (x : UInt32) : (#[.int .u8 (U x / 16777216), .int .u8 (U x / 65536 % 256), .int .u8 (U x / 256 % 256), .int .u8 (U x % 256)] : Array Value) = (bcells (wb x)).toArray := by
  have := U_lt x
  simp only [bcells, wb, List.map_cons, List.map_nil, U_nat]
  congr 1
  refine congr (congrArg _ (v_int ?_)) (congr (congrArg _ (v_int ?_)) (congr (congrArg _ (v_int ?_)) (congrArg (fun v => [v]) (v_int ?_))))
  all_goals
    rw [UInt8.toNat_ofNat']
    omega
set_option maxRecDepth 100000 in
set_option maxHeartbeats 4000000 in
theorem rsum_any (vk vh : Value) (l : List UInt8) (w : World) (hl : l.length ≤ 1099511627776) (hk : Reads w vk 64 (ucells ktab)) (hh : Reads w vh 8 (ucells h0)) :
    Calls Try.prog 55 #[.string (bs l), vk, vh] w fun e w' => e = .returned (.string (bs (shaF l))) ∧ Below w.heap.size w w' := by
  obtain ⟨ah, ch, rfl, hx1⟩ := id hh
  obtain ⟨ak, ck, rfl, hx2⟩ := id hk
  have HH := Lib.hid hh
  have HK := Lib.hid hk
  clear hh hk hx1 hx2
  go_enter Try.func55, Try.ntmps55
  go_wp2_with fail
  refine (pad_any l w hl).mono ?_
  rintro e w1 ⟨rfl, hB1⟩
  have HB1 := Lib.hid hB1
  have HH1 := Lib.hid (HH.out.below hB1)
  have HK1 := Lib.hid (HK.out.below hB1)
  obtain ⟨T, hT⟩ : ∃ T, T = padTail l l.length := ⟨_, rfl⟩
  have HTM := Lib.hid (show T.length % 64 = 0 by rw [hT]; exact padTail_mod _ _)
  have HTL := Lib.hid (show T.length ≤ 1099511627900 by rw [hT, padTail_length]; have := zc_le l.length; omega)
  have HS := Lib.hid (show outB (absorb h0 T) = shaF l by rw [hT]; rfl)
  rw [← hT]
  clear hT hB1 HH HK
  go_wp2
  go_loopw [2, 7] (fun v i wx => ∃ (k : Nat) (h : List UInt32) (a : Option Addr) (c : Nat), k ≤ T.length ∧ i = .int .i64 k ∧ v = .slice a 8 c ∧ h.length = 8 ∧ Hid (k % 64 = 0) ∧ Hid (Reads wx (.slice a 8 c) 8 (ucells h)) ∧ Hid (absorb h0 T = absorb h (T.drop k)) ∧ Hid (Below w1.heap.size w1 wx)) (fun _ i _ => T.length - (intOf i).toNat)
  case atStart => exact ⟨0, h0, ah, ch, by omega, rfl, rfl, rfl, rfl, HH1, rfl, b_refl _⟩
  case round =>
    obtain ⟨k, h, a, c, hk, rfl, rfl, hh8, HM, HV, HA, HB⟩ := hrel
    have HTL' := HTL.out
    have HH8 := Lib.hid hh8
    clear hh8
    by_cases hkl : k < T.length
    · have hk64 : k + 64 ≤ T.length := by have := HM.out; have := HTM.out; omega
      have k0 : (0 : Int) ≤ (k : Int) := by omega
      have k1 : (k : Int) < (T.length : Int) := by omega
      have k2 : (k : Int) + 64 ≤ (T.length : Int) := by omega
      have HC := Lib.hid (chunks_step (T.drop k) (by rw [List.length_drop]; omega))
      have HTK := Lib.hid (show 64 ≤ ((T.drop k).take 64).length by simp; omega)
      go_wp2_with fail
      refine (rblock_any _ _ h HH8.out _ HTK.out wr HV.out (HK1.out.below HB.out)).mono ?_
      rintro e w2 ⟨v2, rfl, hown2, hB2⟩
      obtain ⟨a2, c2, rfl⟩ := owns_slice hown2
      have HV2 := Lib.hid (Reads.owned hown2)
      have HB2 := Lib.hid (HB.out.trans (hB2.mono HB.out.size))
      clear hown2 hB2
      go_wp2
      refine ⟨?_, by simp [intOf]; omega⟩
      refine ⟨k + 64, _, a2, c2, by omega, by go_num, rfl, blockF_length _ _ HH8.out, by have := HM.out; show (k + 64) % 64 = 0; omega, HV2.out, ?_, HB2.out⟩
      show absorb h0 T = absorb _ (T.drop (k + 64))
      rw [HA.out]
      unfold absorb
      rw [HC.out, List.foldl_cons, List.drop_drop]
    · obtain rfl : k = T.length := by omega
      have hfin : absorb h0 T = h := by
        have := HA.out
        rw [List.drop_length] at this
        exact this
      have HF := Lib.hid hfin
      obtain ⟨Wr, hWr⟩ : ∃ Wr, Wr = wr := ⟨_, rfl⟩
      subst hWr
      clear hfin HA
      go_wp2
      go_loopw [8, 9] (fun v i wx => ∃ k : Nat, k ≤ 8 ∧ i = .int .i64 k ∧ Hid (wx.ownsRow Wr.heap.size 5 1 v (4 * k) (bcells (outB (h.take k)))) ∧ Hid (Below Wr.heap.size Wr wx)) (fun _ i _ => 8 - (intOf i).toNat)
      case atStart => exact ⟨0, by omega, rfl, World.ownsRow_nil _ _ _ _, b_refl _⟩
      case round =>
        obtain ⟨k, hk8', rfl, HO, HX⟩ := hrel
        obtain ⟨ao, co, rfl⟩ := owns_slice HO.out
        by_cases hk8 : k < 8
        · have k1 : (k : Int) < 8 := by omega
          have k0 : (0 : Int) ≤ (k : Int) := by omega
          obtain ⟨bh, oh, rfl, dh⟩ := (HV.out.below HX.out).u k (by rw [HH8.out]; exact hk8)
          have HOT := Lib.hid (outB_take h k (by rw [HH8.out]; exact hk8))
          generalize h.getD k 0 = x at *
          have hx1 : U x < 4294967296 := by have := U_lt x; rw [U_nat]; omega
          have hx0 : 0 ≤ U x := by rw [U_nat]; omega
          go_wp2
          refine region_tail 25 [(4, .exact Bel (.int .u32 (U x))), (10, .exact Bel (.int .u32 (U x))), (16, .exact Bel (.int .u32 (U x))), (22, .exact Bel (.int .u32 (U x))), (24, kReads 4 (bcells (wb x)))] (by kernel_rfl) (by kernel_rfl) ?_
          simp only [List.take_succ_cons, List.take_zero, List.drop_succ_cons, List.drop_zero]
          (repeat (first | (refine wpG_skip (by kernel_rfl) (fun K hK => ?_); go_big_quiet_skip; refine wpQuiet_nil (hK _ ?_); clear hK K) | (refine wpG_quiet (by rfl) (by rfl) (fun K hK => ?_); go_big_quiet_want; go_big_quiet_op; go_big_quiet_on; refine wpQuiet_nil (hK _ ?_); clear hK K)))
          refine wpG_exact rfl (by kernel_rfl) (fun w' G hB hS hG => ?_) (fun K hK => ?_)
          · have cc := Below.keeps hB dh
            go_simp
            exact hG _ (Bel.refl _)
          go_simp; refine hK _ ?_; clear hK K; (repeat (first | (refine wpG_skip (by kernel_rfl) (fun K hK => ?_); go_big_quiet_skip; refine wpQuiet_nil (hK _ ?_); clear hK K) | (refine wpG_quiet (by rfl) (by rfl) (fun K hK => ?_); go_big_quiet_want; go_big_quiet_op; go_big_quiet_on; refine wpQuiet_nil (hK _ ?_); clear hK K)))
          refine wpG_exact rfl (by kernel_rfl) (fun w' G hB hS hG => ?_) (fun K hK => ?_)
          · have cc := Below.keeps hB dh
            go_simp
            exact hG _ (Bel.refl _)
          go_simp; refine hK _ ?_; clear hK K; (repeat (first | (refine wpG_skip (by kernel_rfl) (fun K hK => ?_); go_big_quiet_skip; refine wpQuiet_nil (hK _ ?_); clear hK K) | (refine wpG_quiet (by rfl) (by rfl) (fun K hK => ?_); go_big_quiet_want; go_big_quiet_op; go_big_quiet_on; refine wpQuiet_nil (hK _ ?_); clear hK K)))
          refine wpG_exact rfl (by kernel_rfl) (fun w' G hB hS hG => ?_) (fun K hK => ?_)
          · have cc := Below.keeps hB dh
            go_simp
            exact hG _ (Bel.refl _)
          go_simp; refine hK _ ?_; clear hK K; (repeat (first | (refine wpG_skip (by kernel_rfl) (fun K hK => ?_); go_big_quiet_skip; refine wpQuiet_nil (hK _ ?_); clear hK K) | (refine wpG_quiet (by rfl) (by rfl) (fun K hK => ?_); go_big_quiet_want; go_big_quiet_op; go_big_quiet_on; refine wpQuiet_nil (hK _ ?_); clear hK K)))
          refine wpG_exact rfl (by kernel_rfl) (fun w' G hB hS hG => ?_) (fun K hK => ?_)
          · have cc := Below.keeps hB dh
            go_simp
            exact hG _ (Bel.refl _)
          go_simp; refine hK _ ?_; clear hK K; (repeat (first | (refine wpG_skip (by kernel_rfl) (fun K hK => ?_); go_big_quiet_skip; refine wpQuiet_nil (hK _ ?_); clear hK K) | (refine wpG_quiet (by rfl) (by rfl) (fun K hK => ?_); go_big_quiet_want; go_big_quiet_op; go_big_quiet_on; refine wpQuiet_nil (hK _ ?_); clear hK K)))
          refine wpG_known (kReads 4 (bcells (wb x))) rfl (by kernel_rfl) (fun w' G hB hS hG => ?_) (fun x K hK => ?_)
          · go_simp
            exact reads_new hG (wb_cells x)
          obtain ⟨ad, c⟩ := x; go_simp; refine hK _ ?_; clear hK K; (repeat (first | (refine wpG_skip (by kernel_rfl) (fun K hK => ?_); go_big_quiet_skip; refine wpQuiet_nil (hK _ ?_); clear hK K) | (refine wpG_quiet (by rfl) (by rfl) (fun K hK => ?_); go_big_quiet_want; go_big_quiet_op; go_big_quiet_on; refine wpQuiet_nil (hK _ ?_); clear hK K)))
          intro w3 hB hA
          have hr : Hid (Reads w3 (.slice ad 4 c) 4 (bcells (wb x))) := all0 hA
          have HO3 := Lib.hid (ownsRow_below HO.out hB)
          have HX3 := Lib.hid (bt HX.out hB)
          have hsz3 : Wr.heap.size ≤ w3.heap.size := HX3.out.size
          clear hA hB dh
          go_wp2_with (at_builtin; go_must (refine appendN w3 (bcells (wb x)) 5 rfl _ _ 75 rfl Wr.heap.size (.int .u8 0) 1 1 Try.underlying75 infoU8 rfl (by decide) _ _ _ rfl HO3.out _ 4 rfl hr.out rfl (bcells_one _) (by omega) (by decide) hsz3 ?_); intro v' w4 hown4 hB4)
          refine ⟨?_, by simp [intOf]; omega⟩
          rw [← bcells_app, ← HOT.out] at hown4
          first
            | exact ⟨k + 1, by omega, by go_num, hown4, HX3.out.trans hB4⟩
            | ((repeat apply Exists.intro); exact ⟨⟨k + 1, by omega, by go_num, hown4, HX3.out.trans hB4⟩, rfl⟩)
        · obtain rfl : k = 8 := by omega
          have HR2 := HO.out
          have HZ := Lib.hid (outB_all h HH8.out)
          have hcv := conv_own 75 9 5 Try.underlying75 Try.underlying5 Try.underlying9 _ _ _ _ _ HR2
          clear HR2
          go_wp2
          go_ret
          refine ⟨?_, bt HB1.out (bt HB.out HX.out)⟩
          show Ending.returned (.string (bs (outB (h.take 8)))) = _
          rw [HZ.out, ← HF.out, HS.out]

set_option maxRecDepth 100000 in
set_option maxHeartbeats 1000000 in
theorem told_any (w : World) :
    Calls Try.prog 56 #[] w fun e w' => ∃ a b, e = .returned (.tuple #[.slice (some ⟨a, 0, none⟩) 64 64, .slice (some ⟨b, 0, none⟩) 8 8]) ∧ Reads w' (.slice (some ⟨a, 0, none⟩) 64 64) 64 (ucells ktab) ∧ Reads w' (.slice (some ⟨b, 0, none⟩) 8 8) 8 (ucells h0) ∧ Below w.heap.size w w' := by
  go_enter Try.func56, Try.ntmps56
  go_wp2
  go_ret2
  have h1 := Reads.new w (ucells ktab) 64 85 64
  have h2 := Reads.new (w.alloc (.cells (ucells ktab).toArray 85)) (ucells h0) 8 85 8
  rw [show (w.alloc (.cells (ucells ktab).toArray 85)).heap.size = w.heap.size + 1 by simp] at h2
  exact ⟨_, _, rfl, h1.below (b_alloc _ _), h2, bt (b_alloc _ _) (b_alloc _ _)⟩

set_option maxRecDepth 100000 in
set_option maxHeartbeats 1000000 in
theorem rSum_any (l : List UInt8) (w : World) (hl : l.length ≤ 1099511627776) :
    Calls Try.prog 17 #[.string (bs l)] w fun e w' => e = .returned (.string (bs (shaF l))) ∧ Below w.heap.size w w' := by
  go_enter Try.func17, Try.ntmps17
  go_wp2_with fail
  refine (told_any w).mono ?_
  rintro e w1 ⟨a, b, rfl, hk, hh, hB1⟩
  have HK := Lib.hid hk
  have HH := Lib.hid hh
  have HB1 := Lib.hid hB1
  clear hk hh hB1
  go_wp2_with fail
  refine (rsum_any _ _ l w1 hl HK.out HH.out).mono ?_
  rintro e w2 ⟨rfl, hB2⟩
  have HB2 := Lib.hid (bt HB1.out hB2)
  clear hB2
  go_wp2_with fail
  go_ret
  exact ⟨rfl, HB2.out⟩
end Go.Proofs.Ytdebgkjekcppmaa
