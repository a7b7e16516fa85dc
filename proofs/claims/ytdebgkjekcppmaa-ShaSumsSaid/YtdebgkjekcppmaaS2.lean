/- Walks of package sha: words. -/
import Derived.Test.YtdebgkjekcppmaaS1
namespace Go.Proofs.Ytdebgkjekcppmaa
open Go.RowKit Oct

set_option maxRecDepth 100000 in
set_option maxHeartbeats 1000000 in
theorem words_any (l : List UInt8) (w : World) (hl : 64 ≤ l.length) :
    Calls Try.prog 90 #[.string (bs l)] w fun e w' => e = .returned (.agg (ucells (wl l 64)).toArray) ∧ Below w.heap.size w w' := by
  have hz := (zero_of_info (P := Try.prog) (t := 121) (v := .agg (ucells (wrow l 0)).toArray) (n := 64) (by kernel_rfl)).1
  go_enter Try.func90, Try.ntmps90
  go_wp2
  clear hz
  go_loopw [7] (fun t wx => ∃ k : Nat, k ≤ 16 ∧ t = .int .i64 k ∧ Hid (Blk wx w.heap.size 121 (ucells (wrow l k))) ∧ Hid (Below w.heap.size w wx)) (fun t _ => 16 - (intOf t).toNat)
  case atStart => exact ⟨0, by omega, rfl, Blk.new w _ _, b_alloc w _⟩
  case round =>
    obtain ⟨k, hk, rfl, HB, HW⟩ := hrel
    by_cases hk16 : k < 16
    · have k1 : (k : Int) < 16 := by omega
      have k0 : (0 : Int) ≤ (k : Int) := by omega
      have k64 : (k : Int) < 64 := by omega
      have x0 : (0 : Int) ≤ 4 * (k : Int) := by omega
      have x1 : 4 * (k : Int) < (l.length : Int) := by omega
      have x2 : 4 * (k : Int) + 1 < (l.length : Int) := by omega
      have x3 : 4 * (k : Int) + 2 < (l.length : Int) := by omega
      have y2 : 0 ≤ 4 * (k : Int) + 1 := by omega
      have y3 : 0 ≤ 4 * (k : Int) + 2 := by omega
      have y4 : 0 ≤ 4 * (k : Int) + 3 := by omega
      have x4 : 4 * (k : Int) + 3 < (l.length : Int) := by omega
      go_wp2
      refine region_tail 31 [] (by kernel_rfl) (by kernel_rfl) ?_
      simp only [List.take_succ_cons, List.take_zero, List.drop_succ_cons, List.drop_zero]
      (repeat (first | (refine wpG_skip (by kernel_rfl) (fun K hK => ?_); go_big_quiet_skip; refine wpQuiet_nil (hK _ ?_); clear hK K) | (refine wpG_quiet (by rfl) (by rfl) (fun K hK => ?_); go_big_quiet_want; go_big_quiet_op; go_big_quiet_on; refine wpQuiet_nil (hK _ ?_); clear hK K)))
      (try simp only [U_byte, U_shl24, U_shl16, U_shl8, U_shr3, U_shr10, U_or, U_xor, U_and, U_add, U_add', U_add3, U_add4, U_add5])
      (intro w' hB hA; simp only [Facts.all_some, Facts.all_none, and_true] at hA)
      have B' := HB.out.below hB
      have hc := wrow_set l k (by omega)
      rw [wnext_low l k hk16] at hc
      have hlen : k < (ucells (wrow l k)).length := by rw [ucells_length, wrow_length l k (by omega)]; omega
      have HE := Lib.hid (be32_get l (4 * k) (by omega) (by omega) (by omega) (by omega))
      obtain ⟨cu, c1⟩ := B'.ex hlen
      have f1 := B'.free hlen
      have HS := Lib.hid (B'.set k (.int .u32 (U (be32 l (4 * k)))))
      have HC := Lib.hid hc
      have HB1 := Lib.hid hB
      clear B' hc hB hlen
      go_wp2
      rw [HE.out]
      refine ⟨⟨k + 1, by omega, by go_num, ?_, (bt HW.out HB1.out).setCell (Nat.le_refl _) _⟩, by simp [intOf]; omega⟩
      have := HS.out
      rw [ucells_set, HC.out] at this
      exact this
    · have hk : k = 16 := by omega
      subst hk
      go_wp2
      go_loopw [4] (fun t wx => ∃ k : Nat, 16 ≤ k ∧ k ≤ 64 ∧ t = .int .i64 k ∧ Hid (Blk wx w.heap.size 121 (ucells (wrow l k))) ∧ Hid (Below w.heap.size w wx)) (fun t _ => 64 - (intOf t).toNat)
      case atStart => exact ⟨16, by omega, by omega, rfl, HB, HW⟩
      case round =>
        obtain ⟨k, hk, hk', rfl, HB, HW⟩ := hrel
        by_cases hk16 : k < 64
        · have k1 : (k : Int) < 64 := by omega
          have k0 : (0 : Int) ≤ (k : Int) := by omega
          have x0 : (0 : Int) ≤ (k : Int) - 15 := by omega
          have x1 : (k : Int) - 15 < 64 := by omega
          have y0 : (0 : Int) ≤ (k : Int) - 2 := by omega
          have y1 : (k : Int) - 2 < 64 := by omega
          have z0 : (0 : Int) ≤ (k : Int) - 16 := by omega
          have z1 : (k : Int) - 16 < 64 := by omega
          have v0 : (0 : Int) ≤ (k : Int) - 7 := by omega
          have v1 : (k : Int) - 7 < 64 := by omega
          have c15 := HB.out.cell (wrow_at l k (k - 15) (by omega) (by omega))
          have c2 := HB.out.cell (wrow_at l k (k - 2) (by omega) (by omega))
          have c16 := HB.out.cell (wrow_at l k (k - 16) (by omega) (by omega))
          have c7 := HB.out.cell (wrow_at l k (k - 7) (by omega) (by omega))
          have hc := wrow_set l k (by omega)
          rw [wnext_high l k hk] at hc
          generalize (wl l k).getD (k - 15) 0 = a at *
          generalize (wl l k).getD (k - 2) 0 = b at *
          generalize (wl l k).getD (k - 16) 0 = c at *
          generalize (wl l k).getD (k - 7) 0 = d at *
          have HC := Lib.hid hc
          clear hc
          go_wp2
          go_quiet (fail)
          go_wp2
          refine region_tail 29 [(4, .exact Bel (.int .u32 (U c))), (6, .exact Bel (.int .u32 (U (rotr a 7)))), (8, .exact Bel (.int .u32 (U (rotr a 18)))), (17, .exact Bel (.int .u32 (U d))), (20, .exact Bel (.int .u32 (U (rotr b 17)))), (22, .exact Bel (.int .u32 (U (rotr b 19))))] (by kernel_rfl) (by kernel_rfl) ?_
          simp only [List.take_succ_cons, List.take_zero, List.drop_succ_cons, List.drop_zero]
          (repeat (first | (refine wpG_skip (by kernel_rfl) (fun K hK => ?_); go_big_quiet_skip; refine wpQuiet_nil (hK _ ?_); clear hK K) | (refine wpG_quiet (by rfl) (by rfl) (fun K hK => ?_); go_big_quiet_want; go_big_quiet_op; go_big_quiet_on; refine wpQuiet_nil (hK _ ?_); clear hK K)))
          refine wpG_exact rfl (by kernel_rfl) (fun w' G hB hS hG => ?_) (fun K hK => ?_)
          · have cc := Below.keeps (bt (Below.drewN' wr nq) hB) c16
            go_simp
            exact hG _ (Bel.refl _)
          go_simp; refine hK _ ?_; clear hK K; (repeat (first | (refine wpG_skip (by kernel_rfl) (fun K hK => ?_); go_big_quiet_skip; refine wpQuiet_nil (hK _ ?_); clear hK K) | (refine wpG_quiet (by rfl) (by rfl) (fun K hK => ?_); go_big_quiet_want; go_big_quiet_op; go_big_quiet_on; refine wpQuiet_nil (hK _ ?_); clear hK K)))
          refine wpG_exact rfl (by kernel_rfl) (fun w' G hB hS hG => ?_) (fun K hK => ?_)
          · go_simp
            exact calls_told hG (rot_any a 7 _ (by omega) (by omega))
          go_simp; refine hK _ ?_; clear hK K; (repeat (first | (refine wpG_skip (by kernel_rfl) (fun K hK => ?_); go_big_quiet_skip; refine wpQuiet_nil (hK _ ?_); clear hK K) | (refine wpG_quiet (by rfl) (by rfl) (fun K hK => ?_); go_big_quiet_want; go_big_quiet_op; go_big_quiet_on; refine wpQuiet_nil (hK _ ?_); clear hK K)))
          refine wpG_exact rfl (by kernel_rfl) (fun w' G hB hS hG => ?_) (fun K hK => ?_)
          · go_simp
            exact calls_told hG (rot_any a 18 _ (by omega) (by omega))
          go_simp; refine hK _ ?_; clear hK K; (repeat (first | (refine wpG_skip (by kernel_rfl) (fun K hK => ?_); go_big_quiet_skip; refine wpQuiet_nil (hK _ ?_); clear hK K) | (refine wpG_quiet (by rfl) (by rfl) (fun K hK => ?_); go_big_quiet_want; go_big_quiet_op; go_big_quiet_on; refine wpQuiet_nil (hK _ ?_); clear hK K)))
          refine wpG_exact rfl (by kernel_rfl) (fun w' G hB hS hG => ?_) (fun K hK => ?_)
          · have cc := Below.keeps (bt (Below.drewN' wr nq) hB) c7
            go_simp
            exact hG _ (Bel.refl _)
          go_simp; refine hK _ ?_; clear hK K; (repeat (first | (refine wpG_skip (by kernel_rfl) (fun K hK => ?_); go_big_quiet_skip; refine wpQuiet_nil (hK _ ?_); clear hK K) | (refine wpG_quiet (by rfl) (by rfl) (fun K hK => ?_); go_big_quiet_want; go_big_quiet_op; go_big_quiet_on; refine wpQuiet_nil (hK _ ?_); clear hK K)))
          refine wpG_exact rfl (by kernel_rfl) (fun w' G hB hS hG => ?_) (fun K hK => ?_)
          · go_simp
            exact calls_told hG (rot_any b 17 _ (by omega) (by omega))
          go_simp; refine hK _ ?_; clear hK K; (repeat (first | (refine wpG_skip (by kernel_rfl) (fun K hK => ?_); go_big_quiet_skip; refine wpQuiet_nil (hK _ ?_); clear hK K) | (refine wpG_quiet (by rfl) (by rfl) (fun K hK => ?_); go_big_quiet_want; go_big_quiet_op; go_big_quiet_on; refine wpQuiet_nil (hK _ ?_); clear hK K)))
          refine wpG_exact rfl (by kernel_rfl) (fun w' G hB hS hG => ?_) (fun K hK => ?_)
          · go_simp
            exact calls_told hG (rot_any b 19 _ (by omega) (by omega))
          go_simp; refine hK _ ?_; clear hK K; (repeat (first | (refine wpG_skip (by kernel_rfl) (fun K hK => ?_); go_big_quiet_skip; refine wpQuiet_nil (hK _ ?_); clear hK K) | (refine wpG_quiet (by rfl) (by rfl) (fun K hK => ?_); go_big_quiet_want; go_big_quiet_op; go_big_quiet_on; refine wpQuiet_nil (hK _ ?_); clear hK K)))
          (try simp only [U_byte, U_shl24, U_shl16, U_shl8, U_shr3, U_shr10, U_or, U_xor, U_and, U_add, U_add', U_add3, U_add4, U_add5])
          (intro w' hB hA; simp only [Facts.all_some, Facts.all_none, and_true] at hA)
          replace hB := bt (Below.drewN' wr nq) hB
          have B' := HB.out.below hB
          have hlen : k < (ucells (wrow l k)).length := by rw [ucells_length, wrow_length l k (by omega)]; omega
          obtain ⟨cu, c1⟩ := B'.ex hlen
          have f1 := B'.free hlen
          have HS := Lib.hid (B'.set k (.int .u32 (U (c + sg0 a + d + sg1 b))))
          have HB1 := Lib.hid hB
          clear B' hB hlen
          go_wp2
          refine ⟨?_, ?measure⟩
          · (repeat apply Exists.intro)
            refine ⟨⟨k + 1, by omega, by omega, by go_num, ?_, (bt HW.out HB1.out).setCell (Nat.le_refl _) _⟩, rfl⟩
            have := HS.out
            rw [ucells_set, HC.out] at this
            exact this
          case measure => simp [intOf]; omega
        · have hk : k = 64 := by omega
          subst hk
          rw [wrow_end] at HB
          have HI := Lib.hid (show (Try.prog.info? 121).map (·.size) = some (ucells (wl l 64)).length by rw [ucells_length, wl_length]; kernel_rfl)
          go_wp2_with first | (refine blk_load w.heap.size (ucells (wl l 64)) HB.out (.array 64 85) rfl _ _ rfl rfl (by kernel_rfl) rfl HI.out ?_) | (refine blk_store w.heap.size (ucells (wl l 64)) (ucells (wl l 64)) HB.out rfl _ _ _ rfl rfl rfl HI.out rfl (ucells_one _) ?_)
          refine bodyPost_ret (blk_result rfl rfl (HB.out.row _) (.array 64 85) (by kernel_rfl) rfl HI.out) rfl ⟨rfl, below_setRow HW.out (Nat.le_refl _) _⟩
end Go.Proofs.Ytdebgkjekcppmaa
