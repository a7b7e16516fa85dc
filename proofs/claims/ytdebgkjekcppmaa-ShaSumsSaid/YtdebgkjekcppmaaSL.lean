/- Walks of package maslinref02: block. -/
import Derived.Test.YtdebgkjekcppmaaSK
namespace Go.Proofs.Ytdebgkjekcppmaa
open Go.RowKit Oct

theorem infoU32 : (Try.prog.info? 85).map (fun i => (i.zero, i.size, i.bytes)) = some (some (.int .u32 0), 1, 4) := by kernel_rfl
theorem ucells_ones (l : List UInt32) : ∀ u ∈ ucells l, u.oneCell' = true := by
  intro u hu
  simp only [ucells, List.mem_map] at hu
  obtain ⟨x, _, rfl⟩ := hu; rfl
theorem ucells_app (l m : List UInt32) : ucells (l ++ m) = ucells l ++ ucells m := by simp [ucells]
/-- the sums of words, so far -/
def zadd (h v : List UInt32) (k : Nat) : List UInt32 := List.zipWith (· + ·) (h.take k) (v.take k)
theorem zadd_length (h v : List UInt32) (hl : h.length = 8) (hv : v.length = 8) (k : Nat) (hk : k ≤ 8) : (zadd h v k).length = k := by simp [zadd, hl, hv]; omega
theorem zadd_all (h v : List UInt32) (hl : h.length = 8) (hv : v.length = 8) : zadd h v 8 = List.zipWith (· + ·) h v := by
  simp [zadd, List.take_of_length_le (Nat.le_of_eq hl), List.take_of_length_le (Nat.le_of_eq hv)]
theorem zadd_step (h v : List UInt32) (hl : h.length = 8) (hv : v.length = 8) (k : Nat) (hk : k < 8) : zadd h v k ++ [h.getD k 0 + v.getD k 0] = zadd h v (k + 1) := by
  obtain ⟨a, b, c, d, e, f, g, i, rfl⟩ := eight h hl
  obtain ⟨a', b', c', d', e', f', g', i', rfl⟩ := eight v hv
  match k, hk with
  | 0, _ | 1, _ | 2, _ | 3, _ | 4, _ | 5, _ | 6, _ | 7, _ => rfl
/-- a slice of words of the call's own or another's, in a block of which no cell is written -/
theorem Reads.u {w : World} {a : Option Addr} {n c : Nat} {l : List UInt32} (h : Reads w (.slice a n c) n (ucells l)) (k : Nat) (hk : k < l.length) : ∃ b off, a = some ⟨b, off, none⟩ ∧ w.cell? ⟨b, off + k, none⟩ = some (.int .u32 (U (l.getD k 0))) := by
  obtain ⟨a', c', hv, _, hc⟩ := h
  injection hv with e1 _ _
  subst e1
  exact hc k _ (u_at l k l.length rfl hk)

set_option maxRecDepth 100000 in
set_option maxHeartbeats 8000000 in
theorem rblock_any (vh vk : Value) (h : List UInt32) (hl : h.length = 8) (l : List UInt8) (h64 : 64 ≤ l.length) (w : World) (hh : Reads w vh 8 (ucells h)) (hk : Reads w vk 64 (ucells ktab)) :
    Calls Try.prog 87 #[vh, vk, .string (bs l)] w fun e w' => ∃ v, e = .returned v ∧ w'.ownsRow w.heap.size 85 1 v 8 (ucells (blockF h l)) ∧ Below w.heap.size w w' := by
  have hh0 := hh
  obtain ⟨ah, ch, rfl, _, _⟩ := hh
  have hk0 := hk
  obtain ⟨ak, ck, rfl, _, _⟩ := hk
  have HH := Lib.hid hh0
  have HK := Lib.hid hk0
  have HL := Lib.hid hl
  clear hh0 hk0 hl
  go_enter Try.func87, Try.ntmps87
  go_wp2_with fail
  refine (schedule_any l w h64).mono ?_
  rintro e w1 ⟨rfl, hW1, hB1⟩
  have HB1 := Lib.hid hB1
  obtain ⟨D, hD⟩ : ∃ D, D = w.heap.size := ⟨_, rfl⟩
  rw [← hD] at hW1 ⊢
  have HD := Lib.hid hD
  have HW := Lib.hid hW1
  have hsz1 := hB1.size
  clear hD hB1 hW1
  have hr1 := Lib.hid (HH.out.below HB1.out)
  go_wp2_with (at_builtin; go_must (refine appendN w1 (ucells h) 85 rfl _ _ 70 rfl w1.heap.size (.int .u32 0) 1 4 Try.underlying70 infoU32 rfl (by decide) _ 0 [] rfl (World.ownsRow_nil _ _ _ _) _ 8 rfl hr1.out (by rw [ucells_length, HL.out]) (ucells_ones h) (by decide) (by decide) (Nat.le_refl _) ?_))
  intro v0 w2 hown2 hB2
  have HW2 := Lib.hid (HW.out.below hB2)
  have HK2 := Lib.hid ((HK.out.below HB1.out).below hB2)
  have HH2 := Lib.hid ((HH.out.below HB1.out).below hB2)
  have HB2 := Lib.hid (bt HB1.out hB2)
  have hsz2 := hB2.size
  obtain ⟨a0, c0, rfl⟩ := owns_slice hown2
  have HV0 := Lib.hid (Reads.owned hown2)
  clear hown2 hB2 HW hr1 HB1
  go_wp2
  go_loopw [8, 9] (fun v t wx => ∃ (k : Nat) (a : Option Addr) (c : Nat), k ≤ 64 ∧ t = .int .i64 k ∧ v = .slice a 8 c ∧ Hid (Reads wx (.slice a 8 c) 8 (ucells (rounds (wl l 64) h k))) ∧ Hid (Below w2.heap.size w2 wx)) (fun _ t _ => 64 - (intOf t).toNat)
  case atStart => exact ⟨0, a0, c0, by omega, rfl, rfl, HV0, b_refl _⟩
  case round =>
    clear HV0
    obtain ⟨k, a, c, hk, rfl, rfl, HV, HB⟩ := hrel
    by_cases hk64 : k < 64
    · have k1 : (k : Int) < 64 := by omega
      have k0 : (0 : Int) ≤ (k : Int) := by omega
      have hst : rounds (wl l 64) h (k + 1) = step (ktab.getD k 0) ((wl l 64).getD k 0) (rounds (wl l 64) h k) := rfl
      obtain ⟨v0, v1, v2, v3, v4, v5, v6, v7, hv⟩ := eight _ (rounds_length (wl l 64) h HL.out k)
      rw [hv] at HV hst
      obtain ⟨b, off, rfl, d0⟩ := HV.out.u 0 (by simp)
      obtain ⟨_, _, e1, d1⟩ := HV.out.u 1 (by simp); cases e1
      obtain ⟨_, _, e1, d2⟩ := HV.out.u 2 (by simp); cases e1
      obtain ⟨_, _, e1, d3⟩ := HV.out.u 3 (by simp); cases e1
      obtain ⟨_, _, e1, d4⟩ := HV.out.u 4 (by simp); cases e1
      obtain ⟨_, _, e1, d5⟩ := HV.out.u 5 (by simp); cases e1
      obtain ⟨_, _, e1, d6⟩ := HV.out.u 6 (by simp); cases e1
      obtain ⟨_, _, e1, d7⟩ := HV.out.u 7 (by simp); cases e1
      have e0 : wr.cell? ⟨b, off, none⟩ = some (.int .u32 (U v0)) := d0
      replace d1 : wr.cell? ⟨b, off + 1, none⟩ = some (.int .u32 (U v1)) := d1
      replace d2 : wr.cell? ⟨b, off + 2, none⟩ = some (.int .u32 (U v2)) := d2
      replace d3 : wr.cell? ⟨b, off + 3, none⟩ = some (.int .u32 (U v3)) := d3
      replace d4 : wr.cell? ⟨b, off + 4, none⟩ = some (.int .u32 (U v4)) := d4
      replace d5 : wr.cell? ⟨b, off + 5, none⟩ = some (.int .u32 (U v5)) := d5
      replace d6 : wr.cell? ⟨b, off + 6, none⟩ = some (.int .u32 (U v6)) := d6
      replace d7 : wr.cell? ⟨b, off + 7, none⟩ = some (.int .u32 (U v7)) := d7
      clear d0
      have cw := (HW2.out.below HB.out).cell (u_at (wl l 64) k 64 (wl_length l 64) hk64)
      obtain ⟨bk, ok, rfl, ck⟩ := (HK2.out.below HB.out).u k (by rw [ktab_length]; exact hk64)
      generalize (wl l 64).getD k 0 = ww at *
      generalize ktab.getD k 0 = kk at *
      have HST := Lib.hid hst
      clear hst hv
      go_wp2
      refine region_known [(2, .exact Bel (.int .u32 (U v4))), (3, .exact Bel (.int .u32 (U (rotr v4 6)))), (6, .exact Bel (.int .u32 (U v4))), (7, .exact Bel (.int .u32 (U (rotr v4 11)))), (11, .exact Bel (.int .u32 (U v4))), (12, .exact Bel (.int .u32 (U (rotr v4 25))))] (by kernel_rfl) (by kernel_rfl) ?_
      (repeat (first | (refine wpG_skip (by kernel_rfl) (fun K hK => ?_); go_big_quiet_skip; refine wpQuiet_nil (hK _ ?_); clear hK K) | (refine wpG_quiet (by rfl) (by rfl) (fun K hK => ?_); go_big_quiet_want; go_big_quiet_op; go_big_quiet_on; refine wpQuiet_nil (hK _ ?_); clear hK K)))
      refine wpG_exact rfl (by kernel_rfl) (fun w' G hB hS hG => ?_) (fun K hK => ?_)
      · have cc := Below.keeps hB d4
        go_simp
        exact hG _ (Bel.refl _)
      go_simp; refine hK _ ?_; clear hK K; (repeat (first | (refine wpG_skip (by kernel_rfl) (fun K hK => ?_); go_big_quiet_skip; refine wpQuiet_nil (hK _ ?_); clear hK K) | (refine wpG_quiet (by rfl) (by rfl) (fun K hK => ?_); go_big_quiet_want; go_big_quiet_op; go_big_quiet_on; refine wpQuiet_nil (hK _ ?_); clear hK K)))
      refine wpG_exact rfl (by kernel_rfl) (fun w' G hB hS hG => ?_) (fun K hK => ?_)
      · go_simp
        exact calls_told hG (rrot_any v4 6 _ (by omega) (by omega))
      go_simp; refine hK _ ?_; clear hK K; (repeat (first | (refine wpG_skip (by kernel_rfl) (fun K hK => ?_); go_big_quiet_skip; refine wpQuiet_nil (hK _ ?_); clear hK K) | (refine wpG_quiet (by rfl) (by rfl) (fun K hK => ?_); go_big_quiet_want; go_big_quiet_op; go_big_quiet_on; refine wpQuiet_nil (hK _ ?_); clear hK K)))
      refine wpG_exact rfl (by kernel_rfl) (fun w' G hB hS hG => ?_) (fun K hK => ?_)
      · have cc := Below.keeps hB d4
        go_simp
        exact hG _ (Bel.refl _)
      go_simp; refine hK _ ?_; clear hK K; (repeat (first | (refine wpG_skip (by kernel_rfl) (fun K hK => ?_); go_big_quiet_skip; refine wpQuiet_nil (hK _ ?_); clear hK K) | (refine wpG_quiet (by rfl) (by rfl) (fun K hK => ?_); go_big_quiet_want; go_big_quiet_op; go_big_quiet_on; refine wpQuiet_nil (hK _ ?_); clear hK K)))
      refine wpG_exact rfl (by kernel_rfl) (fun w' G hB hS hG => ?_) (fun K hK => ?_)
      · go_simp
        exact calls_told hG (rrot_any v4 11 _ (by omega) (by omega))
      go_simp; refine hK _ ?_; clear hK K; (repeat (first | (refine wpG_skip (by kernel_rfl) (fun K hK => ?_); go_big_quiet_skip; refine wpQuiet_nil (hK _ ?_); clear hK K) | (refine wpG_quiet (by rfl) (by rfl) (fun K hK => ?_); go_big_quiet_want; go_big_quiet_op; go_big_quiet_on; refine wpQuiet_nil (hK _ ?_); clear hK K)))
      refine wpG_exact rfl (by kernel_rfl) (fun w' G hB hS hG => ?_) (fun K hK => ?_)
      · have cc := Below.keeps hB d4
        go_simp
        exact hG _ (Bel.refl _)
      go_simp; refine hK _ ?_; clear hK K; (repeat (first | (refine wpG_skip (by kernel_rfl) (fun K hK => ?_); go_big_quiet_skip; refine wpQuiet_nil (hK _ ?_); clear hK K) | (refine wpG_quiet (by rfl) (by rfl) (fun K hK => ?_); go_big_quiet_want; go_big_quiet_op; go_big_quiet_on; refine wpQuiet_nil (hK _ ?_); clear hK K)))
      refine wpG_exact rfl (by kernel_rfl) (fun w' G hB hS hG => ?_) (fun K hK => ?_)
      · go_simp
        exact calls_told hG (rrot_any v4 25 _ (by omega) (by omega))
      go_simp; refine hK _ ?_; clear hK K; (repeat (first | (refine wpG_skip (by kernel_rfl) (fun K hK => ?_); go_big_quiet_skip; refine wpQuiet_nil (hK _ ?_); clear hK K) | (refine wpG_quiet (by rfl) (by rfl) (fun K hK => ?_); go_big_quiet_want; go_big_quiet_op; go_big_quiet_on; refine wpQuiet_nil (hK _ ?_); clear hK K)))
      (try simp only [U_byte, U_shl24, U_shl16, U_shl8, U_shr3, U_shr10, U_or, U_xor, U_and, U_add, U_add', U_add3, U_add4, U_add5])
      intro w3 hB hA
      replace e0 := Below.keeps hB e0
      replace d1 := Below.keeps hB d1
      replace d2 := Below.keeps hB d2
      replace d3 := Below.keeps hB d3
      replace d4 := Below.keeps hB d4
      replace d5 := Below.keeps hB d5
      replace d6 := Below.keeps hB d6
      replace d7 := Below.keeps hB d7
      replace cw := Below.keeps hB cw
      replace ck := Below.keeps hB ck
      have HB3 := Lib.hid (HB.out.trans (hB.mono HB.out.size))
      clear hA hB
      go_wp2
      refine region_known [(2, .exact Bel (.int .u32 (U v0))), (3, .exact Bel (.int .u32 (U (rotr v0 2)))), (6, .exact Bel (.int .u32 (U v0))), (7, .exact Bel (.int .u32 (U (rotr v0 13)))), (11, .exact Bel (.int .u32 (U v0))), (12, .exact Bel (.int .u32 (U (rotr v0 22))))] (by kernel_rfl) (by kernel_rfl) ?_
      (repeat (first | (refine wpG_skip (by kernel_rfl) (fun K hK => ?_); go_big_quiet_skip; refine wpQuiet_nil (hK _ ?_); clear hK K) | (refine wpG_quiet (by rfl) (by rfl) (fun K hK => ?_); go_big_quiet_want; go_big_quiet_op; go_big_quiet_on; refine wpQuiet_nil (hK _ ?_); clear hK K)))
      refine wpG_exact rfl (by kernel_rfl) (fun w' G hB hS hG => ?_) (fun K hK => ?_)
      · have cc := Below.keeps hB e0
        go_simp
        exact hG _ (Bel.refl _)
      go_simp; refine hK _ ?_; clear hK K; (repeat (first | (refine wpG_skip (by kernel_rfl) (fun K hK => ?_); go_big_quiet_skip; refine wpQuiet_nil (hK _ ?_); clear hK K) | (refine wpG_quiet (by rfl) (by rfl) (fun K hK => ?_); go_big_quiet_want; go_big_quiet_op; go_big_quiet_on; refine wpQuiet_nil (hK _ ?_); clear hK K)))
      refine wpG_exact rfl (by kernel_rfl) (fun w' G hB hS hG => ?_) (fun K hK => ?_)
      · go_simp
        exact calls_told hG (rrot_any v0 2 _ (by omega) (by omega))
      go_simp; refine hK _ ?_; clear hK K; (repeat (first | (refine wpG_skip (by kernel_rfl) (fun K hK => ?_); go_big_quiet_skip; refine wpQuiet_nil (hK _ ?_); clear hK K) | (refine wpG_quiet (by rfl) (by rfl) (fun K hK => ?_); go_big_quiet_want; go_big_quiet_op; go_big_quiet_on; refine wpQuiet_nil (hK _ ?_); clear hK K)))
      refine wpG_exact rfl (by kernel_rfl) (fun w' G hB hS hG => ?_) (fun K hK => ?_)
      · have cc := Below.keeps hB e0
        go_simp
        exact hG _ (Bel.refl _)
      go_simp; refine hK _ ?_; clear hK K; (repeat (first | (refine wpG_skip (by kernel_rfl) (fun K hK => ?_); go_big_quiet_skip; refine wpQuiet_nil (hK _ ?_); clear hK K) | (refine wpG_quiet (by rfl) (by rfl) (fun K hK => ?_); go_big_quiet_want; go_big_quiet_op; go_big_quiet_on; refine wpQuiet_nil (hK _ ?_); clear hK K)))
      refine wpG_exact rfl (by kernel_rfl) (fun w' G hB hS hG => ?_) (fun K hK => ?_)
      · go_simp
        exact calls_told hG (rrot_any v0 13 _ (by omega) (by omega))
      go_simp; refine hK _ ?_; clear hK K; (repeat (first | (refine wpG_skip (by kernel_rfl) (fun K hK => ?_); go_big_quiet_skip; refine wpQuiet_nil (hK _ ?_); clear hK K) | (refine wpG_quiet (by rfl) (by rfl) (fun K hK => ?_); go_big_quiet_want; go_big_quiet_op; go_big_quiet_on; refine wpQuiet_nil (hK _ ?_); clear hK K)))
      refine wpG_exact rfl (by kernel_rfl) (fun w' G hB hS hG => ?_) (fun K hK => ?_)
      · have cc := Below.keeps hB e0
        go_simp
        exact hG _ (Bel.refl _)
      go_simp; refine hK _ ?_; clear hK K; (repeat (first | (refine wpG_skip (by kernel_rfl) (fun K hK => ?_); go_big_quiet_skip; refine wpQuiet_nil (hK _ ?_); clear hK K) | (refine wpG_quiet (by rfl) (by rfl) (fun K hK => ?_); go_big_quiet_want; go_big_quiet_op; go_big_quiet_on; refine wpQuiet_nil (hK _ ?_); clear hK K)))
      refine wpG_exact rfl (by kernel_rfl) (fun w' G hB hS hG => ?_) (fun K hK => ?_)
      · go_simp
        exact calls_told hG (rrot_any v0 22 _ (by omega) (by omega))
      go_simp; refine hK _ ?_; clear hK K; (repeat (first | (refine wpG_skip (by kernel_rfl) (fun K hK => ?_); go_big_quiet_skip; refine wpQuiet_nil (hK _ ?_); clear hK K) | (refine wpG_quiet (by rfl) (by rfl) (fun K hK => ?_); go_big_quiet_want; go_big_quiet_op; go_big_quiet_on; refine wpQuiet_nil (hK _ ?_); clear hK K)))
      (try simp only [U_byte, U_shl24, U_shl16, U_shl8, U_shr3, U_shr10, U_or, U_xor, U_and, U_add, U_add', U_add3, U_add4, U_add5])
      intro w4 hB hA
      replace e0 := Below.keeps hB e0
      replace d1 := Below.keeps hB d1
      replace d2 := Below.keeps hB d2
      replace d3 := Below.keeps hB d3
      replace d4 := Below.keeps hB d4
      replace d5 := Below.keeps hB d5
      replace d6 := Below.keeps hB d6
      replace d7 := Below.keeps hB d7
      replace cw := Below.keeps hB cw
      replace ck := Below.keeps hB ck
      have HB4 := Lib.hid (HB3.out.trans (hB.mono HB3.out.size))
      clear hA hB
      go_wp2
      go_quiet (fail)
      simp only [U_not]
      (try simp only [U_byte, U_shl24, U_shl16, U_shl8, U_shr3, U_shr10, U_or, U_xor, U_and, U_add, U_add', U_add3, U_add4, U_add5])
      have ht1 : v7 + (rotr v4 6 ^^^ rotr v4 11 ^^^ rotr v4 25) + (v4 &&& v5 ^^^ ~~~v4 &&& v6) + kk + ww = tmp1 v4 v5 v6 v7 kk ww := rfl
      rw [ht1]
      clear ht1 d7 cw ck
      obtain ⟨w5, hwq⟩ : ∃ wq, wq = w4.drewN nq := ⟨_, rfl⟩
      rw [← hwq]
      have hB : Below w4.heap.size w4 w5 := by rw [hwq]; exact Below.drewN' w4 nq
      clear hwq
      replace e0 := Below.keeps hB e0
      replace d1 := Below.keeps hB d1
      replace d2 := Below.keeps hB d2
      replace d3 := Below.keeps hB d3
      replace d4 := Below.keeps hB d4
      replace d5 := Below.keeps hB d5
      replace d6 := Below.keeps hB d6
      have HB5 := Lib.hid (HB4.out.trans (hB.mono HB4.out.size))
      clear hB nq
      go_wp2
      go_quiet (fail)
      (try simp only [U_byte, U_shl24, U_shl16, U_shl8, U_shr3, U_shr10, U_or, U_xor, U_and, U_add, U_add', U_add3, U_add4, U_add5])
      have ht2 : (rotr v0 2 ^^^ rotr v0 13 ^^^ rotr v0 22) + (v0 &&& v1 ^^^ v0 &&& v2 ^^^ v1 &&& v2) = tmp2 v0 v1 v2 := rfl
      rw [ht2]
      clear ht2
      obtain ⟨w6, hwq⟩ : ∃ wq, wq = w5.drewN nq := ⟨_, rfl⟩
      rw [← hwq]
      have hB : Below w5.heap.size w5 w6 := by rw [hwq]; exact Below.drewN' w5 nq
      clear hwq
      replace e0 := Below.keeps hB e0
      replace d1 := Below.keeps hB d1
      replace d2 := Below.keeps hB d2
      replace d3 := Below.keeps hB d3
      replace d4 := Below.keeps hB d4
      replace d5 := Below.keeps hB d5
      replace d6 := Below.keeps hB d6
      have HB6 := Lib.hid (HB5.out.trans (hB.mono HB5.out.size))
      have HST2 := Lib.hid (show rounds (wl l 64) h (k + 1) = [tmp1 v4 v5 v6 v7 kk ww + tmp2 v0 v1 v2, v0, v1, v2, v3 + tmp1 v4 v5 v6 v7 kk ww, v4, v5, v6] by rw [HST.out]; rfl)
      clear hB nq HST
      generalize tmp1 v4 v5 v6 v7 kk ww = t1 at *
      generalize tmp2 v0 v1 v2 = t2 at *
      go_wp2
      refine region_known [(5, .exact Bel (.int .u32 (U v0))), (8, .exact Bel (.int .u32 (U v1))), (11, .exact Bel (.int .u32 (U v2))), (14, .exact Bel (.int .u32 (U v3))), (19, .exact Bel (.int .u32 (U v4))), (22, .exact Bel (.int .u32 (U v5))), (25, .exact Bel (.int .u32 (U v6))), (26, kReads 8 (ucells [t1 + t2, v0, v1, v2, v3 + t1, v4, v5, v6]))] (by kernel_rfl) (by kernel_rfl) ?_
      (repeat (first | (refine wpG_skip (by kernel_rfl) (fun K hK => ?_); go_big_quiet_skip; refine wpQuiet_nil (hK _ ?_); clear hK K) | (refine wpG_quiet (by rfl) (by rfl) (fun K hK => ?_); go_big_quiet_want; go_big_quiet_op; go_big_quiet_on; refine wpQuiet_nil (hK _ ?_); clear hK K)))
      refine wpG_exact rfl (by kernel_rfl) (fun w' G hB hS hG => ?_) (fun K hK => ?_)
      · have cc := Below.keeps hB e0
        go_simp
        exact hG _ (Bel.refl _)
      go_simp; refine hK _ ?_; clear hK K; (repeat (first | (refine wpG_skip (by kernel_rfl) (fun K hK => ?_); go_big_quiet_skip; refine wpQuiet_nil (hK _ ?_); clear hK K) | (refine wpG_quiet (by rfl) (by rfl) (fun K hK => ?_); go_big_quiet_want; go_big_quiet_op; go_big_quiet_on; refine wpQuiet_nil (hK _ ?_); clear hK K)))
      refine wpG_exact rfl (by kernel_rfl) (fun w' G hB hS hG => ?_) (fun K hK => ?_)
      · have cc := Below.keeps hB d1
        go_simp
        exact hG _ (Bel.refl _)
      go_simp; refine hK _ ?_; clear hK K; (repeat (first | (refine wpG_skip (by kernel_rfl) (fun K hK => ?_); go_big_quiet_skip; refine wpQuiet_nil (hK _ ?_); clear hK K) | (refine wpG_quiet (by rfl) (by rfl) (fun K hK => ?_); go_big_quiet_want; go_big_quiet_op; go_big_quiet_on; refine wpQuiet_nil (hK _ ?_); clear hK K)))
      refine wpG_exact rfl (by kernel_rfl) (fun w' G hB hS hG => ?_) (fun K hK => ?_)
      · have cc := Below.keeps hB d2
        go_simp
        exact hG _ (Bel.refl _)
      go_simp; refine hK _ ?_; clear hK K; (repeat (first | (refine wpG_skip (by kernel_rfl) (fun K hK => ?_); go_big_quiet_skip; refine wpQuiet_nil (hK _ ?_); clear hK K) | (refine wpG_quiet (by rfl) (by rfl) (fun K hK => ?_); go_big_quiet_want; go_big_quiet_op; go_big_quiet_on; refine wpQuiet_nil (hK _ ?_); clear hK K)))
      refine wpG_exact rfl (by kernel_rfl) (fun w' G hB hS hG => ?_) (fun K hK => ?_)
      · have cc := Below.keeps hB d3
        go_simp
        exact hG _ (Bel.refl _)
      go_simp; refine hK _ ?_; clear hK K; (repeat (first | (refine wpG_skip (by kernel_rfl) (fun K hK => ?_); go_big_quiet_skip; refine wpQuiet_nil (hK _ ?_); clear hK K) | (refine wpG_quiet (by rfl) (by rfl) (fun K hK => ?_); go_big_quiet_want; go_big_quiet_op; go_big_quiet_on; refine wpQuiet_nil (hK _ ?_); clear hK K)))
      refine wpG_exact rfl (by kernel_rfl) (fun w' G hB hS hG => ?_) (fun K hK => ?_)
      · have cc := Below.keeps hB d4
        go_simp
        exact hG _ (Bel.refl _)
      go_simp; refine hK _ ?_; clear hK K; (repeat (first | (refine wpG_skip (by kernel_rfl) (fun K hK => ?_); go_big_quiet_skip; refine wpQuiet_nil (hK _ ?_); clear hK K) | (refine wpG_quiet (by rfl) (by rfl) (fun K hK => ?_); go_big_quiet_want; go_big_quiet_op; go_big_quiet_on; refine wpQuiet_nil (hK _ ?_); clear hK K)))
      refine wpG_exact rfl (by kernel_rfl) (fun w' G hB hS hG => ?_) (fun K hK => ?_)
      · have cc := Below.keeps hB d5
        go_simp
        exact hG _ (Bel.refl _)
      go_simp; refine hK _ ?_; clear hK K; (repeat (first | (refine wpG_skip (by kernel_rfl) (fun K hK => ?_); go_big_quiet_skip; refine wpQuiet_nil (hK _ ?_); clear hK K) | (refine wpG_quiet (by rfl) (by rfl) (fun K hK => ?_); go_big_quiet_want; go_big_quiet_op; go_big_quiet_on; refine wpQuiet_nil (hK _ ?_); clear hK K)))
      refine wpG_exact rfl (by kernel_rfl) (fun w' G hB hS hG => ?_) (fun K hK => ?_)
      · have cc := Below.keeps hB d6
        go_simp
        exact hG _ (Bel.refl _)
      go_simp; refine hK _ ?_; clear hK K; (repeat (first | (refine wpG_skip (by kernel_rfl) (fun K hK => ?_); go_big_quiet_skip; refine wpQuiet_nil (hK _ ?_); clear hK K) | (refine wpG_quiet (by rfl) (by rfl) (fun K hK => ?_); go_big_quiet_want; go_big_quiet_op; go_big_quiet_on; refine wpQuiet_nil (hK _ ?_); clear hK K)))
      (try simp only [U_byte, U_shl24, U_shl16, U_shl8, U_shr3, U_shr10, U_or, U_xor, U_and, U_add, U_add', U_add3, U_add4, U_add5])
      refine wpG_known (kReads 8 (ucells [t1 + t2, v0, v1, v2, v3 + t1, v4, v5, v6])) rfl (by kernel_rfl) (fun w' G hB hS hG => ?_) (fun x K hK => ?_)
      · go_simp
        exact reads_new hG rfl
      obtain ⟨ad, c⟩ := x; go_simp; refine hK _ ?_; clear hK K; (repeat (first | (refine wpG_skip (by kernel_rfl) (fun K hK => ?_); go_big_quiet_skip; refine wpQuiet_nil (hK _ ?_); clear hK K) | (refine wpG_quiet (by rfl) (by rfl) (fun K hK => ?_); go_big_quiet_want; go_big_quiet_op; go_big_quiet_on; refine wpQuiet_nil (hK _ ?_); clear hK K)))
      intro w7 hB hA
      have hr : Hid (Reads w7 (.slice ad 8 c) 8 (ucells [t1 + t2, v0, v1, v2, v3 + t1, v4, v5, v6])) := all0 hA
      have HB7 := Lib.hid (HB6.out.trans (hB.mono HB6.out.size))
      clear hA hB e0 d1 d2 d3 d4 d5 d6
      go_wp2
      refine ⟨?_, by simp [intOf]; omega⟩
      exact ⟨k + 1, ad, c, by omega, by go_num, rfl, by rw [HST2.out]; exact hr.out, HB7.out⟩
    · obtain rfl : k = 64 := by omega
      obtain ⟨Wr, hWr⟩ : ∃ Wr, Wr = wr := ⟨_, rfl⟩
      subst hWr
      obtain ⟨V, hV⟩ : ∃ V, V = rounds (wl l 64) h 64 := ⟨_, rfl⟩
      rw [← hV] at HV
      have HVL := Lib.hid (show V.length = 8 by rw [hV]; exact rounds_length _ _ HL.out 64)
      have HVD := Lib.hid hV
      clear hV
      have HH3 := Lib.hid (HH2.out.below HB.out)
      have hszr := HB.out.size
      go_wp2
      go_loopw [14, 15] (fun v t wx => ∃ k : Nat, k ≤ 8 ∧ t = .int .i64 k ∧ Hid (wx.ownsRow Wr.heap.size 85 1 v k (ucells (zadd h V k))) ∧ Hid (Below Wr.heap.size Wr wx)) (fun _ t _ => 8 - (intOf t).toNat)
      case atStart => exact ⟨0, by omega, rfl, World.ownsRow_nil _ _ _ _, b_refl _⟩
      case round =>
        obtain ⟨k, hk, rfl, HO, HX⟩ := hrel
        obtain ⟨ao, co, rfl⟩ := owns_slice HO.out
        by_cases hk8 : k < 8
        · have k1 : (k : Int) < 8 := by omega
          have k0 : (0 : Int) ≤ (k : Int) := by omega
          obtain ⟨bh, oh, rfl, dh⟩ := (HH3.out.below HX.out).u k (by rw [HL.out]; exact hk8)
          obtain ⟨bv, ov, rfl, dv⟩ := (HV.out.below HX.out).u k (by rw [HVL.out]; exact hk8)
          have HZ := Lib.hid (zadd_step h V HL.out HVL.out k hk8)
          generalize h.getD k 0 = hh at *
          generalize V.getD k 0 = vv at *
          go_wp2
          refine region_tail 11 [(4, .exact Bel (.int .u32 (U hh))), (8, .exact Bel (.int .u32 (U vv))), (10, kReads 1 (ucells [hh + vv]))] (by kernel_rfl) (by kernel_rfl) ?_
          simp only [List.take_succ_cons, List.take_zero, List.drop_succ_cons, List.drop_zero]
          (repeat (first | (refine wpG_skip (by kernel_rfl) (fun K hK => ?_); go_big_quiet_skip; refine wpQuiet_nil (hK _ ?_); clear hK K) | (refine wpG_quiet (by rfl) (by rfl) (fun K hK => ?_); go_big_quiet_want; go_big_quiet_op; go_big_quiet_on; refine wpQuiet_nil (hK _ ?_); clear hK K)))
          refine wpG_exact rfl (by kernel_rfl) (fun w' G hB hS hG => ?_) (fun K hK => ?_)
          · have cc := Below.keeps hB dh
            go_simp
            exact hG _ (Bel.refl _)
          go_simp; refine hK _ ?_; clear hK K; (repeat (first | (refine wpG_skip (by kernel_rfl) (fun K hK => ?_); go_big_quiet_skip; refine wpQuiet_nil (hK _ ?_); clear hK K) | (refine wpG_quiet (by rfl) (by rfl) (fun K hK => ?_); go_big_quiet_want; go_big_quiet_op; go_big_quiet_on; refine wpQuiet_nil (hK _ ?_); clear hK K)))
          refine wpG_exact rfl (by kernel_rfl) (fun w' G hB hS hG => ?_) (fun K hK => ?_)
          · have cc := Below.keeps hB dv
            go_simp
            exact hG _ (Bel.refl _)
          go_simp; refine hK _ ?_; clear hK K; (repeat (first | (refine wpG_skip (by kernel_rfl) (fun K hK => ?_); go_big_quiet_skip; refine wpQuiet_nil (hK _ ?_); clear hK K) | (refine wpG_quiet (by rfl) (by rfl) (fun K hK => ?_); go_big_quiet_want; go_big_quiet_op; go_big_quiet_on; refine wpQuiet_nil (hK _ ?_); clear hK K)))
          (try simp only [U_byte, U_shl24, U_shl16, U_shl8, U_shr3, U_shr10, U_or, U_xor, U_and, U_add, U_add', U_add3, U_add4, U_add5])
          refine wpG_known (kReads 1 (ucells [hh + vv])) rfl (by kernel_rfl) (fun w' G hB hS hG => ?_) (fun x K hK => ?_)
          · go_simp
            exact reads_new hG rfl
          obtain ⟨ad, c⟩ := x; go_simp; refine hK _ ?_; clear hK K; (repeat (first | (refine wpG_skip (by kernel_rfl) (fun K hK => ?_); go_big_quiet_skip; refine wpQuiet_nil (hK _ ?_); clear hK K) | (refine wpG_quiet (by rfl) (by rfl) (fun K hK => ?_); go_big_quiet_want; go_big_quiet_op; go_big_quiet_on; refine wpQuiet_nil (hK _ ?_); clear hK K)))
          intro w3 hB hA
          have hr : Hid (Reads w3 (.slice ad 1 c) 1 (ucells [hh + vv])) := all0 hA
          have HO3 := Lib.hid (ownsRow_below HO.out hB)
          have HX3 := Lib.hid (bt HX.out hB)
          have hsz3 : Wr.heap.size ≤ w3.heap.size := HX3.out.size
          clear hA hB dh dv
          go_wp2_with (at_builtin; go_must (refine appendN w3 (ucells [hh + vv]) 85 rfl _ _ 70 rfl Wr.heap.size (.int .u32 0) 1 4 Try.underlying70 infoU32 rfl (by decide) _ _ _ rfl HO3.out _ 1 rfl hr.out rfl (ucells_ones _) (by omega) (by decide) hsz3 ?_); intro v' w4 hown4 hB4)
          refine ⟨?_, by simp [intOf]; omega⟩
          (repeat apply Exists.intro)
          refine ⟨⟨k + 1, by omega, by go_num, ?_, HX3.out.trans hB4⟩, rfl⟩
          rw [← ucells_app, HZ.out] at hown4
          exact hown4
        · obtain rfl : k = 8 := by omega
          have HZ := Lib.hid (zadd_all h V HL.out HVL.out)
          go_wp2
          go_ret
          refine ⟨_, rfl, ?_, ?_⟩
          · have := owns_mono HO.out (show w.heap.size ≤ Wr.heap.size by omega)
            rw [HZ.out, HVD.out] at this
            exact this
          · exact bt HB2.out (bt HB.out HX.out)
end Go.Proofs.Ytdebgkjekcppmaa
