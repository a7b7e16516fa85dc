/- Walk of the law ShaPieces. -/
import Derived.Test.YtdebgkjekcppmaaSF
namespace Go.Proofs.Ytdebgkjekcppmaa
open Go.RowKit Oct

/-- how many bytes texts have -/
def sumLen (r : List (List UInt8)) : Nat := (r.map List.length).sum
theorem sumLen_take (r : List (List UInt8)) (k : Nat) (h : k < r.length) : sumLen (r.take (k + 1)) = sumLen (r.take k) + r[k].length := by
  rw [List.take_succ_eq_append_getElem h, sumLen, sumLen, List.map_append, List.sum_append]; simp
theorem flat_take (r : List (List UInt8)) (k : Nat) (h : k < r.length) : (r.take (k + 1)).flatten = (r.take k).flatten ++ r[k] := by
  rw [List.take_succ_eq_append_getElem h, List.flatten_append]; simp
theorem flat_length (r : List (List UInt8)) : r.flatten.length = sumLen r := by simp [sumLen, List.length_flatten]
theorem sumLen_le (r : List (List UInt8)) (k : Nat) : sumLen (r.take k) ≤ sumLen r := by
  have h : r = r.take k ++ r.drop k := (List.take_append_drop k r).symm
  have e : sumLen r = sumLen (r.take k) + sumLen (r.drop k) := by
    rw [sumLen, sumLen, sumLen, List.map_take, List.map_drop, ← List.sum_append, List.take_append_drop]
  omega
theorem hash_below {b B : Nat} {w w' w'' : World} (hB : B ≤ b) (h : Below B w w') (hc : Chg (· = b) w' w'') (hw : B ≤ w.heap.size) : Below B w w'' := h.trans (hc.below (fun k hk => by subst hk; exact hB) (Nat.le_trans hw h.size))

set_option maxRecDepth 100000 in
set_option maxHeartbeats 4000000 in
theorem ShaPieces_any (v : Value) (r : List (List UInt8)) (w : World) (hr : Reads w v r.length (tcells r)) (hl : r.length ≤ 140737488355328) (hm : ∀ l ∈ r, l.length ≤ 140737488355328) :
    Calls Try.prog 5 #[v] w fun e w' => e = .returned (.bool true) ∧ Below w.heap.size w w' := by
  obtain ⟨a, cap, rfl, _, hc⟩ := hr
  have HC := Lib.hid hc
  have HM := Lib.hid hm
  clear hc hm
  go_enter Try.func5, Try.ntmps5
  go_wp2
  go_loop [3, 4] (fun n i => ∃ k x : Nat, k ≤ r.length ∧ k ≤ 100 ∧ i = .int .i64 k ∧ n = .int .i64 x ∧ x ≤ k * 140737488355328 ∧ Hid (x = sumLen (r.take k))) (fun _ i => 100 - (intOf i).toNat)
  case atStart => exact ⟨0, 0, by omega, by omega, rfl, rfl, by omega, rfl⟩
  case round =>
    obtain ⟨k, x, hk, hk2, rfl, rfl, hx, hH⟩ := hrel
    by_cases h0 : k < r.length ∧ k < 100
    · obtain ⟨h1, h2⟩ := h0
      obtain ⟨b1, o1, rfl, hc1⟩ := HC.out k _ (tcells_at r k h1)
      have hmk := HM.out r[k] (List.getElem_mem h1)
      have HS := Lib.hid (sumLen_take r k h1)
      have kk0 : (0 : Int) ≤ (k : Int) := by omega
      have kk1 : (k : Int) < (r.length : Int) := by omega
      have kk2 : (k : Int) < 100 := by omega
      go_wp2
      go_round
      case rel => exact ⟨k + 1, x + r[k].length, by omega, by omega, by go_num, by go_num, by omega, by show _ = _; rw [HS.out, hH.out]⟩
      case measure => simp [intOf]; omega
    · by_cases hbig : 40 < r.length ∨ 4096 < x
      · have hb2 : (decide (40 < r.length) || decide (4096 < x)) = true := by simpa using hbig
        have halive : ∀ wx, Calls Try.prog 14 #[] wx fun e w' => e = .returned (.bool true) ∧ Below wx.heap.size wx w' := alive02
        by_cases h1 : k < r.length
        · have h2 : ¬ k < 100 := fun h2 => h0 ⟨h1, h2⟩
          have c1 : (k : Int) < (r.length : Int) := by omega
          have c2 : ¬ (k : Int) < 100 := by omega
          have c3 : (40 : Int) < (r.length : Int) := by omega
          clear h0 hbig hb2 halive
          go_wp2_with (go_at_call 14; refine (alive02 _).mono ?_; rintro e w1 ⟨rfl, hB1⟩)
          go_ret
          exact ⟨rfl, hB1⟩
        · have c1 : ¬ (k : Int) < (r.length : Int) := by omega
          by_cases h4 : 40 < r.length
          · have c3 : (40 : Int) < (r.length : Int) := by omega
            clear h0 hbig hb2 halive
            go_wp2_with (go_at_call 14; refine (alive02 _).mono ?_; rintro e w1 ⟨rfl, hB1⟩)
            go_ret
            exact ⟨rfl, hB1⟩
          · have c3 : ¬ (40 : Int) < (r.length : Int) := by omega
            have c4 : (4096 : Int) < (x : Int) := by omega
            clear h0 hbig hb2 halive
            go_wp2_with (go_at_call 14; refine (alive02 _).mono ?_; rintro e w1 ⟨rfl, hB1⟩)
            go_ret
            exact ⟨rfl, hB1⟩
      · have hl40 : r.length ≤ 40 := by omega
        have hx4 : x ≤ 4096 := by omega
        have c1 : ¬ (k : Int) < (r.length : Int) := by omega
        have c3 : ¬ (40 : Int) < (r.length : Int) := by omega
        have c4 : ¬ (4096 : Int) < (x : Int) := by omega
        have hkr : k = r.length := by omega
        subst hkr
        have HX := Lib.hid (show sumLen r ≤ 4096 by have := hH.out; rw [List.take_length] at this; omega)
        clear h0 hbig hH
        go_wp2_with fail
        refine (NewH_any w).mono ?_
        rintro e w1 ⟨p, rfl, hp, hH1, hB1⟩
        have HH1 := Lib.hid hH1
        have HB1 := Lib.hid hB1
        have hlt1 := hH1.lt
        clear hH1 hB1
        go_wp2_with fail
        refine (NewH_any w1).mono ?_
        rintro e w2 ⟨q, rfl, hq, hH2, hB2⟩
        have HP := Lib.hid (HH1.out.below hB2)
        have HQ := Lib.hid hH2
        have HB2 := Lib.hid (bt HB1.out hB2)
        have hpq : p ≠ q := by omega
        have hqw : w.heap.size ≤ q := by have := HB1.out.size; omega
        clear hH2 hB2
        go_wp2_with fail
        go_loopw [7, 8] (fun s i wx => ∃ k : Nat, k ≤ r.length ∧ i = .int .i64 k ∧ s = .string (bs (r.take k).flatten) ∧ Hid (HashOf wx p (r.take k).flatten) ∧ Hid (HashOf wx q (r.take k).flatten) ∧ Hid (Below w.heap.size w wx)) (fun _ i _ => 100 - (intOf i).toNat)
        case atStart => exact ⟨0, by omega, rfl, rfl, HP, HQ, HB2⟩
        case round =>
          clear HP HQ HB2
          obtain ⟨k, hk, rfl, rfl, HP, HQ, HB⟩ := hrel
          have HFL := Lib.hid (show (r.take k).flatten.length ≤ 4096 by rw [flat_length]; have := sumLen_le r k; have := HX.out; omega)
          by_cases h1 : k < r.length
          · obtain ⟨b1, o1, rfl, hc1⟩ := HC.out k _ (tcells_at r k h1)
            have hmk := HM.out r[k] (List.getElem_mem h1)
            have HF := Lib.hid (flat_take r k h1)
            have HFL1 := Lib.hid (show ((r.take k).flatten ++ r[k]).length ≤ 4096 by rw [← flat_take r k h1, flat_length]; have := sumLen_le r (k + 1); have := HX.out; omega)
            generalize (r.take k).flatten = T at *
            have kk0 : (0 : Int) ≤ (k : Int) := by omega
            have kk1 : (k : Int) < (r.length : Int) := by omega
            have HC1 := Lib.hid hc1
            clear hc1
            go_wp2_with fail
            refine (MSumH_any p T _ HP.out (by have := HFL.out; omega)).mono ?_
            rintro e w3 ⟨rfl, hB3⟩
            have HP3 := Lib.hid (HP.out.below hB3)
            have HQ3 := Lib.hid (HQ.out.below hB3)
            have HB3 := Lib.hid (HB.out.trans (hB3.mono HB.out.size))
            clear hB3
            go_wp2_with fail
            refine (Sum_any T _ (by have := HFL.out; omega)).mono ?_
            rintro e w4 ⟨rfl, hB4⟩
            have HP4 := Lib.hid (HP3.out.below hB4)
            have HQ4 := Lib.hid (HQ3.out.below hB4)
            have HB4 := Lib.hid (HB3.out.trans (hB4.mono HB3.out.size))
            have c4 := (HB4.out.cell (p := ⟨b1, o1 + k, none⟩) (lt_of_cell HC1.out)).trans HC1.out
            clear hB4
            go_wp2_with fail
            refine (WriteH_any p T r[k] _ HP4.out (by have := HFL1.out; rw [List.length_append] at this; omega)).mono ?_
            rintro e w5 ⟨rfl, hH5, hC5⟩
            have HP5 := Lib.hid hH5
            have HQ5 := Lib.hid (HQ4.out.chg hC5 (Ne.symm hpq))
            have HB5 := Lib.hid (hash_below hp HB4.out hC5 (Nat.le_refl _))
            have c5 := (HB5.out.cell (p := ⟨b1, o1 + k, none⟩) (lt_of_cell HC1.out)).trans HC1.out
            clear hH5 hC5 c4
            go_wp2_with fail
            refine (WriteH_any q T r[k] _ HQ5.out (by have := HFL1.out; rw [List.length_append] at this; omega)).mono ?_
            rintro e w6 ⟨rfl, hH6, hC6⟩
            have HQ6 := Lib.hid hH6
            have HP6 := Lib.hid (HP5.out.chg hC6 hpq)
            have HB6 := Lib.hid (hash_below hqw HB5.out hC6 (Nat.le_refl _))
            have c6 := (HB6.out.cell (p := ⟨b1, o1 + k, none⟩) (lt_of_cell HC1.out)).trans HC1.out
            have hsum : T.length + r[k].length ≤ 4096 := by have := HFL1.out; rw [List.length_append] at this; omega
            clear hH6 hC6 c5
            go_wp2
            refine ⟨⟨k + 1, by omega, by go_num, ?_, ?_, ?_, HB6.out⟩, by simp [intOf]; omega⟩
            · rw [HF.out]
            · rw [HF.out]; exact HP6.out
            · rw [HF.out]; exact HQ6.out
          · obtain rfl : k = r.length := by omega
            generalize (r.take r.length).flatten = T at *
            have HL32 := Lib.hid (shaF_length T)
            go_wp2_with fail
            refine (MSumH_any p T _ HP.out (by have := HFL.out; omega)).mono ?_
            rintro e w3 ⟨rfl, hB3⟩
            have HP3 := Lib.hid (HP.out.below hB3)
            have HQ3 := Lib.hid (HQ.out.below hB3)
            have HB3 := Lib.hid (HB.out.trans (hB3.mono HB.out.size))
            clear hB3
            go_wp2_with fail
            refine (Sum_any T _ (by have := HFL.out; omega)).mono ?_
            rintro e w4 ⟨rfl, hB4⟩
            have HP4 := Lib.hid (HP3.out.below hB4)
            have HQ4 := Lib.hid (HQ3.out.below hB4)
            have HB4 := Lib.hid (HB3.out.trans (hB4.mono HB3.out.size))
            clear hB4
            go_wp2_with fail
            refine (MSumH_any q T _ HQ4.out (by have := HFL.out; omega)).mono ?_
            rintro e w5 ⟨rfl, hB5⟩
            have HP5 := Lib.hid (HP4.out.below hB5)
            have HB5 := Lib.hid (HB4.out.trans (hB5.mono HB4.out.size))
            clear hB5
            go_wp2_with fail
            refine (MSumH_any p T _ HP5.out (by have := HFL.out; omega)).mono ?_
            rintro e w6 ⟨rfl, hB6⟩
            have HP6 := Lib.hid (HP5.out.below hB6)
            have HB6 := Lib.hid (HB5.out.trans (hB6.mono HB5.out.size))
            clear hB6
            go_wp2_with fail
            refine (MSumH_any p T _ HP6.out (by have := HFL.out; omega)).mono ?_
            rintro e w7 ⟨rfl, hB7⟩
            have HB7 := Lib.hid (HB6.out.trans (hB7.mono HB6.out.size))
            have hl32 : ((shaF T).length : Int) = 32 := by have := HL32.out; omega
            clear hB7
            go_wp2_with fail
            refine (alive02 _).mono ?_
            rintro e w8 ⟨rfl, hB8⟩
            have HB8 := Lib.hid (HB7.out.trans (hB8.mono HB7.out.size))
            clear hB8
            go_wp2_with fail
            go_ret
            exact ⟨rfl, HB8.out⟩
end Go.Proofs.Ytdebgkjekcppmaa
