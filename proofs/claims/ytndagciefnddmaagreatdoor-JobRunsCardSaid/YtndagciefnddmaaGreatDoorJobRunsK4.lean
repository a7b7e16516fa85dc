/- Lemmas for JobRuns, part 4: walks of the functions that it reaches, and the plain laws behind them. -/
import Derived.Test.YtndagciefnddmaaGreatDoorJobRunsK2
import Derived.Test.YtndagciefnddmaaGreatDoorJobRunsK3
set_option linter.unusedSimpArgs false
set_option linter.unusedVariables false
namespace Go.Proofs.YtndagciefnddmaaGreatDoor
open Go.RowKit Oct
attribute [local irreducible] wpG
section
variable {w : World} {base G : Nat} {tv cv bv sv ev : Value} {inp : Nat} {role : UInt8} {s : Vs}
set_option maxRecDepth 100000 in
set_option maxHeartbeats 8000000 in
theorem values_any (h : VG w base G tv cv inp role s bv sv ev) (hE : EffM w) (hg : 1 < base) (p a : UInt8) (hp : p.toNat < 24) (hk : s.kinds.length ≤ 1000) :
    Calls Tryz.prog 123 #[.pointer (some ⟨G, 0, none⟩), .agg #[.int .u8 (p.toNat : Int), .int .u8 (a.toNat : Int)]] w fun e w' => e = .returned (.int .i64 (((valuesV s.kinds (p, a)).1 : Nat) : Int)) ∧ VG w' base G tv cv inp role { s with kinds := (valuesV s.kinds (p, a)).2 } bv sv ev ∧ Chg (fun x => x = G) w w' := by
  have HH := Lib.hid h
  have hgw : G < w.heap.size := h.blk.lt
  have hbw : base ≤ w.heap.size := Nat.le_trans h.gb (Nat.le_of_lt hgw)
  obtain ⟨W1, hW1⟩ : ∃ W1, W1 = w.alloc (.cells #[.int .u8 (p.toNat : Int), .int .u8 (a.toNat : Int)] 92) := ⟨_, rfl⟩
  have hb1 : Below w.heap.size w W1 := by rw [hW1]; exact b_alloc _ _
  have hx : Blk W1 w.heap.size 92 [.int .u8 (p.toNat : Int), .int .u8 (a.toNat : Int)] := by rw [hW1]; exact Blk.new w _ _
  have h1 := h.below hb1
  have x0 := hx.cell (k := 0) rfl
  have x1 := hx.cell (k := 1) rfl
  have g4 := h1.cell (k := 4) rfl
  obtain ⟨q1, q2⟩ := hE p.toNat hp
  have t1 := Below.keeps hb1 q1
  have t2 := Below.keeps hb1 q2
  obtain ⟨r1, r2⟩ := effs_repl p.toNat hp
  have hfacts := eff_facts (p, a) hp
  have HB1 := Lib.hid hb1
  have HBW := Lib.hid hbw
  have HGW := Lib.hid hgw
  have hrp := regV_two a
  have HRP := Lib.hid hrp
  have R1 := Lib.hid r1
  have R2 := Lib.hid r2
  obtain ⟨T0, hT0⟩ : ∃ T0, T0 = (effs.getD p.toNat ([], [])).1 := ⟨_, rfl⟩
  obtain ⟨E0, hE0⟩ : ∃ E0, E0 = (effs.getD p.toNat ([], [])).2 := ⟨_, rfl⟩
  obtain ⟨R, hR⟩ : ∃ R, R = regV a := ⟨_, rfl⟩
  obtain ⟨T, hT⟩ : ∃ T, T = (effV (p, a)).1 := ⟨_, rfl⟩
  obtain ⟨E, hEE⟩ : ∃ E, E = (effV (p, a)).2 := ⟨_, rfl⟩
  rw [← hT0] at t1 R1
  rw [← hE0] at t2 R2
  rw [← hR] at HRP
  have HTR := Lib.hid (show T = replV T0 R by rw [hT, hT0, hR]; rfl)
  have HER := Lib.hid (show E = replV E0 R by rw [hEE, hE0, hR]; rfl)
  have HR := Lib.hid hR
  have HT := Lib.hid hT
  have HEE := Lib.hid hEE
  rw [← hT, ← hEE] at hfacts
  have HF := Lib.hid hfacts
  have hTl : T.length ≤ 3 := hfacts.2.2.2.2.1
  have a1 : (a.toNat : Int) < 256 := by have := a.toNat_lt; omega
  have a0 : (0 : Int) ≤ (a.toNat : Int) := by omega
  have p0 : (0 : Int) ≤ (p.toNat : Int) := by omega
  have p1 : (p.toNat : Int) < 24 := by omega
  have k1 : (s.kinds.length : Int) ≤ 1000 := by omega
  have k2 : (T.length : Int) ≤ 3 := by omega
  clear h h1 hx hb1 hE q1 q2 r1 r2 hfacts hrp hT0 hE0 hR hT hEE
  go_enter Tryz.func123, Tryz.ntmps123
  go_upto_region 2 with fail
  rw [← hW1]
  clear hW1
  go_upto_if 16 with fail
  go_cut [5] (fun t wx => t = .string (bs R) ∧ wx = W1)
  case first =>
    by_cases hq : 4 ≤ a.toNat
    · have hq1 : (4 : Int) ≤ (a.toNat : Int) := by omega
      have HR84 := Lib.hid (show R = [84] by rw [HR.out]; unfold regV; rw [if_pos hq])
      clear hq
      go_wp2_with fail
      go_meet
      case rel => exact ⟨by rw [HR84.out]; rfl, rfl⟩
    · have hq1 : ¬ (4 : Int) ≤ (a.toNat : Int) := by omega
      have HR78 := Lib.hid (show R = [78] by rw [HR.out]; unfold regV; rw [if_neg hq])
      clear hq
      go_wp2_with fail
      go_meet
      case rel => exact ⟨by rw [HR78.out]; rfl, rfl⟩
  case rest =>
    obtain ⟨rfl, rfl⟩ := hcut
    go_upto_region 4 with fail
    refine region_known [(1, .exact _ (.int .u8 (p.toNat : Int))), (4, .exact _ (.string (bs T0))), (6, .exact _ (.string (bs T))), (8, .exact _ (.int .u8 (p.toNat : Int))), (11, .exact _ (.string (bs E0))), (13, .exact _ (.string (bs E)))] (by kernel_rfl) (by kernel_rfl) ?_
    (repeat (first | (refine wpG_skip (by kernel_rfl) (fun K hK => ?_); go_big_quiet_skip; refine wpQuiet_nil (hK _ ?_); clear hK K) | (refine wpG_quiet (by rfl) (by rfl) (fun K hK => ?_); go_big_quiet_want; go_big_quiet_op; go_big_quiet_on; refine wpQuiet_nil (hK _ ?_); clear hK K) | (refine wpG_nilOk rfl rfl rfl (by kernel_rfl) (fun K hK => ?_); go_simp; refine hK _ ?_; clear hK K)))
    refine wpG_exact rfl (by kernel_rfl) (fun w' G hB hS hG => ?_) (fun K hK => ?_)
    · have y := Below.keeps hB x0
      go_simp; exact hG _ (Bel.refl _)
    go_simp; refine hK _ ?_; clear hK K; (repeat (first | (refine wpG_skip (by kernel_rfl) (fun K hK => ?_); go_big_quiet_skip; refine wpQuiet_nil (hK _ ?_); clear hK K) | (refine wpG_quiet (by rfl) (by rfl) (fun K hK => ?_); go_big_quiet_want; go_big_quiet_op; go_big_quiet_on; refine wpQuiet_nil (hK _ ?_); clear hK K) | (refine wpG_nilOk rfl rfl rfl (by kernel_rfl) (fun K hK => ?_); go_simp; refine hK _ ?_; clear hK K)))
    refine wpG_exact rfl (by kernel_rfl) (fun w' G hB hS hG => ?_) (fun K hK => ?_)
    · have y := Below.keeps hB t1
      go_simp; exact hG _ (Bel.refl _)
    go_simp; refine hK _ ?_; clear hK K; (repeat (first | (refine wpG_skip (by kernel_rfl) (fun K hK => ?_); go_big_quiet_skip; refine wpQuiet_nil (hK _ ?_); clear hK K) | (refine wpG_quiet (by rfl) (by rfl) (fun K hK => ?_); go_big_quiet_want; go_big_quiet_op; go_big_quiet_on; refine wpQuiet_nil (hK _ ?_); clear hK K) | (refine wpG_nilOk rfl rfl rfl (by kernel_rfl) (fun K hK => ?_); go_simp; refine hK _ ?_; clear hK K)))
    refine wpG_exact rfl (by kernel_rfl) (fun w' G hB hS hG => ?_) (fun K hK => ?_)
    · have hr := ReplaceAll_any T0 R w' R1.out HRP.out
      rw [← HTR.out] at hr
      go_simp
      exact calls_told hG hr
    go_simp; refine hK _ ?_; clear hK K; (repeat (first | (refine wpG_skip (by kernel_rfl) (fun K hK => ?_); go_big_quiet_skip; refine wpQuiet_nil (hK _ ?_); clear hK K) | (refine wpG_quiet (by rfl) (by rfl) (fun K hK => ?_); go_big_quiet_want; go_big_quiet_op; go_big_quiet_on; refine wpQuiet_nil (hK _ ?_); clear hK K) | (refine wpG_nilOk rfl rfl rfl (by kernel_rfl) (fun K hK => ?_); go_simp; refine hK _ ?_; clear hK K)))
    refine wpG_exact rfl (by kernel_rfl) (fun w' G hB hS hG => ?_) (fun K hK => ?_)
    · have y := Below.keeps hB x0
      go_simp; exact hG _ (Bel.refl _)
    go_simp; refine hK _ ?_; clear hK K; (repeat (first | (refine wpG_skip (by kernel_rfl) (fun K hK => ?_); go_big_quiet_skip; refine wpQuiet_nil (hK _ ?_); clear hK K) | (refine wpG_quiet (by rfl) (by rfl) (fun K hK => ?_); go_big_quiet_want; go_big_quiet_op; go_big_quiet_on; refine wpQuiet_nil (hK _ ?_); clear hK K) | (refine wpG_nilOk rfl rfl rfl (by kernel_rfl) (fun K hK => ?_); go_simp; refine hK _ ?_; clear hK K)))
    refine wpG_exact rfl (by kernel_rfl) (fun w' G hB hS hG => ?_) (fun K hK => ?_)
    · have y := Below.keeps hB t2
      go_simp; exact hG _ (Bel.refl _)
    go_simp; refine hK _ ?_; clear hK K; (repeat (first | (refine wpG_skip (by kernel_rfl) (fun K hK => ?_); go_big_quiet_skip; refine wpQuiet_nil (hK _ ?_); clear hK K) | (refine wpG_quiet (by rfl) (by rfl) (fun K hK => ?_); go_big_quiet_want; go_big_quiet_op; go_big_quiet_on; refine wpQuiet_nil (hK _ ?_); clear hK K) | (refine wpG_nilOk rfl rfl rfl (by kernel_rfl) (fun K hK => ?_); go_simp; refine hK _ ?_; clear hK K)))
    refine wpG_exact rfl (by kernel_rfl) (fun w' G hB hS hG => ?_) (fun K hK => ?_)
    · have hr := ReplaceAll_any E0 R w' R2.out HRP.out
      rw [← HER.out] at hr
      go_simp
      exact calls_told hG hr
    go_simp; refine hK _ ?_; clear hK K; (repeat (first | (refine wpG_skip (by kernel_rfl) (fun K hK => ?_); go_big_quiet_skip; refine wpQuiet_nil (hK _ ?_); clear hK K) | (refine wpG_quiet (by rfl) (by rfl) (fun K hK => ?_); go_big_quiet_want; go_big_quiet_op; go_big_quiet_on; refine wpQuiet_nil (hK _ ?_); clear hK K) | (refine wpG_nilOk rfl rfl rfl (by kernel_rfl) (fun K hK => ?_); go_simp; refine hK _ ?_; clear hK K)))
    refine wpG_nilV3 ?_
    intro w2 hB2 hA2
    have z0 := Below.keeps hB2 x0
    have z4 := Below.keeps hB2 g4
    have HB2 := Lib.hid (bt HB1.out hB2)
    clear hB2 hA2 x0 x1 g4 t1 t2
    by_cases hlt : s.kinds.length < T.length
    · have n1 : (s.kinds.length : Int) - (T.length : Int) < 0 := by omega
      have HV := Lib.hid (show valuesV s.kinds (p, a) = (130, s.kinds) by unfold valuesV; rw [← HT.out, if_pos hlt])
      clear hlt
      go_wp2_with fail
      go_ret
      exact ⟨by rw [HV.out]; rfl, by rw [HV.out]; exact HH.out.below HB2.out, Chg.of_below HB2.out⟩
    · obtain ⟨m, hm⟩ : ∃ m : Nat, s.kinds.length = m + T.length := ⟨s.kinds.length - T.length, by omega⟩
      have n1 : (s.kinds.length : Int) - (T.length : Int) = (m : Int) := by omega
      have n2 : ¬ (m : Int) < 0 := by omega
      have n3 : (0 : Int) ≤ (m : Int) := by omega
      have n4 : (m : Int) ≤ (s.kinds.length : Int) := by omega
      obtain ⟨K, hK⟩ : ∃ K, K = s.kinds := ⟨_, rfl⟩
      have HM := Lib.hid hm
      have HK := Lib.hid hK
      clear hlt hm
      go_upto_region 8 with fail
      refine region_known [(3, .exact _ (.string (bs s.kinds))), (9, .exact _ (.string (bs s.kinds)))] (by kernel_rfl) (by kernel_rfl) ?_
      (repeat (first | (refine wpG_skip (by kernel_rfl) (fun K hK => ?_); go_big_quiet_skip; refine wpQuiet_nil (hK _ ?_); clear hK K) | (refine wpG_quiet (by rfl) (by rfl) (fun K hK => ?_); go_big_quiet_want; go_big_quiet_op; go_big_quiet_on; refine wpQuiet_nil (hK _ ?_); clear hK K) | (refine wpG_nilOk rfl rfl rfl (by kernel_rfl) (fun K hK => ?_); go_simp; refine hK _ ?_; clear hK K)))
      refine wpG_exact rfl (by kernel_rfl) (fun w' G hB hS hG => ?_) (fun K hK => ?_)
      · have y := Below.keeps hB z4
        go_simp; exact hG _ (Bel.refl _)
      go_simp; refine hK _ ?_; clear hK K; (repeat (first | (refine wpG_skip (by kernel_rfl) (fun K hK => ?_); go_big_quiet_skip; refine wpQuiet_nil (hK _ ?_); clear hK K) | (refine wpG_quiet (by rfl) (by rfl) (fun K hK => ?_); go_big_quiet_want; go_big_quiet_op; go_big_quiet_on; refine wpQuiet_nil (hK _ ?_); clear hK K) | (refine wpG_nilOk rfl rfl rfl (by kernel_rfl) (fun K hK => ?_); go_simp; refine hK _ ?_; clear hK K)))
      refine wpG_exact rfl (by kernel_rfl) (fun w' G hB hS hG => ?_) (fun K hK => ?_)
      · have y := Below.keeps hB z4
        go_simp; exact hG _ (Bel.refl _)
      go_simp; refine hK _ ?_; clear hK K; (repeat (first | (refine wpG_skip (by kernel_rfl) (fun K hK => ?_); go_big_quiet_skip; refine wpQuiet_nil (hK _ ?_); clear hK K) | (refine wpG_quiet (by rfl) (by rfl) (fun K hK => ?_); go_big_quiet_want; go_big_quiet_op; go_big_quiet_on; refine wpQuiet_nil (hK _ ?_); clear hK K) | (refine wpG_nilOk rfl rfl rfl (by kernel_rfl) (fun K hK => ?_); go_simp; refine hK _ ?_; clear hK K)))
      refine wpG_nilV3 ?_
      intro w3 hB3 hA3
      have y0 := Below.keeps hB3 z0
      have HB3 := Lib.hid (bt HB2.out hB3)
      clear hB3 hA3 z0 z4
      obtain ⟨U, hU⟩ : ∃ U, U = s.kinds.drop m := ⟨_, rfl⟩
      obtain ⟨Pk, hPk⟩ : ∃ Pk, Pk = s.kinds.take m := ⟨_, rfl⟩
      have hUl : U.length = T.length := by rw [hU, List.length_drop]; have := HM.out; omega
      rw [← hU, ← hPk]
      have HU := Lib.hid hU
      have HPK := Lib.hid hPk
      have HUL := Lib.hid hUl
      have u1 : (U.length : Int) ≤ 3 := by omega
      clear hU hPk hUl
      go_wp2_with fail
      obtain ⟨I, hI⟩ : ∃ I, I = w3.heap.size := ⟨_, rfl⟩
      have hit := World.iter_heap w3 (bs T) 0
      have hbi : Below w3.heap.size w3 (w3.iter (bs T) 0) := b_alloc w3 _
      rw [← hI] at hit
      have HI := Lib.hid hI
      have HIT := Lib.hid hit
      have HBI := Lib.hid hbi
      rw [← hI]
      clear hI hit hbi
      go_loopw [11] (fun _ wx => ∃ pos : Nat, pos ≤ T.length ∧ Hid (wx.heap[I]? = some (.stringIter (bs T) pos)) ∧ Hid (Below w3.heap.size w3 wx) ∧ Hid (∀ j (h : j < T.length) (h' : j < U.length), j < pos → T[j] = 63 ∨ T[j] = U[j])) (fun _ wx => T.length - wx.iterPos I)
      case atStart => exact ⟨0, Nat.zero_le _, HIT.out, HBI.out, fun j _ _ h => by omega⟩
      case round =>
        obtain ⟨pos, hpos, HIt, HBx, HFit⟩ := hrel
        by_cases hp : pos < T.length
        · have hpu : pos < U.length := by rw [HUL.out]; exact hp
          have hasc := HF.out.1 T[pos] (List.getElem_mem hp)
          have hnx : ∀ ty, (Instr.next (.pointer (some ⟨I, 0, none⟩)) true ty).run Tryz.prog wr = .ok (.tuple #[.bool true, .int .i64 (pos : Int), .int .i32 (T[pos].toNat : Int)]) (wr.putObj I (.stringIter (bs T) (pos + 1))) := fun ty => next_bs wr I T pos ty HIt.out hp hasc
          have hIlt : I < wr.heap.size := (Array.getElem?_eq_some_iff.1 HIt.out).1
          have hbp : Below w3.heap.size w3 (wr.putObj I (.stringIter (bs T) (pos + 1))) := HBx.out.trans ((Chg.putObj (X := fun k => k = I) wr I _ rfl).below (fun k hk => by rw [hk, HI.out]; exact Nat.le_refl _) HBx.out.size)
          have hit2 : (wr.putObj I (.stringIter (bs T) (pos + 1))).heap[I]? = some (.stringIter (bs T) (pos + 1)) := World.putObj_heap_same hIlt
          have HBP := Lib.hid hbp
          have HI2 := Lib.hid hit2
          have j0 : (0 : Int) ≤ (pos : Int) := by omega
          have j1 : (pos : Int) < (T.length : Int) := by omega
          have j2 : (pos : Int) < (U.length : Int) := by omega
          have hms : T.length - (pos + 1) < T.length - wr.iterPos I := by rw [iterPos_at HIt.out]; omega
          have HMS := Lib.hid hms
          have HP := Lib.hid hp
          have HPU := Lib.hid hpu
          clear hasc hIlt hbp hit2 hms
          go_upto_region 12 with fail
          obtain ⟨X, hX⟩ : ∃ X, X = wr.putObj I (.stringIter (bs T) (pos + 1)) := ⟨_, rfl⟩
          rw [← hX] at HBP HI2 ⊢
          clear hX hnx
          obtain ⟨c, hc⟩ : ∃ c, c = T[pos] := ⟨_, rfl⟩
          obtain ⟨d, hd⟩ : ∃ d, d = U[pos] := ⟨_, rfl⟩
          have HCC := Lib.hid hc
          have HDD := Lib.hid hd
          by_cases h63 : c = 63
          · have e1 : ((c.toNat : Int) != 63) = false := by rw [h63]; rfl
            have hf : ∀ j (h : j < T.length) (h' : j < U.length), j < pos + 1 → T[j] = 63 ∨ T[j] = U[j] := fun j h h' hj => by
              by_cases e : j = pos
              · subst e; exact .inl (HCC.out.symm.trans h63)
              · exact HFit.out j h h' (by omega)
            have HF2 := Lib.hid hf
            clear h63 hf hc hd
            refine region_known [(2, .exact _ (.int .u8 (c.toNat : Int))), (7, .exact _ (.int .u8 (c.toNat : Int))), (10, .exact _ (.int .u8 (d.toNat : Int)))] (by kernel_rfl) (by kernel_rfl) ?_
            (repeat (first | (refine wpG_skip (by kernel_rfl) (fun K hK => ?_); go_big_quiet_skip; refine wpQuiet_nil (hK _ ?_); clear hK K) | (refine wpG_quiet (by rfl) (by rfl) (fun K hK => ?_); go_big_quiet_want; go_big_quiet_op; go_big_quiet_on; refine wpQuiet_nil (hK _ ?_); clear hK K) | (refine wpG_nilOk rfl rfl rfl (by kernel_rfl) (fun K hK => ?_); go_simp; refine hK _ ?_; clear hK K)))
            repeat (refine wpG_exact rfl (by kernel_rfl) (fun w' G hB hS hG => ?_) (fun K hK => ?_); (go_simp; first | exact HCC.out ▸ hG _ (Bel.refl _) | exact HDD.out ▸ hG _ (Bel.refl _)); go_simp; refine hK _ ?_; clear hK K; (repeat (first | (refine wpG_skip (by kernel_rfl) (fun K hK => ?_); go_big_quiet_skip; refine wpQuiet_nil (hK _ ?_); clear hK K) | (refine wpG_quiet (by rfl) (by rfl) (fun K hK => ?_); go_big_quiet_want; go_big_quiet_op; go_big_quiet_on; refine wpQuiet_nil (hK _ ?_); clear hK K) | (refine wpG_nilOk rfl rfl rfl (by kernel_rfl) (fun K hK => ?_); go_simp; refine hK _ ?_; clear hK K))))
            refine wpG_nilV3 ?_
            intro w5 hB5 hA5
            have HB5 := Lib.hid (HBP.out.trans (hB5.mono HBP.out.size))
            have HI5 := Lib.hid (show w5.heap[I]? = some (.stringIter (bs T) (pos + 1)) from (hB5.block I (Array.getElem?_eq_some_iff.1 HI2.out).1).trans HI2.out)
            clear hB5 hA5
            go_wp2
            exact ⟨⟨pos + 1, HP.out, HI5.out, HB5.out, HF2.out⟩, by rw [iterPos_at HI5.out]; exact HMS.out⟩
          · have e1 : ((c.toNat : Int) != 63) = true := by
              have := u8_ne (p := c) (k := 63) (by decide) h63
              simpa [bne] using this
            by_cases heq : c = d
            · have e2 : ((c.toNat : Int) != (d.toNat : Int)) = false := by rw [heq]; simp
              have hf : ∀ j (h : j < T.length) (h' : j < U.length), j < pos + 1 → T[j] = 63 ∨ T[j] = U[j] := fun j h h' hj => by
                by_cases e : j = pos
                · subst e; exact .inr ((HCC.out.symm.trans heq).trans HDD.out)
                · exact HFit.out j h h' (by omega)
              have HF2 := Lib.hid hf
              clear h63 hf heq hc hd
              refine region_known [(2, .exact _ (.int .u8 (c.toNat : Int))), (7, .exact _ (.int .u8 (c.toNat : Int))), (10, .exact _ (.int .u8 (d.toNat : Int)))] (by kernel_rfl) (by kernel_rfl) ?_
              (repeat (first | (refine wpG_skip (by kernel_rfl) (fun K hK => ?_); go_big_quiet_skip; refine wpQuiet_nil (hK _ ?_); clear hK K) | (refine wpG_quiet (by rfl) (by rfl) (fun K hK => ?_); go_big_quiet_want; go_big_quiet_op; go_big_quiet_on; refine wpQuiet_nil (hK _ ?_); clear hK K) | (refine wpG_nilOk rfl rfl rfl (by kernel_rfl) (fun K hK => ?_); go_simp; refine hK _ ?_; clear hK K)))
              repeat (refine wpG_exact rfl (by kernel_rfl) (fun w' G hB hS hG => ?_) (fun K hK => ?_); (go_simp; first | exact HCC.out ▸ hG _ (Bel.refl _) | exact HDD.out ▸ hG _ (Bel.refl _)); go_simp; refine hK _ ?_; clear hK K; (repeat (first | (refine wpG_skip (by kernel_rfl) (fun K hK => ?_); go_big_quiet_skip; refine wpQuiet_nil (hK _ ?_); clear hK K) | (refine wpG_quiet (by rfl) (by rfl) (fun K hK => ?_); go_big_quiet_want; go_big_quiet_op; go_big_quiet_on; refine wpQuiet_nil (hK _ ?_); clear hK K) | (refine wpG_nilOk rfl rfl rfl (by kernel_rfl) (fun K hK => ?_); go_simp; refine hK _ ?_; clear hK K))))
              refine wpG_nilV3 ?_
              intro w5 hB5 hA5
              have HB5 := Lib.hid (HBP.out.trans (hB5.mono HBP.out.size))
              have HI5 := Lib.hid (show w5.heap[I]? = some (.stringIter (bs T) (pos + 1)) from (hB5.block I (Array.getElem?_eq_some_iff.1 HI2.out).1).trans HI2.out)
              clear hB5 hA5
              go_wp2
              exact ⟨⟨pos + 1, HP.out, HI5.out, HB5.out, HF2.out⟩, by rw [iterPos_at HI5.out]; exact HMS.out⟩
            · have e2 : ((c.toNat : Int) != (d.toNat : Int)) = true := by
                rw [bne_iff_ne]
                intro e
                exact heq (UInt8.toNat_inj.1 (by omega))
              have hv : valuesV s.kinds (p, a) = (131, s.kinds) := by
                have hnf : fitV T U = false := by
                  rw [← Bool.not_eq_true]
                  intro hft
                  rcases (fitV_iff T U (by rw [HUL.out]; exact Nat.le_refl _)).1 hft pos HP.out HPU.out with h | h
                  · exact h63 (HCC.out.trans h)
                  · exact heq ((HCC.out.trans h).trans HDD.out.symm)
                unfold valuesV
                rw [← HT.out, if_neg (by have := HM.out; omega), show s.kinds.length - T.length = m by have := HM.out; omega, ← HU.out, hnf]
                rfl
              have HV := Lib.hid hv
              clear h63 heq hv hc hd
              refine region_known [(2, .exact _ (.int .u8 (c.toNat : Int))), (7, .exact _ (.int .u8 (c.toNat : Int))), (10, .exact _ (.int .u8 (d.toNat : Int)))] (by kernel_rfl) (by kernel_rfl) ?_
              (repeat (first | (refine wpG_skip (by kernel_rfl) (fun K hK => ?_); go_big_quiet_skip; refine wpQuiet_nil (hK _ ?_); clear hK K) | (refine wpG_quiet (by rfl) (by rfl) (fun K hK => ?_); go_big_quiet_want; go_big_quiet_op; go_big_quiet_on; refine wpQuiet_nil (hK _ ?_); clear hK K) | (refine wpG_nilOk rfl rfl rfl (by kernel_rfl) (fun K hK => ?_); go_simp; refine hK _ ?_; clear hK K)))
              repeat (refine wpG_exact rfl (by kernel_rfl) (fun w' G hB hS hG => ?_) (fun K hK => ?_); (go_simp; first | exact HCC.out ▸ hG _ (Bel.refl _) | exact HDD.out ▸ hG _ (Bel.refl _)); go_simp; refine hK _ ?_; clear hK K; (repeat (first | (refine wpG_skip (by kernel_rfl) (fun K hK => ?_); go_big_quiet_skip; refine wpQuiet_nil (hK _ ?_); clear hK K) | (refine wpG_quiet (by rfl) (by rfl) (fun K hK => ?_); go_big_quiet_want; go_big_quiet_op; go_big_quiet_on; refine wpQuiet_nil (hK _ ?_); clear hK K) | (refine wpG_nilOk rfl rfl rfl (by kernel_rfl) (fun K hK => ?_); go_simp; refine hK _ ?_; clear hK K))))
              refine wpG_nilV3 ?_
              intro w5 hB5 hA5
              have HB5 := Lib.hid (HB3.out.trans ((HBP.out.trans (hB5.mono HBP.out.size)).mono HB3.out.size))
              clear hB5 hA5
              go_wp2_with fail
              go_ret
              exact ⟨by rw [HV.out]; rfl, by rw [HV.out]; exact HH.out.below HB5.out, Chg.of_below HB5.out⟩
        · obtain rfl : pos = T.length := by omega
          have hft : fitV T U = true := (fitV_iff T U (by rw [HUL.out]; exact Nat.le_refl _)).2 fun j h h' => HFit.out j h h' h
          have hnx : ∀ ty, (Instr.next (.pointer (some ⟨I, 0, none⟩)) true ty).run Tryz.prog wr = .ok (.tuple #[.bool false]) wr := fun ty => next_bs_out wr I T T.length ty HIt.out (by omega)
          have HFT := Lib.hid hft
          clear hft
          go_upto_region 14 with fail
          clear hnx
          obtain ⟨W4, hW4⟩ : ∃ W, W = wr := ⟨_, rfl⟩
          subst hW4
          have y4 := Below.keeps HBx.out y0
          go_wp2_with fail
          obtain ⟨J, hJ⟩ : ∃ J, J = W4.heap.size := ⟨_, rfl⟩
          have hjt := World.iter_heap W4 (bs E) 0
          have hbj : Below W4.heap.size W4 (W4.iter (bs E) 0) := b_alloc W4 _
          rw [← hJ] at hjt
          have HJ := Lib.hid hJ
          have HJT := Lib.hid hjt
          have HBJ := Lib.hid hbj
          have HEL := Lib.hid HF.out.2.2.2.2.2
          rw [← hJ]
          clear hJ hjt hbj
          go_loopw [9] (fun t9 wx => ∃ k : Nat, t9 = .string (bs (Pk ++ givesV U (E.take k))) ∧ k ≤ E.length ∧ Hid (wx.heap[J]? = some (.stringIter (bs E) k)) ∧ Hid (Below W4.heap.size W4 wx)) (fun _ wx => E.length - wx.iterPos J)
          case atStart => exact ⟨0, by simp [givesV], Nat.zero_le _, HJT.out, HBJ.out⟩
          case round =>
            obtain ⟨k, rfl, hke0, HJt, HBy⟩ := hrel
            by_cases hke : k < E.length
            · have hmem := HF.out.2.1 E[k] (List.getElem_mem hke)
              have h49 := HF.out.2.2.1
              have h50 := HF.out.2.2.2.1
              have hJlt : J < wr.heap.size := (Array.getElem?_eq_some_iff.1 HJt.out).1
              have hjb : Below W4.heap.size W4 (wr.putObj J (.stringIter (bs E) (k + 1))) := HBy.out.trans ((Chg.putObj (X := fun x => x = J) wr J _ rfl).below (fun x hx => by rw [hx, HJ.out]; exact Nat.le_refl _) HBy.out.size)
              have hj2 : (wr.putObj J (.stringIter (bs E) (k + 1))).heap[J]? = some (.stringIter (bs E) (k + 1)) := World.putObj_heap_same hJlt
              have HJB := Lib.hid hjb
              have HJ2 := Lib.hid hj2
              have hb1 : Pk.length ≤ 1000 := by rw [HPK.out, List.length_take]; omega
              have hb2 : (givesV U (E.take k)).length ≤ 2 := Nat.le_trans (givesV_len _ _) (by rw [List.length_take]; have := HEL.out; omega)
              have hms : E.length - (k + 1) < E.length - wr.iterPos J := by rw [iterPos_at HJt.out]; omega
              have HMS := Lib.hid hms
              clear hJlt hjb hj2 hms
              rcases hmem with hc | hc | hc | hc
              · have hnx : ∀ ty, (Instr.next (.pointer (some ⟨J, 0, none⟩)) true ty).run Tryz.prog wr = .ok (.tuple #[.bool true, .int .i64 (k : Int), .int .i32 49]) (wr.putObj J (.stringIter (bs E) (k + 1))) := fun ty => by
                  have := next_bs (P := Tryz.prog) wr J E k ty HJt.out hke (by rw [hc]; decide)
                  rw [hc] at this
                  exact this
                have hgs : givesV U (E.take (k + 1)) = givesV U (E.take k) ++ U.take 1 := by rw [givesV_succ hke, hc]; rfl
                have hu1 : 1 ≤ U.length := by rw [HUL.out]; exact h49 (by rw [← hc]; exact List.getElem_mem hke)
                have hu2 : (1 : Int) ≤ (U.length : Int) := by omega
                clear hu1 h49 h50
                have HGS := Lib.hid hgs
                clear hgs hc
                go_wp2
                exact ⟨⟨k + 1, by rw [HGS.out] <;> simp, hke, HJ2.out, HJB.out⟩, by rw [iterPos_at HJ2.out]; exact HMS.out⟩
              · have hnx : ∀ ty, (Instr.next (.pointer (some ⟨J, 0, none⟩)) true ty).run Tryz.prog wr = .ok (.tuple #[.bool true, .int .i64 (k : Int), .int .i32 50]) (wr.putObj J (.stringIter (bs E) (k + 1))) := fun ty => by
                  have := next_bs (P := Tryz.prog) wr J E k ty HJt.out hke (by rw [hc]; decide)
                  rw [hc] at this
                  exact this
                have hgs : givesV U (E.take (k + 1)) = givesV U (E.take k) ++ (U.drop 1).take 1 := by rw [givesV_succ hke, hc]; rfl
                have hu1 : 2 ≤ U.length := by rw [HUL.out]; exact h50 (by rw [← hc]; exact List.getElem_mem hke)
                have hu2 : (2 : Int) ≤ (U.length : Int) := by omega
                clear hu1 h49 h50
                have HGS := Lib.hid hgs
                clear hgs hc
                go_wp2
                exact ⟨⟨k + 1, by rw [HGS.out] <;> simp, hke, HJ2.out, HJB.out⟩, by rw [iterPos_at HJ2.out]; exact HMS.out⟩
              · have hnx : ∀ ty, (Instr.next (.pointer (some ⟨J, 0, none⟩)) true ty).run Tryz.prog wr = .ok (.tuple #[.bool true, .int .i64 (k : Int), .int .i32 84]) (wr.putObj J (.stringIter (bs E) (k + 1))) := fun ty => by
                  have := next_bs (P := Tryz.prog) wr J E k ty HJt.out hke (by rw [hc]; decide)
                  rw [hc] at this
                  exact this
                have hgs : givesV U (E.take (k + 1)) = givesV U (E.take k) ++ [84] := by rw [givesV_succ hke, hc]; rfl
                have hcv : ∀ w, (convert 21 9 (.int .i32 84)).run Tryz.prog w = .ok (.string (bs [84])) w := by intro w; kernel_rfl
                clear h49 h50
                have HGS := Lib.hid hgs
                clear hgs hc
                go_wp2
                exact ⟨⟨k + 1, by rw [HGS.out] <;> simp, hke, HJ2.out, HJB.out⟩, by rw [iterPos_at HJ2.out]; exact HMS.out⟩
              · have hnx : ∀ ty, (Instr.next (.pointer (some ⟨J, 0, none⟩)) true ty).run Tryz.prog wr = .ok (.tuple #[.bool true, .int .i64 (k : Int), .int .i32 78]) (wr.putObj J (.stringIter (bs E) (k + 1))) := fun ty => by
                  have := next_bs (P := Tryz.prog) wr J E k ty HJt.out hke (by rw [hc]; decide)
                  rw [hc] at this
                  exact this
                have hgs : givesV U (E.take (k + 1)) = givesV U (E.take k) ++ [78] := by rw [givesV_succ hke, hc]; rfl
                have hcv : ∀ w, (convert 21 9 (.int .i32 78)).run Tryz.prog w = .ok (.string (bs [78])) w := by intro w; kernel_rfl
                clear h49 h50
                have HGS := Lib.hid hgs
                clear hgs hc
                go_wp2
                exact ⟨⟨k + 1, by rw [HGS.out] <;> simp, hke, HJ2.out, HJB.out⟩, by rw [iterPos_at HJ2.out]; exact HMS.out⟩
            · obtain rfl : k = E.length := by omega
              have hnx : ∀ ty, (Instr.next (.pointer (some ⟨J, 0, none⟩)) true ty).run Tryz.prog wr = .ok (.tuple #[.bool false]) wr := fun ty => next_bs_out wr J E E.length ty HJt.out (by omega)
              rw [List.take_length]
              obtain ⟨RS, hRS⟩ : ∃ RS, RS = Pk ++ givesV U E := ⟨_, rfl⟩
              rw [← hRS]
              have y5 := Below.keeps HBy.out y4
              have hbF : Below w.heap.size w wr := (HB3.out.trans (HBx.out.mono HB3.out.size)).trans (HBy.out.mono (Nat.le_trans HB3.out.size HBx.out.size))
              have hvg := HH.out.below hbF
              have f4 := hvg.free (k := 4) (by decide)
              have c4 := hvg.cell (k := 4) rfl
              have hvk := hvg.kinds RS
              have HVK := Lib.hid hvk
              have HVG := Lib.hid hvg
              have HBF := Lib.hid hbF
              have hval : valuesV s.kinds (p, a) = if (p = 22 ∧ 16 ≤ RS.length) ∨ 16 < RS.length then (130, s.kinds) else (0, RS) := by
                unfold valuesV
                rw [← HT.out, ← HEE.out, if_neg (by have := HM.out; omega), show s.kinds.length - T.length = m by have := HM.out; omega, ← HU.out, ← HPK.out, if_neg (by rw [HFT.out]; simp), ← hRS]
              have HVAL := Lib.hid hval
              clear hvg hvk hbF hRS hval
              by_cases h22 : p = 22
              · have e22 : ((p.toNat : Int) == 22) = true := by rw [h22]; rfl
                by_cases h16 : 16 ≤ RS.length
                · have f16 : (16 : Int) ≤ (RS.length : Int) := by omega
                  rw [if_pos (.inl ⟨h22, h16⟩)] at HVAL
                  clear h22 h16
                  go_wp2_with fail
                  go_ret
                  exact ⟨by rw [HVAL.out]; rfl, by rw [HVAL.out]; exact HVG.out, Chg.of_below HBF.out⟩
                · have f16 : ¬ (16 : Int) ≤ (RS.length : Int) := by omega
                  have f17 : ¬ (16 : Int) < (RS.length : Int) := by omega
                  rw [if_neg (by omega)] at HVAL
                  clear h22 h16
                  go_wp2_with fail
                  go_ret
                  exact ⟨by rw [HVAL.out]; rfl, by rw [HVAL.out]; exact HVK.out.1, (Chg.of_below HBF.out).trans (Chg.setCell _ _ _ rfl)⟩
              · have e22 : ((p.toNat : Int) == 22) = false := u8_ne (k := 22) (by decide) h22
                by_cases h16 : 16 < RS.length
                · have f16 : (16 : Int) < (RS.length : Int) := by omega
                  rw [if_pos (.inr h16)] at HVAL
                  clear h22 h16
                  go_wp2_with fail
                  go_ret
                  exact ⟨by rw [HVAL.out]; rfl, by rw [HVAL.out]; exact HVG.out, Chg.of_below HBF.out⟩
                · have f16 : ¬ (16 : Int) < (RS.length : Int) := by omega
                  rw [if_neg (by rintro (h | h); exact h22 h.1; exact h16 h)] at HVAL
                  clear h22 h16
                  go_wp2_with fail
                  go_ret
                  exact ⟨by rw [HVAL.out]; rfl, by rw [HVAL.out]; exact HVK.out.1, (Chg.of_below HBF.out).trans (Chg.setCell _ _ _ rfl)⟩
end
end Go.Proofs.YtndagciefnddmaaGreatDoor
namespace Go.Proofs.YtndagciefnddmaaGreatDoor
open Go.RowKit Oct
attribute [local irreducible] wpG
section
variable {a : UInt8} {i : Nat} {s : Vs}
theorem tu19 : turnsV i (19, a) s = (0, { s with blocks := s.blocks ++ [⟨19, s.kinds, s.kinds, i, false⟩] }) := rfl
theorem tu22 : turnsV i (22, a) s = (0, { s with blocks := s.blocks ++ [⟨22, s.kinds, s.kinds, i, false⟩], kinds := s.kinds ++ [84] }) := rfl
theorem tu20 {b : Vb} (h : s.blocks.getLast? = some b) : turnsV i (20, a) s = (0, { s with ends := s.ends.set b.at_ (i : Int), blocks := s.blocks.dropLast ++ [{ b with want := s.kinds, at_ := i, did := true }], kinds := b.opn }) := by unfold turnsV; simp [h]
theorem tu21y {b : Vb} (h : s.blocks.getLast? = some b) (hk : s.kinds = b.want) : turnsV i (21, a) s = (0, { s with ends := s.ends.set b.at_ (i : Int), blocks := s.blocks.dropLast }) := by unfold turnsV; simp [h, hk]
theorem tu21n {b : Vb} (h : s.blocks.getLast? = some b) (hk : s.kinds ≠ b.want) : turnsV i (21, a) s = (132, s) := by unfold turnsV; simp [h, hk]
theorem tuN {p : UInt8} (h19 : p ≠ 19) (h22 : p ≠ 22) (h20 : p ≠ 20) (h21 : p ≠ 21) : turnsV i (p, a) s = (0, s) := by unfold turnsV; simp [h19, h22, h20, h21]
end
theorem set_last {α : Type} {l : List α} {m : Nat} (hm : l.length = m + 1) (x : α) : l.set m x = l.dropLast ++ [x] := by
  have hne : l ≠ [] := by rintro rfl; simp at hm
  obtain ⟨l', y, rfl⟩ : ∃ l' y, l = l' ++ [y] := ⟨l.dropLast, l.getLast hne, (List.dropLast_concat_getLast hne).symm⟩
  have : l'.length = m := by simpa using hm
  rw [List.set_append_right _ _ (by omega)]
  simp [this]
section
variable {w : World} {base G : Nat} {tv cv bv sv ev : Value} {inp : Nat} {role : UInt8} {s : Vs}
theorem VG.as {s' : Vs} (h : VG w base G tv cv inp role s bv sv ev) (e : s = s') : VG w base G tv cv inp role s' bv sv ev := e ▸ h
theorem VG.setE {g c n : Nat} (h : VG w base G tv cv inp role s bv sv (.slice (some ⟨g, 0, none⟩) n c)) {k : Nat} (hk : k < s.ends.length) (x : Int) : VG (w.setCell ⟨g, k, none⟩ (.int .i64 x)) base G tv cv inp role { s with ends := s.ends.set k x } bv sv (.slice (some ⟨g, 0, none⟩) n c) ∧ Below base w (w.setCell ⟨g, k, none⟩ (.int .i64 x)) := by
  have ho := h.oe.setCell hk (y := x) (j := 0) (by decide) (u := .int .i64 x) rfl
  rw [show k * recJ.n + 0 = k from Nat.mul_one k] at ho
  exact h.chgE (Chg.setCell _ _ _ rfl) ho
theorem VG.setB {g c n m : Nat} (h : VG w base G tv cv inp role s (.slice (some ⟨g, 0, none⟩) n c) sv ev) (hm : s.blocks.length = m + 1) {b b' : Vb} (hb : s.blocks[m]? = some b) {j : Nat} (hj : j < 5) {u : Value} (hu : recVb.cell b' = (recVb.cell b).set j u) :
    VG (w.setCell ⟨g, m * 5 + j, none⟩ u) base G tv cv inp role { s with blocks := s.blocks.set m b' } (.slice (some ⟨g, 0, none⟩) n c) sv ev ∧ Below base w (w.setCell ⟨g, m * 5 + j, none⟩ u) := by
  have hml : m < s.blocks.length := by omega
  rw [List.getElem?_eq_getElem hml] at hb
  have hb2 := Option.some.inj hb
  have ho := h.ob.setCell hml (y := b') (j := j) hj (u := u) (by rw [hb2]; exact hu)
  exact h.chgB (Chg.setCell _ _ _ rfl) ho
theorem VG.cellE {g c n : Nat} (h : VG w base G tv cv inp role s bv sv (.slice (some ⟨g, 0, none⟩) n c)) {k : Nat} (hk : k < s.ends.length) : (∃ v, w.cell? ⟨g, k, none⟩ = some v) ∧ w.frozen? ⟨g, k, none⟩ = false := by
  rcases h.oe.2 with ⟨hv, _⟩ | ⟨g', cap, cur, hv, hb, hh, r1, r2, r3, r4⟩
  · cases hv
  · cases hv
    have hb2 : Blk w g recJ.e cur.toList := by unfold Blk; rw [hh]
    have hl : k < cur.toList.length := by
      have : cur.size = c * recJ.n := r3
      have h2 : recJ.n = 1 := rfl
      rw [h2] at this
      simp; omega
    exact ⟨⟨_, hb2.cell (List.getElem?_eq_getElem hl)⟩, hb2.free hl⟩
theorem VG.cellB {g c n : Nat} (h : VG w base G tv cv inp role s (.slice (some ⟨g, 0, none⟩) n c) sv ev) {k : Nat} (hk : k < s.blocks.length * 5) : w.frozen? ⟨g, k, none⟩ = false := by
  rcases h.ob.2 with ⟨hv, _⟩ | ⟨g', cap, cur, hv, hb, hh, r1, r2, r3, r4⟩
  · cases hv
  · cases hv
    have hb2 : Blk w g recVb.e cur.toList := by unfold Blk; rw [hh]
    have hl : k < cur.toList.length := by
      have : cur.size = c * recVb.n := r3
      have h2 : recVb.n = 5 := rfl
      rw [h2] at this
      have : s.blocks.length * 5 ≤ c * 5 := Nat.mul_le_mul_right _ r1
      simp; omega
    exact hb2.free hl
set_option maxRecDepth 100000 in
set_option maxHeartbeats 8000000 in
theorem turns_any (h : VG w base G tv cv inp role s bv sv ev) (p a : UInt8) (i : Nat) (hl : s.blocks.length ≤ 1000) (hk : s.kinds.length ≤ 1000) (hne : p = 20 ∨ p = 21 → s.blocks ≠ []) (hat : ∀ b ∈ s.blocks, b.at_ < s.ends.length) (hel : s.ends.length ≤ 1000) (hi : i ≤ 1000) :
    Calls Tryz.prog 124 #[.pointer (some ⟨G, 0, none⟩), .int .i64 (i : Int), .agg #[.int .u8 (p.toNat : Int), .int .u8 (a.toNat : Int)]] w fun e w' => e = .returned (.int .i64 (((turnsV i (p, a) s).1 : Nat) : Int)) ∧ (∃ bv', VG w' base G tv cv inp role (turnsV i (p, a) s).2 bv' sv ev) ∧ Below base w w' := by
  have HH := Lib.hid h
  have hgw : G < w.heap.size := h.blk.lt
  have hbw : base ≤ w.heap.size := Nat.le_trans h.gb (Nat.le_of_lt hgw)
  obtain ⟨W1, hW1⟩ : ∃ W1, W1 = w.alloc (.cells #[.int .u8 (p.toNat : Int), .int .u8 (a.toNat : Int)] 92) := ⟨_, rfl⟩
  have hb1 : Below w.heap.size w W1 := by rw [hW1]; exact b_alloc _ _
  have hx : Blk W1 w.heap.size 92 [.int .u8 (p.toNat : Int), .int .u8 (a.toNat : Int)] := by rw [hW1]; exact Blk.new w _ _
  have x0 := hx.cell (k := 0) rfl
  have H1 := Lib.hid (h.below hb1)
  have HB1 := Lib.hid hb1
  have HBW := Lib.hid hbw
  have HT := Lib.hid (stop_any (h.below hb1) hl)
  have HNE := Lib.hid hne
  have HAT := Lib.hid hat
  have k1 : (s.kinds.length : Int) ≤ 1000 := by omega
  have i1 : (i : Int) ≤ 1000 := by omega
  have i0 : (0 : Int) ≤ (i : Int) := by omega
  clear h hx hb1 hne hat
  by_cases h19 : p = 19
  · subst h19
    rw [show (((19 : UInt8).toNat : Nat) : Int) = 19 from rfl] at hW1 x0 ⊢
    go_enter Tryz.func124, Tryz.ntmps124
    go_upto_region 1 with fail
    rw [← hW1]
    clear hW1
    go_wp2_with fail
    refine HT.out.mono ?_
    rintro e w2 ⟨htop, hB2⟩
    have HTOP := Lib.hid htop
    have H2 := Lib.hid (H1.out.below hB2)
    have y0 := Below.keeps hB2 x0
    have HB2 := Lib.hid (bt HB1.out hB2)
    clear htop hB2 x0
    obtain ⟨tp, rfl⟩ : ∃ tp, e = .returned tp := by rcases HTOP.out with ⟨_, rfl⟩ | ⟨_, _, _, _, _, rfl⟩ <;> exact ⟨_, rfl⟩
    clear HTOP
    have c4 := H2.out.cell (k := 4) rfl
    go_upto_region 4 with fail
    refine region_tail 15 [(4, .exact _ (.int .u8 19)), (8, .exact _ (.string (bs s.kinds))), (12, .exact _ (.string (bs s.kinds)))] (by kernel_rfl) (by kernel_rfl) ?_
    simp only [List.take_succ_cons, List.take_zero, List.drop_succ_cons, List.drop_zero]
    (repeat (first | (refine wpG_skip (by kernel_rfl) (fun K hK => ?_); go_big_quiet_skip; refine wpQuiet_nil (hK _ ?_); clear hK K) | (refine wpG_quiet (by rfl) (by rfl) (fun K hK => ?_); go_big_quiet_want; go_big_quiet_op; go_big_quiet_on; refine wpQuiet_nil (hK _ ?_); clear hK K) | (refine wpG_nilOk rfl rfl rfl (by kernel_rfl) (fun K hK => ?_); go_simp; refine hK _ ?_; clear hK K)))
    repeat (refine wpG_exact rfl (by kernel_rfl) (fun w' G hB hS hG => ?_) (fun K hK => ?_); (have z0 := Below.keeps hB y0; have z1 := Below.keeps hB c4; go_simp; exact hG _ (Bel.refl _)); go_simp; refine hK _ ?_; clear hK K; (repeat (first | (refine wpG_skip (by kernel_rfl) (fun K hK => ?_); go_big_quiet_skip; refine wpQuiet_nil (hK _ ?_); clear hK K) | (refine wpG_quiet (by rfl) (by rfl) (fun K hK => ?_); go_big_quiet_want; go_big_quiet_op; go_big_quiet_on; refine wpQuiet_nil (hK _ ?_); clear hK K) | (refine wpG_nilOk rfl rfl rfl (by kernel_rfl) (fun K hK => ?_); go_simp; refine hK _ ?_; clear hK K))))
    refine wpG_nilV3 ?_
    intro w3 hB3 hA3
    have H3 := Lib.hid (H2.out.below hB3)
    have HB3 := Lib.hid (bt HB2.out hB3)
    clear hB3 hA3 y0 c4
    go_wp2_with fail
    refine (spush_any ⟨19, s.kinds, s.kinds, i, false⟩ H3.out hl).mono ?_
    rintro e w4 ⟨⟨v, rfl⟩, ⟨bv', hv4⟩, hB4⟩
    have H4 := Lib.hid hv4
    have HB4 := Lib.hid ((HB3.out.mono HBW.out).trans hB4)
    clear hv4 hB4
    go_wp2_with fail
    go_ret
    exact ⟨by rw [tu19]; rfl, ⟨_, by rw [tu19]; exact H4.out⟩, HB4.out⟩
  by_cases h22 : p = 22
  · subst h22
    rw [show (((22 : UInt8).toNat : Nat) : Int) = 22 from rfl] at hW1 x0 ⊢
    go_enter Tryz.func124, Tryz.ntmps124
    go_upto_region 1 with fail
    rw [← hW1]
    clear hW1
    go_wp2_with fail
    refine HT.out.mono ?_
    rintro e w2 ⟨htop, hB2⟩
    have HTOP := Lib.hid htop
    have H2 := Lib.hid (H1.out.below hB2)
    have y0 := Below.keeps hB2 x0
    have HB2 := Lib.hid (bt HB1.out hB2)
    clear htop hB2 x0
    obtain ⟨tp, rfl⟩ : ∃ tp, e = .returned tp := by rcases HTOP.out with ⟨_, rfl⟩ | ⟨_, _, _, _, _, rfl⟩ <;> exact ⟨_, rfl⟩
    clear HTOP
    have c4 := H2.out.cell (k := 4) rfl
    go_upto_region 6 with fail
    refine region_tail 15 [(4, .exact _ (.int .u8 22)), (8, .exact _ (.string (bs s.kinds))), (12, .exact _ (.string (bs s.kinds)))] (by kernel_rfl) (by kernel_rfl) ?_
    simp only [List.take_succ_cons, List.take_zero, List.drop_succ_cons, List.drop_zero]
    (repeat (first | (refine wpG_skip (by kernel_rfl) (fun K hK => ?_); go_big_quiet_skip; refine wpQuiet_nil (hK _ ?_); clear hK K) | (refine wpG_quiet (by rfl) (by rfl) (fun K hK => ?_); go_big_quiet_want; go_big_quiet_op; go_big_quiet_on; refine wpQuiet_nil (hK _ ?_); clear hK K) | (refine wpG_nilOk rfl rfl rfl (by kernel_rfl) (fun K hK => ?_); go_simp; refine hK _ ?_; clear hK K)))
    repeat (refine wpG_exact rfl (by kernel_rfl) (fun w' G hB hS hG => ?_) (fun K hK => ?_); (have z0 := Below.keeps hB y0; have z1 := Below.keeps hB c4; go_simp; exact hG _ (Bel.refl _)); go_simp; refine hK _ ?_; clear hK K; (repeat (first | (refine wpG_skip (by kernel_rfl) (fun K hK => ?_); go_big_quiet_skip; refine wpQuiet_nil (hK _ ?_); clear hK K) | (refine wpG_quiet (by rfl) (by rfl) (fun K hK => ?_); go_big_quiet_want; go_big_quiet_op; go_big_quiet_on; refine wpQuiet_nil (hK _ ?_); clear hK K) | (refine wpG_nilOk rfl rfl rfl (by kernel_rfl) (fun K hK => ?_); go_simp; refine hK _ ?_; clear hK K))))
    refine wpG_nilV3 ?_
    intro w3 hB3 hA3
    have H3 := Lib.hid (H2.out.below hB3)
    have HB3 := Lib.hid (bt HB2.out hB3)
    clear hB3 hA3 y0 c4
    go_wp2_with fail
    refine (spush_any ⟨22, s.kinds, s.kinds, i, false⟩ H3.out hl).mono ?_
    rintro e w4 ⟨⟨v, rfl⟩, ⟨bv', hv4⟩, hB4⟩
    have H4 := Lib.hid hv4
    have HB4 := Lib.hid ((HB3.out.mono HBW.out).trans hB4)
    clear hv4 hB4
    have c5 := H4.out.cell (k := 4) rfl
    have f5 := H4.out.free (k := 4) (by decide)
    have hk5 := H4.out.kinds (s.kinds ++ [84])
    have HK5 := Lib.hid hk5
    clear hk5
    go_wp2_with fail
    go_ret
    exact ⟨by rw [tu22]; rfl, ⟨_, by rw [tu22]; exact HK5.out.1⟩, HB4.out.trans HK5.out.2⟩
  by_cases h20 : p = 20
  · subst h20
    rw [show (((20 : UInt8).toNat : Nat) : Int) = 20 from rfl] at hW1 x0 ⊢
    go_enter Tryz.func124, Tryz.ntmps124
    go_upto_region 1 with fail
    rw [← hW1]
    clear hW1
    go_wp2_with fail
    refine HT.out.mono ?_
    rintro e w2 ⟨htop, hB2⟩
    have HTOP := Lib.hid htop
    have H2 := Lib.hid (H1.out.below hB2)
    have y0 := Below.keeps hB2 x0
    have HB2 := Lib.hid (bt HB1.out hB2)
    clear htop hB2 x0
    rcases HTOP.out with ⟨hb, rfl⟩ | ⟨g, c, m, hv, hm, rfl⟩
    · exact absurd hb (HNE.out (by decide))
    obtain ⟨b, hb, hbm, l0, l1, l2, l3, l4⟩ := H2.out.last hv hm
    subst hv
    have hbat : b.at_ < s.ends.length := HAT.out b (List.mem_of_getElem? hbm)
    obtain ⟨⟨_, _, _⟩, _, ae, ce, rfl⟩ := H2.out.slices
    obtain ⟨E, rfl⟩ := H2.out.oe.at0 (by omega)
    have HBM := Lib.hid hbm
    have HBL := Lib.hid hb
    have HMM := Lib.hid hm
    have HAT2 := Lib.hid hbat
    have e0 : (0 : Int) ≤ (b.at_ : Int) := by omega
    have e1 : (b.at_ : Int) < (s.ends.length : Int) := by omega
    have e2 : (s.ends.length : Int) ≤ 1000 := by omega
    have c7 := H2.out.cell (k := 7) rfl
    have c4 := H2.out.cell (k := 4) rfl
    clear HTOP hb hbm hbat hm
    go_upto_region 9 with fail
    refine region_tail 10 [(3, .exact _ (.slice (some ⟨E, 0, none⟩) s.ends.length ce)), (7, .exact _ (.int .i64 (b.at_ : Int)))] (by kernel_rfl) (by kernel_rfl) ?_
    simp only [List.take_succ_cons, List.take_zero, List.drop_succ_cons, List.drop_zero]
    (repeat (first | (refine wpG_skip (by kernel_rfl) (fun K hK => ?_); go_big_quiet_skip; refine wpQuiet_nil (hK _ ?_); clear hK K) | (refine wpG_quiet (by rfl) (by rfl) (fun K hK => ?_); go_big_quiet_want; go_big_quiet_op; go_big_quiet_on; refine wpQuiet_nil (hK _ ?_); clear hK K) | (refine wpG_nilOk rfl rfl rfl (by kernel_rfl) (fun K hK => ?_); go_simp; refine hK _ ?_; clear hK K)))
    repeat (refine wpG_exact rfl (by kernel_rfl) (fun w' G hB hS hG => ?_) (fun K hK => ?_); (have z0 := Below.keeps hB c7; have z1 := Below.keeps hB l3; go_simp; exact hG _ (Bel.refl _)); go_simp; refine hK _ ?_; clear hK K; (repeat (first | (refine wpG_skip (by kernel_rfl) (fun K hK => ?_); go_big_quiet_skip; refine wpQuiet_nil (hK _ ?_); clear hK K) | (refine wpG_quiet (by rfl) (by rfl) (fun K hK => ?_); go_big_quiet_want; go_big_quiet_op; go_big_quiet_on; refine wpQuiet_nil (hK _ ?_); clear hK K) | (refine wpG_nilOk rfl rfl rfl (by kernel_rfl) (fun K hK => ?_); go_simp; refine hK _ ?_; clear hK K))))
    refine wpG_nilV3 ?_
    intro w3 hB3 hA3
    have h3 := H2.out.below hB3
    obtain ⟨⟨v3, d3⟩, f3⟩ := h3.cellE HAT2.out
    have hs3 := h3.setE HAT2.out (i : Int)
    have HS3 := Lib.hid hs3
    have HB3 := Lib.hid (bt HB2.out hB3)
    clear hB3 hA3 h3 hs3 c7 c4 l0 l1 l2 l3 l4
    go_upto_region 10 with fail
    obtain ⟨X, hX⟩ : ∃ X, X = w3.setCell ⟨E, b.at_, none⟩ (.int .i64 (i : Int)) := ⟨_, rfl⟩
    rw [← hX] at HS3 ⊢
    clear hX d3 f3
    have hx := HS3.out.1
    obtain ⟨_, _, _, l0, l1, l2, l3, l4⟩ := hx.last rfl HMM.out
    have c4 := hx.cell (k := 4) rfl
    have f1 := hx.cellB (k := m * 5 + 1) (by have := HMM.out; show _ < s.blocks.length * 5; omega)
    have f3 := hx.cellB (k := m * 5 + 3) (by have := HMM.out; show _ < s.blocks.length * 5; omega)
    have f4 := hx.cellB (k := m * 5 + 4) (by have := HMM.out; show _ < s.blocks.length * 5; omega)
    obtain ⟨b1, hb1⟩ : ∃ b1 : Vb, b1 = { b with want := s.kinds } := ⟨_, rfl⟩
    obtain ⟨b2, hb2⟩ : ∃ b2 : Vb, b2 = { b with want := s.kinds, at_ := i } := ⟨_, rfl⟩
    obtain ⟨b3, hb3⟩ : ∃ b3 : Vb, b3 = { b with want := s.kinds, at_ := i, did := true } := ⟨_, rfl⟩
    have hml : m < s.blocks.length := by have := HMM.out; omega
    have s1 := hx.setB HMM.out HBM.out (j := 1) (b' := b1) (u := .string (bs s.kinds)) (by decide) (by rw [hb1]; rfl)
    have s2 := s1.1.setB (by show (s.blocks.set m b1).length = m + 1; rw [List.length_set]; exact HMM.out) (by show (s.blocks.set m b1)[m]? = some b1; simp [hml]) (j := 3) (b' := b2) (u := .int .i64 (i : Int)) (by decide) (by rw [hb1, hb2]; rfl)
    have s3 := s2.1.setB (by show ((s.blocks.set m b1).set m b2).length = m + 1; rw [List.length_set, List.length_set]; exact HMM.out) (by show ((s.blocks.set m b1).set m b2)[m]? = some b2; simp [hml]) (j := 4) (b' := b3) (u := .bool true) (by decide) (by rw [hb2, hb3]; rfl)
    have hbl : ((s.blocks.set m b1).set m b2).set m b3 = s.blocks.dropLast ++ [b3] := by rw [List.set_set, List.set_set]; exact set_last HMM.out b3
    have HS4 := Lib.hid s3
    have HSB := Lib.hid ((s1.2.trans s2.2).trans s3.2)
    have HBL3 := Lib.hid hbl
    have HB33 := Lib.hid hb3
    clear hx s1 s2 s3 hbl hb1 hb2 hb3 hml
    go_upto_region 11 with fail
    obtain ⟨Y, hY⟩ : ∃ Y, Y = ((X.setCell ⟨g, m * 5 + 1, none⟩ (.string (bs s.kinds))).setCell ⟨g, m * 5 + 3, none⟩ (.int .i64 (i : Int))).setCell ⟨g, m * 5 + 4, none⟩ (.bool true) := ⟨_, rfl⟩
    rw [← hY] at HS4 HSB ⊢
    clear hY l0 l1 l2 l3 l4 c4 f1 f3 f4
    have hy := HS4.out.1
    obtain ⟨b9, hb9, _, _, _, l2, _, _⟩ := hy.last (g := g) (c := c) (m := m) (by show Value.slice (some ⟨g, 0, none⟩) s.blocks.length c = Value.slice (some ⟨g, 0, none⟩) (((s.blocks.set m b1).set m b2).set m b3).length c; rw [List.length_set, List.length_set, List.length_set]) (by show (((s.blocks.set m b1).set m b2).set m b3).length = m + 1; rw [List.length_set, List.length_set, List.length_set]; exact HMM.out)
    have hb93 : b9 = b3 := by
      have e : (((s.blocks.set m b1).set m b2).set m b3).getLast? = some b9 := hb9
      rw [HBL3.out] at e
      simpa using e.symm
    have ho : b9.opn = b.opn := by rw [hb93, HB33.out]
    rw [ho] at l2
    have c4 := hy.cell (k := 4) rfl
    have f4 := hy.free (k := 4) (by decide)
    have hyk := hy.kinds b.opn
    have HYK := Lib.hid hyk
    clear hy hb9 hb93 ho hyk
    go_wp2_with fail
    go_ret
    refine ⟨by rw [tu20 HBL.out]; rfl, ⟨.slice (some ⟨g, 0, none⟩) s.blocks.length c, ?_⟩, (((HB3.out.mono HBW.out).trans HS3.out.2).trans HSB.out).trans HYK.out.2⟩
    rw [tu20 HBL.out]
    exact HYK.out.1.as (by show ({ kinds := b.opn, blocks := ((s.blocks.set m b1).set m b2).set m b3, seen := s.seen, ends := s.ends.set b.at_ (i : Int), deep := s.deep } : Vs) = _; rw [HBL3.out, HB33.out])
  by_cases h21 : p = 21
  · subst h21
    rw [show (((21 : UInt8).toNat : Nat) : Int) = 21 from rfl] at hW1 x0 ⊢
    go_enter Tryz.func124, Tryz.ntmps124
    go_upto_region 1 with fail
    rw [← hW1]
    clear hW1
    go_wp2_with fail
    refine HT.out.mono ?_
    rintro e w2 ⟨htop, hB2⟩
    have HTOP := Lib.hid htop
    have H2 := Lib.hid (H1.out.below hB2)
    have y0 := Below.keeps hB2 x0
    have HB2 := Lib.hid (bt HB1.out hB2)
    clear htop hB2 x0
    rcases HTOP.out with ⟨hb, rfl⟩ | ⟨g, c, m, hv, hm, rfl⟩
    · exact absurd hb (HNE.out (by decide))
    obtain ⟨b, hb, hbm, l0, l1, l2, l3, l4⟩ := H2.out.last hv hm
    subst hv
    have hbat : b.at_ < s.ends.length := HAT.out b (List.mem_of_getElem? hbm)
    obtain ⟨⟨_, _, _⟩, _, ae, ce, rfl⟩ := H2.out.slices
    obtain ⟨E, rfl⟩ := H2.out.oe.at0 (by omega)
    have HBM := Lib.hid hbm
    have HBL := Lib.hid hb
    have HMM := Lib.hid hm
    have HAT2 := Lib.hid hbat
    have e0 : (0 : Int) ≤ (b.at_ : Int) := by omega
    have e1 : (b.at_ : Int) < (s.ends.length : Int) := by omega
    have e2 : (s.ends.length : Int) ≤ 1000 := by omega
    have c7 := H2.out.cell (k := 7) rfl
    have c4 := H2.out.cell (k := 4) rfl
    clear HTOP hb hbm hbat hm
    by_cases hkw : s.kinds = b.want
    · have q1 : (s.kinds == b.want) = true := by rw [hkw]; simp
      have HKW := Lib.hid hkw
      clear hkw
      go_upto_region 13 with fail
      refine region_known [(3, .exact _ (.string (bs s.kinds))), (7, .exact _ (.string (bs b.want)))] (by kernel_rfl) (by kernel_rfl) ?_
      (repeat (first | (refine wpG_skip (by kernel_rfl) (fun K hK => ?_); go_big_quiet_skip; refine wpQuiet_nil (hK _ ?_); clear hK K) | (refine wpG_quiet (by rfl) (by rfl) (fun K hK => ?_); go_big_quiet_want; go_big_quiet_op; go_big_quiet_on; refine wpQuiet_nil (hK _ ?_); clear hK K) | (refine wpG_nilOk rfl rfl rfl (by kernel_rfl) (fun K hK => ?_); go_simp; refine hK _ ?_; clear hK K)))
      repeat (refine wpG_exact rfl (by kernel_rfl) (fun w' G hB hS hG => ?_) (fun K hK => ?_); (have z0 := Below.keeps hB c4; have z1 := Below.keeps hB l1; go_simp; exact hG _ (Bel.refl _)); go_simp; refine hK _ ?_; clear hK K; (repeat (first | (refine wpG_skip (by kernel_rfl) (fun K hK => ?_); go_big_quiet_skip; refine wpQuiet_nil (hK _ ?_); clear hK K) | (refine wpG_quiet (by rfl) (by rfl) (fun K hK => ?_); go_big_quiet_want; go_big_quiet_op; go_big_quiet_on; refine wpQuiet_nil (hK _ ?_); clear hK K) | (refine wpG_nilOk rfl rfl rfl (by kernel_rfl) (fun K hK => ?_); go_simp; refine hK _ ?_; clear hK K))))
      refine wpG_nilV3 ?_
      intro w6 hB6 hA6
      have h6 := Lib.hid (H2.out.below hB6)
      have HB6 := Lib.hid (bt HB2.out hB6)
      have c7' := Below.keeps hB6 c7
      have l3' := Below.keeps hB6 l3
      clear hB6 hA6 c7 c4 l0 l1 l2 l3 l4
      go_upto_region 15 with fail
      refine region_tail 10 [(3, .exact _ (.slice (some ⟨E, 0, none⟩) s.ends.length ce)), (7, .exact _ (.int .i64 (b.at_ : Int)))] (by kernel_rfl) (by kernel_rfl) ?_
      simp only [List.take_succ_cons, List.take_zero, List.drop_succ_cons, List.drop_zero]
      (repeat (first | (refine wpG_skip (by kernel_rfl) (fun K hK => ?_); go_big_quiet_skip; refine wpQuiet_nil (hK _ ?_); clear hK K) | (refine wpG_quiet (by rfl) (by rfl) (fun K hK => ?_); go_big_quiet_want; go_big_quiet_op; go_big_quiet_on; refine wpQuiet_nil (hK _ ?_); clear hK K) | (refine wpG_nilOk rfl rfl rfl (by kernel_rfl) (fun K hK => ?_); go_simp; refine hK _ ?_; clear hK K)))
      repeat (refine wpG_exact rfl (by kernel_rfl) (fun w' G hB hS hG => ?_) (fun K hK => ?_); (have z0 := Below.keeps hB c7'; have z1 := Below.keeps hB l3'; go_simp; exact hG _ (Bel.refl _)); go_simp; refine hK _ ?_; clear hK K; (repeat (first | (refine wpG_skip (by kernel_rfl) (fun K hK => ?_); go_big_quiet_skip; refine wpQuiet_nil (hK _ ?_); clear hK K) | (refine wpG_quiet (by rfl) (by rfl) (fun K hK => ?_); go_big_quiet_want; go_big_quiet_op; go_big_quiet_on; refine wpQuiet_nil (hK _ ?_); clear hK K) | (refine wpG_nilOk rfl rfl rfl (by kernel_rfl) (fun K hK => ?_); go_simp; refine hK _ ?_; clear hK K))))
      refine wpG_nilV3 ?_
      intro w3 hB3 hA3
      have h3 := h6.out.below hB3
      obtain ⟨⟨v3, d3⟩, f3⟩ := h3.cellE HAT2.out
      have hs3 := h3.setE HAT2.out (i : Int)
      have HS3 := Lib.hid hs3
      have HB3 := Lib.hid (bt HB6.out hB3)
      clear hB3 hA3 h3 hs3 c7' l3'
      go_upto_region 16 with fail
      clear d3 f3
      go_wp2_with fail
      refine (spop_any HS3.out.1 hl (by have := HMM.out; show 0 < s.blocks.length; omega)).mono ?_
      rintro e w4 ⟨⟨v, rfl⟩, ⟨bv', hv4⟩, hB4⟩
      have H4 := Lib.hid hv4
      have HB4 := Lib.hid (((HB3.out.mono HBW.out).trans HS3.out.2).trans hB4)
      clear hv4 hB4
      go_wp2_with fail
      go_ret
      exact ⟨by rw [tu21y HBL.out HKW.out]; rfl, ⟨_, by rw [tu21y HBL.out HKW.out]; exact H4.out⟩, HB4.out⟩
    · have q1 : (s.kinds == b.want) = false := by simpa using hkw
      have HKW := Lib.hid hkw
      clear hkw
      go_upto_region 13 with fail
      refine region_known [(3, .exact _ (.string (bs s.kinds))), (7, .exact _ (.string (bs b.want)))] (by kernel_rfl) (by kernel_rfl) ?_
      (repeat (first | (refine wpG_skip (by kernel_rfl) (fun K hK => ?_); go_big_quiet_skip; refine wpQuiet_nil (hK _ ?_); clear hK K) | (refine wpG_quiet (by rfl) (by rfl) (fun K hK => ?_); go_big_quiet_want; go_big_quiet_op; go_big_quiet_on; refine wpQuiet_nil (hK _ ?_); clear hK K) | (refine wpG_nilOk rfl rfl rfl (by kernel_rfl) (fun K hK => ?_); go_simp; refine hK _ ?_; clear hK K)))
      repeat (refine wpG_exact rfl (by kernel_rfl) (fun w' G hB hS hG => ?_) (fun K hK => ?_); (have z0 := Below.keeps hB c4; have z1 := Below.keeps hB l1; go_simp; exact hG _ (Bel.refl _)); go_simp; refine hK _ ?_; clear hK K; (repeat (first | (refine wpG_skip (by kernel_rfl) (fun K hK => ?_); go_big_quiet_skip; refine wpQuiet_nil (hK _ ?_); clear hK K) | (refine wpG_quiet (by rfl) (by rfl) (fun K hK => ?_); go_big_quiet_want; go_big_quiet_op; go_big_quiet_on; refine wpQuiet_nil (hK _ ?_); clear hK K) | (refine wpG_nilOk rfl rfl rfl (by kernel_rfl) (fun K hK => ?_); go_simp; refine hK _ ?_; clear hK K))))
      refine wpG_nilV3 ?_
      intro w6 hB6 hA6
      clear hA6 c7 c4 l0 l1 l2 l3 l4
      go_wp2_with fail
      go_ret
      exact ⟨by rw [tu21n HBL.out HKW.out]; rfl, ⟨_, by rw [tu21n HBL.out HKW.out]; exact H2.out.below hB6⟩, (bt HB2.out hB6).mono HBW.out⟩
  have HTU := Lib.hid (tuN (a := a) (i := i) (s := s) h19 h22 h20 h21)
  have e19 : ((p.toNat : Int) == 19) = false := u8_ne (k := 19) (by decide) h19
  have e22 : ((p.toNat : Int) == 22) = false := u8_ne (k := 22) (by decide) h22
  have e20 : ((p.toNat : Int) == 20) = false := u8_ne (k := 20) (by decide) h20
  have e21 : ((p.toNat : Int) == 21) = false := u8_ne (k := 21) (by decide) h21
  clear h19 h22 h20 h21
  go_enter Tryz.func124, Tryz.ntmps124
  go_upto_region 1 with fail
  rw [← hW1]
  clear hW1
  go_wp2_with fail
  refine HT.out.mono ?_
  rintro e w2 ⟨htop, hB2⟩
  have HTOP := Lib.hid htop
  have H2 := Lib.hid (H1.out.below hB2)
  have y0 := Below.keeps hB2 x0
  have HB2 := Lib.hid (bt HB1.out hB2)
  clear htop hB2 x0
  obtain ⟨tp, rfl⟩ : ∃ tp, e = .returned tp := by rcases HTOP.out with ⟨_, rfl⟩ | ⟨_, _, _, _, _, rfl⟩ <;> exact ⟨_, rfl⟩
  clear HTOP
  go_wp2_with fail
  go_ret
  exact ⟨by rw [HTU.out]; rfl, ⟨_, by rw [HTU.out]; exact H2.out⟩, HB2.out.mono HBW.out⟩
end
end Go.Proofs.YtndagciefnddmaaGreatDoor
namespace Go.Proofs.YtndagciefnddmaaGreatDoor
open Go.RowKit Oct
attribute [local irreducible] wpG
structure InvV (n : Nat) (s : Vs) : Prop where
  bl : s.blocks.length ≤ 8
  kl : s.kinds.length ≤ 16
  bs : ∀ b ∈ s.blocks, b.at_ < s.ends.length ∧ b.opn.length ≤ 16
  el : s.ends.length ≤ 256
  sl : s.seen.length ≤ n
  dl : s.deep ≤ 16
theorem thereV_blocks {nt inp : Nat} {role : UInt8} {bl : List Vb} {x : VI} (h : thereV nt inp role bl x = 0) : (x.1 = 20 ∨ x.1 = 21 → bl ≠ []) ∧ (x.1 = 19 ∨ x.1 = 22 → bl.length < 8) := by
  unfold thereV at h
  split at h
  · cases h
  split at h
  · cases h
  split at h
  · cases h
  rename_i h20
  split at h
  · cases h
  rename_i h21
  split at h
  · cases h
  rename_i h8
  refine ⟨?_, fun e => ?_⟩
  · rintro (e | e) hb
    · exact h20 ⟨e, by rw [hb]; rfl⟩
    · exact h21 ⟨e, hb⟩
  · rcases Nat.lt_or_ge bl.length 8 with h1 | h1
    · exact h1
    · exact absurd ⟨e, h1⟩ h8
theorem valuesV_len {k : List UInt8} {x : VI} (hk : k.length ≤ 16) : (valuesV k x).2.length ≤ 16 ∧ ((valuesV k x).1 = 0 → x.1 = 22 → (valuesV k x).2.length < 16) := by
  unfold valuesV
  split
  · exact ⟨hk, fun h => by cases h⟩
  split
  · exact ⟨hk, fun h => by cases h⟩
  split
  · exact ⟨hk, fun h => by cases h⟩
  rename_i h
  obtain ⟨r, hr⟩ : ∃ r, r = k.take (k.length - (effV x).1.length) ++ givesV (k.drop (k.length - (effV x).1.length)) (effV x).2 := ⟨_, rfl⟩
  rw [← hr] at h ⊢
  refine ⟨?_, fun _ e => ?_⟩
  · show r.length ≤ 16
    omega
  · show r.length < 16
    have hc : ¬ 16 ≤ r.length := fun h' => h (.inl ⟨e, h'⟩)
    omega
theorem InvV.one {nt inp : Nat} {role : UInt8} {i n : Nat} {x : VI} {s : Vs} (h : InvV n s) (hi : i < s.ends.length) (h0 : (oneV nt inp role i x s).1 = 0) : InvV (n + 1) (oneV nt inp role i x s).2 ∧ (oneV nt inp role i x s).2.ends.length = s.ends.length := by
  have ht := oneV_there h0
  obtain ⟨h2, h3⟩ := thereV_blocks ht
  unfold oneV at h0 ⊢
  rw [if_neg (by rw [ht]; simp)] at h0 ⊢
  split at h0
  · rename_i hv
    exact absurd h0 hv
  rename_i hv
  rw [if_neg hv]
  have hv0 : (valuesV s.kinds x).1 = 0 := by simpa using hv
  obtain ⟨hvl, hv22⟩ := valuesV_len (x := x) h.kl
  have hv22 := hv22 hv0
  clear h0 hv hv0
  obtain ⟨k', hk'⟩ : ∃ k', k' = (valuesV s.kinds x).2 := ⟨_, rfl⟩
  simp only [← hk']
  rw [← hk'] at hvl hv22
  have hsl : (s.seen ++ [s.kinds]).length ≤ n + 1 := by have := h.sl; simp; omega
  have hd := h.dl
  have hlast : ∀ b, s.blocks.getLast? = some b → b ∈ s.blocks := fun b hb => List.mem_of_getLast? hb
  unfold turnsV
  split
  · rename_i e
    refine ⟨⟨by have := h3 (.inl e); simp; omega, hvl, fun b hb => ?_, h.el, hsl, by show max s.deep k'.length ≤ 16; omega⟩, rfl⟩
    rcases List.mem_append.1 hb with hb | hb
    · exact h.bs b hb
    · rw [List.mem_singleton] at hb; subst hb; exact ⟨hi, hvl⟩
  · split
    · rename_i e
      have h16 := hv22 e
      refine ⟨⟨by have := h3 (.inr e); simp; omega, by show (k' ++ [84]).length ≤ 16; simp; omega, fun b hb => ?_, h.el, hsl, by show max s.deep (k' ++ [84]).length ≤ 16; simp; omega⟩, rfl⟩
      rcases List.mem_append.1 hb with hb | hb
      · exact h.bs b hb
      · rw [List.mem_singleton] at hb; subst hb; exact ⟨hi, hvl⟩
    · split
      · cases hb : s.blocks.getLast? with
        | none => exact ⟨⟨h.bl, hvl, h.bs, h.el, hsl, by show max s.deep k'.length ≤ 16; omega⟩, rfl⟩
        | some b =>
          have hbm := h.bs b (hlast b hb)
          refine ⟨⟨?_, hbm.2, fun b' hb' => ?_, by show (s.ends.set _ _).length ≤ 256; rw [List.length_set]; exact h.el, hsl, by show max s.deep b.opn.length ≤ 16; have := hbm.2; omega⟩, by show (s.ends.set _ _).length = _; rw [List.length_set]⟩
          · show (s.blocks.dropLast ++ [_]).length ≤ 8
            have := h.bl
            have hne : s.blocks ≠ [] := by rintro e; rw [e] at hb; cases hb
            have : 0 < s.blocks.length := List.length_pos_iff.2 hne
            simp; omega
          · show b'.at_ < (s.ends.set _ _).length ∧ _
            rw [List.length_set]
            rcases List.mem_append.1 hb' with h' | h'
            · exact h.bs b' ((List.dropLast_subset _ h'))
            · rw [List.mem_singleton] at h'; subst h'; exact ⟨hi, hbm.2⟩
      · split
        · cases hb : s.blocks.getLast? with
          | none => exact ⟨⟨h.bl, hvl, h.bs, h.el, hsl, by show max s.deep k'.length ≤ 16; omega⟩, rfl⟩
          | some b =>
            simp only
            split
            · refine ⟨⟨by show s.blocks.dropLast.length ≤ 8; have := h.bl; rw [List.length_dropLast]; omega, hvl, fun b' hb' => ?_, by show (s.ends.set _ _).length ≤ 256; rw [List.length_set]; exact h.el, hsl, by show max s.deep k'.length ≤ 16; omega⟩, by show (s.ends.set _ _).length = _; rw [List.length_set]⟩
              show b'.at_ < (s.ends.set _ _).length ∧ _
              rw [List.length_set]
              exact h.bs b' ((List.dropLast_subset _ hb'))
            · exact ⟨⟨h.bl, hvl, h.bs, h.el, hsl, by show max s.deep k'.length ≤ 16; omega⟩, rfl⟩
        · exact ⟨⟨h.bl, hvl, h.bs, h.el, hsl, by show max s.deep k'.length ≤ 16; omega⟩, rfl⟩
theorem valuesV_bad {k : List UInt8} {x : VI} (h : (valuesV k x).1 ≠ 0) : (valuesV k x).2 = k := by
  unfold valuesV at h ⊢
  split
  · rfl
  split
  · rfl
  split
  · rfl
  rename_i h1 h2 h3
  rw [if_neg h1, if_neg h2, if_neg h3] at h
  exact absurd rfl h
theorem turnsV_deep (i : Nat) (x : VI) (s : Vs) : (turnsV i x s).2.deep = s.deep := by
  unfold turnsV
  split
  · rfl
  split
  · rfl
  split
  · cases s.blocks.getLast? <;> rfl
  split
  · cases s.blocks.getLast? with
    | none => rfl
    | some b => simp only; split <;> rfl
  · rfl
theorem turnsV_kinds {i : Nat} {x : VI} {s : Vs} (hb : ∀ b ∈ s.blocks, b.opn.length ≤ 16) (hk : s.kinds.length ≤ 16) : (turnsV i x s).2.kinds.length ≤ 17 := by
  unfold turnsV
  split
  · exact Nat.le_succ_of_le hk
  split
  · show (s.kinds ++ [84]).length ≤ 17
    simp; omega
  split
  · cases h : s.blocks.getLast? with
    | none => exact Nat.le_succ_of_le hk
    | some b => exact Nat.le_succ_of_le (hb b (List.mem_of_getLast? h))
  split
  · cases h : s.blocks.getLast? with
    | none => exact Nat.le_succ_of_le hk
    | some b => simp only; split <;> exact Nat.le_succ_of_le hk
  · exact Nat.le_succ_of_le hk
section
variable {w : World} {base G : Nat} {cv bv sv ev : Value} {inp : Nat} {role : UInt8} {s : Vs} {nt ct n : Nat} {at_ : Option Addr}
set_option maxRecDepth 100000 in
set_option maxHeartbeats 8000000 in
theorem one_any (h : VG w base G (.slice at_ nt ct) cv inp role s bv sv ev) (hE : EffM w) (hg : 1 < base) (p a : UInt8) (i : Nat) (hp : p.toNat < 24) (hI : InvV n s) (hn : n ≤ 1000) (hnt : nt ≤ 1000) (hinp : inp ≤ 1000) (hi : i ≤ 1000) :
    Calls Tryz.prog 98 #[.pointer (some ⟨G, 0, none⟩), .int .i64 (i : Int), .agg #[.int .u8 (p.toNat : Int), .int .u8 (a.toNat : Int)]] w fun e w' => e = .returned (.int .i64 (((oneV nt inp role i (p, a) s).1 : Nat) : Int)) ∧ (∃ bv' sv', VG w' base G (.slice at_ nt ct) cv inp role (oneV nt inp role i (p, a) s).2 bv' sv' ev) ∧ Below base w w' := by
  have HH := Lib.hid h
  have hgw : G < w.heap.size := h.blk.lt
  have hbw : base ≤ w.heap.size := Nat.le_trans h.gb (Nat.le_of_lt hgw)
  obtain ⟨W1, hW1⟩ : ∃ W1, W1 = w.alloc (.cells #[.int .u8 (p.toNat : Int), .int .u8 (a.toNat : Int)] 92) := ⟨_, rfl⟩
  have hb1 : Below w.heap.size w W1 := by rw [hW1]; exact b_alloc _ _
  have hx : Blk W1 w.heap.size 92 [.int .u8 (p.toNat : Int), .int .u8 (a.toNat : Int)] := by rw [hW1]; exact Blk.new w _ _
  have h1 := h.below hb1
  have h1d := h1.below (b_drew W1)
  obtain ⟨_, ⟨a3, cs, rfl⟩, _⟩ := h.slices
  have x0 := hx.cell (k := 0) rfl
  have x1 := hx.cell (k := 1) rfl
  have c6 := h1.cell (k := 6) rfl
  have c4 := h1.cell (k := 4) rfl
  have hG1 : G < W1.heap.size := h1.blk.lt
  have hwl : w.heap.size < W1.heap.size := lt_of_cell x0
  have hgb : base ≤ W1.drew.heap.size := Nat.le_trans h1d.gb (Nat.le_of_lt h1d.blk.lt)
  have hby : (s.seen.length + 1) * 16 ≤ 140737488355328 := by have := hI.sl; omega
  have hod := h1d.os
  have H1D := Lib.hid h1d
  have HB1 := Lib.hid hb1
  have HBW := Lib.hid hbw
  have HE := Lib.hid hE
  have HI := Lib.hid hI
  have HW1 := Lib.hid hW1
  have hws : w.heap.size < W1.drew.heap.size := hwl
  clear h h1 h1d hx hb1 hE hI
  go_enter Tryz.func98, Tryz.ntmps98
  go_upto_region 1 with fail
  rw [← hW1]
  clear hW1
  go_cut [] (fun wx => ∃ sv', Hid (VG wx base G (.slice at_ nt ct) cv inp role { s with seen := s.seen ++ [s.kinds] } bv sv' ev) ∧ Hid (Below base w wx) ∧ wx.cell? ⟨w.heap.size, 0, none⟩ = some (.int .u8 (p.toNat : Int)) ∧ wx.cell? ⟨w.heap.size, 1, none⟩ = some (.int .u8 (a.toNat : Int)))
  case first =>
    go_region_law (refine recS.step_append1V W1.drew s.kinds rfl _ _ 22 rfl Tryz.underlying22 base (.slice a3 s.seen.length cs) s.seen rfl hod _ rfl _ rfl _ rfl hby hgb ?_; intro g gc w3 hown3 hc3 hg3; have hn3 := H1D.out.newS (sv' := .slice (some ⟨g, 0, none⟩) (s.seen.length + 1) gc) hc3 (fun k hk => by cases hk; exact hg3) hown3; have hb3 : Blk w3 G 184 _ := H1D.out.blk.chg hc3 (fun e => (H1D.out.a2 G e).1 rfl); have f6 := hb3.free (k := 6) (by simp); have c6' := hb3.cell (k := 6) rfl; have HN := Lib.hid hn3; have HC3 := Lib.hid hc3; clear hn3 hb3 hown3 hc3 hg3)
    all_goals
      go_wp2_with fail
      go_meet
      case rel =>
        have hnb : ¬ ((Value.slice a3 s.seen.length cs).ownBlock = some w.heap.size) := fun e => by
          have := (HH.out.os.ltV _ e).2
          omega
        have hbl := HC3.out
        have hbk : ∀ k v, W1.cell? ⟨w.heap.size, k, none⟩ = some v → (w3.setCell ⟨G, 6, none⟩ (.slice (some ⟨g, 0, none⟩) (s.seen.length + 1) gc)).cell? ⟨w.heap.size, k, none⟩ = some v := fun k v hv =>
          Chg.cell (X := fun k => k = G) (Chg.setCell _ _ _ rfl) (Chg.cell hbl ((World.cell?_of_block (by rfl)).trans hv) hnb) (fun e => by have : w.heap.size = G := e; omega)
        exact ⟨_, HN.out.1, ((bt HB1.out (b_drew W1)).mono HBW.out).trans HN.out.2, hbk 0 _ x0, hbk 1 _ x1⟩
  case rest =>
    obtain ⟨sv', HG, HBA, y0, y1⟩ := hcut
    have hbl8 := HI.out.bl
    obtain ⟨q, hq⟩ : ∃ q, q = thereV nt inp role s.blocks (p, a) := ⟨_, rfl⟩
    have HTH := Lib.hid (there_any HG.out p a (by show s.blocks.length ≤ 1000; omega) hnt hinp)
    go_wp2_with fail
    refine HTH.out.mono ?_
    rintro e w2 ⟨rfl, hB2⟩
    rw [show thereV nt inp role ({ s with seen := s.seen ++ [s.kinds] } : Vs).blocks (p, a) = q from hq.symm]
    have z0 := Below.keeps hB2 y0
    have z1 := Below.keeps hB2 y1
    have H2 := Lib.hid (HG.out.below hB2)
    have hbs2 : base ≤ wc.heap.size := Nat.le_trans HBW.out HBA.out.size
    have HB2 := Lib.hid (HBA.out.trans (hB2.mono hbs2))
    have HQ := Lib.hid hq
    clear hB2 hbs2 y0 y1 hq HTH hbl8
    by_cases hq0 : q = 0
    · have q1 : ((q : Int) != 0) = false := by rw [hq0]; rfl
      have HT0 := Lib.hid (show thereV nt inp role s.blocks (p, a) = 0 by rw [← HQ.out, hq0])
      clear hq0
      obtain ⟨x, hx⟩ : ∃ x, x = valuesV s.kinds (p, a) := ⟨_, rfl⟩
      have HVV := Lib.hid (values_any H2.out (HE.out.below HB2.out hg) hg p a hp (by show s.kinds.length ≤ 1000; have := HI.out.kl; omega))
      go_wp2_with fail
      refine HVV.out.mono ?_
      rintro e w3 ⟨rfl, hv3, hC3⟩
      rw [show valuesV ({ s with seen := s.seen ++ [s.kinds] } : Vs).kinds (p, a) = x from hx.symm] at hv3 ⊢
      have hGn : ∀ k, ¬ ((⟨w.heap.size, k, none⟩ : Addr).block = G) := fun k e => by have : w.heap.size = G := e; omega
      have u0 := hC3.cell z0 (hGn 0)
      have u1 := hC3.cell z1 (hGn 1)
      have H3 := Lib.hid hv3
      have HB3 := Lib.hid (HB2.out.trans (hC3.below (fun k hk => by rw [hk]; exact HH.out.gb) (Nat.le_trans HBW.out HB2.out.size)))
      have HX := Lib.hid hx
      clear hv3 hC3 hx z0 z1 hGn
      by_cases hx0 : x.1 = 0
      · have q2 : ((x.1 : Int) != 0) = false := by rw [hx0]; rfl
        have HV0 := Lib.hid (show (valuesV s.kinds (p, a)).1 = 0 by rw [← HX.out, hx0])
        have HTB := Lib.hid (thereV_blocks HT0.out)
        have hxl := (valuesV_len (x := (p, a)) HI.out.kl).1
        rw [← HX.out] at hxl
        obtain ⟨r, hr⟩ : ∃ r, r = turnsV i (p, a) { s with seen := s.seen ++ [s.kinds], kinds := x.2 } := ⟨_, rfl⟩
        have HTU := Lib.hid (turns_any H3.out p a i (by show s.blocks.length ≤ 1000; have := HI.out.bl; omega) (by show x.2.length ≤ 1000; omega) HTB.out.1 (fun b hb => (HI.out.bs b hb).1) (by show s.ends.length ≤ 1000; have := HI.out.el; omega) hi)
        have HON := Lib.hid (show oneV nt inp role i (p, a) s = (r.1, { r.2 with deep := max s.deep r.2.kinds.length }) by
          unfold oneV
          rw [HT0.out, HV0.out, ← HX.out, ← hr]
          rfl)
        have HRD := Lib.hid (show r.2.deep = s.deep by rw [hr, turnsV_deep])
        have hkr : r.2.kinds.length ≤ 17 := by rw [hr]; exact turnsV_kinds (fun b hb => (HI.out.bs b hb).2) hxl
        go_wp2_with fail
        refine HTU.out.mono ?_
        rintro e w4 ⟨rfl, ⟨bv', hv4⟩, hB4⟩
        rw [← hr] at hv4 ⊢
        have c8 := hv4.cell (k := 8) rfl
        have c4 := hv4.cell (k := 4) rfl
        have H4 := Lib.hid hv4
        have HB4 := Lib.hid (HB3.out.trans hB4)
        have d1 : (s.deep : Int) ≤ 16 := by have := HI.out.dl; omega
        have d2 : (r.2.kinds.length : Int) ≤ 17 := by omega
        rw [HRD.out] at c8
        clear hv4 hB4 hr u0 u1 hx0 hxl hkr
        go_upto_region 9 with fail
        refine region_tail 13 [(4, .exact _ (.int .i64 (s.deep : Int))), (8, .exact _ (.string (bs r.2.kinds)))] (by kernel_rfl) (by kernel_rfl) ?_
        simp only [List.take_succ_cons, List.take_zero, List.drop_succ_cons, List.drop_zero]
        (repeat (first | (refine wpG_skip (by kernel_rfl) (fun K hK => ?_); go_big_quiet_skip; refine wpQuiet_nil (hK _ ?_); clear hK K) | (refine wpG_quiet (by rfl) (by rfl) (fun K hK => ?_); go_big_quiet_want; go_big_quiet_op; go_big_quiet_on; refine wpQuiet_nil (hK _ ?_); clear hK K) | (refine wpG_nilOk rfl rfl rfl (by kernel_rfl) (fun K hK => ?_); go_simp; refine hK _ ?_; clear hK K)))
        repeat (refine wpG_exact rfl (by kernel_rfl) (fun w' G hB hS hG => ?_) (fun K hK => ?_); (have v0 := Below.keeps hB c8; have v1 := Below.keeps hB c4; go_simp; exact hG _ (Bel.refl _)); go_simp; refine hK _ ?_; clear hK K; (repeat (first | (refine wpG_skip (by kernel_rfl) (fun K hK => ?_); go_big_quiet_skip; refine wpQuiet_nil (hK _ ?_); clear hK K) | (refine wpG_quiet (by rfl) (by rfl) (fun K hK => ?_); go_big_quiet_want; go_big_quiet_op; go_big_quiet_on; refine wpQuiet_nil (hK _ ?_); clear hK K) | (refine wpG_nilOk rfl rfl rfl (by kernel_rfl) (fun K hK => ?_); go_simp; refine hK _ ?_; clear hK K))))
        refine wpG_nilV3 ?_
        intro w5 hB5 hA5
        have h5 := H4.out.below hB5
        have f8 := h5.free (k := 8) (by decide)
        have c8' := h5.cell (k := 8) rfl
        have hd5 := h5.deep (max s.deep r.2.kinds.length)
        have HD5 := Lib.hid hd5
        have HB5 := Lib.hid (HB4.out.trans (hB5.mono (Nat.le_trans HBW.out HB4.out.size)))
        clear h5 hd5 hB5 hA5 c8 c4
        rw [show (max (s.deep : Int) (r.2.kinds.length : Int)) = ((max s.deep r.2.kinds.length : Nat) : Int) by omega]
        go_wp2
        go_ret
        exact ⟨by rw [HON.out]; rfl, ⟨_, _, by rw [HON.out]; exact HD5.out.1⟩, HB5.out.trans HD5.out.2⟩
      · have q2 : ((x.1 : Int) != 0) = true := by rw [bne_iff_ne]; omega
        have hxk : x.2 = s.kinds := by rw [HX.out]; exact valuesV_bad (by rw [← HX.out]; exact hx0)
        have HON := Lib.hid (show oneV nt inp role i (p, a) s = (x.1, { s with seen := s.seen ++ [s.kinds] }) by unfold oneV; rw [HT0.out, ← HX.out, if_neg (by simp), if_pos hx0])
        rw [hxk] at H3
        clear hx0 hxk
        go_wp2_with fail
        go_ret
        exact ⟨by rw [HON.out]; rfl, ⟨_, _, by rw [HON.out]; exact H3.out⟩, HB3.out⟩
    · have q1 : ((q : Int) != 0) = true := by rw [bne_iff_ne]; omega
      have HON := Lib.hid (show oneV nt inp role i (p, a) s = (q, { s with seen := s.seen ++ [s.kinds] }) by unfold oneV; rw [← HQ.out, if_pos hq0])
      clear hq0
      go_wp2_with fail
      go_ret
      exact ⟨by rw [HON.out]; rfl, ⟨_, _, by rw [HON.out]; exact H2.out⟩, HB2.out⟩
set_option maxRecDepth 100000 in
set_option maxHeartbeats 4000000 in
theorem over_any {tv : Value} (h : VG w base G tv cv inp role s bv sv ev) (hl : s.blocks.length ≤ 1000) (hk : s.kinds.length ≤ 1000) :
    Calls Tryz.prog 99 #[.pointer (some ⟨G, 0, none⟩)] w fun e w' => e = .returned (.int .i64 ((overV role s : Nat) : Int)) ∧ w' = w := by
  have HL := Lib.hid (slen_any h)
  have c3 := h.cell (k := 3) rfl
  have c4 := h.cell (k := 4) rfl
  have l1 : (s.blocks.length : Int) ≤ 1000 := by omega
  have l2 : (s.kinds.length : Int) ≤ 1000 := by omega
  clear h
  by_cases hr : role = 1
  · have r1 : ((role.toNat : Int) == 1) = true := by rw [hr]; rfl
    by_cases hb : 0 < s.blocks.length
    · have b1 : (0 : Int) < (s.blocks.length : Int) := by omega
      have HO := Lib.hid (show overV role s = 132 by unfold overV; rw [if_pos hb])
      clear hb hr
      go_enter Tryz.func99, Tryz.ntmps99
      go_wp2_with fail
      refine HL.out.mono ?_
      rintro e w1 ⟨rfl, rfl⟩
      go_wp2_with fail
      go_ret
      exact ⟨by rw [HO.out]; rfl, rfl⟩
    · have b1 : ¬ (0 : Int) < (s.blocks.length : Int) := by omega
      by_cases hk0 : s.kinds.length = 0
      · have k1 : ((s.kinds.length : Int) != 0) = false := by rw [hk0]; rfl
        have hke : s.kinds = [] := List.eq_nil_of_length_eq_zero hk0
        have k2 : (s.kinds == []) = true := by rw [hke]; rfl
        have HO := Lib.hid (show overV role s = 0 by unfold overV wantV; rw [if_neg hb, if_pos hr, hke]; simp)
        clear hb hr hk0 hke
        go_enter Tryz.func99, Tryz.ntmps99
        go_wp2_with fail
        refine HL.out.mono ?_
        rintro e w1 ⟨rfl, rfl⟩
        go_wp2_with fail
        go_ret
        exact ⟨by rw [HO.out]; rfl, rfl⟩
      · have k1 : ((s.kinds.length : Int) != 0) = true := by rw [bne_iff_ne]; omega
        have HO := Lib.hid (show overV role s = 130 by unfold overV wantV; rw [if_neg hb, if_pos hr, if_pos (by simpa using hk0)])
        clear hb hr hk0
        go_enter Tryz.func99, Tryz.ntmps99
        go_wp2_with fail
        refine HL.out.mono ?_
        rintro e w1 ⟨rfl, rfl⟩
        go_wp2_with fail
        go_ret
        exact ⟨by rw [HO.out]; rfl, rfl⟩
  · have r1 : ((role.toNat : Int) == 1) = false := u8_ne (k := 1) (by decide) hr
    by_cases hb : 0 < s.blocks.length
    · have b1 : (0 : Int) < (s.blocks.length : Int) := by omega
      have HO := Lib.hid (show overV role s = 132 by unfold overV; rw [if_pos hb])
      clear hb hr
      go_enter Tryz.func99, Tryz.ntmps99
      go_wp2_with fail
      refine HL.out.mono ?_
      rintro e w1 ⟨rfl, rfl⟩
      go_wp2_with fail
      go_ret
      exact ⟨by rw [HO.out]; rfl, rfl⟩
    · have b1 : ¬ (0 : Int) < (s.blocks.length : Int) := by omega
      by_cases hk0 : s.kinds.length = 1
      · have k1 : ((s.kinds.length : Int) != 1) = false := by rw [hk0]; rfl
        by_cases hke : s.kinds = [84]
        · have k2 : (s.kinds == [84]) = true := by rw [hke]; rfl
          have HO := Lib.hid (show overV role s = 0 by unfold overV wantV; rw [if_neg hb, if_neg hr, hke]; simp)
          clear hb hr hk0 hke
          go_enter Tryz.func99, Tryz.ntmps99
          go_wp2_with fail
          refine HL.out.mono ?_
          rintro e w1 ⟨rfl, rfl⟩
          go_wp2_with fail
          go_ret
          exact ⟨by rw [HO.out]; rfl, rfl⟩
        · have k2 : (s.kinds == [84]) = false := by simpa using hke
          have HO := Lib.hid (show overV role s = 131 by unfold overV wantV; rw [if_neg hb, if_neg hr, if_neg (by rw [hk0]; simp), if_pos hke])
          clear hb hr hk0 hke
          go_enter Tryz.func99, Tryz.ntmps99
          go_wp2_with fail
          refine HL.out.mono ?_
          rintro e w1 ⟨rfl, rfl⟩
          go_wp2_with fail
          go_ret
          exact ⟨by rw [HO.out]; rfl, rfl⟩
      · have k1 : ((s.kinds.length : Int) != 1) = true := by rw [bne_iff_ne]; omega
        have HO := Lib.hid (show overV role s = 130 by unfold overV wantV; rw [if_neg hb, if_neg hr, if_pos (by simpa using hk0)])
        clear hb hr hk0
        go_enter Tryz.func99, Tryz.ntmps99
        go_wp2_with fail
        refine HL.out.mono ?_
        rintro e w1 ⟨rfl, rfl⟩
        go_wp2_with fail
        go_ret
        exact ⟨by rw [HO.out]; rfl, rfl⟩
end
end Go.Proofs.YtndagciefnddmaaGreatDoor
namespace Go.Proofs.YtndagciefnddmaaGreatDoor
open Go.RowKit Oct
attribute [local irreducible] wpG
set_option maxRecDepth 100000 in
set_option maxHeartbeats 1000000 in
theorem chas_any (p : UInt8) (w : World) : Calls Tryz.prog 126 #[.int .u8 (p.toNat : Int)] w fun e w' => e = .returned (.bool (hasArg p)) ∧ w' = w := by
  by_cases h1 : p = 1
  · subst h1
    rw [show (((1 : UInt8).toNat : Nat) : Int) = 1 from rfl]
    go_enter Tryz.func126, Tryz.ntmps126
    go_wp2
    go_ret
    exact ⟨rfl, rfl⟩
  by_cases h2 : p = 2
  · subst h2
    rw [show (((2 : UInt8).toNat : Nat) : Int) = 2 from rfl]
    go_enter Tryz.func126, Tryz.ntmps126
    go_wp2
    go_ret
    exact ⟨rfl, rfl⟩
  by_cases h3 : p = 3
  · subst h3
    rw [show (((3 : UInt8).toNat : Nat) : Int) = 3 from rfl]
    go_enter Tryz.func126, Tryz.ntmps126
    go_wp2
    go_ret
    exact ⟨rfl, rfl⟩
  by_cases h17 : p = 17
  · subst h17
    rw [show (((17 : UInt8).toNat : Nat) : Int) = 17 from rfl]
    go_enter Tryz.func126, Tryz.ntmps126
    go_wp2
    go_ret
    exact ⟨rfl, rfl⟩
  by_cases h18 : p = 18
  · subst h18
    rw [show (((18 : UInt8).toNat : Nat) : Int) = 18 from rfl]
    go_enter Tryz.func126, Tryz.ntmps126
    go_wp2
    go_ret
    exact ⟨rfl, rfl⟩
  by_cases h22 : p = 22
  · subst h22
    rw [show (((22 : UInt8).toNat : Nat) : Int) = 22 from rfl]
    go_enter Tryz.func126, Tryz.ntmps126
    go_wp2
    go_ret
    exact ⟨rfl, rfl⟩
  have q1 : ((p.toNat : Int) == 1) = false := u8_ne (by decide) h1
  have q2 : ((p.toNat : Int) == 2) = false := u8_ne (by decide) h2
  have q3 : ((p.toNat : Int) == 3) = false := u8_ne (by decide) h3
  have q17 : ((p.toNat : Int) == 17) = false := u8_ne (by decide) h17
  have q18 : ((p.toNat : Int) == 18) = false := u8_ne (by decide) h18
  have q22 : ((p.toNat : Int) == 22) = false := u8_ne (by decide) h22
  have HE := Lib.hid (show hasArg p = false by unfold hasArg; simp [h1, h2, h3, h17, h18, h22])
  go_enter Tryz.func126, Tryz.ntmps126
  go_wp2
  go_ret
  exact ⟨by rw [HE.out]; rfl, rfl⟩
set_option maxRecDepth 100000 in
set_option maxHeartbeats 1000000 in
theorem rHas_any (p : UInt8) (w : World) : Calls Tryz.prog 133 #[.int .u8 (p.toNat : Int)] w fun e w' => e = .returned (.bool (hasArg p)) ∧ w' = w := by
  by_cases h1 : p = 1
  · subst h1
    rw [show (((1 : UInt8).toNat : Nat) : Int) = 1 from rfl]
    go_enter Tryz.func133, Tryz.ntmps133
    go_wp2
    go_ret
    exact ⟨rfl, rfl⟩
  by_cases h2 : p = 2
  · subst h2
    rw [show (((2 : UInt8).toNat : Nat) : Int) = 2 from rfl]
    go_enter Tryz.func133, Tryz.ntmps133
    go_wp2
    go_ret
    exact ⟨rfl, rfl⟩
  by_cases h3 : p = 3
  · subst h3
    rw [show (((3 : UInt8).toNat : Nat) : Int) = 3 from rfl]
    go_enter Tryz.func133, Tryz.ntmps133
    go_wp2
    go_ret
    exact ⟨rfl, rfl⟩
  by_cases h17 : p = 17
  · subst h17
    rw [show (((17 : UInt8).toNat : Nat) : Int) = 17 from rfl]
    go_enter Tryz.func133, Tryz.ntmps133
    go_wp2
    go_ret
    exact ⟨rfl, rfl⟩
  by_cases h18 : p = 18
  · subst h18
    rw [show (((18 : UInt8).toNat : Nat) : Int) = 18 from rfl]
    go_enter Tryz.func133, Tryz.ntmps133
    go_wp2
    go_ret
    exact ⟨rfl, rfl⟩
  by_cases h22 : p = 22
  · subst h22
    rw [show (((22 : UInt8).toNat : Nat) : Int) = 22 from rfl]
    go_enter Tryz.func133, Tryz.ntmps133
    go_wp2
    go_ret
    exact ⟨rfl, rfl⟩
  have q1 : ((p.toNat : Int) == 1) = false := u8_ne (by decide) h1
  have q2 : ((p.toNat : Int) == 2) = false := u8_ne (by decide) h2
  have q3 : ((p.toNat : Int) == 3) = false := u8_ne (by decide) h3
  have q17 : ((p.toNat : Int) == 17) = false := u8_ne (by decide) h17
  have q18 : ((p.toNat : Int) == 18) = false := u8_ne (by decide) h18
  have q22 : ((p.toNat : Int) == 22) = false := u8_ne (by decide) h22
  have HE := Lib.hid (show hasArg p = false by unfold hasArg; simp [h1, h2, h3, h17, h18, h22])
  go_enter Tryz.func133, Tryz.ntmps133
  go_wp2
  go_ret
  exact ⟨by rw [HE.out]; rfl, rfl⟩
set_option maxRecDepth 100000 in
set_option maxHeartbeats 4000000 in
theorem cins_any (x : VI) (w : World) : Calls Tryz.prog 107 #[.agg #[.int .u8 (x.1.toNat : Int), .int .u8 (x.2.toNat : Int)]] w fun e w' => e = .returned (.bool (insOk x)) ∧ Below w.heap.size w w' := by
  obtain ⟨p, a⟩ := x
  show Calls Tryz.prog 107 #[.agg #[.int .u8 (p.toNat : Int), .int .u8 (a.toNat : Int)]] w _
  obtain ⟨W1, hW1⟩ : ∃ W1, W1 = w.alloc (.cells #[.int .u8 (p.toNat : Int), .int .u8 (a.toNat : Int)] 92) := ⟨_, rfl⟩
  have hb1 : Below w.heap.size w W1 := by rw [hW1]; exact b_alloc _ _
  have hx : Blk W1 w.heap.size 92 [.int .u8 (p.toNat : Int), .int .u8 (a.toNat : Int)] := by rw [hW1]; exact Blk.new w _ _
  have x0 := hx.cell (k := 0) rfl
  have x1 := hx.cell (k := 1) rfl
  have HB1 := Lib.hid hb1
  clear hx hb1
  by_cases h1 : 1 ≤ p.toNat
  · have q1 : (1 : Int) ≤ (p.toNat : Int) := by omega
    by_cases h2 : p.toNat ≤ 23
    · have q2 : (p.toNat : Int) ≤ 23 := by omega
      by_cases h3 : a = 0
      · subst h3
        rw [show (((0 : UInt8).toNat : Nat) : Int) = 0 from rfl] at hW1 x1 ⊢
        have HE := Lib.hid (show insOk (p, 0) = true by unfold insOk; simp [h1, h2])
        go_enter Tryz.func107, Tryz.ntmps107
        go_upto_region 1 with fail
        rw [← hW1]
        clear hW1
        go_wp2_with fail
        go_ret
        exact ⟨by rw [HE.out]; rfl, HB1.out⟩
      · have q3 : ((a.toNat : Int) == 0) = false := u8_ne (by decide) h3
        obtain ⟨q, hq⟩ : ∃ q, q = hasArg p := ⟨_, rfl⟩
        have HC := Lib.hid (fun w' => chas_any p w')
        rw [← hq] at HC
        have HE := Lib.hid (show insOk (p, a) = q by unfold insOk; rw [hq]; simp [h1, h2, h3])
        clear hq
        go_enter Tryz.func107, Tryz.ntmps107
        go_upto_region 1 with fail
        rw [← hW1]
        clear hW1
        go_wp2_with fail
        refine (HC.out _).mono ?_
        rintro e w3 ⟨rfl, rfl⟩
        go_wp2_with fail
        go_ret
        exact ⟨by rw [HE.out]; rfl, HB1.out⟩
    · have q2 : ¬ (p.toNat : Int) ≤ 23 := by omega
      have HE := Lib.hid (show insOk (p, a) = false by unfold insOk; simp [h2])
      go_enter Tryz.func107, Tryz.ntmps107
      go_upto_region 1 with fail
      rw [← hW1]
      clear hW1
      go_wp2_with fail
      go_ret
      exact ⟨by rw [HE.out]; rfl, HB1.out⟩
  · have q1 : ¬ (1 : Int) ≤ (p.toNat : Int) := by omega
    have HE := Lib.hid (show insOk (p, a) = false by unfold insOk; simp [h1])
    go_enter Tryz.func107, Tryz.ntmps107
    go_upto_region 1 with fail
    rw [← hW1]
    clear hW1
    go_wp2_with fail
    go_ret
    exact ⟨by rw [HE.out]; rfl, HB1.out⟩
set_option maxRecDepth 100000 in
set_option maxHeartbeats 4000000 in
theorem rIns_any (x : VI) (w : World) : Calls Tryz.prog 114 #[.agg #[.int .u8 (x.1.toNat : Int), .int .u8 (x.2.toNat : Int)]] w fun e w' => e = .returned (.bool (insOk x)) ∧ Below w.heap.size w w' := by
  obtain ⟨p, a⟩ := x
  show Calls Tryz.prog 114 #[.agg #[.int .u8 (p.toNat : Int), .int .u8 (a.toNat : Int)]] w _
  obtain ⟨W1, hW1⟩ : ∃ W1, W1 = w.alloc (.cells #[.int .u8 (p.toNat : Int), .int .u8 (a.toNat : Int)] 92) := ⟨_, rfl⟩
  have hb1 : Below w.heap.size w W1 := by rw [hW1]; exact b_alloc _ _
  have hx : Blk W1 w.heap.size 92 [.int .u8 (p.toNat : Int), .int .u8 (a.toNat : Int)] := by rw [hW1]; exact Blk.new w _ _
  have x0 := hx.cell (k := 0) rfl
  have x1 := hx.cell (k := 1) rfl
  have HB1 := Lib.hid hb1
  clear hx hb1
  by_cases h1 : 1 ≤ p.toNat
  · have q1 : (1 : Int) ≤ (p.toNat : Int) := by omega
    by_cases h2 : p.toNat ≤ 23
    · have q2 : (p.toNat : Int) ≤ 23 := by omega
      by_cases h3 : a = 0
      · subst h3
        rw [show (((0 : UInt8).toNat : Nat) : Int) = 0 from rfl] at hW1 x1 ⊢
        have HE := Lib.hid (show insOk (p, 0) = true by unfold insOk; simp [h1, h2])
        go_enter Tryz.func114, Tryz.ntmps114
        go_upto_region 1 with fail
        rw [← hW1]
        clear hW1
        go_wp2_with fail
        go_ret
        exact ⟨by rw [HE.out]; rfl, HB1.out⟩
      · have q3 : ((a.toNat : Int) == 0) = false := u8_ne (by decide) h3
        obtain ⟨q, hq⟩ : ∃ q, q = hasArg p := ⟨_, rfl⟩
        have HC := Lib.hid (fun w' => rHas_any p w')
        rw [← hq] at HC
        have HE := Lib.hid (show insOk (p, a) = q by unfold insOk; rw [hq]; simp [h1, h2, h3])
        clear hq
        go_enter Tryz.func114, Tryz.ntmps114
        go_upto_region 1 with fail
        rw [← hW1]
        clear hW1
        go_wp2_with fail
        refine (HC.out _).mono ?_
        rintro e w3 ⟨rfl, rfl⟩
        go_wp2_with fail
        go_ret
        exact ⟨by rw [HE.out]; rfl, HB1.out⟩
    · have q2 : ¬ (p.toNat : Int) ≤ 23 := by omega
      have HE := Lib.hid (show insOk (p, a) = false by unfold insOk; simp [h2])
      go_enter Tryz.func114, Tryz.ntmps114
      go_upto_region 1 with fail
      rw [← hW1]
      clear hW1
      go_wp2_with fail
      go_ret
      exact ⟨by rw [HE.out]; rfl, HB1.out⟩
  · have q1 : ¬ (1 : Int) ≤ (p.toNat : Int) := by omega
    have HE := Lib.hid (show insOk (p, a) = false by unfold insOk; simp [h1])
    go_enter Tryz.func114, Tryz.ntmps114
    go_upto_region 1 with fail
    rw [← hW1]
    clear hW1
    go_wp2_with fail
    go_ret
    exact ⟨by rw [HE.out]; rfl, HB1.out⟩
def longOk (s : List UInt8) : Bool := decide (s.length ≤ 64)
theorem long_any (s : List UInt8) (w : World) (hs : s.length ≤ 140737488355328) : Calls Tryz.prog 105 #[.string (bs s)] w fun e w' => e = .returned (.bool (!longOk s)) ∧ Below w.heap.size w w' := by
  have h63 : (s.length : Int) ≤ 140737488355328 := by omega
  by_cases h : s.length ≤ 64
  · have h1 : ¬ (64 : Int) < (s.length : Int) := by omega
    have HE := Lib.hid (show longOk s = true by unfold longOk; simp [h])
    clear h
    go_enter Tryz.func105, Tryz.ntmps105
    go_wp2
    go_ret
    exact ⟨by rw [HE.out]; rfl, Below.refl _ _⟩
  · have h1 : (64 : Int) < (s.length : Int) := by omega
    have HE := Lib.hid (show longOk s = false by unfold longOk; simp [h])
    clear h
    go_enter Tryz.func105, Tryz.ntmps105
    go_wp2
    go_ret
    exact ⟨by rw [HE.out]; rfl, Below.refl _ _⟩
theorem badIns_any (x : VI) (w : World) : Calls Tryz.prog 106 #[.agg #[.int .u8 (x.1.toNat : Int), .int .u8 (x.2.toNat : Int)]] w fun e w' => e = .returned (.bool (!insOk x)) ∧ Below w.heap.size w w' := by
  have HC := Lib.hid (cins_any x)
  obtain ⟨q, hq⟩ : ∃ q, q = insOk x := ⟨_, rfl⟩
  rw [← hq] at HC ⊢
  clear hq
  obtain ⟨W1, hW1⟩ : ∃ W1, W1 = w.alloc (.cells #[.int .u8 (x.1.toNat : Int), .int .u8 (x.2.toNat : Int)] 92) := ⟨_, rfl⟩
  have hb1 : Below w.heap.size w W1 := by rw [hW1]; exact b_alloc _ _
  have hx : Blk W1 w.heap.size 92 [.int .u8 (x.1.toNat : Int), .int .u8 (x.2.toNat : Int)] := by rw [hW1]; exact Blk.new w _ _
  have x0 := hx.cell (k := 0) rfl
  have x1 := hx.cell (k := 1) rfl
  have HB1 := Lib.hid hb1
  clear hx hb1
  go_enter Tryz.func106, Tryz.ntmps106
  go_upto_region 1 with fail
  rw [← hW1]
  clear hW1
  go_wp2_with fail
  refine (HC.out _).mono ?_
  rintro e w3 ⟨rfl, hB3⟩
  have HB3 := Lib.hid (bt HB1.out hB3)
  clear hB3
  go_wp2_with fail
  go_ret
  exact ⟨rfl, HB3.out⟩
end Go.Proofs.YtndagciefnddmaaGreatDoor
