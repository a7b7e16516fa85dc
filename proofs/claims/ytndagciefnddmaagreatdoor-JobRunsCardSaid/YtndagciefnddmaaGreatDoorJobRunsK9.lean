/- Lemmas for JobRuns, part 9: walks of the functions that it reaches, and the plain laws behind them. -/
import Derived.Test.YtndagciefnddmaaGreatDoorJobRunsK8
set_option linter.unusedSimpArgs false
set_option linter.unusedVariables false
namespace Go.Proofs.YtndagciefnddmaaGreatDoor
open Go.RowKit Oct
attribute [local irreducible] wpG
section
variable {base G : Nat} {w w' w3 : World} {f : Rf} {at_ : Int} {st rg : List RV} {los : List Lo} {pr : List (List UInt8 × List UInt8)} {sv sv' lv lv' prv prv' : Value} {X : List (Pt base)}
@[go_sem] theorem field_rv1 (v0 v1 v2 : Value) (w : World) : (Instr.field 173 (.agg #[v0, v1, v2]) 1).run Tryz.prog w = .ok v1 w := by kernel_rfl
@[go_sem] theorem field_rv2 (v0 v1 v2 : Value) (w : World) : (Instr.field 173 (.agg #[v0, v1, v2]) 2).run Tryz.prog w = .ok v2 w := by kernel_rfl
def rvCells (v : RV) : List Value := [.bool v.1, .int .i64 v.2.1, .string (bs v.2.2)]
theorem RM.at1 {v : RV} {D : Nat} {hD : base ≤ D} (h : RM base w G f at_ st rg los pr sv lv prv (X ++ [blkPt D hD 173 (rvCells v)])) : w.cell? ⟨D, 0, none⟩ = some (.bool v.1) ∧ w.cell? ⟨D, 1, none⟩ = some (.int .i64 v.2.1) ∧ w.cell? ⟨D, 2, none⟩ = some (.string (bs v.2.2)) ∧ D < w.heap.size := by
  have hb : Blk w D 173 (rvCells v) := h.loc (p := blkPt D hD 173 (rvCells v)) (by simp)
  exact ⟨hb.cell (k := 0) rfl, hb.cell (k := 1) rfl, hb.cell (k := 2) rfl, hb.lt⟩
set_option maxRecDepth 100000 in
set_option maxHeartbeats 4000000 in
theorem rnumbers_none (n : Nat) (y : UInt8) (w : World) (hn : n ≠ 8 ∧ n ≠ 13 ∧ n ≠ 9 ∧ n ≠ 10 ∧ n ≠ 11) :
    Calls Tryz.prog 119 #[.pointer (some ⟨G, 0, none⟩), .agg #[.int .u8 (n : Int), .int .u8 (y.toNat : Int)]] w fun e w' => e = .returned (.tuple #[]) ∧ Below w.heap.size w w' := by
  have t1 : ((n : Int) == 8) = false := by rw [beq_eq_false_iff_ne]; omega
  have t2 : ((n : Int) == 13) = false := by rw [beq_eq_false_iff_ne]; omega
  have t3 : ((n : Int) == 9) = false := by rw [beq_eq_false_iff_ne]; omega
  have t4 : ((n : Int) == 10) = false := by rw [beq_eq_false_iff_ne]; omega
  have t5 : ((n : Int) == 11) = false := by rw [beq_eq_false_iff_ne]; omega
  clear hn
  go_enter Tryz.func119, Tryz.ntmps119
  go_wp2_with fail
  refine bodyPost_end (results_none rfl _ _ _) rfl ?_
  exact ⟨rfl, b_alloc _ _⟩
set_option maxRecDepth 100000 in
set_option maxHeartbeats 4000000 in
theorem rshow_any (y : UInt8) (a : RV) (h : RM base w G f at_ (a :: st) rg los pr sv lv prv X) (hl : st.length ≤ 900) (ha : vOk a.2) (hG : ∀ w', Below base w w' → GlobV w') :
    Calls Tryz.prog 119 #[.pointer (some ⟨G, 0, none⟩), .agg #[.int .u8 8, .int .u8 (y.toNat : Int)]] w fun e w' => e = .returned (.tuple #[]) ∧ (∃ sv', RM base w' G f at_ ((true, 0, Lib.itoa a.2.1) :: st) rg los pr sv' lv prv X) ∧ Below base w w' := by
  obtain ⟨W1, hW1⟩ : ∃ W1, W1 = w.alloc (.cells #[.int .u8 8, .int .u8 (y.toNat : Int)] 92) := ⟨_, rfl⟩
  have hb1 : Below w.heap.size w W1 := by rw [hW1]; exact b_alloc _ _
  have hx : Blk W1 w.heap.size 92 [.int .u8 8, .int .u8 (y.toNat : Int)] := by rw [hW1]; exact Blk.new w _ _
  have x0 := hx.cell (k := 0) rfl
  have HP := Lib.hid (rpop_any a (h.below hb1) (by omega))
  have HB1 := Lib.hid (hb1.mono h.size)
  have HG := Lib.hid hG
  obtain ⟨v0, v1, -⟩ := ha
  clear h hb1 hx hG
  go_enter Tryz.func119, Tryz.ntmps119
  go_upto_region 1 with fail
  rw [← hW1]
  clear hW1
  go_wp2_with (first | (go_at_call 135; refine (rpush_any (true, 0, Lib.itoa a.2.1) HM4.out (by omega)).mono ?_; rintro r w5 ⟨rfl, ⟨sv5, hm⟩, hB⟩; have HM5 := Lib.hid hm; have HB5 := Lib.hid (HB4.out.trans hB); clear hm hB) | (go_at_call 136; refine (rtext_any (Lib.itoa a.2.1) _).mono ?_; rintro r w4 ⟨rfl, hB⟩; have HM4 := Lib.hid (HM3.out.below hB); have HB4 := Lib.hid (HB3.out.trans (hB.mono HM3.out.size)); clear hB) | (go_at_call 138; refine (fmt_bel v0 v1 (HG.out _ (HB1.out.trans HB.out)).tab).mono ?_; rintro r w3 ⟨rfl, hB⟩; have HM3 := Lib.hid (HM.out.below hB); have HB3 := Lib.hid (HB.out.trans (hB.mono HM.out.size)); clear hB) | (go_at_call 97; refine HP.out.mono ?_; rintro r w2 ⟨rfl, ⟨sv, hm⟩, hB⟩; unfold rvV; have HM := Lib.hid hm; have HB := Lib.hid hB; clear hm hB))
  refine bodyPost_end (results_none rfl _ _ _) rfl ?_
  exact ⟨rfl, ⟨_, HM5.out⟩, HB1.out.trans HB5.out⟩
set_option maxRecDepth 100000 in
set_option maxHeartbeats 4000000 in
theorem rnot_any (y : UInt8) (a : RV) (h : RM base w G f at_ (a :: st) rg los pr sv lv prv X) (hl : st.length ≤ 900) :
    Calls Tryz.prog 119 #[.pointer (some ⟨G, 0, none⟩), .agg #[.int .u8 13, .int .u8 (y.toNat : Int)]] w fun e w' => e = .returned (.tuple #[]) ∧ (∃ sv', RM base w' G f at_ ((false, bitM (a.2.1 == 0)) :: st) rg los pr sv' lv prv X) ∧ Below base w w' := by
  obtain ⟨W1, hW1⟩ : ∃ W1, W1 = w.alloc (.cells #[.int .u8 13, .int .u8 (y.toNat : Int)] 92) := ⟨_, rfl⟩
  have hb1 : Below w.heap.size w W1 := by rw [hW1]; exact b_alloc _ _
  have hx : Blk W1 w.heap.size 92 [.int .u8 13, .int .u8 (y.toNat : Int)] := by rw [hW1]; exact Blk.new w _ _
  have x0 := hx.cell (k := 0) rfl
  have HP := Lib.hid (rpop_any a (h.below hb1) (by omega))
  have HB1 := Lib.hid (hb1.mono h.size)
  clear h hb1 hx
  go_enter Tryz.func119, Tryz.ntmps119
  go_upto_region 1 with fail
  rw [← hW1]
  clear hW1
  go_wp2_with (first | (go_at_call 135; refine (rpush_any (false, bitM (a.2.1 == 0)) HM4.out (by omega)).mono ?_; rintro r w5 ⟨rfl, ⟨sv5, hm⟩, hB⟩; have HM5 := Lib.hid hm; have HB5 := Lib.hid (HB4.out.trans hB); clear hm hB) | (go_at_call 139; refine (rbit_any (a.2.1 == 0) _).mono ?_; rintro r w4 ⟨rfl, hB⟩; have HM4 := Lib.hid (HM.out.below hB); have HB4 := Lib.hid (HB.out.trans (hB.mono HM.out.size)); clear hB) | (go_at_call 97; refine HP.out.mono ?_; rintro r w2 ⟨rfl, ⟨sv, hm⟩, hB⟩; unfold rvV; have HM := Lib.hid hm; have HB := Lib.hid hB; clear hm hB))
  refine bodyPost_end (results_none rfl _ _ _) rfl ?_
  exact ⟨rfl, ⟨_, HM5.out⟩, HB1.out.trans HB5.out⟩
set_option maxRecDepth 100000 in
set_option maxHeartbeats 4000000 in
theorem radd_any (y : UInt8) (a b : RV) (h : RM base w G f at_ (b :: a :: st) rg los pr sv lv prv X) (hl : st.length ≤ 900) :
    Calls Tryz.prog 119 #[.pointer (some ⟨G, 0, none⟩), .agg #[.int .u8 9, .int .u8 (y.toNat : Int)]] w fun e w' => e = .returned (.tuple #[]) ∧ (∃ sv', RM base w' G f at_ ((false, wrap64 (a.2.1 + b.2.1), []) :: st) rg los pr sv' lv prv X) ∧ Below base w w' := by
  obtain ⟨W1, hW1⟩ : ∃ W1, W1 = w.alloc (.cells #[.int .u8 9, .int .u8 (y.toNat : Int)] 92) := ⟨_, rfl⟩
  have hb1 : Below w.heap.size w W1 := by rw [hW1]; exact b_alloc _ _
  have hx : Blk W1 w.heap.size 92 [.int .u8 9, .int .u8 (y.toNat : Int)] := by rw [hW1]; exact Blk.new w _ _
  have x0 := hx.cell (k := 0) rfl
  have HP := Lib.hid (rpop_any b (h.below hb1) (by simp; omega))
  have HB1 := Lib.hid (hb1.mono h.size)
  clear h hb1 hx
  go_enter Tryz.func119, Tryz.ntmps119
  go_upto_region 1 with fail
  rw [← hW1]
  clear hW1
  go_upto_region 8 with (go_at_call 97; refine HP.out.mono ?_; rintro r w2 ⟨rfl, ⟨sv, hm⟩, hB⟩; unfold rvV; have HM := Lib.hid hm; have HB := Lib.hid (HB1.out.trans hB); clear hm hB)
  obtain ⟨D, hD⟩ : ∃ D, D = w2.heap.size := ⟨_, rfl⟩
  obtain ⟨W2, hW2⟩ : ∃ W2, W2 = w2.alloc (.cells (rvCells b).toArray 173) := ⟨_, rfl⟩
  have hDb : base ≤ D := by rw [hD]; exact HM.out.size
  have hm2 : RM base W2 G f at_ (a :: st) rg los pr sv lv prv (X ++ [blkPt D hDb 173 (rvCells b)]) := by subst hD; rw [hW2]; exact HM.out.add (rvCells b) 173
  have HB2 := Lib.hid (show Below base w W2 by rw [hW2]; exact HB.out.trans ((b_alloc _ _).mono HM.out.size))
  have HP2 := Lib.hid (rpop_any a hm2 (by omega))
  have hg : w2.alloc (.cells #[.bool b.1, .int .i64 b.2.1, .string (bs b.2.2)] 173) = W2 := hW2.symm
  rw [hg, ← hD]
  clear hg hW2 hD hm2 HM HB
  go_wp2_with (first | (go_at_call 135; refine (rpush_any (false, wrap64 (a.2.1 + b.2.1), []) HM5.out.drop (by omega)).mono ?_; rintro r w6 ⟨rfl, ⟨sv6, hm⟩, hB⟩; have HM6 := Lib.hid hm; have HB6 := Lib.hid (HB5.out.trans hB); clear hm hB) | (go_at_call 137; refine (rnum_any (wrap64 (a.2.1 + b.2.1)) _).mono ?_; rintro r w5 ⟨rfl, hB⟩; have hB9 := bt (b_alloc _ _) hB; have HM5 := Lib.hid (HM3.out.below hB9); have HB5 := Lib.hid (HB3.out.trans (hB9.mono HM3.out.size)); clear hB hB9) | (go_at_call 97; refine HP2.out.mono ?_; rintro r w3 ⟨rfl, ⟨sv3, hm⟩, hB⟩; unfold rvV; obtain ⟨d0, d1, d2, ld⟩ := hm.at1; have HM3 := Lib.hid hm; have HB3 := Lib.hid (HB2.out.trans hB); clear hm hB))
  refine bodyPost_end (results_none rfl _ _ _) rfl ?_
  exact ⟨rfl, ⟨_, HM6.out⟩, HB6.out⟩
set_option maxRecDepth 100000 in
set_option maxHeartbeats 4000000 in
theorem rmul_any (y : UInt8) (a b : RV) (h : RM base w G f at_ (b :: a :: st) rg los pr sv lv prv X) (hl : st.length ≤ 900) :
    Calls Tryz.prog 119 #[.pointer (some ⟨G, 0, none⟩), .agg #[.int .u8 10, .int .u8 (y.toNat : Int)]] w fun e w' => e = .returned (.tuple #[]) ∧ (∃ sv', RM base w' G f at_ ((false, wrap64 (a.2.1 * b.2.1), []) :: st) rg los pr sv' lv prv X) ∧ Below base w w' := by
  obtain ⟨W1, hW1⟩ : ∃ W1, W1 = w.alloc (.cells #[.int .u8 10, .int .u8 (y.toNat : Int)] 92) := ⟨_, rfl⟩
  have hb1 : Below w.heap.size w W1 := by rw [hW1]; exact b_alloc _ _
  have hx : Blk W1 w.heap.size 92 [.int .u8 10, .int .u8 (y.toNat : Int)] := by rw [hW1]; exact Blk.new w _ _
  have x0 := hx.cell (k := 0) rfl
  have HP := Lib.hid (rpop_any b (h.below hb1) (by simp; omega))
  have HB1 := Lib.hid (hb1.mono h.size)
  clear h hb1 hx
  go_enter Tryz.func119, Tryz.ntmps119
  go_upto_region 1 with fail
  rw [← hW1]
  clear hW1
  go_upto_region 12 with (go_at_call 97; refine HP.out.mono ?_; rintro r w2 ⟨rfl, ⟨sv, hm⟩, hB⟩; unfold rvV; have HM := Lib.hid hm; have HB := Lib.hid (HB1.out.trans hB); clear hm hB)
  obtain ⟨D, hD⟩ : ∃ D, D = w2.heap.size := ⟨_, rfl⟩
  obtain ⟨W2, hW2⟩ : ∃ W2, W2 = w2.alloc (.cells (rvCells b).toArray 173) := ⟨_, rfl⟩
  have hDb : base ≤ D := by rw [hD]; exact HM.out.size
  have hm2 : RM base W2 G f at_ (a :: st) rg los pr sv lv prv (X ++ [blkPt D hDb 173 (rvCells b)]) := by subst hD; rw [hW2]; exact HM.out.add (rvCells b) 173
  have HB2 := Lib.hid (show Below base w W2 by rw [hW2]; exact HB.out.trans ((b_alloc _ _).mono HM.out.size))
  have HP2 := Lib.hid (rpop_any a hm2 (by omega))
  have hg : w2.alloc (.cells #[.bool b.1, .int .i64 b.2.1, .string (bs b.2.2)] 173) = W2 := hW2.symm
  rw [hg, ← hD]
  clear hg hW2 hD hm2 HM HB
  go_wp2_with (first | (go_at_call 135; refine (rpush_any (false, wrap64 (a.2.1 * b.2.1), []) HM5.out.drop (by omega)).mono ?_; rintro r w6 ⟨rfl, ⟨sv6, hm⟩, hB⟩; have HM6 := Lib.hid hm; have HB6 := Lib.hid (HB5.out.trans hB); clear hm hB) | (go_at_call 137; refine (rnum_any (wrap64 (a.2.1 * b.2.1)) _).mono ?_; rintro r w5 ⟨rfl, hB⟩; have hB9 := bt (b_alloc _ _) hB; have HM5 := Lib.hid (HM3.out.below hB9); have HB5 := Lib.hid (HB3.out.trans (hB9.mono HM3.out.size)); clear hB hB9) | (go_at_call 97; refine HP2.out.mono ?_; rintro r w3 ⟨rfl, ⟨sv3, hm⟩, hB⟩; unfold rvV; obtain ⟨d0, d1, d2, ld⟩ := hm.at1; have HM3 := Lib.hid hm; have HB3 := Lib.hid (HB2.out.trans hB); clear hm hB))
  refine bodyPost_end (results_none rfl _ _ _) rfl ?_
  exact ⟨rfl, ⟨_, HM6.out⟩, HB6.out⟩
set_option maxRecDepth 100000 in
set_option maxHeartbeats 4000000 in
theorem rless_any (y : UInt8) (a b : RV) (h : RM base w G f at_ (b :: a :: st) rg los pr sv lv prv X) (hl : st.length ≤ 900) :
    Calls Tryz.prog 119 #[.pointer (some ⟨G, 0, none⟩), .agg #[.int .u8 11, .int .u8 (y.toNat : Int)]] w fun e w' => e = .returned (.tuple #[]) ∧ (∃ sv', RM base w' G f at_ ((false, bitM (decide (a.2.1 < b.2.1))) :: st) rg los pr sv' lv prv X) ∧ Below base w w' := by
  obtain ⟨W1, hW1⟩ : ∃ W1, W1 = w.alloc (.cells #[.int .u8 11, .int .u8 (y.toNat : Int)] 92) := ⟨_, rfl⟩
  have hb1 : Below w.heap.size w W1 := by rw [hW1]; exact b_alloc _ _
  have hx : Blk W1 w.heap.size 92 [.int .u8 11, .int .u8 (y.toNat : Int)] := by rw [hW1]; exact Blk.new w _ _
  have x0 := hx.cell (k := 0) rfl
  have HP := Lib.hid (rpop_any b (h.below hb1) (by simp; omega))
  have HB1 := Lib.hid (hb1.mono h.size)
  clear h hb1 hx
  go_enter Tryz.func119, Tryz.ntmps119
  go_upto_region 1 with fail
  rw [← hW1]
  clear hW1
  go_upto_region 16 with (go_at_call 97; refine HP.out.mono ?_; rintro r w2 ⟨rfl, ⟨sv, hm⟩, hB⟩; unfold rvV; have HM := Lib.hid hm; have HB := Lib.hid (HB1.out.trans hB); clear hm hB)
  obtain ⟨D, hD⟩ : ∃ D, D = w2.heap.size := ⟨_, rfl⟩
  obtain ⟨W2, hW2⟩ : ∃ W2, W2 = w2.alloc (.cells (rvCells b).toArray 173) := ⟨_, rfl⟩
  have hDb : base ≤ D := by rw [hD]; exact HM.out.size
  have hm2 : RM base W2 G f at_ (a :: st) rg los pr sv lv prv (X ++ [blkPt D hDb 173 (rvCells b)]) := by subst hD; rw [hW2]; exact HM.out.add (rvCells b) 173
  have HB2 := Lib.hid (show Below base w W2 by rw [hW2]; exact HB.out.trans ((b_alloc _ _).mono HM.out.size))
  have HP2 := Lib.hid (rpop_any a hm2 (by omega))
  have hg : w2.alloc (.cells #[.bool b.1, .int .i64 b.2.1, .string (bs b.2.2)] 173) = W2 := hW2.symm
  rw [hg, ← hD]
  clear hg hW2 hD hm2 HM HB
  go_wp2_with (first | (go_at_call 135; refine (rpush_any (false, bitM (decide (a.2.1 < b.2.1))) HM5.out.drop (by omega)).mono ?_; rintro r w6 ⟨rfl, ⟨sv6, hm⟩, hB⟩; have HM6 := Lib.hid hm; have HB6 := Lib.hid (HB5.out.trans hB); clear hm hB) | (go_at_call 139; refine (rbit_any (decide (a.2.1 < b.2.1)) _).mono ?_; rintro r w5 ⟨rfl, hB⟩; have hB9 := bt (b_alloc _ _) hB; have HM5 := Lib.hid (HM3.out.below hB9); have HB5 := Lib.hid (HB3.out.trans (hB9.mono HM3.out.size)); clear hB hB9) | (go_at_call 97; refine HP2.out.mono ?_; rintro r w3 ⟨rfl, ⟨sv3, hm⟩, hB⟩; unfold rvV; obtain ⟨d0, d1, d2, ld⟩ := hm.at1; have HM3 := Lib.hid hm; have HB3 := Lib.hid (HB2.out.trans hB); clear hm hB))
  refine bodyPost_end (results_none rfl _ _ _) rfl ?_
  exact ⟨rfl, ⟨_, HM6.out⟩, HB6.out⟩
end
end Go.Proofs.YtndagciefnddmaaGreatDoor
namespace Go.Proofs.YtndagciefnddmaaGreatDoor
open Go.RowKit Oct
attribute [local irreducible] wpG
section
variable {base G : Nat} {w w' w3 : World} {f : Rf} {at_ : Int} {st rg : List RV} {los : List Lo} {pr : List (List UInt8 × List UInt8)} {sv sv' lv lv' prv prv' : Value} {X : List (Pt base)}
theorem RM.atB {v : RV} {D : Nat} {hD : base ≤ D} (h : RM base w G f at_ st rg los pr sv lv prv X) (hm : blkPt D hD 173 (rvCells v) ∈ X) : w.cell? ⟨D, 0, none⟩ = some (.bool v.1) ∧ w.cell? ⟨D, 1, none⟩ = some (.int .i64 v.2.1) ∧ w.cell? ⟨D, 2, none⟩ = some (.string (bs v.2.2)) ∧ D < w.heap.size := by
  have hb : Blk w D 173 (rvCells v) := h.loc hm
  exact ⟨hb.cell (k := 0) rfl, hb.cell (k := 1) rfl, hb.cell (k := 2) rfl, hb.lt⟩
theorem RM.newP (h : RM base w G f at_ st rg los pr sv lv prv X) {l : List (List UInt8 × List UInt8)} (hc : Chg (fun k => prv.ownBlock = some k) w w3) (hg : ∀ k, prv'.ownBlock = some k → prv.ownBlock = some k ∨ w.heap.size ≤ k) (ho : recKq.Own w3 base prv' l) :
    RM base (w3.setCell ⟨G, 32, none⟩ prv') G f at_ st rg los l sv lv prv' X ∧ Below base w (w3.setCell ⟨G, 32, none⟩ prv') ∧ w3.frozen? ⟨G, 32, none⟩ = false ∧ w3.cell? ⟨G, 32, none⟩ = some prv := by
  have s1 := h.sep.upd (i := 4) rfl hc (fun k hk => hk) (ownPt recKq prv' l) ho hg
  have hs : Chg (fun k => k = G) w3 (w3.setCell ⟨G, 32, none⟩ prv') := Chg.setCell _ _ _ rfl
  have b3 : Blk w3 G 177 (rCells f at_ sv rg lv prv) := s1.get (i := 0) rfl
  have hcs : (rCells f at_ sv rg lv prv).set 32 prv' = rCells f at_ sv rg lv prv' := by
    obtain ⟨a, b, c, d, e, f', g, j, hr⟩ := eightR h.rl
    rw [hr]; rfl
  have hb := b3.set 32 prv'
  rw [hcs] at hb
  have s2 := s1.upd (i := 0) rfl hs (fun k hk => hk) (blkPt G h.gb 177 (rCells f at_ sv rg lv prv')) hb (fun k hk => .inl hk)
  exact ⟨⟨h.gb, h.rl, s2⟩, (h.sep.updB (i := 4) rfl hc (fun k hk => hk) h.size).trans (hs.below (fun k hk => by have := h.gb; omega) (Nat.le_trans h.size hc.size)), by obtain ⟨a, b, c, d, e, f', g, j, hr⟩ := eightR h.rl; rw [hr] at b3; exact b3.free (k := 32) (by show 32 < 33; decide), by obtain ⟨a, b, c, d, e, f', g, j, hr⟩ := eightR h.rl; rw [hr] at b3; exact b3.cell (k := 32) rfl⟩
set_option maxRecDepth 100000 in
set_option maxHeartbeats 4000000 in
theorem rtexts_none (n : Nat) (y : UInt8) (w : World) (hn : n ≠ 4 ∧ n ≠ 5 ∧ n ≠ 6 ∧ n ≠ 7 ∧ n ≠ 12 ∧ n ≠ 23) :
    Calls Tryz.prog 120 #[.pointer (some ⟨G, 0, none⟩), .agg #[.int .u8 (n : Int), .int .u8 (y.toNat : Int)]] w fun e w' => e = .returned (.int .i64 0) ∧ Below w.heap.size w w' := by
  have t1 : ((n : Int) == 4) = false := by rw [beq_eq_false_iff_ne]; omega
  have t2 : ((n : Int) == 5) = false := by rw [beq_eq_false_iff_ne]; omega
  have t3 : ((n : Int) == 6) = false := by rw [beq_eq_false_iff_ne]; omega
  have t4 : ((n : Int) == 7) = false := by rw [beq_eq_false_iff_ne]; omega
  have t5 : ((n : Int) == 12) = false := by rw [beq_eq_false_iff_ne]; omega
  have t6 : ((n : Int) == 23) = false := by rw [beq_eq_false_iff_ne]; omega
  clear hn
  go_enter Tryz.func120, Tryz.ntmps120
  go_wp2_with fail
  go_ret
  exact ⟨rfl, b_alloc _ _⟩
set_option maxRecDepth 100000 in
set_option maxHeartbeats 4000000 in
theorem rlen_any (y : UInt8) (a : RV) (h : RM base w G f at_ (a :: st) rg los pr sv lv prv X) (hl : st.length ≤ 900) (ha : a.2.2.length ≤ 1024) :
    Calls Tryz.prog 120 #[.pointer (some ⟨G, 0, none⟩), .agg #[.int .u8 5, .int .u8 (y.toNat : Int)]] w fun e w' => e = .returned (.int .i64 0) ∧ (∃ sv', RM base w' G f at_ ((false, (a.2.2.length : Int), []) :: st) rg los pr sv' lv prv X) ∧ Below base w w' := by
  obtain ⟨W1, hW1⟩ : ∃ W1, W1 = w.alloc (.cells #[.int .u8 5, .int .u8 (y.toNat : Int)] 92) := ⟨_, rfl⟩
  have hb1 : Below w.heap.size w W1 := by rw [hW1]; exact b_alloc _ _
  have hx : Blk W1 w.heap.size 92 [.int .u8 5, .int .u8 (y.toNat : Int)] := by rw [hW1]; exact Blk.new w _ _
  have x0 := hx.cell (k := 0) rfl
  have HP := Lib.hid (rpop_any a (h.below hb1) (by omega))
  have HB1 := Lib.hid (hb1.mono h.size)
  have hal : (a.2.2.length : Int) ≤ 1024 := by omega
  clear h hb1 hx
  go_enter Tryz.func120, Tryz.ntmps120
  go_upto_region 1 with fail
  rw [← hW1]
  clear hW1
  go_wp2_with (first | (go_at_call 135; refine (rpush_any (false, (a.2.2.length : Int), []) HM4.out (by omega)).mono ?_; rintro r w5 ⟨rfl, ⟨sv5, hm⟩, hB⟩; have HM5 := Lib.hid hm; have HB5 := Lib.hid (HB4.out.trans hB); clear hm hB) | (go_at_call 137; refine (rnum_any (a.2.2.length : Int) _).mono ?_; rintro r w4 ⟨rfl, hB⟩; have HM4 := Lib.hid (HM.out.below hB); have HB4 := Lib.hid (HB.out.trans (hB.mono HM.out.size)); clear hB) | (go_at_call 97; refine HP.out.mono ?_; rintro r w2 ⟨rfl, ⟨sv, hm⟩, hB⟩; unfold rvV; have HM := Lib.hid hm; have HB := Lib.hid hB; clear hm hB))
  go_ret
  exact ⟨rfl, ⟨_, HM5.out⟩, HB1.out.trans HB5.out⟩
set_option maxRecDepth 100000 in
set_option maxHeartbeats 4000000 in
theorem rparseOp_any (y : UInt8) (a : RV) (h : RM base w G f at_ (a :: st) rg los pr sv lv prv X) (hl : st.length ≤ 900) (ha : a.2.2.length ≤ 1024) (hG : ∀ w', Below base w w' → GlobV w') :
    Calls Tryz.prog 120 #[.pointer (some ⟨G, 0, none⟩), .agg #[.int .u8 7, .int .u8 (y.toNat : Int)]] w fun e w' => e = .returned (.int .i64 0) ∧ (∃ sv', RM base w' G f at_ ((false, parseM a.2.2, []) :: st) rg los pr sv' lv prv X) ∧ Below base w w' := by
  obtain ⟨W1, hW1⟩ : ∃ W1, W1 = w.alloc (.cells #[.int .u8 7, .int .u8 (y.toNat : Int)] 92) := ⟨_, rfl⟩
  have hb1 : Below w.heap.size w W1 := by rw [hW1]; exact b_alloc _ _
  have hx : Blk W1 w.heap.size 92 [.int .u8 7, .int .u8 (y.toNat : Int)] := by rw [hW1]; exact Blk.new w _ _
  have x0 := hx.cell (k := 0) rfl
  have HP := Lib.hid (rpop_any a (h.below hb1) (by omega))
  have HB1 := Lib.hid (hb1.mono h.size)
  have HG := Lib.hid hG
  clear h hb1 hx hG
  go_enter Tryz.func120, Tryz.ntmps120
  go_upto_region 1 with fail
  rw [← hW1]
  clear hW1
  go_wp2_with (first | (go_at_call 135; refine (rpush_any (false, parseM a.2.2, []) HM4.out (by omega)).mono ?_; rintro r w5 ⟨rfl, ⟨sv5, hm⟩, hB⟩; have HM5 := Lib.hid hm; have HB5 := Lib.hid (HB4.out.trans hB); clear hm hB) | (go_at_call 137; refine (rnum_any (parseM a.2.2) _).mono ?_; rintro r w4 ⟨rfl, hB⟩; have HM4 := Lib.hid (HM3.out.below hB); have HB4 := Lib.hid (HB3.out.trans (hB.mono HM3.out.size)); clear hB) | (go_at_call 141; refine (rparse_any a.2.2 _ ha (HG.out _ (HB1.out.trans HB.out))).mono ?_; rintro r w3 ⟨rfl, hB⟩; have HM3 := Lib.hid (HM.out.below hB); have HB3 := Lib.hid (HB.out.trans (hB.mono HM.out.size)); clear hB) | (go_at_call 97; refine HP.out.mono ?_; rintro r w2 ⟨rfl, ⟨sv, hm⟩, hB⟩; unfold rvV; have HM := Lib.hid hm; have HB := Lib.hid hB; clear hm hB))
  go_ret
  exact ⟨rfl, ⟨_, HM5.out⟩, HB1.out.trans HB5.out⟩
set_option maxRecDepth 100000 in
set_option maxHeartbeats 4000000 in
theorem rsame_any (y : UInt8) (a b : RV) (h : RM base w G f at_ (b :: a :: st) rg los pr sv lv prv X) (hl : st.length ≤ 900) :
    Calls Tryz.prog 120 #[.pointer (some ⟨G, 0, none⟩), .agg #[.int .u8 12, .int .u8 (y.toNat : Int)]] w fun e w' => e = .returned (.int .i64 0) ∧ (∃ sv', RM base w' G f at_ ((false, bitM (a.2.2 == b.2.2)) :: st) rg los pr sv' lv prv X) ∧ Below base w w' := by
  obtain ⟨W1, hW1⟩ : ∃ W1, W1 = w.alloc (.cells #[.int .u8 12, .int .u8 (y.toNat : Int)] 92) := ⟨_, rfl⟩
  have hb1 : Below w.heap.size w W1 := by rw [hW1]; exact b_alloc _ _
  have hx : Blk W1 w.heap.size 92 [.int .u8 12, .int .u8 (y.toNat : Int)] := by rw [hW1]; exact Blk.new w _ _
  have x0 := hx.cell (k := 0) rfl
  have HP := Lib.hid (rpop_any b (h.below hb1) (by simp; omega))
  have HB1 := Lib.hid (hb1.mono h.size)
  clear h hb1 hx
  go_enter Tryz.func120, Tryz.ntmps120
  go_upto_region 1 with fail
  rw [← hW1]
  clear hW1
  go_upto_region 18 with (go_at_call 97; refine HP.out.mono ?_; rintro r w2 ⟨rfl, ⟨sv, hm⟩, hB⟩; unfold rvV; have HM := Lib.hid hm; have HB := Lib.hid (HB1.out.trans hB); clear hm hB)
  obtain ⟨D, hD⟩ : ∃ D, D = w2.heap.size := ⟨_, rfl⟩
  obtain ⟨W2, hW2⟩ : ∃ W2, W2 = w2.alloc (.cells (rvCells b).toArray 173) := ⟨_, rfl⟩
  have hDb : base ≤ D := by rw [hD]; exact HM.out.size
  have hm2 : RM base W2 G f at_ (a :: st) rg los pr sv lv prv (X ++ [blkPt D hDb 173 (rvCells b)]) := by subst hD; rw [hW2]; exact HM.out.add (rvCells b) 173
  have HB2 := Lib.hid (show Below base w W2 by rw [hW2]; exact HB.out.trans ((b_alloc _ _).mono HM.out.size))
  have HP2 := Lib.hid (rpop_any a hm2 (by omega))
  have hg : w2.alloc (.cells #[.bool b.1, .int .i64 b.2.1, .string (bs b.2.2)] 173) = W2 := hW2.symm
  rw [hg, ← hD]
  clear hg hW2 hD hm2 HM HB
  go_wp2_with (first | (go_at_call 135; refine (rpush_any (false, bitM (a.2.2 == b.2.2)) HM5.out.drop (by omega)).mono ?_; rintro r w6 ⟨rfl, ⟨sv6, hm⟩, hB⟩; have HM6 := Lib.hid hm; have HB6 := Lib.hid (HB5.out.trans hB); clear hm hB) | (go_at_call 139; refine (rbit_any (a.2.2 == b.2.2) _).mono ?_; rintro r w5 ⟨rfl, hB⟩; have hB9 := bt (b_alloc _ _) hB; have HM5 := Lib.hid (HM3.out.below hB9); have HB5 := Lib.hid (HB3.out.trans (hB9.mono HM3.out.size)); clear hB hB9) | (go_at_call 97; refine HP2.out.mono ?_; rintro r w3 ⟨rfl, ⟨sv3, hm⟩, hB⟩; unfold rvV; obtain ⟨d0, d1, d2, ld⟩ := hm.at1; have HM3 := Lib.hid hm; have HB3 := Lib.hid (HB2.out.trans hB); clear hm hB))
  go_ret
  exact ⟨rfl, ⟨_, HM6.out⟩, HB6.out⟩
set_option maxRecDepth 100000 in
set_option maxHeartbeats 4000000 in
theorem rcat_any (y : UInt8) (a b : RV) (h : RM base w G f at_ (b :: a :: st) rg los pr sv lv prv X) (hl : st.length ≤ 900) (ha : a.2.2.length ≤ 1024) (hb : b.2.2.length ≤ 1024) (hab : ¬ 1024 < a.2.2.length + b.2.2.length) :
    Calls Tryz.prog 120 #[.pointer (some ⟨G, 0, none⟩), .agg #[.int .u8 4, .int .u8 (y.toNat : Int)]] w fun e w' => e = .returned (.int .i64 0) ∧ (∃ sv', RM base w' G f at_ ((true, 0, a.2.2 ++ b.2.2) :: st) rg los pr sv' lv prv X) ∧ Below base w w' := by
  obtain ⟨W1, hW1⟩ : ∃ W1, W1 = w.alloc (.cells #[.int .u8 4, .int .u8 (y.toNat : Int)] 92) := ⟨_, rfl⟩
  have hb1 : Below w.heap.size w W1 := by rw [hW1]; exact b_alloc _ _
  have hx : Blk W1 w.heap.size 92 [.int .u8 4, .int .u8 (y.toNat : Int)] := by rw [hW1]; exact Blk.new w _ _
  have x0 := hx.cell (k := 0) rfl
  have HP := Lib.hid (rpop_any b (h.below hb1) (by simp; omega))
  have HB1 := Lib.hid (hb1.mono h.size)
  have q1 : ¬ (1024 : Int) < (a.2.2.length : Int) + (b.2.2.length : Int) := by omega
  have q2 : (a.2.2.length : Int) ≤ 1024 := by omega
  have q3 : (b.2.2.length : Int) ≤ 1024 := by omega
  clear h hb1 hx
  go_enter Tryz.func120, Tryz.ntmps120
  go_upto_region 1 with fail
  rw [← hW1]
  clear hW1
  go_upto_region 4 with (go_at_call 97; refine HP.out.mono ?_; rintro r w2 ⟨rfl, ⟨sv, hm⟩, hB⟩; unfold rvV; have HM := Lib.hid hm; have HB := Lib.hid (HB1.out.trans hB); clear hm hB)
  obtain ⟨D, hD⟩ : ∃ D, D = w2.heap.size := ⟨_, rfl⟩
  obtain ⟨W2, hW2⟩ : ∃ W2, W2 = w2.alloc (.cells (rvCells b).toArray 173) := ⟨_, rfl⟩
  have hDb : base ≤ D := by rw [hD]; exact HM.out.size
  have hm2 : RM base W2 G f at_ (a :: st) rg los pr sv lv prv (X ++ [blkPt D hDb 173 (rvCells b)]) := by subst hD; rw [hW2]; exact HM.out.add (rvCells b) 173
  have HB2 := Lib.hid (show Below base w W2 by rw [hW2]; exact HB.out.trans ((b_alloc _ _).mono HM.out.size))
  have HP2 := Lib.hid (rpop_any a hm2 (by omega))
  have hg : w2.alloc (.cells #[.bool b.1, .int .i64 b.2.1, .string (bs b.2.2)] 173) = W2 := hW2.symm
  rw [hg, ← hD]
  clear hg hW2 hD hm2 HM HB
  go_wp2_with (first | (go_at_call 135; refine (rpush_any (true, 0, a.2.2 ++ b.2.2) HM5.out.drop (by omega)).mono ?_; rintro r w6 ⟨rfl, ⟨sv6, hm⟩, hB⟩; have HM6 := Lib.hid hm; have HB6 := Lib.hid (HB5.out.trans hB); clear hm hB) | (go_at_call 136; refine (rtext_any (a.2.2 ++ b.2.2) _).mono ?_; rintro r w5 ⟨rfl, hB⟩; have hB9 := bt (b_alloc _ _) hB; have HM5 := Lib.hid (HM3.out.below hB9); have HB5 := Lib.hid (HB3.out.trans (hB9.mono HM3.out.size)); clear hB hB9) | (go_at_call 97; refine HP2.out.mono ?_; rintro r w3 ⟨rfl, ⟨sv3, hm⟩, hB⟩; unfold rvV; obtain ⟨d0, d1, d2, ld⟩ := hm.at1; have HM3 := Lib.hid hm; have HB3 := Lib.hid (HB2.out.trans hB); clear hm hB))
  go_ret
  exact ⟨rfl, ⟨_, HM6.out⟩, HB6.out⟩
set_option maxRecDepth 100000 in
set_option maxHeartbeats 4000000 in
theorem rcat_long (y : UInt8) (a b : RV) (h : RM base w G f at_ (b :: a :: st) rg los pr sv lv prv X) (hl : st.length ≤ 900) (ha : a.2.2.length ≤ 1024) (hb : b.2.2.length ≤ 1024) (hab : 1024 < a.2.2.length + b.2.2.length) :
    Calls Tryz.prog 120 #[.pointer (some ⟨G, 0, none⟩), .agg #[.int .u8 4, .int .u8 (y.toNat : Int)]] w fun e w' => e = .returned (.int .i64 5) ∧ Below base w w' := by
  obtain ⟨W1, hW1⟩ : ∃ W1, W1 = w.alloc (.cells #[.int .u8 4, .int .u8 (y.toNat : Int)] 92) := ⟨_, rfl⟩
  have hb1 : Below w.heap.size w W1 := by rw [hW1]; exact b_alloc _ _
  have hx : Blk W1 w.heap.size 92 [.int .u8 4, .int .u8 (y.toNat : Int)] := by rw [hW1]; exact Blk.new w _ _
  have x0 := hx.cell (k := 0) rfl
  have HP := Lib.hid (rpop_any b (h.below hb1) (by simp; omega))
  have HB1 := Lib.hid (hb1.mono h.size)
  have q1 : (1024 : Int) < (a.2.2.length : Int) + (b.2.2.length : Int) := by omega
  have q2 : (a.2.2.length : Int) ≤ 1024 := by omega
  have q3 : (b.2.2.length : Int) ≤ 1024 := by omega
  clear h hb1 hx
  go_enter Tryz.func120, Tryz.ntmps120
  go_upto_region 1 with fail
  rw [← hW1]
  clear hW1
  go_upto_region 4 with (go_at_call 97; refine HP.out.mono ?_; rintro r w2 ⟨rfl, ⟨sv, hm⟩, hB⟩; unfold rvV; have HM := Lib.hid hm; have HB := Lib.hid (HB1.out.trans hB); clear hm hB)
  obtain ⟨D, hD⟩ : ∃ D, D = w2.heap.size := ⟨_, rfl⟩
  obtain ⟨W2, hW2⟩ : ∃ W2, W2 = w2.alloc (.cells (rvCells b).toArray 173) := ⟨_, rfl⟩
  have hDb : base ≤ D := by rw [hD]; exact HM.out.size
  have hm2 : RM base W2 G f at_ (a :: st) rg los pr sv lv prv (X ++ [blkPt D hDb 173 (rvCells b)]) := by subst hD; rw [hW2]; exact HM.out.add (rvCells b) 173
  have HB2 := Lib.hid (show Below base w W2 by rw [hW2]; exact HB.out.trans ((b_alloc _ _).mono HM.out.size))
  have HP2 := Lib.hid (rpop_any a hm2 (by omega))
  have hg : w2.alloc (.cells #[.bool b.1, .int .i64 b.2.1, .string (bs b.2.2)] 173) = W2 := hW2.symm
  rw [hg, ← hD]
  clear hg hW2 hD hm2 HM HB
  go_wp2_with (go_at_call 97; refine HP2.out.mono ?_; rintro r w3 ⟨rfl, ⟨sv3, hm⟩, hB⟩; unfold rvV; obtain ⟨d0, d1, d2, ld⟩ := hm.at1; have HM3 := Lib.hid hm; have HB3 := Lib.hid (HB2.out.trans hB); clear hm hB)
  go_ret
  exact ⟨rfl, HB3.out.trans ((b_alloc _ _).mono HM3.out.size)⟩
end
end Go.Proofs.YtndagciefnddmaaGreatDoor
namespace Go.Proofs.YtndagciefnddmaaGreatDoor
open Go.RowKit Oct
attribute [local irreducible] wpG
section
variable {base G : Nat} {w w' w3 : World} {f : Mf} {at_ : Int} {st rg : List MV} {eos : List Eo} {pr : List (List UInt8 × List UInt8)} {tr : List Int} {stv opv opv' prv trv trv' : Value} {X : List (Pt base)}
theorem MR.newO (h : MR base w G f at_ st rg eos pr tr stv opv prv trv X) {l : List Eo} (hc : Chg (fun k => opv.ownBlock = some k) w w3) (hg : ∀ k, opv'.ownBlock = some k → opv.ownBlock = some k ∨ w.heap.size ≤ k) (ho : recEa.Own w3 base opv' l)
    (hb : (∀ e ∈ l, boxOk base w3 e) ∧ l.Pairwise fun e f => ∀ k, eoIn k e → ¬ eoIn k f) (hf : ∀ e ∈ l, ∀ k, eoIn k e → (∃ e' ∈ eos, eoIn k e')) :
    MR base (w3.setCell ⟨G, 23, none⟩ opv') G f at_ st rg l pr tr stv opv' prv trv X ∧ Below base w (w3.setCell ⟨G, 23, none⟩ opv') ∧ w3.frozen? ⟨G, 23, none⟩ = false ∧ w3.cell? ⟨G, 23, none⟩ = some opv := by
  have s1 := h.sep.upd (i := 2) rfl hc (fun k hk => hk) (ownPt recEa opv' l) ho hg
  have s15 := s1.same (i := 3) (p := boxPt eos) rfl (boxPt l) hb (fun k hk => by
    obtain ⟨e, he, hk⟩ := hk
    exact hf e he k hk)
  have hs : Chg (fun k => k = G) w3 (w3.setCell ⟨G, 23, none⟩ opv') := Chg.setCell _ _ _ rfl
  have b3 : Blk w3 G 160 (mCells f at_ stv rg opv prv f.tx f.sn trv) := s15.get (i := 0) rfl
  have hcs : (mCells f at_ stv rg opv prv f.tx f.sn trv).set 23 opv' = mCells f at_ stv rg opv' prv f.tx f.sn trv := by
    obtain ⟨a, b, c, d, e, f', g, j, hr⟩ := eightM h.rl
    rw [hr]; rfl
  have hbk := b3.set 23 opv'
  rw [hcs] at hbk
  have s2 := s15.upd (i := 0) rfl hs (fun k hk => hk) (blkPt G h.gb 160 (mCells f at_ stv rg opv' prv f.tx f.sn trv)) hbk (fun k hk => .inl hk)
  exact ⟨⟨h.gb, h.rl, s2⟩, (h.sep.updB (i := 2) rfl hc (fun k hk => hk) h.size).trans (hs.below (fun k hk => by have := h.gb; omega) (Nat.le_trans h.size hc.size)), by obtain ⟨a, b, c, d, e, f', g, j, hr⟩ := eightM h.rl; rw [hr] at b3; exact b3.free (k := 23) (by show 23 < 28; decide), by obtain ⟨a, b, c, d, e, f', g, j, hr⟩ := eightM h.rl; rw [hr] at b3; exact b3.cell (k := 23) rfl⟩
theorem MR.newT (h : MR base w G f at_ st rg eos pr tr stv opv prv trv X) {l : List Int} (hc : Chg (fun k => trv.ownBlock = some k) w w3) (hg : ∀ k, trv'.ownBlock = some k → trv.ownBlock = some k ∨ w.heap.size ≤ k) (ho : recJ.Own w3 base trv' l) :
    MR base (w3.setCell ⟨G, 27, none⟩ trv') G f at_ st rg eos pr l stv opv prv trv' X ∧ Below base w (w3.setCell ⟨G, 27, none⟩ trv') ∧ w3.frozen? ⟨G, 27, none⟩ = false ∧ w3.cell? ⟨G, 27, none⟩ = some trv := by
  have s1 := h.sep.upd (i := 5) rfl hc (fun k hk => hk) (ownPt recJ trv' l) ho hg
  have hs : Chg (fun k => k = G) w3 (w3.setCell ⟨G, 27, none⟩ trv') := Chg.setCell _ _ _ rfl
  have b3 : Blk w3 G 160 (mCells f at_ stv rg opv prv f.tx f.sn trv) := s1.get (i := 0) rfl
  have hcs : (mCells f at_ stv rg opv prv f.tx f.sn trv).set 27 trv' = mCells f at_ stv rg opv prv f.tx f.sn trv' := by
    obtain ⟨a, b, c, d, e, f', g, j, hr⟩ := eightM h.rl
    rw [hr]; rfl
  have hbk := b3.set 27 trv'
  rw [hcs] at hbk
  have s2 := s1.upd (i := 0) rfl hs (fun k hk => hk) (blkPt G h.gb 160 (mCells f at_ stv rg opv prv f.tx f.sn trv')) hbk (fun k hk => .inl hk)
  exact ⟨⟨h.gb, h.rl, s2⟩, (h.sep.updB (i := 5) rfl hc (fun k hk => hk) h.size).trans (hs.below (fun k hk => by have := h.gb; omega) (Nat.le_trans h.size hc.size)), by obtain ⟨a, b, c, d, e, f', g, j, hr⟩ := eightM h.rl; rw [hr] at b3; exact b3.free (k := 27) (by show 27 < 28; decide), by obtain ⟨a, b, c, d, e, f', g, j, hr⟩ := eightM h.rl; rw [hr] at b3; exact b3.cell (k := 27) rfl⟩
theorem Sep.merge {A B : List (Pt base)} {p q : Pt base} (h : Sep base w (A ++ p :: B ++ [q])) (r : Pt base) (hr : r.P w) (hf : ∀ k, r.fp k → p.fp k ∨ q.fp k) : Sep base w (A ++ r :: B) := by
  obtain ⟨h1, h2⟩ := h
  obtain ⟨hab, -, hq⟩ := List.pairwise_append.1 h2
  obtain ⟨hA, hpB, hAp⟩ := List.pairwise_append.1 hab
  obtain ⟨hp, hB⟩ := List.pairwise_cons.1 hpB
  refine ⟨fun x hx => ?_, List.pairwise_append.2 ⟨hA, List.pairwise_cons.2 ⟨fun b hb k hk hk' => ?_, hB⟩, fun a ha b hb k hk hk' => ?_⟩⟩
  · rcases List.mem_append.1 hx with hx | hx
    · exact h1 x (by simp [hx])
    · rcases List.mem_cons.1 hx with rfl | hx
      · exact hr
      · exact h1 x (by simp [hx])
  · rcases hf k hk with hk | hk
    · exact hp b hb k hk hk'
    · exact hq b (by simp [hb]) q (by simp) k hk' hk
  · rcases List.mem_cons.1 hb with rfl | hb
    · rcases hf k hk' with hk' | hk'
      · exact hAp a ha p (by simp) k hk hk'
      · exact hq a (by simp [ha]) q (by simp) k hk hk'
    · exact hAp a ha b (by simp [hb]) k hk hk'
theorem MR.newO2 {e : Eo} (h : MR base w G f at_ st rg eos pr tr stv opv prv trv (X ++ [boxPt [e]])) (hc : Chg (fun k => opv.ownBlock = some k) w w3) (hg : ∀ k, opv'.ownBlock = some k → opv.ownBlock = some k ∨ w.heap.size ≤ k) (ho : recEa.Own w3 base opv' (eos ++ [e])) :
    MR base (w3.setCell ⟨G, 23, none⟩ opv') G f at_ st rg (eos ++ [e]) pr tr stv opv' prv trv X ∧ Below base w (w3.setCell ⟨G, 23, none⟩ opv') ∧ w3.frozen? ⟨G, 23, none⟩ = false ∧ w3.cell? ⟨G, 23, none⟩ = some opv := by
  have s1 := h.sep.upd (i := 2) rfl hc (fun k hk => hk) (ownPt recEa opv' (eos ++ [e])) ho hg
  have hbe := s1.get (i := 3) (p := boxPt eos) rfl
  have hb1 : (boxPt (base := base) [e]).P w3 := s1.1 (boxPt [e]) (by simp)
  have hap : ∀ k, (boxPt (base := base) eos).fp k → ¬ (boxPt (base := base) [e]).fp k := by
    have hl : (blkPt G h.gb 160 (mCells f at_ stv rg opv prv f.tx f.sn trv) :: ownPt recMV stv st.reverse :: ownPt recEa opv' (eos ++ [e]) :: boxPt eos :: ownPt recKv prv pr :: ownPt recJ trv tr :: (X ++ [boxPt [e]]))[6 + X.length]? = some (boxPt (base := base) [e]) := by
      rw [Nat.add_comm]
      show (X ++ [boxPt [e]])[X.length]? = _
      simp
    exact s1.apart (i := 3) (j := 6 + X.length) (p := boxPt eos) rfl hl (by omega)
  have s15 : Sep base w3 ([blkPt G h.gb 160 (mCells f at_ stv rg opv prv f.tx f.sn trv), ownPt recMV stv st.reverse, ownPt recEa opv' (eos ++ [e])] ++ boxPt (eos ++ [e]) :: (ownPt recKv prv pr :: ownPt recJ trv tr :: X)) := by
    refine Sep.merge (p := boxPt eos) (q := boxPt [e]) s1 (boxPt (eos ++ [e])) ⟨fun x hx => ?_, List.pairwise_append.2 ⟨hbe.2, List.pairwise_singleton _ _, fun a ha b hb k hk hk' => ?_⟩⟩ (fun k hk => ?_)
    · rcases List.mem_append.1 hx with hx | hx
      · exact hbe.1 x hx
      · exact hb1.1 x hx
    · exact hap k ⟨a, ha, hk⟩ ⟨b, hb, hk'⟩
    · obtain ⟨x, hx, hk⟩ := hk
      rcases List.mem_append.1 hx with hx | hx
      · exact .inl ⟨x, hx, hk⟩
      · exact .inr ⟨x, hx, hk⟩
  have hs : Chg (fun k => k = G) w3 (w3.setCell ⟨G, 23, none⟩ opv') := Chg.setCell _ _ _ rfl
  have b3 : Blk w3 G 160 (mCells f at_ stv rg opv prv f.tx f.sn trv) := s15.get (i := 0) rfl
  have hcs : (mCells f at_ stv rg opv prv f.tx f.sn trv).set 23 opv' = mCells f at_ stv rg opv' prv f.tx f.sn trv := by
    obtain ⟨a, b, c, d, e, f', g, j, hr⟩ := eightM h.rl
    rw [hr]; rfl
  have hbk := b3.set 23 opv'
  rw [hcs] at hbk
  have s2 := s15.upd (i := 0) rfl hs (fun k hk => hk) (blkPt G h.gb 160 (mCells f at_ stv rg opv' prv f.tx f.sn trv)) hbk (fun k hk => .inl hk)
  exact ⟨⟨h.gb, h.rl, s2⟩, (h.sep.updB (i := 2) rfl hc (fun k hk => hk) h.size).trans (hs.below (fun k hk => by have := h.gb; omega) (Nat.le_trans h.size hc.size)), by obtain ⟨a, b, c, d, e, f', g, j, hr⟩ := eightM h.rl; rw [hr] at b3; exact b3.free (k := 23) (by show 23 < 28; decide), by obtain ⟨a, b, c, d, e, f', g, j, hr⟩ := eightM h.rl; rw [hr] at b3; exact b3.cell (k := 23) rfl⟩
end
end Go.Proofs.YtndagciefnddmaaGreatDoor
namespace Go.Proofs.YtndagciefnddmaaGreatDoor
open Go.RowKit Oct
attribute [local irreducible] wpG
theorem add_blockN (a : Addr) (n : Nat) : (a.add n).block = a.block := by unfold Addr.add; split <;> rfl
theorem strs_cut {w : World} {a : Option Addr} {cap : Nat} {l : List (List UInt8)} (h : recS.Row w (.slice a l.length cap) l) (k : Nat) (hk : k ≤ l.length) :
    ∃ A C, (∀ wx, (Instr.slice 22 (.slice a l.length cap) (some (.int .i64 (k : Int))) none none).run Tryz.prog wx = .ok (.slice A (l.length - k) C) wx) ∧ recS.Row w (.slice A (l.length - k) C) (l.drop k) ∧ (∀ b, (Value.slice A (l.length - k) C).ownBlock = some b → (Value.slice a l.length cap).ownBlock = some b) := by
  obtain ⟨_, a', cap', hv, hle⟩ := id h
  injection hv with _ _ h3
  subst h3
  refine ⟨_, _, fun wx => ?_, h.cut k hk, ?_⟩
  · rw [run_slice_l wx 22 a l.length cap (by kernel_rfl) .i64 k (by omega) (by omega)]
    have he : (sizeOf (Tryz.prog.elem 22)).run Tryz.prog wx = .ok 1 wx := by kernel_rfl
    rw [he]
    have h1 : k * recS.n = k := Nat.mul_one k
    simp [Result.andThen, sliced, h1]
  · intro b hA
    split at hA
    · cases a with
      | none => cases hA
      | some ad => exact hA
    · cases a with
      | none => cases hA
      | some ad =>
        have : (ad.add (k * recS.n)).block = b := by simpa [Value.ownBlock] using hA
        rw [add_blockN] at this
        show some ad.block = some b
        rw [this]
section
variable {base G : Nat} {w w' w3 : World} {f : Rf} {at_ : Int} {st rg : List RV} {los l : List Lo} {e : Lo} {pr : List (List UInt8 × List UInt8)} {tv cv iv ev ow sv sv' lv lv' prv prv' : Value} {X : List (Pt base)} {q : Pt base}
theorem Sep.split {A B : List (Pt base)} {p : Pt base} (h : Sep base w (A ++ p :: B)) (p1 p2 : Pt base) (h1 : p1.P w) (h2 : p2.P w) (hf1 : ∀ k, p1.fp k → p.fp k) (hf2 : ∀ k, p2.fp k → p.fp k) (hd : ∀ k, p1.fp k → ¬ p2.fp k) : Sep base w (A ++ p1 :: B ++ [p2]) := by
  obtain ⟨hP, hS⟩ := h
  obtain ⟨hA, hpB, hAp⟩ := List.pairwise_append.1 hS
  obtain ⟨hp, hB⟩ := List.pairwise_cons.1 hpB
  refine ⟨fun x hx => ?_, ?_⟩
  · rcases List.mem_append.1 hx with hx | hx
    · rcases List.mem_append.1 hx with hx | hx
      · exact hP x (by simp [hx])
      · rcases List.mem_cons.1 hx with rfl | hx
        · exact h1
        · exact hP x (by simp [hx])
    · rw [List.mem_singleton] at hx; subst hx; exact h2
  · refine List.pairwise_append.2 ⟨List.pairwise_append.2 ⟨hA, List.pairwise_cons.2 ⟨fun b hb k hk => hp b hb k (hf1 k hk), hB⟩, fun a ha b hb k hk hk' => ?_⟩, List.pairwise_singleton _ _, fun a ha b hb k hk hk' => ?_⟩
    · rcases List.mem_cons.1 hb with rfl | hb
      · exact hAp a ha p (by simp) k hk (hf1 k hk')
      · exact hAp a ha b (by simp [hb]) k hk hk'
    · rw [List.mem_singleton] at hb
      subst hb
      rcases List.mem_append.1 ha with ha | ha
      · exact hAp a ha p (by simp) k hk (hf2 k hk')
      · rcases List.mem_cons.1 ha with rfl | ha
        · exact hd k hk hk'
        · exact hp a ha k (hf2 k hk') hk
theorem RM.cell31 (h : RM base w G f at_ st rg los pr sv lv prv X) : (rCells f at_ sv rg lv prv).set 31 lv' = rCells f at_ sv rg lv' prv := by
  obtain ⟨a, b, c, d, e, f', g, j, hr⟩ := eightR h.rl
  rw [hr]; rfl
theorem RM.newL (h : RM base w G f at_ st rg los pr sv lv prv (X ++ [q])) (hc : Chg (fun k => lv.ownBlock = some k) w w3) (hg : ∀ k, lv'.ownBlock = some k → lv.ownBlock = some k ∨ w.heap.size ≤ k) (ho : recLo.Own w3 base lv' (los ++ [e]))
    (he : q.P w3 → recS.Row w3 (loV e) e.ps) (hb : ∀ k, (loV e).ownBlock = some k → q.fp k) :
    RM base (w3.setCell ⟨G, 31, none⟩ lv') G f at_ st rg (los ++ [e]) pr sv lv' prv X ∧ Below base w (w3.setCell ⟨G, 31, none⟩ lv') ∧ w3.frozen? ⟨G, 31, none⟩ = false ∧ w3.cell? ⟨G, 31, none⟩ = some lv := by
  have s1 := h.sep.upd (i := 2) rfl hc (fun k hk => hk) (ownPt recLo lv' (los ++ [e])) ho hg
  have hlo := s1.get (i := 3) (p := loPt los) rfl
  have hq : q.P w3 := s1.1 q (by simp)
  have hap : ∀ k, (loPt (base := base) los).fp k → ¬ q.fp k := by
    have hl : (blkPt G h.gb 177 (rCells f at_ sv rg lv prv) :: ownPt recVa sv st.reverse :: ownPt recLo lv' (los ++ [e]) :: loPt los :: ownPt recKq prv pr :: (X ++ [q]))[5 + X.length]? = some q := by
      rw [Nat.add_comm]
      show (X ++ [q])[X.length]? = _
      simp
    exact s1.apart (i := 3) (j := 5 + X.length) (p := loPt los) rfl hl (by omega)
  have hP : (loPt (base := base) (los ++ [e])).P w3 := by
    refine ⟨fun x hx => ?_, List.pairwise_append.2 ⟨hlo.2, List.pairwise_singleton _ _, fun a ha b hb' k hk hk' => ?_⟩⟩
    · rcases List.mem_append.1 hx with hx | hx
      · exact hlo.1 x hx
      · rw [List.mem_singleton] at hx
        subst hx
        exact ⟨he hq, fun k hk => q.lt hq k (hb k hk)⟩
    · rw [List.mem_singleton] at hb'
      subst hb'
      exact hap k ⟨a, ha, hk⟩ (hb k hk')
  have s15 : Sep base w3 ([blkPt G h.gb 177 (rCells f at_ sv rg lv prv), ownPt recVa sv st.reverse, ownPt recLo lv' (los ++ [e])] ++ loPt (los ++ [e]) :: (ownPt recKq prv pr :: X)) := by
    refine Sep.merge (p := loPt los) (q := q) s1 (loPt (los ++ [e])) hP (fun k hk => ?_)
    obtain ⟨x, hx, hk⟩ := hk
    rcases List.mem_append.1 hx with hx | hx
    · exact .inl ⟨x, hx, hk⟩
    · rw [List.mem_singleton] at hx
      subst hx
      exact .inr (hb k hk)
  have hs : Chg (fun k => k = G) w3 (w3.setCell ⟨G, 31, none⟩ lv') := Chg.setCell _ _ _ rfl
  have b3 : Blk w3 G 177 (rCells f at_ sv rg lv prv) := s15.get (i := 0) rfl
  have hbk := b3.set 31 lv'
  rw [h.cell31] at hbk
  have s2 := s15.upd (i := 0) rfl hs (fun k hk => hk) (blkPt G h.gb 177 (rCells f at_ sv rg lv' prv)) hbk (fun k hk => .inl hk)
  exact ⟨⟨h.gb, h.rl, s2⟩, (h.sep.updB (i := 2) rfl hc (fun k hk => hk) h.size).trans (hs.below (fun k hk => by have := h.gb; omega) (Nat.le_trans h.size hc.size)), by obtain ⟨a, b, c, d, e, f', g, j, hr⟩ := eightR h.rl; rw [hr] at b3; exact b3.free (k := 31) (by show 31 < 33; decide), by obtain ⟨a, b, c, d, e, f', g, j, hr⟩ := eightR h.rl; rw [hr] at b3; exact b3.cell (k := 31) rfl⟩
theorem RM.popL (h : RM base w G f at_ st rg (l ++ [e]) pr sv lv prv X) (hg : ∀ k, lv'.ownBlock = some k → lv.ownBlock = some k) (ho : recLo.Own w base lv' l) :
    RM base (w.setCell ⟨G, 31, none⟩ lv') G f at_ st rg l pr sv lv' prv (X ++ [loPt [e]]) ∧ Below base w (w.setCell ⟨G, 31, none⟩ lv') := by
  have s1 := h.sep.same (i := 2) rfl (ownPt recLo lv' l) ho hg
  have hlo := h.ow
  have hpw := (List.pairwise_append.1 hlo.2).2.2
  have s15 : Sep base w ([blkPt G h.gb 177 (rCells f at_ sv rg lv prv), ownPt recVa sv st.reverse, ownPt recLo lv' l] ++ loPt l :: (ownPt recKq prv pr :: X) ++ [loPt [e]]) := by
    refine Sep.split (p := loPt (l ++ [e])) s1 (loPt l) (loPt [e]) ⟨fun x hx => hlo.1 x (by simp [hx]), (List.pairwise_append.1 hlo.2).1⟩ ⟨fun x hx => hlo.1 x (by rw [List.mem_singleton] at hx; simp [hx]), List.pairwise_singleton _ _⟩ ?_ ?_ ?_
    · rintro k ⟨x, hx, hk⟩
      exact ⟨x, by simp [hx], hk⟩
    · rintro k ⟨x, hx, hk⟩
      rw [List.mem_singleton] at hx
      exact ⟨x, by simp [hx], hk⟩
    · rintro k ⟨x, hx, hk⟩ ⟨x', hx', hk'⟩
      exact hpw x hx x' hx' k hk hk'
  have hs : Chg (fun k => k = G) w (w.setCell ⟨G, 31, none⟩ lv') := Chg.setCell _ _ _ rfl
  have hbk := h.blk.set 31 lv'
  rw [h.cell31] at hbk
  have s2 := s15.upd (i := 0) rfl hs (fun k hk => hk) (blkPt G h.gb 177 (rCells f at_ sv rg lv' prv)) hbk (fun k hk => .inl hk)
  exact ⟨⟨h.gb, h.rl, s2⟩, h.sep.updB (i := 0) rfl hs (fun k hk => hk) h.size⟩
end
end Go.Proofs.YtndagciefnddmaaGreatDoor
namespace Go.Proofs.YtndagciefnddmaaGreatDoor
open Go.RowKit Oct
attribute [local irreducible] wpG
section
variable {base G : Nat} {w w' w3 : World} {f : Rf} {at_ : Int} {st rg : List RV} {los : List Lo} {pr : List (List UInt8 × List UInt8)} {tv cv iv ev ow sv sv' lv lv' prv prv' : Value} {X : List (Pt base)}
set_option maxRecDepth 100000 in
set_option maxHeartbeats 4000000 in
theorem rblocks_none (n : Nat) (y : UInt8) (h : RM base w G f at_ st rg los pr sv lv prv X) (hn : n ≠ 19 ∧ n ≠ 20 ∧ n ≠ 22 ∧ n ≠ 21) :
    Calls Tryz.prog 121 #[.pointer (some ⟨G, 0, none⟩), .agg #[.int .u8 (n : Int), .int .u8 (y.toNat : Int)]] w fun e w' => e = .returned (.tuple #[]) ∧ Below w.heap.size w w' := by
  have t1 : ((n : Int) == 19) = false := by rw [beq_eq_false_iff_ne]; omega
  have t2 : ((n : Int) == 20) = false := by rw [beq_eq_false_iff_ne]; omega
  have t3 : ((n : Int) == 22) = false := by rw [beq_eq_false_iff_ne]; omega
  have t4 : ((n : Int) == 21) = false := by rw [beq_eq_false_iff_ne]; omega
  have c5 := h.cell (k := 5) rfl
  have hGl := h.blk.lt
  clear hn h
  go_enter Tryz.func121, Tryz.ntmps121
  go_wp2_with fail
  refine bodyPost_end (results_none rfl _ _ _) rfl ?_
  exact ⟨rfl, b_alloc _ _⟩
set_option maxRecDepth 100000 in
set_option maxHeartbeats 4000000 in
theorem relseOp_any (y : UInt8) (pc : Nat) (h : RM base w G ⟨tv, cv, iv, ev, ow⟩ (pc : Int) st rg los pr sv lv prv X) {l : List Int} (ht : recJ.Row w ev l) (hp : pc < l.length) (hl2 : l.length ≤ 1000) (hv : -1000 ≤ l[pc] ∧ l[pc] ≤ 1000) :
    Calls Tryz.prog 121 #[.pointer (some ⟨G, 0, none⟩), .agg #[.int .u8 20, .int .u8 (y.toNat : Int)]] w fun e w' => e = .returned (.tuple #[]) ∧ RM base w' G ⟨tv, cv, iv, ev, ow⟩ (l[pc] - 1) st rg los pr sv lv prv X ∧ Below base w w' := by
  obtain ⟨W1, hW1⟩ : ∃ W1, W1 = w.alloc (.cells #[.int .u8 20, .int .u8 (y.toNat : Int)] 92) := ⟨_, rfl⟩
  have hb1 : Below w.heap.size w W1 := by rw [hW1]; exact b_alloc _ _
  obtain ⟨D1, hD1⟩ : ∃ D1, D1 = w.heap.size := ⟨_, rfl⟩
  have hx : Blk W1 D1 92 [.int .u8 20, .int .u8 (y.toNat : Int)] := by rw [hD1, hW1]; exact Blk.new w _ _
  have x0 := hx.cell (k := 0) rfl
  have h1 := h.below hb1
  obtain ⟨a', n, hev, hc⟩ := recJ_openM (ht.below hb1)
  obtain ⟨b, off, rfl, d0⟩ := hc pc hp
  subst hev
  obtain ⟨v, hv'⟩ : ∃ v, v = l[pc] := ⟨_, rfl⟩
  rw [← hv'] at d0 hv ⊢
  obtain ⟨j0, j1⟩ := hv
  have i0 : (0 : Int) ≤ (pc : Int) := by omega
  have i1 : (pc : Int) < (l.length : Int) := by omega
  have i2 : (l.length : Int) ≤ 1000 := by omega
  have c3 := h1.cell (k := 3) rfl
  have c5 := h1.cell (k := 5) rfl
  have f5 := h1.free (k := 5) (by decide)
  have HB1 := Lib.hid (hb1.mono h.size)
  have H1 := Lib.hid h1
  clear h h1 hb1 hx hc hv' ht
  go_enter Tryz.func121, Tryz.ntmps121
  go_upto_region 1 with fail
  rw [← hW1, ← hD1]
  clear hW1 hD1
  go_wp2_with fail
  refine bodyPost_end (results_none rfl _ _ _) rfl ?_
  obtain ⟨m5, b5⟩ := H1.out.setAt (v - 1)
  exact ⟨rfl, m5, HB1.out.trans b5⟩
set_option maxRecDepth 100000 in
set_option maxHeartbeats 4000000 in
theorem rifOp_any (y : UInt8) (a : RV) (pc : Nat) (h : RM base w G ⟨tv, cv, iv, ev, ow⟩ (pc : Int) (a :: st) rg los pr sv lv prv X) (hl : st.length ≤ 900) {l : List Int} (ht : ∀ w', Below base w w' → recJ.Row w' ev l) (hp : pc < l.length) (hl2 : l.length ≤ 1000) :
    Calls Tryz.prog 121 #[.pointer (some ⟨G, 0, none⟩), .agg #[.int .u8 19, .int .u8 (y.toNat : Int)]] w fun e w' => e = .returned (.tuple #[]) ∧ (∃ sv', RM base w' G ⟨tv, cv, iv, ev, ow⟩ (if a.2.1 = 0 then l[pc] else (pc : Int)) st rg los pr sv' lv prv X) ∧ Below base w w' := by
  obtain ⟨W1, hW1⟩ : ∃ W1, W1 = w.alloc (.cells #[.int .u8 19, .int .u8 (y.toNat : Int)] 92) := ⟨_, rfl⟩
  have hb1 : Below w.heap.size w W1 := by rw [hW1]; exact b_alloc _ _
  obtain ⟨D1, hD1⟩ : ∃ D1, D1 = w.heap.size := ⟨_, rfl⟩
  have hx : Blk W1 D1 92 [.int .u8 19, .int .u8 (y.toNat : Int)] := by rw [hD1, hW1]; exact Blk.new w _ _
  have x0 := hx.cell (k := 0) rfl
  have h1 := h.below hb1
  have c5 := h1.cell (k := 5) rfl
  have HP := Lib.hid (rpop_any a h1 (by omega))
  have HB1 := Lib.hid (hb1.mono h.size)
  have HT := Lib.hid ht
  have i0 : (0 : Int) ≤ (pc : Int) := by omega
  have i1 : (pc : Int) < (l.length : Int) := by omega
  have i2 : (l.length : Int) ≤ 1000 := by omega
  clear h h1 hb1 hx ht
  by_cases ha : a.2.1 = 0
  · rw [if_pos ha]
    have t0 : (a.2.1 == 0) = true := by simp [ha]
    clear ha
    go_enter Tryz.func121, Tryz.ntmps121
    go_upto_region 1 with fail
    rw [← hW1, ← hD1]
    clear hW1 hD1
    go_upto_region 5 with (go_at_call 97; refine HP.out.mono ?_; rintro e w2 ⟨rfl, ⟨sv, hm⟩, hB⟩; unfold rvV; have HM := Lib.hid hm; have HB := Lib.hid (HB1.out.trans hB); clear hm hB)
    obtain ⟨a', n, hev, hc⟩ := recJ_openM (HT.out _ HB.out)
    obtain ⟨b, off, rfl, d0⟩ := hc pc hp
    subst hev
    obtain ⟨v, hv'⟩ : ∃ v, v = l[pc] := ⟨_, rfl⟩
    rw [← hv'] at d0
    have HV := Lib.hid hv'
    have c3 := HM.out.cell (k := 3) rfl
    have c5 := HM.out.cell (k := 5) rfl
    have f5 := HM.out.free (k := 5) (by decide)
    clear hc hv'
    go_wp2_with fail
    refine bodyPost_end (results_none rfl _ _ _) rfl ?_
    obtain ⟨m5, b5⟩ := HM.out.setAt v
    exact ⟨rfl, ⟨_, by rw [← HV.out]; exact m5⟩, HB.out.trans b5⟩
  · rw [if_neg ha]
    have t0 : (a.2.1 == 0) = false := by rw [beq_eq_false_iff_ne]; exact ha
    clear ha
    go_enter Tryz.func121, Tryz.ntmps121
    go_upto_region 1 with fail
    rw [← hW1, ← hD1]
    clear hW1 hD1
    go_wp2_with (go_at_call 97; refine HP.out.mono ?_; rintro e w2 ⟨rfl, ⟨sv, hm⟩, hB⟩; unfold rvV; have HM := Lib.hid hm; have HB := Lib.hid (HB1.out.trans hB); clear hm hB)
    refine bodyPost_end (results_none rfl _ _ _) rfl ?_
    exact ⟨rfl, ⟨_, HM.out⟩, HB.out⟩
end
end Go.Proofs.YtndagciefnddmaaGreatDoor
namespace Go.Proofs.YtndagciefnddmaaGreatDoor
open Go.RowKit Oct
attribute [local irreducible] wpG
section
variable {base G : Nat} {w w' w3 : World} {f : Rf} {at_ : Int} {st rg : List RV} {los : List Lo} {pr : List (List UInt8 × List UInt8)} {tv cv iv ev ow sv sv' lv lv' prv prv' : Value} {X : List (Pt base)}
theorem RM.addOwn {v : Value} {l : List (List UInt8)} (h : RM base w G f at_ st rg los pr sv lv prv X) (hB : Below w.heap.size w w') (ho : recS.Own w' w.heap.size v l) : RM base w' G f at_ st rg los pr sv lv prv (X ++ [ownPt recS v l]) :=
  ⟨h.gb, h.rl, h.sep.snoc hB (ownPt recS v l) (ho.baseLe h.size) (fun k hk => (Rec.Own.ltV ho k hk).1)⟩
set_option maxRecDepth 100000 in
set_option maxHeartbeats 8000000 in
theorem reachOp_any (y : UInt8) (a : RV) (pc : Nat) (h : RM base w G ⟨tv, cv, iv, ev, ow⟩ (pc : Int) (a :: st) rg los pr sv lv prv X) (hl : st.length ≤ 900) (hlo : los.length ≤ 900) (ha : a.2.2.length ≤ 1024) {l : List Int} (ht : ∀ w', Below base w w' → recJ.Row w' ev l) (hp : pc < l.length) (hl2 : l.length ≤ 1000) :
    Calls Tryz.prog 121 #[.pointer (some ⟨G, 0, none⟩), .agg #[.int .u8 22, .int .u8 (y.toNat : Int)]] w fun r w' => r = .returned (.tuple #[]) ∧
      ((piecesM a.2.2 y = [] ∧ ∃ sv', RM base w' G ⟨tv, cv, iv, ev, ow⟩ l[pc] st rg los pr sv' lv prv X) ∨
       (∃ p ps, piecesM a.2.2 y = p :: ps ∧ ∃ sv' lv' e', e'.at_ = pc ∧ e'.ps = ps ∧ RM base w' G ⟨tv, cv, iv, ev, ow⟩ (pc : Int) ((true, 0, p) :: st) rg (los ++ [e']) pr sv' lv' prv X)) ∧ Below base w w' := by
  obtain ⟨W1, hW1⟩ : ∃ W1, W1 = w.alloc (.cells #[.int .u8 22, .int .u8 (y.toNat : Int)] 92) := ⟨_, rfl⟩
  have hb1 : Below w.heap.size w W1 := by rw [hW1]; exact b_alloc _ _
  obtain ⟨D1, hD1⟩ : ∃ D1, D1 = w.heap.size := ⟨_, rfl⟩
  have hx : Blk W1 D1 92 [.int .u8 22, .int .u8 (y.toNat : Int)] := by rw [hD1, hW1]; exact Blk.new w _ _
  have hD1b : base ≤ D1 := by rw [hD1]; exact h.size
  have x0 := hx.cell (k := 0) rfl
  have x1 := hx.cell (k := 1) rfl
  have hm1 : RM base W1 G ⟨tv, cv, iv, ev, ow⟩ (pc : Int) (a :: st) rg los pr sv lv prv (X ++ [blkPt D1 hD1b 92 [.int .u8 22, .int .u8 (y.toNat : Int)]]) := by subst hD1; rw [hW1]; exact h.add _ _
  have c5 := hm1.cell (k := 5) rfl
  have HM1 := Lib.hid hm1
  have HP := Lib.hid (rpop_any a (hm1.below (b_drew W1)) (by omega))
  have HB1 := Lib.hid (hb1.mono h.size)
  have HT := Lib.hid ht
  obtain ⟨ps0, hps0⟩ : ∃ ps0, ps0 = piecesM a.2.2 y := ⟨_, rfl⟩
  have HPI := Lib.hid (fun w' => rPieces_any a.2.2 y w' ha)
  rw [← hps0] at HPI ⊢
  have hpl : ps0.length ≤ 1025 := by rw [hps0]; exact (piecesM_ok ha y).1
  have HPL := Lib.hid hpl
  clear h hm1 hb1 hx ht hps0 hpl
  go_enter Tryz.func121, Tryz.ntmps121
  go_upto_region 1 with fail
  rw [← hW1, ← hD1]
  clear hW1 hD1
  go_upto_region 9 with fail
  go_cut [5] (fun t wx => ∃ av cp sv2, t = .slice av ps0.length cp ∧ Hid (RM base wx G ⟨tv, cv, iv, ev, ow⟩ (pc : Int) st rg los pr sv2 lv prv ((X ++ [blkPt D1 hD1b 92 [.int .u8 22, .int .u8 (y.toNat : Int)]]) ++ [ownPt recS (.slice av ps0.length cp) ps0])) ∧ Hid (Below base w wx))
  case first =>
    go_region_law (first | (refine step_callM rfl 142 #[.string (bs a.2.2), .int .u8 (y.toNat : Int)] (by go_simp) (HPI.out w2) ?_; rintro r w4 ⟨⟨pv, rfl, ho⟩, hB⟩; obtain ⟨av, cp, rfl⟩ := owns_slice ho; have HM4 := Lib.hid (HM.out.addOwn hB ho); have HB4 := Lib.hid (HB.out.trans (hB.mono HM.out.size)); clear hB ho) | (refine step_callM rfl 97 #[.pointer (some ⟨G, 0, none⟩)] (by go_simp) HP.out ?_; rintro r w2 ⟨rfl, ⟨sv2, hm⟩, hB⟩; unfold rvV; have hD4 : Blk w2 D1 92 [.int .u8 22, .int .u8 (y.toNat : Int)] := hm.loc (p := blkPt D1 hD1b 92 [.int .u8 22, .int .u8 (y.toNat : Int)]) (by simp); have x1' := hD4.cell (k := 1) rfl; clear hD4; have HM := Lib.hid hm; have HB := Lib.hid ((HB1.out.trans ((b_drew W1).mono HM1.out.size)).trans hB); clear hm hB))
    all_goals
      (try simp only [List.getElem_toArray, List.getElem_cons_succ, List.getElem_cons_zero])
      (try go_frame)
      go_wp2_with fail
      go_meet
      case rel => exact ⟨_, _, _, rfl, HM4.out, HB4.out⟩
  case rest =>
    obtain ⟨av, cp, sv2, rfl, HM, HB⟩ := hcut
    clear x0 x1 c5
    have i0 : (0 : Int) ≤ (pc : Int) := by omega
    have i1 : (pc : Int) < (l.length : Int) := by omega
    have i2 : (l.length : Int) ≤ 1000 := by omega
    cases ps0 with
    | nil =>
      obtain ⟨a', n, hev, hc⟩ := recJ_openM (HT.out _ HB.out)
      obtain ⟨b, off, rfl, d0⟩ := hc pc hp
      subst hev
      obtain ⟨v, hv'⟩ : ∃ v, v = l[pc] := ⟨_, rfl⟩
      rw [← hv'] at d0
      have HV := Lib.hid hv'
      have c3 := HM.out.cell (k := 3) rfl
      have c5 := HM.out.cell (k := 5) rfl
      have f5 := HM.out.free (k := 5) (by decide)
      clear hc hv'
      go_wp2_with fail
      obtain ⟨m5, b5⟩ := HM.out.setAt v
      refine bodyPost_ret (results_none rfl _ _ _) rfl ?_
      first
        | exact ⟨rfl, ⟨_, by rw [← HV.out]; exact m5.drop.drop⟩, HB.out.trans b5⟩
        | exact ⟨rfl, .inl ⟨rfl, _, by rw [← HV.out]; exact m5.drop.drop⟩, HB.out.trans b5⟩
    | cons p ps =>
      simp only [List.length_cons] at HM HPL ⊢
      obtain ⟨n1, hn1⟩ : ∃ n1, n1 = ps.length + 1 := ⟨_, rfl⟩
      rw [← hn1] at HM HPL ⊢
      have hown : recS.Own wc base (.slice av n1 cp) (p :: ps) := HM.out.loc (p := ownPt recS (.slice av n1 cp) (p :: ps)) (by simp)
      have hrow0 : recS.Row wc (.slice av (p :: ps).length cp) (p :: ps) := by rw [List.length_cons, ← hn1]; exact hown.row
      obtain ⟨av', cp', hvv, -, hcc⟩ := recS_open hown.row
      obtain ⟨b, off, rfl, d0⟩ := hcc 0 (by simp)
      injection hvv with e1 e2 e3
      subst e1 e3
      clear e2
      have d0 : wc.cell? ⟨b, off, none⟩ = some (.string (bs p)) := d0
      have i3 : ((n1 : Int) == 0) = false := by rw [beq_eq_false_iff_ne]; omega
      have i4 : (0 : Int) < (n1 : Int) := by omega
      have i5 : (n1 : Int) ≤ 1025 := by have := HPL.out; omega
      have HN1 := Lib.hid hn1
      have HR0 := Lib.hid hrow0
      have hbl := lt_of_cell d0
      clear hown hcc hrow0 hn1
      go_upto_region 13 with (first | (go_at_call 135; refine (rpush_any (true, 0, p) (HM.out.below HC4.out) (by omega)).mono ?_; rintro r w5 ⟨rfl, ⟨sv5, hm⟩, hB⟩; have HM5 := Lib.hid hm; have HB5 := Lib.hid ((HB.out.trans (HC4.out.mono HM.out.size)).trans hB); clear hm hB) | (go_at_call 136; refine (rtext_any p _).mono ?_; rintro r w4 ⟨rfl, hB⟩; have HC4 := Lib.hid hB; clear hB))
      have hown5 : recS.Own w5 base (.slice (some ⟨b, off, none⟩) n1 cp) (p :: ps) := HM5.out.loc (p := ownPt recS (.slice (some ⟨b, off, none⟩) n1 cp) (p :: ps)) (by simp)
      obtain ⟨A, C, hrun0, hrow5, hblk5⟩ := strs_cut (l := p :: ps) (a := some ⟨b, off, none⟩) (cap := cp) (by rw [List.length_cons, ← HN1.out]; exact hown5.row) 1 (by simp)
      have hm0 : (p :: ps).length - 1 = ps.length := by simp
      rw [hm0] at hrun0 hrow5 hblk5
      have hrun : ∀ wx, (Instr.slice 22 (.slice (some ⟨b, off, none⟩) n1 cp) (some (.int .i64 1)) none none).run Tryz.prog wx = .ok (.slice A ps.length C) wx := fun wx => by
        have := hrun0 wx
        rw [List.length_cons, ← HN1.out] at this
        exact this
      have hrow5 : recS.Row w5 (.slice A ps.length C) ps := hrow5
      have hblk5 : ∀ k, (Value.slice A ps.length C).ownBlock = some k → (Value.slice (some ⟨b, off, none⟩) n1 cp).ownBlock = some k := fun k hk => by
        have := hblk5 k hk
        rw [List.length_cons, ← HN1.out] at this
        exact this
      obtain ⟨av, hav⟩ : ∃ av : Option Addr, av = some ⟨b, off, none⟩ := ⟨_, rfl⟩
      have hn1 := HN1.out
      subst hn1
      rw [← hav] at hrun hblk5 HM5 ⊢
      have HAV := Lib.hid hav
      clear hav
      obtain ⟨e, he⟩ : ∃ e : Lo, e = ⟨pc, A, ps.length, C, ps⟩ := ⟨_, rfl⟩
      have HEC := Lib.hid (show recLo.cell e = [.int .i64 (pc : Int), .slice A ps.length C] by rw [he]; rfl)
      have HEV := Lib.hid (show loV e = .slice A ps.length C by rw [he]; rfl)
      have HEA := Lib.hid (show e.at_ = pc ∧ e.ps = ps by rw [he]; exact ⟨rfl, rfl⟩)
      have HROW := Lib.hid hrow5
      have HBLK := Lib.hid hblk5
      obtain ⟨_, ⟨al, cl, rfl⟩, _⟩ := HM5.out.slices
      have c31 : w5.cell? ⟨G, 31, none⟩ = some (.slice al los.length cl) := HM5.out.cellR (k := 0) rfl
      have HOL := Lib.hid HM5.out.ol
      have hlo2 : (los.length : Int) ≤ 900 := by omega
      clear hown5 hrun0 hm0 hrow5 hblk5 he d0 hbl HR0 i3 i4 i5 HN1 HPL
      refine region_relA recLo los e 14 [(4, .exact _ (.slice al los.length cl)), (5, kOwnA recLo w5.heap.size los e), (8, .exact _ (.slice A ps.length C)), (10, kOneA recLo w5.heap.size los e), (11, kOwnB recLo w5.heap.size los e)] (by kernel_rfl) (by kernel_rfl) ?_
      simp only [List.take_succ_cons, List.take_zero, List.drop_succ_cons, List.drop_zero]
      (repeat (first | (refine wpG_skip (by kernel_rfl) (fun K hK => ?_); go_big_quiet_skip; refine wpQuiet_nil (hK _ ?_); clear hK K) | (refine wpG_quiet (by rfl) (by rfl) (fun K hK => ?_); go_big_quiet_want; go_big_quiet_op; go_big_quiet_on; refine wpQuiet_nil (hK _ ?_); clear hK K) | (refine wpG_nilOk rfl rfl rfl (by kernel_rfl) (fun K hK => ?_); go_simp; refine hK _ ?_; clear hK K)))
      refine wpG_exact rfl (by kernel_rfl) (fun w' G hB hS hG => ?_) (fun K hK => ?_)
      · have y := Below.keeps hB c31
        go_simp; exact hG _ (RelA.refl _)
      go_simp; refine hK _ ?_; clear hK K; (repeat (first | (refine wpG_skip (by kernel_rfl) (fun K hK => ?_); go_big_quiet_skip; refine wpQuiet_nil (hK _ ?_); clear hK K) | (refine wpG_quiet (by rfl) (by rfl) (fun K hK => ?_); go_big_quiet_want; go_big_quiet_op; go_big_quiet_on; refine wpQuiet_nil (hK _ ?_); clear hK K) | (refine wpG_nilOk rfl rfl rfl (by kernel_rfl) (fun K hK => ?_); go_simp; refine hK _ ?_; clear hK K)))
      refine wpG_known (kOwnA recLo w5.heap.size los e) rfl (by kernel_rfl) (fun w' G hB hS hG => ?_) (fun x K hK => ?_)
      · refine recLo.grow_copy _ _ 175 rfl Tryz.underlying175 w5.heap.size rfl _ los (HOL.out.below hB).row rfl (by show los.length * 32 ≤ _; omega) hB.size (fun A C w'' ho hb => hG (A, C) w'' (RelA.of_bel hB.size hb) (fun φ h => by cases h; exact ho))
      obtain ⟨ad, c⟩ := x; go_simp; refine hK _ ?_; clear hK K; (repeat (first | (refine wpG_skip (by kernel_rfl) (fun K hK => ?_); go_big_quiet_skip; refine wpQuiet_nil (hK _ ?_); clear hK K) | (refine wpG_quiet (by rfl) (by rfl) (fun K hK => ?_); go_big_quiet_want; go_big_quiet_op; go_big_quiet_on; refine wpQuiet_nil (hK _ ?_); clear hK K) | (refine wpG_nilOk rfl rfl rfl (by kernel_rfl) (fun K hK => ?_); go_simp; refine hK _ ?_; clear hK K)))
      refine wpG_exact rfl (by kernel_rfl) (fun w' G hB hS hG => ?_) (fun K hK => ?_)
      · go_simp; exact hG _ (RelA.refl _)
      go_simp; refine hK _ ?_; clear hK K; (repeat (first | (refine wpG_skip (by kernel_rfl) (fun K hK => ?_); go_big_quiet_skip; refine wpQuiet_nil (hK _ ?_); clear hK K) | (refine wpG_quiet (by rfl) (by rfl) (fun K hK => ?_); go_big_quiet_want; go_big_quiet_op; go_big_quiet_on; refine wpQuiet_nil (hK _ ?_); clear hK K) | (refine wpG_nilOk rfl rfl rfl (by kernel_rfl) (fun K hK => ?_); go_simp; refine hK _ ?_; clear hK K)))
      refine wpG_known (kOneA recLo w5.heap.size los e) rfl (by kernel_rfl) (fun w' G hB hS hG => ?_) (fun (bb : Nat) K hK => ?_)
      · go_simp; exact one_newA hG (by rw [HEC.out]) hB.size
      go_simp; refine hK _ ?_; clear hK K; (repeat (first | (refine wpG_skip (by kernel_rfl) (fun K hK => ?_); go_big_quiet_skip; refine wpQuiet_nil (hK _ ?_); clear hK K) | (refine wpG_quiet (by rfl) (by rfl) (fun K hK => ?_); go_big_quiet_want; go_big_quiet_op; go_big_quiet_on; refine wpQuiet_nil (hK _ ?_); clear hK K) | (refine wpG_nilOk rfl rfl rfl (by kernel_rfl) (fun K hK => ?_); go_simp; refine hK _ ?_; clear hK K)))
      refine wpG_known (kOwnB recLo w5.heap.size los e) rfl (by kernel_rfl) (fun w' G hB hS hG => ?_) (fun y K hK => ?_)
      · have hown : recLo.Own w' w5.heap.size (.slice ad los.length c) los := at1 hS (by kernel_rfl)
        have hone : w'.heap[bb]? = some (.cells (recLo.cell e).toArray recLo.e (0, 0)) := at0 hS (by kernel_rfl)
        exact recLo.grow_app1 _ _ 175 rfl Tryz.underlying175 w5.heap.size _ los e hown rfl bb rfl hone (by show (los.length + 1) * 32 ≤ _; omega) hB.size (fun A C w'' ho hr => hG (A, C) w'' hr (fun φ h => by cases h; exact ho))
      obtain ⟨ad2, c2⟩ := y
      go_simp; refine hK _ ?_; clear hK K; (repeat (first | (refine wpG_skip (by kernel_rfl) (fun K hK => ?_); go_big_quiet_skip; refine wpQuiet_nil (hK _ ?_); clear hK K) | (refine wpG_quiet (by rfl) (by rfl) (fun K hK => ?_); go_big_quiet_want; go_big_quiet_op; go_big_quiet_on; refine wpQuiet_nil (hK _ ?_); clear hK K) | (refine wpG_nilOk rfl rfl rfl (by kernel_rfl) (fun K hK => ?_); go_simp; refine hK _ ?_; clear hK K)))
      refine wpG_nilN ?_
      intro w6 hB6 hA6
      have ho6 : recLo.Own w6 w5.heap.size (.slice ad2 (los.length + 1) c2) (los ++ [e]) := all0 hA6
      have hn := HM5.out.newL (w3 := w6) (lv' := .slice ad2 (los.length + 1) c2) (e := e) (Chg.of_below hB6) (fun k hk => .inr (Rec.Own.ltV ho6 k hk).1) (ho6.baseLe HM5.out.size) (fun _ => by rw [HEV.out, HEA.out.2]; exact HROW.out.below hB6) (fun k hk => HBLK.out k (by rw [← HEV.out]; exact hk))
      have c31' := hn.2.2.2
      have f31 := hn.2.2.1
      have HN := Lib.hid hn
      clear hn ho6 hB6 hA6 c31
      go_wp2_with fail
      refine bodyPost_end (results_none rfl _ _ _) rfl ?_
      exact ⟨rfl, .inr ⟨p, ps, rfl, _, _, e, HEA.out.1, HEA.out.2, HN.out.1.drop⟩, HB5.out.trans HN.out.2.1⟩
end
end Go.Proofs.YtndagciefnddmaaGreatDoor
namespace Go.Proofs.YtndagciefnddmaaGreatDoor
open Go.RowKit Oct
attribute [local irreducible] wpG
section
variable {base G : Nat} {w w' w3 : World} {f : Rf} {at_ : Int} {st rg : List RV} {los l : List Lo} {e : Lo} {pr : List (List UInt8 × List UInt8)} {tv cv iv ev ow sv sv' lv lv' prv prv' : Value} {X : List (Pt base)}
set_option maxRecDepth 100000 in
set_option maxHeartbeats 8000000 in
theorem rendOp_not (y : UInt8) (pc o : Nat) (h : RM base w G ⟨tv, cv, iv, ev, ow⟩ (pc : Int) st rg los pr sv lv prv X) {own : List Int} {code : List VI} (how : recJ.Row w ow own) (hcv : recIns.Row w cv code) (hp : pc < own.length) (hol : own.length ≤ 1000) (hcl : code.length ≤ 1000) (ho : own[pc] = (o : Int)) (ho2 : o < code.length) (hne : code[o].1 ≠ 22) :
    Calls Tryz.prog 121 #[.pointer (some ⟨G, 0, none⟩), .agg #[.int .u8 21, .int .u8 (y.toNat : Int)]] w fun r w' => r = .returned (.tuple #[]) ∧ Below w.heap.size w w' := by
  obtain ⟨W1, hW1⟩ : ∃ W1, W1 = w.alloc (.cells #[.int .u8 21, .int .u8 (y.toNat : Int)] 92) := ⟨_, rfl⟩
  have hb1 : Below w.heap.size w W1 := by rw [hW1]; exact b_alloc _ _
  have hx : Blk W1 w.heap.size 92 [.int .u8 21, .int .u8 (y.toNat : Int)] := by rw [hW1]; exact Blk.new w _ _
  have x0 := hx.cell (k := 0) rfl
  have h1 := h.below hb1
  obtain ⟨a1, n1, how1, hoc⟩ := recJ_openM (how.below hb1)
  obtain ⟨b1, off1, rfl, d0⟩ := hoc pc hp
  subst how1
  rw [ho] at d0
  obtain ⟨a2, n2, hcv1, -, hcc⟩ := recIns_open (hcv.below hb1)
  obtain ⟨b2, off2, rfl, d1, -⟩ := hcc o ho2
  subst hcv1
  obtain ⟨q, hq⟩ : ∃ q, q = code[o].1 := ⟨_, rfl⟩
  rw [← hq] at d1 hne
  have t9 : ((q.toNat : Int) != 22) = true := by
    rw [bne_iff_ne]
    intro hh
    exact hne (UInt8.toNat_inj.1 (by show q.toNat = 22; omega))
  have c1 : W1.cell? ⟨G, 1, none⟩ = some (.slice (some ⟨b2, off2, none⟩) code.length n2) := h1.cell (k := 1) rfl
  have c4 : W1.cell? ⟨G, 4, none⟩ = some (.slice (some ⟨b1, off1, none⟩) own.length n1) := h1.cell (k := 4) rfl
  have c5 : W1.cell? ⟨G, 5, none⟩ = some (.int .i64 (pc : Int)) := h1.cell (k := 5) rfl
  have i0 : (0 : Int) ≤ (pc : Int) := by omega
  have i1 : (pc : Int) < (own.length : Int) := by omega
  have i2 : (own.length : Int) ≤ 1000 := by omega
  have i3 : (0 : Int) ≤ (o : Int) := by omega
  have i4 : (o : Int) < (code.length : Int) := by omega
  have i5 : (code.length : Int) ≤ 1000 := by omega
  have HB1 := Lib.hid hb1
  clear h h1 hb1 hx hoc hcc ho hq hne how hcv
  go_enter Tryz.func121, Tryz.ntmps121
  go_upto_region 1 with fail
  rw [← hW1]
  clear hW1
  go_wp2_with fail
  go_quiet (fail)
  go_wp2_with fail
  refine bodyPost_ret (results_none rfl _ _ _) rfl ?_
  exact ⟨rfl, bt HB1.out (Below.drewN' _ _)⟩
set_option maxRecDepth 100000 in
set_option maxHeartbeats 8000000 in
theorem rendOp_loop (y : UInt8) (pc o : Nat) (h : RM base w G ⟨tv, cv, iv, ev, ow⟩ (pc : Int) st rg (l ++ [e]) pr sv lv prv X) (hl : st.length ≤ 900) (hll : l.length ≤ 900) (hps : e.ps.length ≤ 2000) {own : List Int} {code : List VI} (how : recJ.Row w ow own) (hcv : recIns.Row w cv code) (hp : pc < own.length) (hol : own.length ≤ 1000) (hcl : code.length ≤ 1000) (ho : own[pc] = (o : Int)) (ho2 : o < code.length) (hne : code[o].1 = 22) :
    Calls Tryz.prog 121 #[.pointer (some ⟨G, 0, none⟩), .agg #[.int .u8 21, .int .u8 (y.toNat : Int)]] w fun r w' => r = .returned (.tuple #[]) ∧
      ((e.ps = [] ∧ ∃ lv', RM base w' G ⟨tv, cv, iv, ev, ow⟩ (pc : Int) st rg l pr sv lv' prv X) ∨
       (∃ p ps, e.ps = p :: ps ∧ ∃ sv' lv' e', e'.at_ = e.at_ ∧ e'.ps = ps ∧ RM base w' G ⟨tv, cv, iv, ev, ow⟩ (e.at_ : Int) ((true, 0, p) :: st) rg (l ++ [e']) pr sv' lv' prv X)) ∧ Below base w w' := by
  obtain ⟨W1, hW1⟩ : ∃ W1, W1 = w.alloc (.cells #[.int .u8 21, .int .u8 (y.toNat : Int)] 92) := ⟨_, rfl⟩
  have hb1 : Below w.heap.size w W1 := by rw [hW1]; exact b_alloc _ _
  have hx : Blk W1 w.heap.size 92 [.int .u8 21, .int .u8 (y.toNat : Int)] := by rw [hW1]; exact Blk.new w _ _
  have x0 := hx.cell (k := 0) rfl
  have h1 := h.below hb1
  obtain ⟨a1, n1, how1, hoc⟩ := recJ_openM (how.below hb1)
  obtain ⟨b1, off1, rfl, d0⟩ := hoc pc hp
  subst how1
  rw [ho] at d0
  obtain ⟨a2, n2, hcv1, -, hcc⟩ := recIns_open (hcv.below hb1)
  obtain ⟨b2, off2, rfl, d1, -⟩ := hcc o ho2
  subst hcv1
  obtain ⟨q, hq⟩ : ∃ q, q = code[o].1 := ⟨_, rfl⟩
  rw [← hq] at d1 hne
  have t9 : ((q.toNat : Int) != 22) = false := by rw [hne]; rfl
  have c1 : W1.cell? ⟨G, 1, none⟩ = some (.slice (some ⟨b2, off2, none⟩) code.length n2) := h1.cell (k := 1) rfl
  have c4 : W1.cell? ⟨G, 4, none⟩ = some (.slice (some ⟨b1, off1, none⟩) own.length n1) := h1.cell (k := 4) rfl
  have c5 : W1.cell? ⟨G, 5, none⟩ = some (.int .i64 (pc : Int)) := h1.cell (k := 5) rfl
  have i0 : (0 : Int) ≤ (pc : Int) := by omega
  have i1 : (pc : Int) < (own.length : Int) := by omega
  have i2 : (own.length : Int) ≤ 1000 := by omega
  have i3 : (0 : Int) ≤ (o : Int) := by omega
  have i4 : (o : Int) < (code.length : Int) := by omega
  have i5 : (code.length : Int) ≤ 1000 := by omega
  have HB1 := Lib.hid (hb1.mono h.size)
  obtain ⟨_, ⟨oa, oc, hov⟩, _⟩ := h1.slices
  rw [List.length_append, List.length_singleton] at hov
  subst hov
  have H1 := Lib.hid h1
  clear h h1 hb1 hx hoc hcc ho hq hne how hcv
  go_enter Tryz.func121, Tryz.ntmps121
  go_upto_region 1 with fail
  rw [← hW1]
  clear hW1
  go_wp2_with fail
  go_quiet (fail)
  go_upto_region 16 with fail
  obtain ⟨W2, hW2⟩ : ∃ W2, W2 = W1.drewN nq := ⟨_, rfl⟩
  have hb2 : Below W1.heap.size W1 W2 := by rw [hW2]; exact Below.drewN' _ _
  rw [← hW2]
  have hm2 := H1.out.below hb2
  have HB2 := Lib.hid (HB1.out.trans (hb2.mono H1.out.size))
  clear hW2 hb2 c1 c4 c5 d0 d1 i1 i2 i3 i4 i5 t9 x0 H1
  have c31 : W2.cell? ⟨G, 31, none⟩ = some (.slice oa (l.length + 1) oc) := hm2.cellR (k := 0) rfl
  obtain ⟨a', cap, hv, -, hcc⟩ := Rec.Row.open hm2.ol.row
  obtain ⟨b, off, ha, hu⟩ := hcc l.length (by simp)
  rw [List.length_append, List.length_singleton] at hv
  injection hv with e1 e2 e3
  subst e1 e3 ha
  clear e2
  have hg : (l ++ [e])[l.length]'(by simp) = e := by simp
  rw [hg] at hu
  have d0 := hu 0 _ rfl
  have d1 := hu 1 _ rfl
  change W2.cell? ⟨b, off + l.length * 2, none⟩ = _ at d0
  change W2.cell? ⟨b, off + l.length * 2 + 1, none⟩ = _ at d1
  obtain ⟨er, -⟩ := hm2.ow.1 e (by simp)
  obtain ⟨ea, ec, heq, -, -⟩ := recS_open er
  have hen : e.n = e.ps.length := by unfold loV at heq; injection heq
  rw [hen] at d1
  have hGl : G < W2.heap.size := hm2.blk.lt
  have hbl : b < W2.heap.size := lt_of_cell d0
  have hl1 : ((l.length : Int) + 1) - 1 = (l.length : Int) := by omega
  have hl2 : (0 : Int) ≤ (l.length : Int) := by omega
  have hl3 : (l.length : Int) < (l.length : Int) + 1 := by omega
  have hl4 : (l.length : Int) ≤ 900 := by omega
  have HM2 := Lib.hid hm2
  have HEN := Lib.hid hen
  clear hm2 hu hcc hg er heq hen
  go_region
  obtain ⟨T, hT⟩ : ∃ T, T = W2.heap.size := ⟨_, rfl⟩
  have hTb : base ≤ T := by rw [hT]; exact HM2.out.size
  obtain ⟨W3, hW3⟩ : ∃ W3, W3 = (W2.alloc (.cells #[.int .i64 (e.at_ : Int), .slice e.ad e.ps.length e.c] 232)).drew := ⟨_, rfl⟩
  have hm3 : RM base W3 G ⟨tv, .slice (some ⟨b2, off2, none⟩) code.length n2, iv, ev, .slice (some ⟨b1, off1, none⟩) own.length n1⟩ (pc : Int) st rg (l ++ [e]) pr sv (.slice (some ⟨b, off, none⟩) (l.length + 1) oc) prv (X ++ [blkPt T hTb 232 [.int .i64 (e.at_ : Int), .slice e.ad e.ps.length e.c]]) := by
    subst hT; rw [hW3]; exact (HM2.out.add [.int .i64 (e.at_ : Int), .slice e.ad e.ps.length e.c] 232).below (b_drew _)
  have HB3 := Lib.hid (show Below base w W3 by rw [hW3]; exact HB2.out.trans ((bt (b_alloc _ _) (b_drew _)).mono HM2.out.size))
  rw [← hW3, ← hT]
  clear hW3 hT HM2 HB2 d0 d1 c31 hGl hbl
  obtain ⟨g, hgv⟩ := hm3.ol.at0 (by simp)
  obtain rfl : off = 0 := by injection hgv with h1; injection h1
  clear hgv
  have c31 : W3.cell? ⟨G, 31, none⟩ = some (.slice (some ⟨b, 0, none⟩) (l.length + 1) oc) := hm3.cellR (k := 0) rfl
  have f31 := hm3.free (k := 31) (by decide)
  have hGl : G < W3.heap.size := hm3.blk.lt
  have ho : recLo.Own W3 base (.slice (some ⟨b, 0, none⟩) (l ++ [e]).length oc) (l ++ [e]) := by rw [List.length_append, List.length_singleton]; exact hm3.ol
  have hrun := ho.shortRun 175 Tryz.underlying175 (by intro wx; kernel_rfl) l.length (by simp)
  rw [List.length_append, List.length_singleton] at hrun
  have hsh : recLo.Own W3.drew base (.slice (some ⟨b, 0, none⟩) l.length oc) l := by
    have := (ho.below (b_drew W3)).short l.length (by simp)
    rwa [List.take_append_of_le_length (by simp), List.take_of_length_le (by simp)] at this
  have hn := (hm3.below (b_drew W3)).popL (lv' := .slice (some ⟨b, 0, none⟩) l.length oc) (fun k hk => hk) hsh
  have HN := Lib.hid hn
  have HM3 := Lib.hid hm3
  clear ho hsh hn hm3
  go_wp2_with fail
  go_region
  obtain ⟨hm4, hb4⟩ := HN.out
  obtain ⟨W4, hW4⟩ : ∃ W4, W4 = (W3.setCell ⟨G, 31, none⟩ (.slice (some ⟨b, 0, none⟩) l.length oc)).drew := ⟨_, rfl⟩
  have hm4 : RM base W4 G ⟨tv, .slice (some ⟨b2, off2, none⟩) code.length n2, iv, ev, .slice (some ⟨b1, off1, none⟩) own.length n1⟩ (pc : Int) st rg l pr sv (.slice (some ⟨b, 0, none⟩) l.length oc) prv ((X ++ [blkPt T hTb 232 [.int .i64 (e.at_ : Int), .slice e.ad e.ps.length e.c]]) ++ [loPt [e]]) := by rw [hW4]; exact hm4
  have HB4 := Lib.hid (show Below base w W4 by rw [hW4]; exact (HB3.out.trans ((b_drew W3).mono HM3.out.size)).trans hb4)
  rw [← hW4]
  clear hW4 hb4 HN HM3 HB3 c31 f31 hGl hrun
  have hTk : Blk W4 T 232 [.int .i64 (e.at_ : Int), .slice e.ad e.ps.length e.c] := hm4.loc (p := blkPt T hTb 232 [.int .i64 (e.at_ : Int), .slice e.ad e.ps.length e.c]) (by simp)
  have hlp : (loPt (base := base) [e]).P W4 := hm4.loc (p := loPt [e]) (by simp)
  have t0 := hTk.cell (k := 0) rfl
  have t1 := hTk.cell (k := 1) rfl
  have hrowe : recS.Row W4 (.slice e.ad e.ps.length e.c) e.ps := by
    have := (hlp.1 e (by simp)).1
    unfold loV at this
    rwa [HEN.out] at this
  have HM4 := Lib.hid hm4
  have HRE := Lib.hid hrowe
  clear hm4 hTk hlp hrowe
  cases hps0 : e.ps with
  | nil =>
    rw [hps0] at t1
    have HPS := Lib.hid hps0
    clear hps0
    go_wp2_with fail
    refine bodyPost_end (results_none rfl _ _ _) rfl ?_
    first
      | exact ⟨rfl, .inl ⟨HPS.out, _, HM4.out.drop.drop⟩, HB4.out⟩
      | exact ⟨rfl, .inl ⟨rfl, _, HM4.out.drop.drop⟩, HB4.out⟩
  | cons p ps =>
    have hrow := HRE.out
    rw [hps0] at t1 hrow hps
    have hps1 : ps.length + 1 ≤ 2000 := by simpa using hps
    have HPS := Lib.hid hps0
    obtain ⟨av', cp', hvv, -, hcc⟩ := recS_open hrow
    obtain ⟨b3, off3, hb3, d3⟩ := hcc 0 (by simp)
    injection hvv with e1 e2 e3
    rw [← e1] at hb3
    clear e1 e2 e3
    have d3 : W4.cell? ⟨b3, off3, none⟩ = some (.string (bs p)) := d3
    rw [hb3, List.length_cons] at t1
    have HAD := Lib.hid hb3
    have i6 : (0 : Int) < (ps.length : Int) + 1 := by omega
    have i7 : (ps.length : Int) + 1 ≤ 2000 := by omega
    clear hcc hrow hps0 hps hps1 hb3
    go_upto_region 20 with (first | (go_at_call 135; refine (rpush_any (true, 0, p) (HM4.out.below HC5.out) (by omega)).mono ?_; rintro r w6 ⟨rfl, ⟨sv6, hm⟩, hB⟩; have HM6 := Lib.hid hm; have HB6 := Lib.hid ((HB4.out.trans (HC5.out.mono HM4.out.size)).trans hB); clear hm hB) | (go_at_call 136; refine (rtext_any p _).mono ?_; rintro r w5 ⟨rfl, hB⟩; have HC5 := Lib.hid hB; clear hB))
    clear d3 t0 t1
    have hlp : (loPt (base := base) [e]).P w6 := HM6.out.loc (p := loPt [e]) (by simp)
    have hTk : Blk w6 T 232 [.int .i64 (e.at_ : Int), .slice e.ad e.ps.length e.c] := HM6.out.loc (p := blkPt T hTb 232 [.int .i64 (e.at_ : Int), .slice e.ad e.ps.length e.c]) (by simp)
    have hrow6 := (hlp.1 e (by simp)).1
    have HLE := Lib.hid (show (loV e).ownBlock = (Value.slice e.ad e.ps.length e.c).ownBlock by unfold loV; rw [HEN.out])
    unfold loV at hrow6
    rw [HEN.out] at hrow6
    obtain ⟨av, hav⟩ : ∃ av, av = e.ad := ⟨_, rfl⟩
    obtain ⟨cp, hcp⟩ : ∃ cp, cp = e.c := ⟨_, rfl⟩
    rw [← hav, ← hcp] at hrow6 hTk HLE
    rw [HPS.out] at hrow6 hTk HLE
    have t0 := hTk.cell (k := 0) rfl
    have t1 : w6.cell? ⟨T, 1, none⟩ = some (.slice av (ps.length + 1) cp) := hTk.cell (k := 1) rfl
    obtain ⟨A, C, hrun0, hrow5, hblk5⟩ := strs_cut (l := p :: ps) (a := av) (cap := cp) hrow6 1 (by simp)
    have hm0 : (p :: ps).length - 1 = ps.length := by simp
    rw [hm0] at hrun0 hrow5 hblk5
    have hrun : ∀ wx, (Instr.slice 22 (.slice av (ps.length + 1) cp) (some (.int .i64 1)) none none).run Tryz.prog wx = .ok (.slice A ps.length C) wx := fun wx => hrun0 wx
    have hrow5 : recS.Row w6 (.slice A ps.length C) ps := hrow5
    obtain ⟨e', he'⟩ : ∃ e' : Lo, e' = ⟨e.at_, A, ps.length, C, ps⟩ := ⟨_, rfl⟩
    have HEC := Lib.hid (show recLo.cell e' = [.int .i64 (e.at_ : Int), .slice A ps.length C] by rw [he']; rfl)
    have HEV := Lib.hid (show loV e' = .slice A ps.length C by rw [he']; rfl)
    have HEA := Lib.hid (show e'.at_ = e.at_ ∧ e'.ps = ps by rw [he']; exact ⟨rfl, rfl⟩)
    have HROW := Lib.hid hrow5
    have HBLK := Lib.hid (show ∀ k, (Value.slice A ps.length C).ownBlock = some k → (loPt (base := base) [e]).fp k from fun k hk => ⟨e, by simp, by rw [HLE.out]; exact hblk5 k hk⟩)
    obtain ⟨_, ⟨al, cl, hlv⟩, _⟩ := HM6.out.slices
    have c31 : w6.cell? ⟨G, 31, none⟩ = some (.slice (some ⟨b, 0, none⟩) l.length oc) := HM6.out.cellR (k := 0) rfl
    have HOL := Lib.hid HM6.out.ol
    obtain ⟨al2, hal2⟩ : ∃ al2 : Option Addr, al2 = some ⟨b, 0, none⟩ := ⟨_, rfl⟩
    rw [← hal2] at c31 HOL
    have HAL2 := Lib.hid hal2
    clear hlp hTk hrow6 hav hcp hrun0 hm0 hrow5 hblk5 he' hlv hal2 i6 i7
    refine region_relA recLo l e' 16 [(4, .exact _ (.slice al2 l.length oc)), (5, kOwnA recLo w6.heap.size l e'), (7, .exact _ (.int .i64 (e.at_ : Int))), (9, .exact _ (.slice av (ps.length + 1) cp)), (10, .exact _ (.slice A ps.length C)), (12, kOneA recLo w6.heap.size l e'), (13, kOwnB recLo w6.heap.size l e')] (by kernel_rfl) (by kernel_rfl) ?_
    simp only [List.take_succ_cons, List.take_zero, List.drop_succ_cons, List.drop_zero]
    (repeat (first | (refine wpG_skip (by kernel_rfl) (fun K hK => ?_); go_big_quiet_skip; refine wpQuiet_nil (hK _ ?_); clear hK K) | (refine wpG_quiet (by rfl) (by rfl) (fun K hK => ?_); go_big_quiet_want; go_big_quiet_op; go_big_quiet_on; refine wpQuiet_nil (hK _ ?_); clear hK K) | (refine wpG_nilOk rfl rfl rfl (by kernel_rfl) (fun K hK => ?_); go_simp; refine hK _ ?_; clear hK K)))
    refine wpG_exact rfl (by kernel_rfl) (fun w' G hB hS hG => ?_) (fun K hK => ?_)
    · have y := Below.keeps hB c31
      go_simp; exact hG _ (RelA.refl _)
    go_simp; refine hK _ ?_; clear hK K; (repeat (first | (refine wpG_skip (by kernel_rfl) (fun K hK => ?_); go_big_quiet_skip; refine wpQuiet_nil (hK _ ?_); clear hK K) | (refine wpG_quiet (by rfl) (by rfl) (fun K hK => ?_); go_big_quiet_want; go_big_quiet_op; go_big_quiet_on; refine wpQuiet_nil (hK _ ?_); clear hK K) | (refine wpG_nilOk rfl rfl rfl (by kernel_rfl) (fun K hK => ?_); go_simp; refine hK _ ?_; clear hK K)))
    refine wpG_known (kOwnA recLo w6.heap.size l e') rfl (by kernel_rfl) (fun w' G hB hS hG => ?_) (fun x K hK => ?_)
    · refine recLo.grow_copy _ _ 175 rfl Tryz.underlying175 w6.heap.size rfl _ l (HOL.out.below hB).row rfl (by show l.length * 32 ≤ _; omega) hB.size (fun A C w'' ho hb => hG (A, C) w'' (RelA.of_bel hB.size hb) (fun φ h => by cases h; exact ho))
    obtain ⟨ad, c⟩ := x; go_simp; refine hK _ ?_; clear hK K; (repeat (first | (refine wpG_skip (by kernel_rfl) (fun K hK => ?_); go_big_quiet_skip; refine wpQuiet_nil (hK _ ?_); clear hK K) | (refine wpG_quiet (by rfl) (by rfl) (fun K hK => ?_); go_big_quiet_want; go_big_quiet_op; go_big_quiet_on; refine wpQuiet_nil (hK _ ?_); clear hK K) | (refine wpG_nilOk rfl rfl rfl (by kernel_rfl) (fun K hK => ?_); go_simp; refine hK _ ?_; clear hK K)))
    refine wpG_exact rfl (by kernel_rfl) (fun w' G hB hS hG => ?_) (fun K hK => ?_)
    · have y := Below.keeps hB t0
      go_simp; exact hG _ (RelA.refl _)
    go_simp; refine hK _ ?_; clear hK K; (repeat (first | (refine wpG_skip (by kernel_rfl) (fun K hK => ?_); go_big_quiet_skip; refine wpQuiet_nil (hK _ ?_); clear hK K) | (refine wpG_quiet (by rfl) (by rfl) (fun K hK => ?_); go_big_quiet_want; go_big_quiet_op; go_big_quiet_on; refine wpQuiet_nil (hK _ ?_); clear hK K) | (refine wpG_nilOk rfl rfl rfl (by kernel_rfl) (fun K hK => ?_); go_simp; refine hK _ ?_; clear hK K)))
    refine wpG_exact rfl (by kernel_rfl) (fun w' G hB hS hG => ?_) (fun K hK => ?_)
    · have y := Below.keeps hB t1
      go_simp; exact hG _ (RelA.refl _)
    go_simp; refine hK _ ?_; clear hK K; (repeat (first | (refine wpG_skip (by kernel_rfl) (fun K hK => ?_); go_big_quiet_skip; refine wpQuiet_nil (hK _ ?_); clear hK K) | (refine wpG_quiet (by rfl) (by rfl) (fun K hK => ?_); go_big_quiet_want; go_big_quiet_op; go_big_quiet_on; refine wpQuiet_nil (hK _ ?_); clear hK K) | (refine wpG_nilOk rfl rfl rfl (by kernel_rfl) (fun K hK => ?_); go_simp; refine hK _ ?_; clear hK K)))
    refine wpG_exact rfl (by kernel_rfl) (fun w' G hB hS hG => ?_) (fun K hK => ?_)
    · go_simp; exact hG _ (RelA.refl _)
    go_simp; refine hK _ ?_; clear hK K; (repeat (first | (refine wpG_skip (by kernel_rfl) (fun K hK => ?_); go_big_quiet_skip; refine wpQuiet_nil (hK _ ?_); clear hK K) | (refine wpG_quiet (by rfl) (by rfl) (fun K hK => ?_); go_big_quiet_want; go_big_quiet_op; go_big_quiet_on; refine wpQuiet_nil (hK _ ?_); clear hK K) | (refine wpG_nilOk rfl rfl rfl (by kernel_rfl) (fun K hK => ?_); go_simp; refine hK _ ?_; clear hK K)))
    refine wpG_known (kOneA recLo w6.heap.size l e') rfl (by kernel_rfl) (fun w' G hB hS hG => ?_) (fun (bb : Nat) K hK => ?_)
    · go_simp; exact one_newA hG (by rw [HEC.out]) hB.size
    go_simp; refine hK _ ?_; clear hK K; (repeat (first | (refine wpG_skip (by kernel_rfl) (fun K hK => ?_); go_big_quiet_skip; refine wpQuiet_nil (hK _ ?_); clear hK K) | (refine wpG_quiet (by rfl) (by rfl) (fun K hK => ?_); go_big_quiet_want; go_big_quiet_op; go_big_quiet_on; refine wpQuiet_nil (hK _ ?_); clear hK K) | (refine wpG_nilOk rfl rfl rfl (by kernel_rfl) (fun K hK => ?_); go_simp; refine hK _ ?_; clear hK K)))
    refine wpG_known (kOwnB recLo w6.heap.size l e') rfl (by kernel_rfl) (fun w' G hB hS hG => ?_) (fun y K hK => ?_)
    · have hown : recLo.Own w' w6.heap.size (.slice ad l.length c) l := at1 hS (by kernel_rfl)
      have hone : w'.heap[bb]? = some (.cells (recLo.cell e').toArray recLo.e (0, 0)) := at0 hS (by kernel_rfl)
      exact recLo.grow_app1 _ _ 175 rfl Tryz.underlying175 w6.heap.size _ l e' hown rfl bb rfl hone (by show (l.length + 1) * 32 ≤ _; omega) hB.size (fun A C w'' ho hr => hG (A, C) w'' hr (fun φ h => by cases h; exact ho))
    obtain ⟨ad2, c2⟩ := y
    go_simp; refine hK _ ?_; clear hK K; (repeat (first | (refine wpG_skip (by kernel_rfl) (fun K hK => ?_); go_big_quiet_skip; refine wpQuiet_nil (hK _ ?_); clear hK K) | (refine wpG_quiet (by rfl) (by rfl) (fun K hK => ?_); go_big_quiet_want; go_big_quiet_op; go_big_quiet_on; refine wpQuiet_nil (hK _ ?_); clear hK K) | (refine wpG_nilOk rfl rfl rfl (by kernel_rfl) (fun K hK => ?_); go_simp; refine hK _ ?_; clear hK K)))
    refine wpG_nilN ?_
    intro w7 hB7 hA7
    have ho7 : recLo.Own w7 w6.heap.size (.slice ad2 (l.length + 1) c2) (l ++ [e']) := all0 hA7
    have hn := HM6.out.newL (w3 := w7) (lv' := .slice ad2 (l.length + 1) c2) (e := e') (Chg.of_below hB7) (fun k hk => .inr (Rec.Own.ltV ho7 k hk).1) (ho7.baseLe HM6.out.size) (fun _ => by rw [HEV.out, HEA.out.2]; exact HROW.out.below hB7) (fun k hk => HBLK.out k (by rw [← HEV.out]; exact hk))
    have c31' := hn.2.2.2
    have f31 := hn.2.2.1
    have HN := Lib.hid hn
    clear hn ho7 hB7 hA7 c31 t0 t1
    go_upto_region 21 with fail
    obtain ⟨W8, hW8⟩ : ∃ W8, W8 = w7.setCell ⟨G, 31, none⟩ (.slice ad2 (l.length + 1) c2) := ⟨_, rfl⟩
    rw [← hW8]
    have hn8 := HN.out.1
    rw [← hW8] at hn8
    have HB8 := Lib.hid (show Below base w W8 by rw [hW8]; exact HB6.out.trans HN.out.2.1)
    have hTk : Blk W8 T 232 [.int .i64 (e.at_ : Int), .slice e.ad e.ps.length e.c] := hn8.loc (p := blkPt T hTb 232 [.int .i64 (e.at_ : Int), .slice e.ad e.ps.length e.c]) (by simp)
    have t0 := hTk.cell (k := 0) rfl
    have c5 := hn8.cell (k := 5) rfl
    have f5 := hn8.free (k := 5) (by decide)
    have HN8 := Lib.hid hn8
    clear hn8 hTk hW8 HN c31' f31
    go_wp2_with fail
    refine bodyPost_end (results_none rfl _ _ _) rfl ?_
    obtain ⟨m9, b9⟩ := HN8.out.setAt (e.at_ : Int)
    first
      | exact ⟨rfl, .inr ⟨p, ps, HPS.out, _, _, e', HEA.out.1, HEA.out.2, m9.drop⟩, HB8.out.trans b9⟩
      | exact ⟨rfl, .inr ⟨p, ps, rfl, _, _, e', HEA.out.1, HEA.out.2, m9.drop⟩, HB8.out.trans b9⟩
end
end Go.Proofs.YtndagciefnddmaaGreatDoor
