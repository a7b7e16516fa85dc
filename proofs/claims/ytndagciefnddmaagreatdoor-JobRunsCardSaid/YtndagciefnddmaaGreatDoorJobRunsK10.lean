/- Lemmas for JobRuns, part 10: walks of the functions that it reaches, and the plain laws behind them. -/
import Derived.Deep.MidRow
import Derived.Maps.Own
import Derived.Maps.OwnOps
import Derived.Maps.OwnSet
import Derived.WalkKit
import Derived.Test.YtndagciefnddmaaGreatDoorJobRunsK2
import Derived.Test.YtndagciefnddmaaGreatDoorJobRunsK8
import Derived.Test.YtndagciefnddmaaGreatDoorJobRunsK9
set_option linter.unusedSimpArgs false
set_option linter.unusedVariables false
namespace Go.Proofs.YtndagciefnddmaaGreatDoor
open Go.RowKit Oct
attribute [local irreducible] wpG
section
variable {base G : Nat} {w w' w3 : World} {f : Rf} {at_ : Int} {st rg : List RV} {los : List Lo} {pr : List (List UInt8 × List UInt8)} {sv sv' lv lv' prv prv' : Value} {X : List (Pt base)}
set_option maxRecDepth 100000 in
set_option maxHeartbeats 4000000 in
theorem remit_full (y : UInt8) (h : RM base w G f at_ st rg los pr sv lv prv X) (hp : 256 ≤ pr.length) (hp2 : pr.length ≤ 256) :
    Calls Tryz.prog 120 #[.pointer (some ⟨G, 0, none⟩), .agg #[.int .u8 23, .int .u8 (y.toNat : Int)]] w fun e w' => e = .returned (.int .i64 4) ∧ Below base w w' := by
  obtain ⟨_, _, pa, pc, rfl⟩ := h.slices
  obtain ⟨W1, hW1⟩ : ∃ W1, W1 = w.alloc (.cells #[.int .u8 23, .int .u8 (y.toNat : Int)] 92) := ⟨_, rfl⟩
  have hb1 : Below w.heap.size w W1 := by rw [hW1]; exact b_alloc _ _
  have hx : Blk W1 w.heap.size 92 [.int .u8 23, .int .u8 (y.toNat : Int)] := by rw [hW1]; exact Blk.new w _ _
  have x0 := hx.cell (k := 0) rfl
  have c32 : W1.cell? ⟨G, 32, none⟩ = some (.slice pa pr.length pc) := (h.below hb1).cellR (k := 1) rfl
  have HB1 := Lib.hid (hb1.mono h.size)
  have t1 : (256 : Int) ≤ (pr.length : Int) := by omega
  have t2 : (pr.length : Int) ≤ 256 := by omega
  clear h hb1 hx
  go_enter Tryz.func120, Tryz.ntmps120
  go_upto_region 1 with fail
  rw [← hW1]
  clear hW1
  go_wp2_with fail
  go_ret
  exact ⟨rfl, HB1.out⟩
set_option maxRecDepth 100000 in
set_option maxHeartbeats 4000000 in
theorem remit_any (y : UInt8) (a b : RV) (h : RM base w G f at_ (b :: a :: st) rg los pr sv lv prv X) (hl : st.length ≤ 900) (hp : ¬ 256 ≤ pr.length) :
    Calls Tryz.prog 120 #[.pointer (some ⟨G, 0, none⟩), .agg #[.int .u8 23, .int .u8 (y.toNat : Int)]] w fun e w' => e = .returned (.int .i64 0) ∧ (∃ sv' prv', RM base w' G f at_ st rg los (pr ++ [(a.2.2, b.2.2)]) sv' lv prv' X) ∧ Below base w w' := by
  obtain ⟨_, _, pa, pc, rfl⟩ := h.slices
  obtain ⟨W1, hW1⟩ : ∃ W1, W1 = w.alloc (.cells #[.int .u8 23, .int .u8 (y.toNat : Int)] 92) := ⟨_, rfl⟩
  have hb1 : Below w.heap.size w W1 := by rw [hW1]; exact b_alloc _ _
  have hx : Blk W1 w.heap.size 92 [.int .u8 23, .int .u8 (y.toNat : Int)] := by rw [hW1]; exact Blk.new w _ _
  have x0 := hx.cell (k := 0) rfl
  have c32 : W1.cell? ⟨G, 32, none⟩ = some (.slice pa pr.length pc) := (h.below hb1).cellR (k := 1) rfl
  have HP := Lib.hid (rpop_any b (h.below hb1) (by simp; omega))
  have HB1 := Lib.hid (hb1.mono h.size)
  have t1 : ¬ (256 : Int) ≤ (pr.length : Int) := by omega
  have t2 : (pr.length : Int) ≤ 256 := by omega
  clear h hb1 hx
  go_enter Tryz.func120, Tryz.ntmps120
  go_upto_region 1 with fail
  rw [← hW1]
  clear hW1
  go_upto_region 24 with (go_at_call 97; refine HP.out.mono ?_; rintro r w2 ⟨rfl, ⟨sv, hm⟩, hB⟩; unfold rvV; have HM := Lib.hid hm; have HB := Lib.hid (HB1.out.trans hB); clear hm hB)
  obtain ⟨D, hD⟩ : ∃ D, D = w2.heap.size := ⟨_, rfl⟩
  obtain ⟨W2, hW2⟩ : ∃ W2, W2 = w2.alloc (.cells (rvCells b).toArray 173) := ⟨_, rfl⟩
  have hDb : base ≤ D := by rw [hD]; exact HM.out.size
  have hm2 : RM base W2 G f at_ (a :: st) rg los pr sv lv (.slice pa pr.length pc) (X ++ [blkPt D hDb 173 (rvCells b)]) := by subst hD; rw [hW2]; exact HM.out.add (rvCells b) 173
  have HB2 := Lib.hid (show Below base w W2 by rw [hW2]; exact HB.out.trans ((b_alloc _ _).mono HM.out.size))
  have HP2 := Lib.hid (rpop_any a hm2 (by omega))
  have hg : w2.alloc (.cells #[.bool b.1, .int .i64 b.2.1, .string (bs b.2.2)] 173) = W2 := hW2.symm
  rw [hg, ← hD]
  clear hg hW2 hD hm2 HM HB c32 x0
  go_upto_region 25 with (go_at_call 97; refine HP2.out.mono ?_; rintro r w3 ⟨rfl, ⟨sv3, hm⟩, hB⟩; unfold rvV; have HM3 := Lib.hid hm; have HB3 := Lib.hid (HB2.out.trans hB); clear hm hB)
  obtain ⟨D3, hD3⟩ : ∃ D3, D3 = w3.heap.size := ⟨_, rfl⟩
  obtain ⟨W3, hW3⟩ : ∃ W3, W3 = w3.alloc (.cells (rvCells a).toArray 173) := ⟨_, rfl⟩
  have hD3b : base ≤ D3 := by rw [hD3]; exact HM3.out.size
  have hm3 : RM base W3 G f at_ st rg los pr sv3 lv (.slice pa pr.length pc) ((X ++ [blkPt D hDb 173 (rvCells b)]) ++ [blkPt D3 hD3b 173 (rvCells a)]) := by subst hD3; rw [hW3]; exact HM3.out.add (rvCells a) 173
  have HB4 := Lib.hid (show Below base w W3 by rw [hW3]; exact HB3.out.trans ((b_alloc _ _).mono HM3.out.size))
  have hg : w3.alloc (.cells #[.bool a.1, .int .i64 a.2.1, .string (bs a.2.2)] 173) = W3 := hW3.symm
  rw [hg, ← hD3]
  clear hg hW3 hD3 HM3 HB3
  obtain ⟨d0, d1, d2, ld⟩ := hm3.atB (D := D) (hD := hDb) (v := b) (by simp)
  obtain ⟨e0, e1, e2, le⟩ := hm3.atB (D := D3) (hD := hD3b) (v := a) (by simp)
  have c32 : W3.cell? ⟨G, 32, none⟩ = some (.slice pa pr.length pc) := hm3.cellR (k := 1) rfl
  have hGl : G < W3.heap.size := hm3.blk.lt
  have h3d := hm3.below (b_drew W3)
  have hgb : base ≤ W3.drew.heap.size := h3d.size
  have hby : (pr.length + 1) * 32 ≤ 140737488355328 := by omega
  have hop := h3d.op
  have H3D := Lib.hid h3d
  have HM3 := Lib.hid hm3
  clear h3d hm3
  go_region_law (refine recKq.step_append1V W3.drew (a.2.2, b.2.2) rfl _ _ 28 rfl Tryz.underlying28 base (.slice pa pr.length pc) pr rfl hop _ rfl _ rfl _ rfl hby hgb ?_; intro g gc w4 hown hc hg; have hn := H3D.out.newP (prv' := .slice (some ⟨g, 0, none⟩) (pr.length + 1) gc) (l := pr ++ [(a.2.2, b.2.2)]) hc (fun k hk => by cases hk; exact hg) hown; have f32 := hn.2.2.1; have c32' := hn.2.2.2; have HN := Lib.hid hn; clear hn hown hc hg)
  all_goals
    (try simp only [List.getElem_toArray, List.getElem_cons_succ, List.getElem_cons_zero])
    (try go_frame)
    go_wp2_with fail
    go_ret
    exact ⟨rfl, ⟨_, _, HN.out.1.drop.drop⟩, (HB4.out.trans ((b_drew W3).mono HM3.out.size)).trans HN.out.2.1⟩
end
end Go.Proofs.YtndagciefnddmaaGreatDoor
namespace Go.Proofs.YtndagciefnddmaaGreatDoor
open Go.RowKit Oct
attribute [local irreducible] wpG
section
variable {base G : Nat} {w w' w3 : World} {f : Rf} {at_ : Int} {st rg : List RV} {los : List Lo} {pr : List (List UInt8 × List UInt8)} {sv sv' lv lv' prv prv' : Value} {X : List (Pt base)}
set_option maxRecDepth 100000 in
set_option maxHeartbeats 4000000 in
theorem rpartOp_any (y : UInt8) (b a t : RV) (h : RM base w G f at_ (b :: a :: t :: st) rg los pr sv lv prv X) (hl : st.length ≤ 900) (hb : vOk b.2) (ha : vOk a.2) (ht : vOk t.2) :
    Calls Tryz.prog 120 #[.pointer (some ⟨G, 0, none⟩), .agg #[.int .u8 6, .int .u8 (y.toNat : Int)]] w fun e w' => e = .returned (.int .i64 0) ∧ (∃ sv', RM base w' G f at_ ((true, 0, partM t.2.2 a.2.1 b.2.1) :: st) rg los pr sv' lv prv X) ∧ Below base w w' := by
  obtain ⟨W1, hW1⟩ : ∃ W1, W1 = w.alloc (.cells #[.int .u8 6, .int .u8 (y.toNat : Int)] 92) := ⟨_, rfl⟩
  have hb1 : Below w.heap.size w W1 := by rw [hW1]; exact b_alloc _ _
  have hx : Blk W1 w.heap.size 92 [.int .u8 6, .int .u8 (y.toNat : Int)] := by rw [hW1]; exact Blk.new w _ _
  have x0 := hx.cell (k := 0) rfl
  have HP := Lib.hid (rpop_any b (h.below hb1) (by simp; omega))
  have HB1 := Lib.hid (hb1.mono h.size)
  clear h hb1 hx
  go_enter Tryz.func120, Tryz.ntmps120
  go_upto_region 1 with fail
  rw [← hW1]
  clear hW1
  go_upto_region 12 with (go_at_call 97; refine HP.out.mono ?_; rintro r w2 ⟨rfl, ⟨sv, hm⟩, hB⟩; unfold rvV; have HM := Lib.hid hm; have HB := Lib.hid (HB1.out.trans hB); clear hm hB)
  obtain ⟨D, hD⟩ : ∃ D, D = w2.heap.size := ⟨_, rfl⟩
  obtain ⟨W2, hW2⟩ : ∃ W2, W2 = w2.alloc (.cells (rvCells b).toArray 173) := ⟨_, rfl⟩
  have hDb : base ≤ D := by rw [hD]; exact HM.out.size
  have hm2 : RM base W2 G f at_ (a :: t :: st) rg los pr sv lv prv (X ++ [blkPt D hDb 173 (rvCells b)]) := by subst hD; rw [hW2]; exact HM.out.add (rvCells b) 173
  have HB2 := Lib.hid (show Below base w W2 by rw [hW2]; exact HB.out.trans ((b_alloc _ _).mono HM.out.size))
  have HP2 := Lib.hid (rpop_any a hm2 (by simp; omega))
  have hg : w2.alloc (.cells #[.bool b.1, .int .i64 b.2.1, .string (bs b.2.2)] 173) = W2 := hW2.symm
  rw [hg, ← hD]
  clear hg hW2 hD hm2 HM HB x0
  go_upto_region 13 with (go_at_call 97; refine HP2.out.mono ?_; rintro r w3 ⟨rfl, ⟨sv3, hm⟩, hB⟩; unfold rvV; have HM3 := Lib.hid hm; have HB3 := Lib.hid (HB2.out.trans hB); clear hm hB)
  obtain ⟨D3, hD3⟩ : ∃ D3, D3 = w3.heap.size := ⟨_, rfl⟩
  obtain ⟨W3, hW3⟩ : ∃ W3, W3 = w3.alloc (.cells (rvCells a).toArray 173) := ⟨_, rfl⟩
  have hD3b : base ≤ D3 := by rw [hD3]; exact HM3.out.size
  have hm3 : RM base W3 G f at_ (t :: st) rg los pr sv3 lv prv ((X ++ [blkPt D hDb 173 (rvCells b)]) ++ [blkPt D3 hD3b 173 (rvCells a)]) := by subst hD3; rw [hW3]; exact HM3.out.add (rvCells a) 173
  have HB4 := Lib.hid (show Below base w W3 by rw [hW3]; exact HB3.out.trans ((b_alloc _ _).mono HM3.out.size))
  have hg : w3.alloc (.cells #[.bool a.1, .int .i64 a.2.1, .string (bs a.2.2)] 173) = W3 := hW3.symm
  rw [hg, ← hD3]
  clear hg hW3 hD3 HM3 HB3
  obtain ⟨d0, d1, d2, ld⟩ := hm3.atB (D := D) (hD := hDb) (v := b) (by simp)
  obtain ⟨e0, e1, e2, le⟩ := hm3.atB (D := D3) (hD := hD3b) (v := a) (by simp)
  have HM3 := Lib.hid hm3
  have HP3 := Lib.hid (rpop_any t (hm3.below (b_drew W3)) (by omega))
  have HPT := Lib.hid (fun w' => rpart_any t.2.2 a.2.1 b.2.1 w' ht.2.2 ⟨ha.1, ha.2.1⟩ ⟨hb.1, hb.2.1⟩)
  obtain ⟨q, hq⟩ : ∃ q, q = partM t.2.2 a.2.1 b.2.1 := ⟨_, rfl⟩
  rw [← hq] at HPT
  have HQ := Lib.hid hq
  clear hm3 hq hb ha ht
  go_region_law (first
    | (refine step_callM rfl 135 #[.pointer (some ⟨G, 0, none⟩), rvV (true, 0, q)] (by go_simp) (rpush_any (true, 0, q) HM6.out (by omega)) ?_; rintro r w7 ⟨rfl, ⟨sv7, hm⟩, hB⟩; have HM7 := Lib.hid hm; have HB7 := Lib.hid (HB6.out.trans hB); clear hm hB)
    | (refine step_callM rfl 136 #[.string (bs q)] (by go_simp) (rtext_any q w5) ?_; rintro r w6 ⟨rfl, hB⟩; have HM6 := Lib.hid (HM4.out.below (bt HC5.out hB)); obtain ⟨d0, d1, d2, ld⟩ := HM6.out.atB (D := D) (hD := hDb) (v := b) (by simp); obtain ⟨e0, e1, e2, le⟩ := HM6.out.atB (D := D3) (hD := hD3b) (v := a) (by simp); have HB6 := Lib.hid (HB5.out.trans ((bt HC5.out hB).mono HM4.out.size)); clear hB)
    | (refine step_callM rfl 140 #[.string (bs t.2.2), .int .i64 a.2.1, .int .i64 b.2.1] (by go_simp) (HPT.out w4) ?_; rintro r w5 ⟨rfl, hB⟩; have HC5 := Lib.hid hB; clear hB)
    | (refine step_callM rfl 97 #[.pointer (some ⟨G, 0, none⟩)] (by go_simp) HP3.out ?_; rintro r w4 ⟨rfl, ⟨sv4, hm⟩, hB⟩; unfold rvV; obtain ⟨d0, d1, d2, ld⟩ := hm.atB (D := D) (hD := hDb) (v := b) (by simp); obtain ⟨e0, e1, e2, le⟩ := hm.atB (D := D3) (hD := hD3b) (v := a) (by simp); have HM4 := Lib.hid hm; have HB5 := Lib.hid ((HB4.out.trans ((b_drew W3).mono HM3.out.size)).trans hB); clear hm hB))
  all_goals
    (try simp only [List.getElem_toArray, List.getElem_cons_succ, List.getElem_cons_zero])
    (try go_frame)
    go_wp2_with fail
    go_ret
    rw [← HQ.out]
    exact ⟨rfl, ⟨_, HM7.out.drop.drop⟩, HB7.out⟩
end
end Go.Proofs.YtndagciefnddmaaGreatDoor
namespace Go.Proofs.YtndagciefnddmaaGreatDoor
open Go.RowKit Oct
attribute [local irreducible] wpG
section
variable {base G : Nat} {w w' w3 : World} {f : Rf} {at_ : Int} {st rg : List RV} {los : List Lo} {pr : List (List UInt8 × List UInt8)} {tv cv iv ev ow sv sv' lv lv' prv prv' : Value} {X : List (Pt base)}
set_option maxRecDepth 100000 in
set_option maxHeartbeats 4000000 in
theorem rany_none (n : Nat) (y : UInt8) (w : World) (hn : n ≠ 1 ∧ n ≠ 2 ∧ n ≠ 3 ∧ n ≠ 14 ∧ n ≠ 15 ∧ n ≠ 16 ∧ n ≠ 17 ∧ n ≠ 18) :
    Calls Tryz.prog 118 #[.pointer (some ⟨G, 0, none⟩), .agg #[.int .u8 (n : Int), .int .u8 (y.toNat : Int)]] w fun e w' => e = .returned (.tuple #[]) ∧ Below w.heap.size w w' := by
  have t1 : ((n : Int) == 1) = false := by rw [beq_eq_false_iff_ne]; omega
  have t2 : ((n : Int) == 2) = false := by rw [beq_eq_false_iff_ne]; omega
  have t3 : ((n : Int) == 3) = false := by rw [beq_eq_false_iff_ne]; omega
  have t4 : ((n : Int) == 14) = false := by rw [beq_eq_false_iff_ne]; omega
  have t5 : ((n : Int) == 15) = false := by rw [beq_eq_false_iff_ne]; omega
  have t6 : ((n : Int) == 16) = false := by rw [beq_eq_false_iff_ne]; omega
  have t7 : ((n : Int) == 17) = false := by rw [beq_eq_false_iff_ne]; omega
  have t8 : ((n : Int) == 18) = false := by rw [beq_eq_false_iff_ne]; omega
  clear hn
  go_enter Tryz.func118, Tryz.ntmps118
  go_wp2_with fail
  refine bodyPost_end (results_none rfl _ _ _) rfl ?_
  exact ⟨rfl, b_alloc _ _⟩
set_option maxRecDepth 100000 in
set_option maxHeartbeats 4000000 in
theorem rtextOp_any (y : UInt8) (h : RM base w G ⟨tv, cv, iv, ev, ow⟩ at_ st rg los pr sv lv prv X) (hl : st.length ≤ 900) {l : List (List UInt8)} (ht : recS.Row w tv l) (hy : y.toNat < l.length) (hl2 : l.length ≤ 1000) :
    Calls Tryz.prog 118 #[.pointer (some ⟨G, 0, none⟩), .agg #[.int .u8 1, .int .u8 (y.toNat : Int)]] w fun e w' => e = .returned (.tuple #[]) ∧ (∃ sv', RM base w' G ⟨tv, cv, iv, ev, ow⟩ at_ ((true, 0, l.getD y.toNat []) :: st) rg los pr sv' lv prv X) ∧ Below base w w' := by
  obtain ⟨W1, hW1⟩ : ∃ W1, W1 = w.alloc (.cells #[.int .u8 1, .int .u8 (y.toNat : Int)] 92) := ⟨_, rfl⟩
  have hb1 : Below w.heap.size w W1 := by rw [hW1]; exact b_alloc _ _
  obtain ⟨D, hD⟩ : ∃ D, D = w.heap.size := ⟨_, rfl⟩
  have hx : Blk W1 D 92 [.int .u8 1, .int .u8 (y.toNat : Int)] := by rw [hD, hW1]; exact Blk.new w _ _
  have x0 := hx.cell (k := 0) rfl
  have x1 := hx.cell (k := 1) rfl
  obtain ⟨a, n, rfl, -, hc⟩ := recS_open (ht.below hb1)
  obtain ⟨b, off, rfl, d0⟩ := hc y.toNat hy
  have hg : l.getD y.toNat [] = l[y.toNat] := by rw [List.getD_eq_getElem?_getD, List.getElem?_eq_getElem hy]; rfl
  obtain ⟨u, hu⟩ : ∃ u, u = l[y.toNat] := ⟨_, rfl⟩
  rw [← hu] at d0 hg
  have h1 := h.below hb1
  have c0 : W1.cell? ⟨G, 0, none⟩ = some (.slice (some ⟨b, off, none⟩) l.length n) := h1.cell (k := 0) rfl
  have i0 : (0 : Int) ≤ (y.toNat : Int) := by omega
  have i1 : (y.toNat : Int) < (l.length : Int) := by omega
  have i2 : (l.length : Int) ≤ 1000 := by omega
  have HG := Lib.hid hg
  have H1 := Lib.hid h1
  have HB1 := Lib.hid (hb1.mono h.size)
  have HS := Lib.hid h.size
  clear h h1 hg ht hc hu hb1 hx
  go_enter Tryz.func118, Tryz.ntmps118
  go_upto_region 1 with fail
  rw [← hW1, ← hD]
  clear hW1 hD
  go_wp2_with fail
  go_region_law (first | (refine step_callM rfl 135 #[.pointer (some ⟨G, 0, none⟩), rvV (true, 0, u)] (by go_simp) (rpush_any (true, 0, u) (H1.out.below HB4.out) (by omega)) ?_; rintro r w5 ⟨rfl, ⟨sv5, hm⟩, hB⟩; have HM5 := Lib.hid hm; have HB5 := Lib.hid ((HB1.out.trans (HB4.out.mono H1.out.size)).trans hB); clear hm hB) | (refine step_callM rfl 136 #[.string (bs u)] (by go_simp) (rtext_any u W1.drew) ?_; rintro r w4 ⟨rfl, hB⟩; have HB4 := Lib.hid (bt (b_drew W1) hB); clear hB))
  all_goals
    (try simp only [List.getElem_toArray, List.getElem_cons_succ, List.getElem_cons_zero])
    (try go_frame)
    go_wp2_with fail
    refine bodyPost_end (results_none rfl _ _ _) rfl ?_
    rw [HG.out]
    exact ⟨rfl, ⟨_, HM5.out⟩, HB5.out⟩
set_option maxRecDepth 100000 in
set_option maxHeartbeats 4000000 in
theorem rinputOp_any (y : UInt8) (h : RM base w G ⟨tv, cv, iv, ev, ow⟩ at_ st rg los pr sv lv prv X) (hl : st.length ≤ 900) {l : List (List UInt8)} (ht : recS.Row w iv l) (hy : y.toNat < l.length) (hl2 : l.length ≤ 1000) :
    Calls Tryz.prog 118 #[.pointer (some ⟨G, 0, none⟩), .agg #[.int .u8 3, .int .u8 (y.toNat : Int)]] w fun e w' => e = .returned (.tuple #[]) ∧ (∃ sv', RM base w' G ⟨tv, cv, iv, ev, ow⟩ at_ ((true, 0, l.getD y.toNat []) :: st) rg los pr sv' lv prv X) ∧ Below base w w' := by
  obtain ⟨W1, hW1⟩ : ∃ W1, W1 = w.alloc (.cells #[.int .u8 3, .int .u8 (y.toNat : Int)] 92) := ⟨_, rfl⟩
  have hb1 : Below w.heap.size w W1 := by rw [hW1]; exact b_alloc _ _
  obtain ⟨D, hD⟩ : ∃ D, D = w.heap.size := ⟨_, rfl⟩
  have hx : Blk W1 D 92 [.int .u8 3, .int .u8 (y.toNat : Int)] := by rw [hD, hW1]; exact Blk.new w _ _
  have x0 := hx.cell (k := 0) rfl
  have x1 := hx.cell (k := 1) rfl
  obtain ⟨a, n, rfl, -, hc⟩ := recS_open (ht.below hb1)
  obtain ⟨b, off, rfl, d0⟩ := hc y.toNat hy
  have hg : l.getD y.toNat [] = l[y.toNat] := by rw [List.getD_eq_getElem?_getD, List.getElem?_eq_getElem hy]; rfl
  obtain ⟨u, hu⟩ : ∃ u, u = l[y.toNat] := ⟨_, rfl⟩
  rw [← hu] at d0 hg
  have h1 := h.below hb1
  have c0 : W1.cell? ⟨G, 2, none⟩ = some (.slice (some ⟨b, off, none⟩) l.length n) := h1.cell (k := 2) rfl
  have i0 : (0 : Int) ≤ (y.toNat : Int) := by omega
  have i1 : (y.toNat : Int) < (l.length : Int) := by omega
  have i2 : (l.length : Int) ≤ 1000 := by omega
  have HG := Lib.hid hg
  have H1 := Lib.hid h1
  have HB1 := Lib.hid (hb1.mono h.size)
  have HS := Lib.hid h.size
  clear h h1 hg ht hc hu hb1 hx
  go_enter Tryz.func118, Tryz.ntmps118
  go_upto_region 1 with fail
  rw [← hW1, ← hD]
  clear hW1 hD
  go_wp2_with fail
  go_region_law (first | (refine step_callM rfl 135 #[.pointer (some ⟨G, 0, none⟩), rvV (true, 0, u)] (by go_simp) (rpush_any (true, 0, u) (H1.out.below HB4.out) (by omega)) ?_; rintro r w5 ⟨rfl, ⟨sv5, hm⟩, hB⟩; have HM5 := Lib.hid hm; have HB5 := Lib.hid ((HB1.out.trans (HB4.out.mono H1.out.size)).trans hB); clear hm hB) | (refine step_callM rfl 136 #[.string (bs u)] (by go_simp) (rtext_any u W1.drew) ?_; rintro r w4 ⟨rfl, hB⟩; have HB4 := Lib.hid (bt (b_drew W1) hB); clear hB))
  all_goals
    (try simp only [List.getElem_toArray, List.getElem_cons_succ, List.getElem_cons_zero])
    (try go_frame)
    go_wp2_with fail
    refine bodyPost_end (results_none rfl _ _ _) rfl ?_
    rw [HG.out]
    exact ⟨rfl, ⟨_, HM5.out⟩, HB5.out⟩
set_option maxRecDepth 100000 in
set_option maxHeartbeats 4000000 in
theorem rnumOp_any (y : UInt8) (h : RM base w G f at_ st rg los pr sv lv prv X) (hl : st.length ≤ 900) :
    Calls Tryz.prog 118 #[.pointer (some ⟨G, 0, none⟩), .agg #[.int .u8 2, .int .u8 (y.toNat : Int)]] w fun e w' => e = .returned (.tuple #[]) ∧ (∃ sv', RM base w' G f at_ ((false, (y.toNat : Int), []) :: st) rg los pr sv' lv prv X) ∧ Below base w w' := by
  obtain ⟨W1, hW1⟩ : ∃ W1, W1 = w.alloc (.cells #[.int .u8 2, .int .u8 (y.toNat : Int)] 92) := ⟨_, rfl⟩
  have hb1 : Below w.heap.size w W1 := by rw [hW1]; exact b_alloc _ _
  obtain ⟨D1, hD1⟩ : ∃ D1, D1 = w.heap.size := ⟨_, rfl⟩
  have hx : Blk W1 D1 92 [.int .u8 2, .int .u8 (y.toNat : Int)] := by rw [hD1, hW1]; exact Blk.new w _ _
  have x0 := hx.cell (k := 0) rfl
  have x1 := hx.cell (k := 1) rfl
  have HB1 := Lib.hid (hb1.mono h.size)
  have H1 := Lib.hid (h.below hb1)
  have cw : wrap64 (y.toNat : Int) = (y.toNat : Int) := by have := y.toNat_lt; unfold wrap64; omega
  have HCW := Lib.hid cw
  clear h hb1 hx
  go_enter Tryz.func118, Tryz.ntmps118
  go_upto_region 1 with fail
  rw [← hW1, ← hD1]
  clear hW1 hD1
  go_wp2_with (first | (go_at_call 135; refine (rpush_any (false, (y.toNat : Int), []) HM4.out (by omega)).mono ?_; rintro r w5 ⟨rfl, ⟨sv5, hm⟩, hB⟩; have HM5 := Lib.hid hm; have HB5 := Lib.hid (HB4.out.trans hB); clear hm hB) | (go_at_call 137; refine (rnum_any (y.toNat : Int) _).mono ?_; rintro r w4 ⟨rfl, hB⟩; have HM4 := Lib.hid (H1.out.below hB); have HB4 := Lib.hid (HB1.out.trans (hB.mono H1.out.size)); clear hB))
  refine bodyPost_end (results_none rfl _ _ _) rfl ?_
  exact ⟨rfl, ⟨_, HM5.out⟩, HB5.out⟩
set_option maxRecDepth 100000 in
set_option maxHeartbeats 4000000 in
theorem rdropOp_any (y : UInt8) (a : RV) (h : RM base w G f at_ (a :: st) rg los pr sv lv prv X) (hl : st.length ≤ 900) :
    Calls Tryz.prog 118 #[.pointer (some ⟨G, 0, none⟩), .agg #[.int .u8 14, .int .u8 (y.toNat : Int)]] w fun e w' => e = .returned (.tuple #[]) ∧ (∃ sv', RM base w' G f at_ st rg los pr sv' lv prv X) ∧ Below base w w' := by
  obtain ⟨W1, hW1⟩ : ∃ W1, W1 = w.alloc (.cells #[.int .u8 14, .int .u8 (y.toNat : Int)] 92) := ⟨_, rfl⟩
  have hb1 : Below w.heap.size w W1 := by rw [hW1]; exact b_alloc _ _
  obtain ⟨D1, hD1⟩ : ∃ D1, D1 = w.heap.size := ⟨_, rfl⟩
  have hx : Blk W1 D1 92 [.int .u8 14, .int .u8 (y.toNat : Int)] := by rw [hD1, hW1]; exact Blk.new w _ _
  have x0 := hx.cell (k := 0) rfl
  have x1 := hx.cell (k := 1) rfl
  have HB1 := Lib.hid (hb1.mono h.size)
  have HP := Lib.hid (rpop_any a (h.below hb1) (by omega))
  clear h hb1 hx
  go_enter Tryz.func118, Tryz.ntmps118
  go_upto_region 1 with fail
  rw [← hW1, ← hD1]
  clear hW1 hD1
  go_wp2_with (go_at_call 97; refine HP.out.mono ?_; rintro r w2 ⟨rfl, ⟨sv, hm⟩, hB⟩; unfold rvV; have HM := Lib.hid hm; have HB := Lib.hid hB; clear hm hB)
  refine bodyPost_end (results_none rfl _ _ _) rfl ?_
  exact ⟨rfl, ⟨_, HM.out⟩, HB1.out.trans HB.out⟩
set_option maxRecDepth 100000 in
set_option maxHeartbeats 4000000 in
theorem rdupOp_any (y : UInt8) (a : RV) (h : RM base w G f at_ (a :: st) rg los pr sv lv prv X) (hl : st.length ≤ 900) :
    Calls Tryz.prog 118 #[.pointer (some ⟨G, 0, none⟩), .agg #[.int .u8 15, .int .u8 (y.toNat : Int)]] w fun e w' => e = .returned (.tuple #[]) ∧ (∃ sv', RM base w' G f at_ (a :: a :: st) rg los pr sv' lv prv X) ∧ Below base w w' := by
  obtain ⟨W1, hW1⟩ : ∃ W1, W1 = w.alloc (.cells #[.int .u8 15, .int .u8 (y.toNat : Int)] 92) := ⟨_, rfl⟩
  have hb1 : Below w.heap.size w W1 := by rw [hW1]; exact b_alloc _ _
  obtain ⟨D1, hD1⟩ : ∃ D1, D1 = w.heap.size := ⟨_, rfl⟩
  have hx : Blk W1 D1 92 [.int .u8 15, .int .u8 (y.toNat : Int)] := by rw [hD1, hW1]; exact Blk.new w _ _
  have x0 := hx.cell (k := 0) rfl
  have x1 := hx.cell (k := 1) rfl
  have HB1 := Lib.hid (hb1.mono h.size)
  have HP := Lib.hid (rpop_any a (h.below hb1) (by omega))
  clear h hb1 hx
  go_enter Tryz.func118, Tryz.ntmps118
  go_upto_region 1 with fail
  rw [← hW1, ← hD1]
  clear hW1 hD1
  go_upto_region 12 with (go_at_call 97; refine HP.out.mono ?_; rintro r w2 ⟨rfl, ⟨sv, hm⟩, hB⟩; unfold rvV; have HM := Lib.hid hm; have HB := Lib.hid (HB1.out.trans hB); clear hm hB)
  obtain ⟨D, hD⟩ : ∃ D, D = w2.heap.size := ⟨_, rfl⟩
  obtain ⟨W2, hW2⟩ : ∃ W2, W2 = w2.alloc (.cells (rvCells a).toArray 173) := ⟨_, rfl⟩
  have hDb : base ≤ D := by rw [hD]; exact HM.out.size
  have hm2 : RM base W2 G f at_ (st) rg los pr sv lv prv (X ++ [blkPt D hDb 173 (rvCells a)]) := by subst hD; rw [hW2]; exact HM.out.add (rvCells a) 173
  have HB2 := Lib.hid (show Below base w W2 by rw [hW2]; exact HB.out.trans ((b_alloc _ _).mono HM.out.size))
  have hg : w2.alloc (.cells #[.bool a.1, .int .i64 a.2.1, .string (bs a.2.2)] 173) = W2 := hW2.symm
  rw [hg, ← hD]
  clear hg hW2 hD HM HB
  obtain ⟨d0, d1, d2, ld⟩ := hm2.atB (D := D) (hD := hDb) (v := a) (by simp)
  have HM2 := Lib.hid hm2
  clear hm2
  go_upto_region 13 with (go_at_call 135; refine (rpush_any a HM2.out (by omega)).mono ?_; rintro r w3 ⟨rfl, ⟨sv3, hm⟩, hB⟩; have HM3 := Lib.hid hm; have HB3 := Lib.hid (HB2.out.trans hB); clear hm hB)
  clear d0 d1 d2 ld
  obtain ⟨d0, d1, d2, ld⟩ := HM3.out.atB (D := D) (hD := hDb) (v := a) (by simp)
  go_wp2_with (go_at_call 135; refine (rpush_any a HM3.out (by simp; omega)).mono ?_; rintro r w4 ⟨rfl, ⟨sv4, hm⟩, hB⟩; have HM4 := Lib.hid hm; have HB4 := Lib.hid (HB3.out.trans hB); clear hm hB)
  refine bodyPost_end (results_none rfl _ _ _) rfl ?_
  exact ⟨rfl, ⟨_, HM4.out.drop⟩, HB4.out⟩
set_option maxRecDepth 100000 in
set_option maxHeartbeats 4000000 in
theorem rswapOp_any (y : UInt8) (a b : RV) (h : RM base w G f at_ (b :: a :: st) rg los pr sv lv prv X) (hl : st.length ≤ 900) :
    Calls Tryz.prog 118 #[.pointer (some ⟨G, 0, none⟩), .agg #[.int .u8 16, .int .u8 (y.toNat : Int)]] w fun e w' => e = .returned (.tuple #[]) ∧ (∃ sv', RM base w' G f at_ (a :: b :: st) rg los pr sv' lv prv X) ∧ Below base w w' := by
  obtain ⟨W1, hW1⟩ : ∃ W1, W1 = w.alloc (.cells #[.int .u8 16, .int .u8 (y.toNat : Int)] 92) := ⟨_, rfl⟩
  have hb1 : Below w.heap.size w W1 := by rw [hW1]; exact b_alloc _ _
  obtain ⟨D1, hD1⟩ : ∃ D1, D1 = w.heap.size := ⟨_, rfl⟩
  have hx : Blk W1 D1 92 [.int .u8 16, .int .u8 (y.toNat : Int)] := by rw [hD1, hW1]; exact Blk.new w _ _
  have x0 := hx.cell (k := 0) rfl
  have x1 := hx.cell (k := 1) rfl
  have HB1 := Lib.hid (hb1.mono h.size)
  have HP := Lib.hid (rpop_any b (h.below hb1) (by simp; omega))
  clear h hb1 hx
  go_enter Tryz.func118, Tryz.ntmps118
  go_upto_region 1 with fail
  rw [← hW1, ← hD1]
  clear hW1 hD1
  go_upto_region 16 with (go_at_call 97; refine HP.out.mono ?_; rintro r w2 ⟨rfl, ⟨sv, hm⟩, hB⟩; unfold rvV; have HM := Lib.hid hm; have HB := Lib.hid (HB1.out.trans hB); clear hm hB)
  obtain ⟨D, hD⟩ : ∃ D, D = w2.heap.size := ⟨_, rfl⟩
  obtain ⟨W2, hW2⟩ : ∃ W2, W2 = w2.alloc (.cells (rvCells b).toArray 173) := ⟨_, rfl⟩
  have hDb : base ≤ D := by rw [hD]; exact HM.out.size
  have hm2 : RM base W2 G f at_ (a :: st) rg los pr sv lv prv (X ++ [blkPt D hDb 173 (rvCells b)]) := by subst hD; rw [hW2]; exact HM.out.add (rvCells b) 173
  have HB2 := Lib.hid (show Below base w W2 by rw [hW2]; exact HB.out.trans ((b_alloc _ _).mono HM.out.size))
  have hg : w2.alloc (.cells #[.bool b.1, .int .i64 b.2.1, .string (bs b.2.2)] 173) = W2 := hW2.symm
  rw [hg, ← hD]
  clear hg hW2 hD HM HB
  have HP2 := Lib.hid (rpop_any a hm2 (by omega))
  clear hm2
  go_upto_region 17 with (go_at_call 97; refine HP2.out.mono ?_; rintro r w3 ⟨rfl, ⟨sv3, hm⟩, hB⟩; unfold rvV; have HM3 := Lib.hid hm; have HB3 := Lib.hid (HB2.out.trans hB); clear hm hB)
  obtain ⟨D3, hD3⟩ : ∃ D3, D3 = w3.heap.size := ⟨_, rfl⟩
  obtain ⟨W3, hW3⟩ : ∃ W3, W3 = w3.alloc (.cells (rvCells a).toArray 173) := ⟨_, rfl⟩
  have hD3b : base ≤ D3 := by rw [hD3]; exact HM3.out.size
  have hm3 : RM base W3 G f at_ st rg los pr sv3 lv prv ((X ++ [blkPt D hDb 173 (rvCells b)]) ++ [blkPt D3 hD3b 173 (rvCells a)]) := by subst hD3; rw [hW3]; exact HM3.out.add (rvCells a) 173
  have HB4 := Lib.hid (show Below base w W3 by rw [hW3]; exact HB3.out.trans ((b_alloc _ _).mono HM3.out.size))
  have hg : w3.alloc (.cells #[.bool a.1, .int .i64 a.2.1, .string (bs a.2.2)] 173) = W3 := hW3.symm
  rw [hg, ← hD3]
  clear hg hW3 hD3 HM3 HB3
  obtain ⟨d0, d1, d2, ld⟩ := hm3.atB (D := D) (hD := hDb) (v := b) (by simp)
  have HM3 := Lib.hid hm3
  clear hm3
  go_upto_region 18 with (go_at_call 135; refine (rpush_any b HM3.out (by omega)).mono ?_; rintro r w5 ⟨rfl, ⟨sv5, hm⟩, hB⟩; have HM5 := Lib.hid hm; have HB5 := Lib.hid (HB4.out.trans hB); clear hm hB)
  clear d0 d1 d2 ld
  obtain ⟨e0, e1, e2, le⟩ := HM5.out.atB (D := D3) (hD := hD3b) (v := a) (by simp)
  go_wp2_with (go_at_call 135; refine (rpush_any a HM5.out (by simp; omega)).mono ?_; rintro r w6 ⟨rfl, ⟨sv6, hm⟩, hB⟩; have HM6 := Lib.hid hm; have HB6 := Lib.hid (HB5.out.trans hB); clear hm hB)
  refine bodyPost_end (results_none rfl _ _ _) rfl ?_
  exact ⟨rfl, ⟨_, HM6.out.drop.drop⟩, HB6.out⟩
set_option maxRecDepth 100000 in
set_option maxHeartbeats 4000000 in
theorem rgetOp_any (y : UInt8) (hy : y.toNat < 8) (h : RM base w G f at_ st rg los pr sv lv prv X) (hl : st.length ≤ 900) :
    Calls Tryz.prog 118 #[.pointer (some ⟨G, 0, none⟩), .agg #[.int .u8 17, .int .u8 (y.toNat : Int)]] w fun e w' => e = .returned (.tuple #[]) ∧ (∃ sv', RM base w' G f at_ (rg.getD y.toNat (false, 0, []) :: st) rg los pr sv' lv prv X) ∧ Below base w w' := by
  obtain ⟨W1, hW1⟩ : ∃ W1, W1 = w.alloc (.cells #[.int .u8 17, .int .u8 (y.toNat : Int)] 92) := ⟨_, rfl⟩
  have hb1 : Below w.heap.size w W1 := by rw [hW1]; exact b_alloc _ _
  obtain ⟨D1, hD1⟩ : ∃ D1, D1 = w.heap.size := ⟨_, rfl⟩
  have hx : Blk W1 D1 92 [.int .u8 17, .int .u8 (y.toNat : Int)] := by rw [hD1, hW1]; exact Blk.new w _ _
  have x0 := hx.cell (k := 0) rfl
  have x1 := hx.cell (k := 1) rfl
  have HB1 := Lib.hid (hb1.mono h.size)
  have H1 := Lib.hid (h.below hb1)
  obtain ⟨q0, q1, q2⟩ := H1.out.reg hy
  have hGl : G < W1.heap.size := H1.out.blk.lt
  have i0 : (0 : Int) ≤ (y.toNat : Int) := by omega
  have i1 : (y.toNat : Int) < 8 := by omega
  obtain ⟨v, hv⟩ : ∃ v, v = rg.getD y.toNat (false, 0, []) := ⟨_, rfl⟩
  rw [← hv] at q0 q1 q2
  have HV := Lib.hid hv
  clear h hb1 hx hv
  go_enter Tryz.func118, Tryz.ntmps118
  go_upto_region 1 with fail
  rw [← hW1, ← hD1]
  clear hW1 hD1
  go_wp2_with fail
  go_region_law (refine step_callM rfl 135 #[.pointer (some ⟨G, 0, none⟩), rvV v] (by go_simp; rfl) (rpush_any v (H1.out.below (b_drew W1)) (by omega)) ?_; rintro r w5 ⟨rfl, ⟨sv5, hm⟩, hB⟩; have HM5 := Lib.hid hm; have HB5 := Lib.hid ((HB1.out.trans ((b_drew W1).mono H1.out.size)).trans hB); clear hm hB)
  all_goals
    (try simp only [List.getElem_toArray, List.getElem_cons_succ, List.getElem_cons_zero])
    (try go_frame)
    go_wp2_with fail
    refine bodyPost_end (results_none rfl _ _ _) rfl ?_
    rw [← HV.out]
    exact ⟨rfl, ⟨_, HM5.out⟩, HB5.out⟩
end
end Go.Proofs.YtndagciefnddmaaGreatDoor
namespace Go.Proofs.YtndagciefnddmaaGreatDoor
open Go.RowKit Oct
attribute [local irreducible] wpG
theorem blk_storeN {P : Program} {ops : Array Oper} {rest : List Oper} {op : Oper} {a : Act} {w : World} {Q : Exit → Act → World → Prop} (b : Nat) (cs cs' : List Value) {t : TypeId} (h : Blk w b t cs) (hgd : op.guard = none) (ty : TypeId) (x y : Operand) (ho : op.op = .store ty x y) (hx : a.eval x = .pointer (some ⟨b, 0, none⟩))
    (hy : a.eval y = .agg cs'.toArray) (hi : (P.info? ty).map (·.size) = some cs'.length) (hl : cs.length = cs'.length) (h1 : cs'.toArray.all (·.oneCell') = true)
    (k : ∀ w', Hid (w.setRow b cs'.toArray = w') → wpList P ops Q rest (a.put op.dst undef) w') : wpList P ops Q (op :: rest) a w :=
  blk_store b cs cs' h hgd ty x y ho hx hy hi hl h1 (k _ rfl)
def setL : List Value → Nat → List Value → List Value
  | cs, _, [] => cs
  | cs, o, v :: r => setL (cs.set o v) (o + 1) r
theorem Blk.setCells {b : Nat} {t : TypeId} : ∀ (vs : List Value) (o : Nat) (w : World) (cs : List Value), Blk w b t cs → Blk (w.setCells b o vs) b t (setL cs o vs)
  | [], _, _, _, h => h
  | v :: r, o, w, cs, h => Blk.setCells r (o + 1) (w.setCell ⟨b, o, none⟩ v) (cs.set o v) (h.set o v)
theorem Chg.setCells {b : Nat} : ∀ (vs : List Value) (o : Nat) (w : World), Chg (fun k => k = b) w (w.setCells b o vs)
  | [], _, _ => Chg.refl _ _
  | v :: r, o, w => by
    have h1 : Chg (fun k => k = b) w (w.setCell ⟨b, o, none⟩ v) := Chg.setCell w ⟨b, o, none⟩ v rfl
    exact h1.trans (Chg.setCells r (o + 1) _)
theorem setL_regs {f : Rf} {at_ : Int} {sv lv prv : Value} {rg rg' : List RV} (h : rg.length = 8) (h' : rg'.length = 8) : setL (rCells f at_ sv rg lv prv) 7 (recVa.cells rg') = rCells f at_ sv rg' lv prv := by
  obtain ⟨a, b, c, d, e, g, i, j, rfl⟩ := eightR h
  obtain ⟨a', b', c', d', e', g', i', j', rfl⟩ := eightR h'
  kernel_rfl
theorem regs_len {rg : List RV} (h : rg.length = 8) : (recVa.cells rg).length = 24 := by rw [Rec.cells_length, h]; rfl
theorem regs_one (rg : List RV) : (recVa.cells rg).toArray.all (·.oneCell') = true := all_oneCell_toArray (recVa.cells_one rg)
def zreg : List Value := [.bool false, .int .i64 0, .string ⟨#[]⟩, .bool false, .int .i64 0, .string ⟨#[]⟩, .bool false, .int .i64 0, .string ⟨#[]⟩, .bool false, .int .i64 0, .string ⟨#[]⟩, .bool false, .int .i64 0, .string ⟨#[]⟩, .bool false, .int .i64 0, .string ⟨#[]⟩, .bool false, .int .i64 0, .string ⟨#[]⟩, .bool false, .int .i64 0, .string ⟨#[]⟩]
theorem regs_size {rg : List RV} (h : rg.length = 8) : (Tryz.prog.info? 174).map (·.size) = some (recVa.cells rg).length := by rw [regs_len h]; kernel_rfl
theorem set_regs {rg : List RV} {i : Nat} (hi : i < rg.length) (v : RV) : (((recVa.cells rg).set (i * 3) (.bool v.1)).set (i * 3 + 1) (.int .i64 v.2.1)).set (i * 3 + 2) (.string (bs v.2.2)) = recVa.cells (rg.set i v) := by
  induction rg generalizing i with
  | nil => simp at hi
  | cons x rg ih =>
    cases i with
    | zero => rfl
    | succ i =>
      have e0 : (i + 1) * 3 = i * 3 + 3 := by omega
      have := ih (i := i) (by simpa using hi)
      rw [e0]
      show (((_ :: _ :: _ :: recVa.cells rg).set (i * 3 + 3) _).set (i * 3 + 3 + 1) _).set (i * 3 + 3 + 2) _ = _ :: _ :: _ :: recVa.cells (rg.set i v)
      rw [← this]
      rfl
theorem mv3 {w : World} {T : Nat} {t : TypeId} {rg : List RV} (hb : Blk w T t (recVa.cells rg)) (i : Nat) (v : RV) (hi : i < rg.length) :
    Blk (((w.setCell ⟨T, i * 3, none⟩ (.bool v.1)).setCell ⟨T, i * 3 + 1, none⟩ (.int .i64 v.2.1)).setCell ⟨T, i * 3 + 2, none⟩ (.string (bs v.2.2))) T t (recVa.cells (rg.set i v)) ∧
    Chg (fun k => k = T) w (((w.setCell ⟨T, i * 3, none⟩ (.bool v.1)).setCell ⟨T, i * 3 + 1, none⟩ (.int .i64 v.2.1)).setCell ⟨T, i * 3 + 2, none⟩ (.string (bs v.2.2))) := by
  refine ⟨?_, Chg.trans (Chg.trans (Chg.setCell w ⟨T, i * 3, none⟩ _ rfl) (Chg.setCell _ ⟨T, i * 3 + 1, none⟩ _ rfl)) (Chg.setCell _ ⟨T, i * 3 + 2, none⟩ _ rfl)⟩
  have := ((hb.set (i * 3) (.bool v.1)).set (i * 3 + 1) (.int .i64 v.2.1)).set (i * 3 + 2) (.string (bs v.2.2))
  rw [set_regs hi v] at this
  exact this
section
variable {base G : Nat} {w w' w3 : World} {f : Rf} {at_ : Int} {st rg rg' : List RV} {los : List Lo} {pr : List (List UInt8 × List UInt8)} {tv cv iv ev ow sv sv' lv lv' prv prv' : Value} {X : List (Pt base)}
theorem RM.regRange (h : RM base w G f at_ st rg los pr sv lv prv X) : w.rangeAt G 7 (recVa.cells rg) := by
  intro j v hv
  refine h.blk.cell (k := 7 + j) ?_
  unfold rCells
  rw [List.getElem?_append_right (by simp)]
  rw [List.getElem?_append_left (by have := (List.getElem?_eq_some_iff.1 hv).1; simp; omega)]
  rw [← hv]
  congr 1
  simp
theorem RM.regThere (h : RM base w G f at_ st rg los pr sv lv prv X) (n : Nat) (hn : n ≤ 24) : w.there G 7 n := by
  intro j hj
  have hr := h.regRange
  have hl := regs_len h.rl
  refine ⟨?_, h.free (by omega)⟩
  rw [hr j _ (List.getElem?_eq_getElem (by omega))]
  rfl
theorem RM.newR (h : RM base w G f at_ st rg los pr sv lv prv X) (h8 : rg'.length = 8) : RM base (w.setCells G 7 (recVa.cells rg')) G f at_ st rg' los pr sv lv prv X ∧ Below base w (w.setCells G 7 (recVa.cells rg')) := by
  have hs := Chg.setCells (b := G) (recVa.cells rg') 7 w
  have hb := Blk.setCells (recVa.cells rg') 7 w _ h.blk
  rw [setL_regs h.rl h8] at hb
  have s2 := h.sep.upd (i := 0) rfl hs (fun k hk => hk) (blkPt G h.gb 177 (rCells f at_ sv rg' lv prv)) hb (fun k hk => .inl hk)
  exact ⟨⟨h.gb, h8, s2⟩, h.sep.updB (i := 0) rfl hs (fun k hk => hk) h.size⟩
set_option maxRecDepth 100000 in
set_option maxHeartbeats 8000000 in
theorem rsetOp_any (y : UInt8) (hy : y.toNat < 8) (a : RV) (h : RM base w G f at_ (a :: st) rg los pr sv lv prv X) (hl : st.length ≤ 900) :
    Calls Tryz.prog 118 #[.pointer (some ⟨G, 0, none⟩), .agg #[.int .u8 18, .int .u8 (y.toNat : Int)]] w fun e w' => e = .returned (.tuple #[]) ∧ (∃ sv', RM base w' G f at_ st (rg.set y.toNat a) los pr sv' lv prv X) ∧ Below base w w' := by
  obtain ⟨W1, hW1⟩ : ∃ W1, W1 = w.alloc (.cells #[.int .u8 18, .int .u8 (y.toNat : Int)] 92) := ⟨_, rfl⟩
  have hb1 : Below w.heap.size w W1 := by rw [hW1]; exact b_alloc _ _
  obtain ⟨D1, hD1⟩ : ∃ D1, D1 = w.heap.size := ⟨_, rfl⟩
  have hx : Blk W1 D1 92 [.int .u8 18, .int .u8 (y.toNat : Int)] := by rw [hD1, hW1]; exact Blk.new w _ _
  have hD1b : base ≤ D1 := by rw [hD1]; exact h.size
  have x0 := hx.cell (k := 0) rfl
  have HB1 := Lib.hid (hb1.mono h.size)
  have hm1 : RM base W1 G f at_ (a :: st) rg los pr sv lv prv (X ++ [blkPt D1 hD1b 92 [.int .u8 18, .int .u8 (y.toNat : Int)]]) := by subst hD1; rw [hW1]; exact h.add _ _
  have HRL := Lib.hid h.rl
  have HM1 := Lib.hid hm1
  obtain ⟨T, hT⟩ : ∃ T, T = W1.heap.size := ⟨_, rfl⟩
  have hTb : base ≤ T := by rw [hT]; exact hm1.size
  obtain ⟨W2, hW2⟩ : ∃ W2, W2 = W1.alloc (.cells zreg.toArray 174) := ⟨_, rfl⟩
  have hz : Blk W2 T 174 zreg := by rw [hT, hW2]; exact Blk.new W1 _ _
  have hm2 : RM base W2 G f at_ (a :: st) rg los pr sv lv prv ((X ++ [blkPt D1 hD1b 92 [.int .u8 18, .int .u8 (y.toNat : Int)]]) ++ [blkPt T hTb 174 zreg]) := by subst hT; rw [hW2]; exact hm1.add zreg _
  have hB2 : Below base W1 W2 := by rw [hW2]; exact (b_alloc _ _).mono hm1.size
  have HZ := Lib.hid hz
  have HM2 := Lib.hid hm2
  have HB2 := Lib.hid hB2
  have HT := Lib.hid hT
  have HW2 := Lib.hid hW2
  clear h hb1 hx hm1 hz hm2 hB2 hT hW2
  go_enter Tryz.func118, Tryz.ntmps118
  go_upto_region 1 with fail
  rw [← hW1, ← hD1]
  clear hW1 hD1
  go_upto_region 23 with (first | (refine wpList_load_mid rfl _ _ rfl G 7 rfl (recVa.cells rg) (.array 8 173) HM1.out.regRange Tryz.underlying174 rfl (regs_size HRL.out) ?_) | (refine blk_storeN W1.heap.size zreg (recVa.cells rg) (by have h := HZ.out; rw [HW2.out, HT.out] at h; exact h) rfl _ _ _ rfl rfl rfl (regs_size HRL.out) (regs_len HRL.out).symm (regs_one rg) ?_; intro W3 HW3))
  have hrow : Blk W3 T 174 (recVa.cells rg) := by
    have h1 := HZ.out.row (recVa.cells rg)
    rw [HW2.out, HT.out] at h1
    rw [HT.out, ← HW3.out]
    exact h1
  have hc3 : Chg (fun k => k = T) W2 W3 := by
    have h1 := chg_setRow (X := fun k => k = T) W2 T (recVa.cells rg).toArray rfl
    rw [HT.out] at h1 ⊢
    rw [HW2.out] at h1 ⊢
    rw [← HW3.out]
    exact h1
  obtain ⟨hm3, hb3⟩ := HM2.out.updX (i := X.length + 1) (p := blkPt T hTb 174 zreg) (by simp) hc3 (fun k hk => hk) (blkPt T hTb 174 (recVa.cells rg)) hrow (fun k hk => hk)
  have hset : ((X ++ [blkPt D1 hD1b 92 [.int .u8 18, .int .u8 (y.toNat : Int)]]) ++ [blkPt T hTb 174 zreg]).set (X.length + 1) (blkPt T hTb 174 (recVa.cells rg)) = (X ++ [blkPt D1 hD1b 92 [.int .u8 18, .int .u8 (y.toNat : Int)]]) ++ [blkPt T hTb 174 (recVa.cells rg)] := by
    rw [List.set_append_right _ _ (by simp)]
    simp
  rw [hset] at hm3
  have HB3 := Lib.hid ((HB1.out.trans HB2.out).trans hb3)
  have hD : Blk W3 D1 92 [.int .u8 18, .int .u8 (y.toNat : Int)] := hm3.loc (p := blkPt D1 hD1b 92 [.int .u8 18, .int .u8 (y.toNat : Int)]) (by simp)
  have x1 := hD.cell (k := 1) rfl
  have HM3 := Lib.hid hm3
  have HP := Lib.hid (rpop_any a (hm3.below (b_drew W3)) (by omega))
  rw [← HT.out]
  clear hrow hc3 hb3 hset hD hm3 HW3 HW2 HT HZ HM2 HB2 x0
  have i0 : (0 : Int) ≤ (y.toNat : Int) := by omega
  have i1 : (y.toNat : Int) < 8 := by omega
  have hyl : y.toNat < rg.length := by rw [HRL.out]; exact hy
  obtain ⟨i, hi⟩ : ∃ i, i = y.toNat := ⟨_, rfl⟩
  have HI := Lib.hid hi
  rw [← hi] at x1 i0 i1 hyl
  have HYL := Lib.hid hyl
  clear hi hyl
  (try go_frame)
  go_region_law (refine step_callM rfl 97 #[.pointer (some ⟨G, 0, none⟩)] (by go_simp) HP.out ?_; rintro r w4 ⟨rfl, ⟨sv4, hm⟩, hB⟩; unfold rvV; have hD4 : Blk w4 D1 92 [.int .u8 18, .int .u8 (y.toNat : Int)] := hm.loc (p := blkPt D1 hD1b 92 [.int .u8 18, .int .u8 (y.toNat : Int)]) (by simp); have x1' : w4.cell? ⟨D1, 1, none⟩ = some (.int .u8 (i : Int)) := (by rw [HI.out]; exact hD4.cell (k := 1) rfl); clear hD4; have hb : Blk w4 T 174 (recVa.cells rg) := hm.loc (p := blkPt T hTb 174 (recVa.cells rg)) (by simp); have y0 : ∃ u, w4.cell? ⟨T, i * 3, none⟩ = some u := ⟨_, hb.cell (recVa.cells_at rg i HYL.out 0 _ rfl)⟩; obtain ⟨u0, y0⟩ := y0; have y1 : ∃ u, w4.cell? ⟨T, i * 3 + 1, none⟩ = some u := ⟨_, hb.cell (recVa.cells_at rg i HYL.out 1 _ rfl)⟩; obtain ⟨u1, y1⟩ := y1; have y2 : ∃ u, w4.cell? ⟨T, i * 3 + 2, none⟩ = some u := ⟨_, hb.cell (recVa.cells_at rg i HYL.out 2 _ rfl)⟩; obtain ⟨u2, y2⟩ := y2; have k0 := hb.free (k := i * 3) (by rw [regs_len HRL.out]; have := HYL.out; have := HRL.out; omega); have k1 := hb.free (k := i * 3 + 1) (by rw [regs_len HRL.out]; have := HYL.out; have := HRL.out; omega); have k2 := hb.free (k := i * 3 + 2) (by rw [regs_len HRL.out]; have := HYL.out; have := HRL.out; omega); have HM4 := Lib.hid hm; have HB4 := Lib.hid ((HB3.out.trans ((b_drew W3).mono HM3.out.size)).trans hB); have HBK := Lib.hid hb; clear hm hB hb)
  all_goals
    (try simp only [List.getElem_toArray, List.getElem_cons_succ, List.getElem_cons_zero])
    (try go_frame)
    have HQ := mv3 HBK.out i a HYL.out
    obtain ⟨W5, hW5⟩ : ∃ W5, W5 = ((w4.setCell ⟨T, i * 3, none⟩ (.bool a.1)).setCell ⟨T, i * 3 + 1, none⟩ (.int .i64 a.2.1)).setCell ⟨T, i * 3 + 2, none⟩ (.string (bs a.2.2)) := ⟨_, rfl⟩
    rw [← hW5] at HQ ⊢
    obtain ⟨hq1, hq2⟩ := HQ
    obtain ⟨hm5, hb5⟩ := HM4.out.updX (i := X.length + 1) (p := blkPt T hTb 174 (recVa.cells rg)) (by simp) hq2 (fun k hk => hk) (blkPt T hTb 174 (recVa.cells (rg.set i a))) hq1 (fun k hk => hk)
    have hset : ((X ++ [blkPt D1 hD1b 92 [.int .u8 18, .int .u8 (y.toNat : Int)]]) ++ [blkPt T hTb 174 (recVa.cells rg)]).set (X.length + 1) (blkPt T hTb 174 (recVa.cells (rg.set i a))) = (X ++ [blkPt D1 hD1b 92 [.int .u8 18, .int .u8 (y.toNat : Int)]]) ++ [blkPt T hTb 174 (recVa.cells (rg.set i a))] := by
      rw [List.set_append_right _ _ (by simp)]
      simp
    rw [hset] at hm5
    have hrl : (rg.set i a).length = 8 := by rw [List.length_set]; exact HRL.out
    have HM5 := Lib.hid hm5
    have HQ1 := Lib.hid hq1
    have HB5 := Lib.hid (HB4.out.trans hb5)
    have HRL5 := Lib.hid hrl
    have HTH := Lib.hid (hm5.regThere (recVa.cells (rg.set i a)).length (by rw [regs_len hrl]; exact Nat.le_refl _))
    clear hm5 hq1 hb5 hrl hset hq2 hW5 y0 y1 y2 k0 k1 k2 x1'
    go_wp2_with (first | (refine blk_load T (recVa.cells (rg.set i a)) HQ1.out (.array 8 173) rfl _ _ rfl rfl Tryz.underlying174 rfl (regs_size HRL5.out) ?_) | (refine wpList_store_mid rfl _ _ _ rfl G 7 (recVa.cells (rg.set i a)).toArray rfl rfl (by simpa using HTH.out) (by simpa using regs_size HRL5.out) (regs_one _) ?_))
    obtain ⟨hm6, hb6⟩ := HM5.out.newR HRL5.out
    refine bodyPost_end (results_none rfl _ _ _) rfl ?_
    rw [← HI.out]
    exact ⟨rfl, ⟨_, hm6.drop.drop⟩, HB5.out.trans hb6⟩
end
end Go.Proofs.YtndagciefnddmaaGreatDoor
namespace Go.Proofs.YtndagciefnddmaaGreatDoor
open Go.RowKit Oct
attribute [local irreducible] wpG
abbrev StR := Int → List RV → List RV → List Lo → List (List UInt8 × List UInt8) → Prop
section
variable {base G : Nat} {w w' : World} {f : Rf} {X : List (Pt base)}
def RS (base : Nat) (w : World) (G : Nat) (f : Rf) (X : List (Pt base)) (φ : StR) : Prop := ∃ at_ st rg los pr sv lv prv, RM base w G f at_ st rg los pr sv lv prv X ∧ φ at_ st rg los pr
def eqS (a : Int) (s r : List RV) (l : List Lo) (p : List (List UInt8 × List UInt8)) : StR := fun a' s' r' l' p' => a' = a ∧ s' = s ∧ r' = r ∧ l' = l ∧ p' = p
theorem RS.below {φ : StR} (h : RS base w G f X φ) (hB : Below w.heap.size w w') : RS base w' G f X φ := by
  obtain ⟨a, s, r, l, p, sv, lv, prv, h1, h2⟩ := h
  exact ⟨a, s, r, l, p, sv, lv, prv, h1.below hB, h2⟩
theorem RS.size {φ : StR} (h : RS base w G f X φ) : base ≤ w.heap.size := by
  obtain ⟨a, s, r, l, p, sv, lv, prv, h1, -⟩ := h
  exact h1.size
theorem RS.blk {φ : StR} {D : Nat} {hD : base ≤ D} {t : TypeId} {cs : List Value} (h : RS base w G f X φ) (hm : blkPt D hD t cs ∈ X) : Blk w D t cs := by
  obtain ⟨a, s, r, l, p, sv, lv, prv, h1, -⟩ := h
  exact h1.loc (p := blkPt D hD t cs) hm
def Does (base G : Nat) (f : Rf) (F : FuncId) (n : Nat) (y : UInt8) (w0 : World) (φ ψ : StR) : Prop :=
  ∀ (w1 : World) (X : List (Pt base)), Below base w0 w1 → RS base w1 G f X φ → Calls Tryz.prog F #[.pointer (some ⟨G, 0, none⟩), .agg #[.int .u8 (n : Int), .int .u8 (y.toNat : Int)]] w1 fun r w' => r = .returned (.tuple #[]) ∧ RS base w' G f X ψ ∧ Below base w1 w'
set_option maxRecDepth 100000 in
set_option maxHeartbeats 4000000 in
theorem rStep_gen (pc n : Nat) (y : UInt8) (c : Nat) {tv iv ev ow cv : Value} {code : List VI} {st rg : List RV} {los : List Lo} {pr : List (List UInt8 × List UInt8)} {sv lv prv : Value} {φ1 φ2 φ3 φ4 : StR} (hm : RM base w G ⟨tv, cv, iv, ev, ow⟩ (pc : Int) st rg los pr sv lv prv X)
    (hcv : recIns.Row w cv code) (hpc : pc < code.length) (hcl : code.length ≤ 1000) (hn : n = code[pc].1.toNat) (hy : y = code[pc].2)
    (HA : Does base G ⟨tv, cv, iv, ev, ow⟩ 118 n y w (eqS (pc : Int) st rg los pr) φ1) (HN : Does base G ⟨tv, cv, iv, ev, ow⟩ 119 n y w φ1 φ2)
    (HT : ∀ (w1 : World) (X : List (Pt base)), Below base w w1 → RS base w1 G ⟨tv, cv, iv, ev, ow⟩ X φ2 → Calls Tryz.prog 120 #[.pointer (some ⟨G, 0, none⟩), .agg #[.int .u8 (n : Int), .int .u8 (y.toNat : Int)]] w1 fun r w' => r = .returned (.int .i64 (c : Int)) ∧ (c = 0 → RS base w' G ⟨tv, cv, iv, ev, ow⟩ X φ3) ∧ Below base w1 w')
    (HBk : c = 0 → Does base G ⟨tv, cv, iv, ev, ow⟩ 121 n y w φ3 φ4) (hφ : ∀ a s r l p, φ4 a s r l p → -1 ≤ a ∧ a ≤ 1000) :
    Calls Tryz.prog 96 #[.pointer (some ⟨G, 0, none⟩)] w fun r w' => r = .returned (.int .i64 (c : Int)) ∧ (c = 0 → RS base w' G ⟨tv, cv, iv, ev, ow⟩ X (fun a s r l p => φ4 (a - 1) s r l p)) ∧ Below base w w' := by
  obtain ⟨ac, nc, rfl, -, hcc⟩ := recIns_open hcv
  obtain ⟨b, off, rfl, d0, d1⟩ := hcc pc hpc
  rw [← hn] at d0
  rw [← hy] at d1
  have c1 : w.cell? ⟨G, 1, none⟩ = some (.slice (some ⟨b, off, none⟩) code.length nc) := hm.cell (k := 1) rfl
  have c5 : w.cell? ⟨G, 5, none⟩ = some (.int .i64 (pc : Int)) := hm.cell (k := 5) rfl
  have i0 : (0 : Int) ≤ (pc : Int) := by omega
  have i1 : (pc : Int) < (code.length : Int) := by omega
  have i2 : (code.length : Int) ≤ 1000 := by omega
  have hGl : G < w.heap.size := hm.blk.lt
  have hbl : b < w.heap.size := lt_of_cell d0
  have HM := Lib.hid hm
  have HA := Lib.hid HA
  have HN := Lib.hid HN
  have HT := Lib.hid HT
  have HK := Lib.hid HBk
  have HF := Lib.hid hφ
  clear hm hcv hcc hn hy HBk hφ
  go_enter Tryz.func96, Tryz.ntmps96
  go_wp2_with fail
  go_region
  obtain ⟨T, hT⟩ : ∃ T, T = w.heap.size := ⟨_, rfl⟩
  have hTb : base ≤ T := by rw [hT]; exact HM.out.size
  obtain ⟨W1, hW1⟩ : ∃ W1, W1 = (w.alloc (.cells #[.int .u8 (n : Int), .int .u8 (y.toNat : Int)] 92)).drew := ⟨_, rfl⟩
  have hb1 : Below w.heap.size w W1 := by rw [hW1]; exact bt (b_alloc _ _) (b_drew _)
  have hm1 : RS base W1 G ⟨tv, .slice (some ⟨b, off, none⟩) code.length nc, iv, ev, ow⟩ (X ++ [blkPt T hTb 92 [.int .u8 (n : Int), .int .u8 (y.toNat : Int)]]) (eqS (pc : Int) st rg los pr) := by
    subst hT
    rw [hW1]
    exact ⟨_, _, _, _, _, _, _, _, (HM.out.add [.int .u8 (n : Int), .int .u8 (y.toNat : Int)] 92).below (b_drew _), rfl, rfl, rfl, rfl, rfl⟩
  have HB1 := Lib.hid (hb1.mono HM.out.size)
  rw [← hW1, ← hT]
  have hx := hm1.blk (D := T) (hD := hTb) (t := 92) (cs := [.int .u8 (n : Int), .int .u8 (y.toNat : Int)]) (by simp)
  have x0 := hx.cell (k := 0) rfl
  have x1 := hx.cell (k := 1) rfl
  have HM1 := Lib.hid hm1
  clear hW1 hT hb1 hm1 hx d0 d1 c1 c5 hGl hbl
  go_upto_region 3 with (go_at_call 118; refine (HA.out _ _ HB1.out HM1.out).mono ?_; rintro r w2 ⟨rfl, hm, hB⟩; have HM2 := Lib.hid hm; have HB2 := Lib.hid (HB1.out.trans hB); clear hm hB)
  clear x0 x1
  have hx := HM2.out.blk (D := T) (hD := hTb) (t := 92) (cs := [.int .u8 (n : Int), .int .u8 (y.toNat : Int)]) (by simp)
  have x0 := hx.cell (k := 0) rfl
  have x1 := hx.cell (k := 1) rfl
  clear hx
  go_upto_region 4 with (go_at_call 119; refine (HN.out _ _ HB2.out HM2.out).mono ?_; rintro r w3 ⟨rfl, hm, hB⟩; have HM3 := Lib.hid hm; have HB3 := Lib.hid (HB2.out.trans hB); clear hm hB)
  clear x0 x1
  have hx := HM3.out.blk (D := T) (hD := hTb) (t := 92) (cs := [.int .u8 (n : Int), .int .u8 (y.toNat : Int)]) (by simp)
  have x0 := hx.cell (k := 0) rfl
  have x1 := hx.cell (k := 1) rfl
  clear hx
  by_cases hc : c = 0
  · have t1 : ((c : Int) == 0) = true := by rw [hc]; rfl
    have HK2 := Lib.hid (HK.out hc)
    have HC := Lib.hid hc
    clear hc
    go_upto_region 6 with (go_at_call 120; refine (HT.out _ _ HB3.out HM3.out).mono ?_; rintro r w4 ⟨rfl, hm, hB⟩; have HM4 := Lib.hid (hm HC.out); have HB4 := Lib.hid (HB3.out.trans hB); clear hm hB)
    clear x0 x1
    have hx := HM4.out.blk (D := T) (hD := hTb) (t := 92) (cs := [.int .u8 (n : Int), .int .u8 (y.toNat : Int)]) (by simp)
    have x0 := hx.cell (k := 0) rfl
    have x1 := hx.cell (k := 1) rfl
    clear hx
    go_upto_region 7 with (go_at_call 121; refine (HK2.out _ _ HB4.out HM4.out).mono ?_; rintro r w5 ⟨rfl, hm, hB⟩; have HM5 := Lib.hid hm; have HB5 := Lib.hid (HB4.out.trans hB); clear hm hB)
    clear x0 x1
    obtain ⟨a, s, r, l, p, sv5, lv5, pv5, hm5, hf5⟩ := HM5.out
    have c5 := hm5.cell (k := 5) rfl
    have f5 := hm5.free (k := 5) (by decide)
    obtain ⟨a0, a1⟩ := HF.out _ _ _ _ _ hf5
    have HR5 := Lib.hid hm5
    have HF5 := Lib.hid hf5
    clear hm5 hf5
    go_wp2_with fail
    go_ret
    obtain ⟨m6, b6⟩ := HR5.out.setAt (a + 1)
    refine ⟨rfl, fun _ => ⟨_, s, r, l, p, sv5, lv5, pv5, RM.drop (X := X) m6, ?_⟩, HB5.out.trans b6⟩
    show φ4 (a + 1 - 1) s r l p
    rw [show a + 1 - 1 = a by omega]
    exact HF5.out
  · have t1 : ((c : Int) == 0) = false := by rw [beq_eq_false_iff_ne]; omega
    have HC := Lib.hid hc
    clear hc
    go_wp2_with (go_at_call 120; refine (HT.out _ _ HB3.out HM3.out).mono ?_; rintro r w4 ⟨rfl, -, hB⟩; have HB4 := Lib.hid (HB3.out.trans hB); clear hB)
    go_ret
    exact ⟨rfl, fun h => absurd h HC.out, HB4.out⟩
end
end Go.Proofs.YtndagciefnddmaaGreatDoor
namespace Go.Proofs.YtndagciefnddmaaGreatDoor
open Go.RowKit Oct
attribute [local irreducible] wpG
section
variable {base G : Nat} {w w' w3 : World} {f : Mf} {at_ : Int} {st rg : List MV} {eos : List Eo} {pr : List (List UInt8 × List UInt8)} {tr : List Int} {stv opv prv trv : Value} {X : List (Pt base)}
theorem parse_ok_in {s : List UInt8} {v : Int} (h : Lib.atoiAll s = .ok v) : -9223372036854775808 ≤ v ∧ v ≤ 9223372036854775807 := by
  rw [← Lib.parseIntB_64] at h
  have := Lib.parseIntB_bounds h
  simp at this
  omega
theorem pI_is {s : List UInt8} {e : Ending} {v : Int} (h : (∃ v, Lib.atoiAll s = .ok v ∧ e = .returned (.tuple #[.int .i64 v, .nilIface])) ∨ ((∀ v, Lib.atoiAll s ≠ .ok v) ∧ ∃ n tp N, e = .returned (.tuple #[.int .i64 n, .iface tp (.pointer (some ⟨N, 0, none⟩))]))) (hv : Lib.atoiAll s = .ok v) : e = .returned (.tuple #[.int .i64 v, .nilIface]) := by
  rcases h with ⟨u, hu, rfl⟩ | ⟨hn, _⟩
  · rw [hv] at hu; cases hu; rfl
  · exact absurd hv (hn v)
theorem pI_not {s : List UInt8} {e : Ending} (h : (∃ v, Lib.atoiAll s = .ok v ∧ e = .returned (.tuple #[.int .i64 v, .nilIface])) ∨ ((∀ v, Lib.atoiAll s ≠ .ok v) ∧ ∃ n tp N, e = .returned (.tuple #[.int .i64 n, .iface tp (.pointer (some ⟨N, 0, none⟩))]))) (hv : ¬ ∃ v, Lib.atoiAll s = .ok v) : ∃ n tp N, e = .returned (.tuple #[.int .i64 n, .iface tp (.pointer (some ⟨N, 0, none⟩))]) := by
  rcases h with ⟨u, hu, _⟩ | ⟨_, h⟩
  · exact absurd ⟨u, hu⟩ hv
  · exact h
set_option maxRecDepth 100000 in
set_option maxHeartbeats 4000000 in
theorem vparse_any (y : UInt8) (a : MV) (h : MR base w G f at_ (a :: st) rg eos pr tr stv opv prv trv X) (hl : st.length ≤ 900) (ha : vOk a) (hG : ∀ w', Below base w w' → GlobV w') :
    Calls Tryz.prog 217 #[.pointer (some ⟨G, 0, none⟩), .int .u8 (y.toNat : Int)] w fun e w' => e = .returned (.int .i64 0) ∧ (∃ stv', MR base w' G f at_ ((parseM a.2, []) :: st) rg eos pr tr stv' opv prv trv X) ∧ Below base w w' := by
  have HP := Lib.hid (pop_any a h (by omega))
  have HG := Lib.hid hG
  have HPI := Lib.hid (fun w' (hB : Below base w w') => pI_bel a.2 ha.2.2 (HG.out w' hB))
  clear h hG
  by_cases hok : ∃ v, Lib.atoiAll a.2 = .ok v
  · obtain ⟨v, hv0⟩ := hok
    have hv := parse_ok_in hv0
    have HPO := Lib.hid (fun w' (hB : Below base w w') => (HPI.out w' hB).mono fun e w'' h => (⟨pI_is h.1 hv0, h.2⟩ : e = .returned (.tuple #[.int .i64 v, .nilIface]) ∧ Below w'.heap.size w' w''))
    obtain ⟨iv, hivv⟩ : ∃ iv, iv = Lib.itoa v := ⟨_, rfl⟩
    have HFM := Lib.hid (fun w' (hB : Below base w w') => fmt_bel hv.1 hv.2 (HG.out w' hB).tab)
    rw [← hivv] at HFM
    by_cases hiv : iv = a.2
    · have HV := Lib.hid (show parseM a.2 = v by unfold parseM; rw [hv0]; exact if_pos (hivv ▸ hiv))
      have t1 : (iv == a.2) = true := by rw [hiv]; simp
      have t2 : (iv != a.2) = false := by rw [hiv]; simp
      clear hiv hv0 HPI hivv
      rw [HV.out]
      go_enter Tryz.func217, Tryz.ntmps217
      go_wp2_with (first | (go_at_call 234; refine (push_any (v, []) HM4.out (by omega)).mono ?_; rintro e w5 ⟨rfl, ⟨sv5, hm⟩, hB⟩; have HM5 := Lib.hid hm; have HB5 := Lib.hid (HB4.out.trans hB); clear hm hB) | (go_at_call 138; refine (HFM.out _ HB3.out).mono ?_; rintro e w4 ⟨rfl, hB⟩; have HM4 := Lib.hid (HM3.out.below hB); have HB4 := Lib.hid (HB3.out.trans (hB.mono HM3.out.size)); clear hB) | (go_at_call 148; refine (HPO.out _ HB.out).mono ?_; rintro e w3 ⟨rfl, hB⟩; have HM3 := Lib.hid (HM.out.below hB); have HB3 := Lib.hid (HB.out.trans (hB.mono HM.out.size)); clear hB) | (go_at_call 88; refine HP.out.mono ?_; rintro e w2 ⟨rfl, ⟨sv, hm⟩, hB⟩; unfold mvV; have HM := Lib.hid hm; have HB := Lib.hid hB; clear hm hB))
      go_ret
      exact ⟨rfl, ⟨_, HM5.out⟩, HB5.out⟩
    · have HV := Lib.hid (show parseM a.2 = 0 by unfold parseM; rw [hv0]; exact if_neg (hivv ▸ hiv))
      have t1 : (iv == a.2) = false := by simpa using hiv
      have t2 : (iv != a.2) = true := by simpa using hiv
      clear hiv hv0 HPI hivv
      rw [HV.out]
      go_enter Tryz.func217, Tryz.ntmps217
      go_wp2_with (first | (go_at_call 234; refine (push_any (0, []) HM4.out (by omega)).mono ?_; rintro e w5 ⟨rfl, ⟨sv5, hm⟩, hB⟩; have HM5 := Lib.hid hm; have HB5 := Lib.hid (HB4.out.trans hB); clear hm hB) | (go_at_call 138; refine (HFM.out _ HB3.out).mono ?_; rintro e w4 ⟨rfl, hB⟩; have HM4 := Lib.hid (HM3.out.below hB); have HB4 := Lib.hid (HB3.out.trans (hB.mono HM3.out.size)); clear hB) | (go_at_call 148; refine (HPO.out _ HB.out).mono ?_; rintro e w3 ⟨rfl, hB⟩; have HM3 := Lib.hid (HM.out.below hB); have HB3 := Lib.hid (HB.out.trans (hB.mono HM.out.size)); clear hB) | (go_at_call 88; refine HP.out.mono ?_; rintro e w2 ⟨rfl, ⟨sv, hm⟩, hB⟩; unfold mvV; have HM := Lib.hid hm; have HB := Lib.hid hB; clear hm hB))
      go_ret
      exact ⟨rfl, ⟨_, HM5.out⟩, HB5.out⟩
  · have HV := Lib.hid (show parseM a.2 = 0 by
      unfold parseM
      cases h : Lib.atoiAll a.2 with
      | ok v => exact absurd ⟨v, h⟩ hok
      | _ => rfl)
    have HPN := Lib.hid (fun w' (hB : Below base w w') => (HPI.out w' hB).mono fun e w'' h => (⟨pI_not h.1 hok, h.2⟩ : (∃ n tp N, e = .returned (.tuple #[.int .i64 n, .iface tp (.pointer (some ⟨N, 0, none⟩))])) ∧ Below w'.heap.size w' w''))
    clear hok HPI
    rw [HV.out]
    go_enter Tryz.func217, Tryz.ntmps217
    go_wp2_with (first | (go_at_call 234; refine (push_any (0, []) HM3.out (by omega)).mono ?_; rintro e w5 ⟨rfl, ⟨sv5, hm⟩, hB⟩; have HM5 := Lib.hid hm; have HB5 := Lib.hid (HB3.out.trans hB); clear hm hB) | (go_at_call 148; refine (HPN.out _ HB.out).mono ?_; rintro e w3 ⟨⟨n3, tp3, N3, rfl⟩, hB⟩; have HM3 := Lib.hid (HM.out.below hB); have HB3 := Lib.hid (HB.out.trans (hB.mono HM.out.size)); clear hB) | (go_at_call 88; refine HP.out.mono ?_; rintro e w2 ⟨rfl, ⟨sv, hm⟩, hB⟩; unfold mvV; have HM := Lib.hid hm; have HB := Lib.hid hB; clear hm hB))
    go_ret
    exact ⟨rfl, ⟨_, HM5.out⟩, HB5.out⟩
end
end Go.Proofs.YtndagciefnddmaaGreatDoor
namespace Go.Proofs.YtndagciefnddmaaGreatDoor
open Go.RowKit Oct
attribute [local irreducible] wpG
section
variable {base G : Nat} {w w' w3 : World} {f : Mf} {at_ : Int} {st rg : List MV} {eos : List Eo} {pr : List (List UInt8 × List UInt8)} {tr : List Int} {stv opv prv trv : Value} {X : List (Pt base)}
set_option maxRecDepth 100000 in
set_option maxHeartbeats 4000000 in
theorem vpart_any (y : UInt8) (n a t : MV) (h : MR base w G f at_ (n :: a :: t :: st) rg eos pr tr stv opv prv trv X) (hl : st.length ≤ 800) (hn : vOk n) (ha : vOk a) (ht : vOk t) :
    Calls Tryz.prog 216 #[.pointer (some ⟨G, 0, none⟩), .int .u8 (y.toNat : Int)] w fun e w' => e = .returned (.int .i64 0) ∧ (∃ stv', MR base w' G f at_ ((0, partM t.2 a.1 n.1) :: st) rg eos pr tr stv' opv prv trv X) ∧ Below base w w' := by
  have HP := Lib.hid (two_any a n h (by simp; omega))
  have HS := Lib.hid h.size
  clear h
  go_enter Tryz.func216, Tryz.ntmps216
  go_upto_region 2 with (go_at_call 235; refine HP.out.mono ?_; rintro e w2 ⟨rfl, ⟨sv, hm⟩, hB⟩; unfold mvV; have HM := Lib.hid hm; have HB := Lib.hid hB; clear hm hB)
  obtain ⟨W3, hW3⟩ : ∃ W3, W3 = (w2.alloc (.cells #[.int .i64 a.1, .string (bs a.2)] 156)).alloc (.cells #[.int .i64 n.1, .string (bs n.2)] 156) := ⟨_, rfl⟩
  have hb3 : Below w2.heap.size w2 W3 := by rw [hW3]; exact bt (b_alloc _ _) (b_alloc _ _)
  obtain ⟨D, hD⟩ : ∃ D, D = w2.heap.size := ⟨_, rfl⟩
  have hDb : base ≤ D := by rw [hD]; exact HM.out.size
  have hDb1 : base ≤ D + 1 := by omega
  have hmx : MR base W3 G f at_ (t :: st) rg eos pr tr sv opv prv trv (X ++ [blkPt D hDb 156 [.int .i64 a.1, .string (bs a.2)]] ++ [blkPt (D + 1) hDb1 156 [.int .i64 n.1, .string (bs n.2)]]) := by rw [hW3]; exact HM.out.add2 _ _ _ D hD hDb hDb1
  have HB3 := Lib.hid (HB.out.trans (hb3.mono HM.out.size))
  have HPP := Lib.hid (pop_any t hmx (by omega))
  rw [← hD]
  rw [← hW3]
  clear hW3 hD hb3 HM HB hmx
  go_upto_region 3 with (go_at_call 88; refine HPP.out.mono ?_; rintro e w4 ⟨rfl, ⟨sv4, hm⟩, hB⟩; unfold mvV; have hd : Blk w4 D 156 [.int .i64 a.1, .string (bs a.2)] := hm.loc (p := blkPt D hDb 156 [.int .i64 a.1, .string (bs a.2)]) (by simp); have hd1 : Blk w4 (D + 1) 156 [.int .i64 n.1, .string (bs n.2)] := hm.loc (p := blkPt (D + 1) hDb1 156 [.int .i64 n.1, .string (bs n.2)]) (by simp); have x0 := hd.cell (k := 0) rfl; have y0 := hd1.cell (k := 0) rfl; have HM4 := Lib.hid hm; have HB4 := Lib.hid (HB3.out.trans hB); clear hm hB hd hd1)
  obtain ⟨k, hk⟩ : ∃ k, k = clampM a.1 t.2.length := ⟨_, rfl⟩
  have hk1 : min (max a.1 0) (t.2.length : Int) = (k : Int) := by rw [hk]; unfold clampM; omega
  have hk2 : (k : Int) ≤ (t.2.length : Int) := by omega
  have hk3 : (0 : Int) ≤ (k : Int) := by omega
  obtain ⟨u, hu⟩ : ∃ u, u = t.2.drop k := ⟨_, rfl⟩
  obtain ⟨j, hj⟩ : ∃ j, j = clampM n.1 u.length := ⟨_, rfl⟩
  have hj1 : min (max n.1 0) (u.length : Int) = (j : Int) := by rw [hj]; unfold clampM; omega
  have hj2 : (j : Int) ≤ (u.length : Int) := by omega
  have hj3 : (0 : Int) ≤ (j : Int) := by omega
  have hul : (u.length : Int) ≤ 1024 := by have := ht.2.2; rw [hu, List.length_drop]; omega
  have htl : (t.2.length : Int) ≤ 1024 := by have := ht.2.2; omega
  have HV := Lib.hid (show partM t.2 a.1 n.1 = u.take j by unfold partM; rw [← hk, ← hu, ← hj])
  have hu' : List.drop k t.2 = u := hu.symm
  have hq : List.take (t.2.length - k) u = u := List.take_of_length_le (by rw [hu, List.length_drop]; exact Nat.le_refl _)
  clear hk hu hj
  go_upto_region 4 with fail
  go_wp2_with (go_at_call 234; refine (push_any (0, u.take j) HM4.out (by omega)).mono ?_; rintro e w5 ⟨rfl, ⟨sv5, hm⟩, hB⟩; have HM5 := Lib.hid hm; have HB5 := Lib.hid (HB4.out.trans hB); clear hm hB)
  go_ret
  rw [HV.out]
  exact ⟨rfl, ⟨_, HM5.out.pre (by rw [List.append_assoc]; exact List.prefix_append _ _)⟩, HB5.out⟩
end
end Go.Proofs.YtndagciefnddmaaGreatDoor
namespace Go.Proofs.YtndagciefnddmaaGreatDoor
open Go.RowKit Oct
attribute [local irreducible] wpG
section
variable {base G : Nat} {w w' w3 : World} {f : Mf} {at_ : Int} {st rg : List MV} {eos : List Eo} {pr : List (List UInt8 × List UInt8)} {tr : List Int} {tv cv iv ev lv stv opv opv' prv trv trv' : Value} {X : List (Pt base)}
theorem leftE_start (pc : Nat) (N : Nat) (s : List UInt8) (c : UInt8) : leftE ⟨pc, N + 2, N, N + 1, !s.isEmpty, s, c⟩ = piecesM s c := by
  unfold leftE piecesM
  cases s <;> rfl
theorem MR.addBox {e : Eo} (h : MR base w G f at_ st rg eos pr tr stv opv prv trv X) (hB : Below w.heap.size w w') (hb : boxOk base w' e) (hf : ∀ k, eoIn k e → w.heap.size ≤ k) : MR base w' G f at_ st rg eos pr tr stv opv prv trv (X ++ [boxPt [e]]) :=
  ⟨h.gb, h.rl, h.sep.snoc hB (boxPt [e]) ⟨fun x hx => by rw [List.mem_singleton] at hx; subst hx; exact hb, List.pairwise_singleton _ _⟩ (fun k hk => by
    obtain ⟨x, hx, hk⟩ := hk
    rw [List.mem_singleton] at hx
    subst hx
    exact hf k hk)⟩
theorem MR.turnBox {e e' : Eo} (h : MR base w G f at_ st rg eos pr tr stv opv prv trv (X ++ [boxPt [e]])) (hc : Chg (fun k => k = e.bm ∨ k = e.bt) w w') (hb : boxOk base w' e') (h1 : e'.bm = e.bm) (h2 : e'.bt = e.bt) (h3 : e'.bc = e.bc) :
    MR base w' G f at_ st rg eos pr tr stv opv prv trv (X ++ [boxPt [e']]) ∧ Below base w w' := by
  have h4 := h.updX (i := X.length) (p := boxPt [e]) (by simp) hc (fun k hk => ⟨e, by simp, by rcases hk with rfl | rfl; exact .inl rfl; exact .inr (.inl rfl)⟩) (boxPt [e']) ⟨fun x hx => by rw [List.mem_singleton] at hx; subst hx; exact hb, List.pairwise_singleton _ _⟩ (fun k hk => by
    obtain ⟨x, hx, hk⟩ := hk
    rw [List.mem_singleton] at hx
    subst hx
    refine ⟨e, by simp, ?_⟩
    unfold eoIn at hk ⊢
    rwa [h1, h2, h3] at hk)
  have hx : (X ++ [boxPt (base := base) [e]]).set X.length (boxPt (base := base) [e']) = X ++ [boxPt (base := base) [e']] := by rw [List.set_append_right _ _ (Nat.le_refl _), Nat.sub_self]; rfl
  rw [hx] at h4
  exact h4
end
end Go.Proofs.YtndagciefnddmaaGreatDoor
namespace Go.Proofs.YtndagciefnddmaaGreatDoor
def opsOf (eos : List Eo) : List (Nat × List (List UInt8)) := eos.reverse.map fun e => (e.at_, leftE e)
theorem opsOf_snoc (eos : List Eo) (e : Eo) : opsOf (eos ++ [e]) = (e.at_, leftE e) :: opsOf eos := by unfold opsOf; rw [List.reverse_append]; rfl
theorem opsOf_length (eos : List Eo) : (opsOf eos).length = eos.length := by unfold opsOf; simp
theorem opsOf_cons {eos : List Eo} {a : Nat} {ps : List (List UInt8)} {o : List (Nat × List (List UInt8))} (h : opsOf eos = (a, ps) :: o) : ∃ l e, eos = l ++ [e] ∧ e.at_ = a ∧ leftE e = ps ∧ opsOf l = o := by
  rcases List.eq_nil_or_concat eos with rfl | ⟨l, e, rfl⟩
  · cases h
  · rw [List.concat_eq_append, opsOf_snoc] at h
    injection h with h1 h2
    injection h1 with h3 h4
    exact ⟨l, e, by rw [List.concat_eq_append], h3, h4, h2⟩
end Go.Proofs.YtndagciefnddmaaGreatDoor
namespace Go.Proofs.YtndagciefnddmaaGreatDoor
open Go.RowKit Oct Go.WideMaps Go.Maps
def cntEnd (code : List VI) (ends : List Int) (k : Nat) (i : Int) : Nat := (List.range k).countP fun j => (code.getD j (0, 0)).1 == 22 && ends.getD j 0 == i
theorem cntEnd_succ (code : List VI) (ends : List Int) (k : Nat) (i : Int) : cntEnd code ends (k + 1) i = cntEnd code ends k i + (if (code.getD k (0, 0)).1 = 22 ∧ ends.getD k 0 = i then 1 else 0) := by
  unfold cntEnd
  rw [List.range_succ, List.countP_append, List.countP_singleton]
  by_cases h1 : (code.getD k (0, 0)).1 = 22
  · by_cases h2 : ends.getD k 0 = i
    · rw [if_pos (by rw [h1, h2]; simp), if_pos ⟨h1, h2⟩]
    · rw [if_neg (by rw [h1]; simpa using h2), if_neg (fun h => h2 h.2)]
  · rw [if_neg (by rw [Bool.and_eq_true, beq_iff_eq]; exact fun h => h1 h.1), if_neg (fun h => h1 h.1)]
theorem cntEnd_le (code : List VI) (ends : List Int) (k : Nat) (i : Int) : cntEnd code ends k i ≤ k := by
  unfold cntEnd
  exact Nat.le_trans List.countP_le_length (by simp)
theorem cntEnd_zero (E : Me) (i : Nat) : cntEnd E.code E.ends E.code.length (i : Int) = 0 ↔ loopEnd E i = false := by
  unfold cntEnd loopEnd
  rw [List.countP_eq_zero, List.any_eq_false]
def mapI (w : World) (M : Nat) (n : Nat) (c : Int → Nat) : Prop := ∃ D : DataW Unit, w.ownsMap Tryz.prog 3 (plainElem Tryz.prog 3) M n D ∧ ∀ i, D.atKey (.int .i64 i) (.lit (.int .i64 0)) = .lit (.int .i64 ((c i : Nat) : Int))
theorem mapI.block {w w' : World} {M n : Nat} {c : Int → Nat} (h : mapI w M n c) (hb : w'.heap[M]? = w.heap[M]?) : mapI w' M n c := by
  obtain ⟨D, ⟨es, clock, h1, h2⟩, h3⟩ := h
  exact ⟨D, ⟨es, clock, hb.trans h1, h2⟩, h3⟩
theorem mapI.mono {w : World} {M n n' : Nat} {c : Int → Nat} (h : mapI w M n c) (hn : n ≤ n') : mapI w M n' c := by
  obtain ⟨D, h1, h2⟩ := h
  exact ⟨D, h1.mono hn, h2⟩
theorem mapI.lt {w : World} {M n : Nat} {c : Int → Nat} (h : mapI w M n c) : M < w.heap.size := by
  obtain ⟨D, h1, _⟩ := h
  exact h1.lt
theorem lawI : Keyed Tryz.prog 3 := int_keyed Tryz.underlying3
theorem zeroI (w : World) : (zeroValue 3).run Tryz.prog w = .ok (.int .i64 0) w := by kernel_rfl
set_option maxRecDepth 100000 in
theorem keyI {n : Int} (h1 : -9223372036854775808 ≤ n) (h2 : n ≤ 9223372036854775807) : keyOf Tryz.prog 3 (.int .i64 n) = some (.int .i64 n) := keyOf_int_mk Tryz.underlying3 (WalkArith.wf_i64 (by omega))
set_option maxRecDepth 100000 in
theorem mapI.look {w : World} {M n : Nat} {c : Int → Nat} (h : mapI w M n c) {i : Int} (h1 : -9223372036854775808 ≤ i) (h2 : i ≤ 9223372036854775807) :
    (Instr.lookup 153 (.map (some M)) (.int .i64 i) false).run Tryz.prog w = .ok (.int .i64 ((c i : Nat) : Int)) w := by
  obtain ⟨D, hown, hat⟩ := h
  obtain ⟨k, hrun, hk, _⟩ := hown.lookup_int lawI Tryz.underlying153 Tryz.underlying3 (zeroI w) (keyI h1 h2)
  have h3 := (hat i).symm.trans hk
  injection h3 with h3
  injection h3 with _ h3
  rw [hrun, h3]
end Go.Proofs.YtndagciefnddmaaGreatDoor
namespace Go.Proofs.YtndagciefnddmaaGreatDoor
open Go.RowKit Oct
attribute [local irreducible] wpG
section
variable {base G M : Nat} {w w' w3 : World} {f : Mf} {at_ : Int} {st rg : List MV} {eos l : List Eo} {pr : List (List UInt8 × List UInt8)} {tr : List Int} {tv cv iv ev lv stv opv opv' prv trv trv' : Value} {X : List (Pt base)} {e : Eo}
theorem recEa_next (l : List Eo) (e : Eo) : recEa.cells (l ++ [nextE e]) = recEa.cells (l ++ [e]) := by
  rw [Rec.cells_append, Rec.cells_append]; rfl
theorem MR.turnLast (h : MR base w G f at_ st rg (l ++ [e]) pr tr stv opv prv trv X) (hc : Chg (fun k => k = e.bm ∨ k = e.bt) w w') (hb : boxOk base w' (nextE e)) : MR base w' G f at_ st rg (l ++ [nextE e]) pr tr stv opv prv trv X ∧ Below base w w' := by
  have hX : ∀ k, (k = e.bm ∨ k = e.bt) → (boxPt (base := base) (l ++ [e])).fp k := fun k hk => ⟨e, by simp, by rcases hk with rfl | rfl; exact .inl rfl; exact .inr (.inl rfl)⟩
  have hap := (List.pairwise_append.1 h.ob.2).2.2
  have hP : (boxPt (base := base) (l ++ [nextE e])).P w' := by
    refine ⟨fun x hx => ?_, ?_⟩
    · rcases List.mem_append.1 hx with hx | hx
      · obtain ⟨h1, h2, h3, h4⟩ := h.ob.1 x (by simp [hx])
        have hn : ∀ k, eoIn k x → ¬ (k = e.bm ∨ k = e.bt) := fun k hk hk' => hap x hx e (by simp) k hk (by rcases hk' with rfl | rfl; exact .inl rfl; exact .inr (.inl rfl))
        exact ⟨h1.chg hc (hn _ (.inl rfl)), h2.chg hc (hn _ (.inr (.inl rfl))), h3.chg hc (hn _ (.inr (.inr rfl))), h4⟩
      · rw [List.mem_singleton] at hx
        subst hx
        exact hb
    · refine List.pairwise_append.2 ⟨(List.pairwise_append.1 h.ob.2).1, List.pairwise_singleton _ _, fun a ha b hb' k hk hk' => ?_⟩
      rw [List.mem_singleton] at hb'
      subst hb'
      exact hap a ha e (by simp) k hk hk'
  have hf : ∀ k, (boxPt (base := base) (l ++ [nextE e])).fp k → (boxPt (base := base) (l ++ [e])).fp k := by
    rintro k ⟨x, hx, hk⟩
    rcases List.mem_append.1 hx with hx | hx
    · exact ⟨x, by simp [hx], hk⟩
    · rw [List.mem_singleton] at hx
      subst hx
      exact ⟨e, by simp, hk⟩
  have s1 := h.sep.upd (i := 3) rfl hc hX (boxPt (l ++ [nextE e])) hP (fun k hk => .inl (hf k hk))
  have ho : recEa.Own w' base opv (l ++ [nextE e]) := by
    have := s1.get (i := 2) (p := ownPt recEa opv (l ++ [e])) rfl
    have this : recEa.Own w' base opv (l ++ [e]) := this
    unfold Rec.Own at this ⊢
    rw [recEa_next]
    simpa using this
  have s2 := s1.same (i := 2) (p := ownPt recEa opv (l ++ [e])) rfl (ownPt recEa opv (l ++ [nextE e])) ho (fun k hk => hk)
  exact ⟨⟨h.gb, h.rl, s2⟩, h.sep.updB (i := 3) rfl hc hX h.size⟩
set_option maxRecDepth 100000 in
set_option maxHeartbeats 4000000 in
theorem vend_not (y : UInt8) (pc n : Nat) (c : Int → Nat) (h : MR base w G ⟨tv, cv, iv, ev, .map (some M), [], 0⟩ (pc : Int) st rg eos pr tr stv opv prv trv X) (hm : mapI w M n c) (hc : c (pc : Int) = 0) (hpc : pc ≤ 1000) :
    Calls Tryz.prog 231 #[.pointer (some ⟨G, 0, none⟩), .int .u8 (y.toNat : Int)] w fun e w' => e = .returned (.int .i64 0) ∧ Below w.heap.size w w' := by
  have hlk : ∀ nq, (Instr.lookup 153 (.map (some M)) (.int .i64 (pc : Int)) false).run Tryz.prog (w.drewN nq) = .ok (.int .i64 0) (w.drewN nq) := fun nq => by
    have := (hm.block (w' := w.drewN nq) rfl).look (i := (pc : Int)) (by omega) (by omega)
    rw [hc] at this
    exact this
  have c4 : w.cell? ⟨G, 4, none⟩ = some (.map (some M)) := h.cell (k := 4) rfl
  have c5 : w.cell? ⟨G, 5, none⟩ = some (.int .i64 (pc : Int)) := h.cell (k := 5) rfl
  clear h hm hc
  go_enter Tryz.func231, Tryz.ntmps231
  go_wp2_with fail
  go_quiet (fail)
  go_wp2_with fail
  go_ret
  exact ⟨rfl, Below.drewN' _ _⟩
set_option maxRecDepth 100000 in
set_option maxHeartbeats 8000000 in
theorem vend_loop (y : UInt8) (pc n : Nat) (c : Int → Nat) (h : MR base w G ⟨tv, cv, iv, ev, .map (some M), [], 0⟩ (pc : Int) st rg (l ++ [e]) pr tr stv opv prv trv X) (hm : mapI w M n c) (hc : c (pc : Int) ≠ 0) (hpc : pc ≤ 1000) (hl : st.length ≤ 900) (he : l.length ≤ 900) (hr : e.rest.length ≤ 1024) (hG : ∀ w', Below base w w' → GlobV w') :
    Calls Tryz.prog 231 #[.pointer (some ⟨G, 0, none⟩), .int .u8 (y.toNat : Int)] w fun r w' => r = .returned (.int .i64 0) ∧
      ((leftE e = [] ∧ ∃ opv', MR base w' G ⟨tv, cv, iv, ev, .map (some M), [], 0⟩ (pc : Int) st rg l pr tr stv opv' prv trv X) ∨
       (∃ p ps, leftE e = p :: ps ∧ ∃ stv' e', leftE e' = ps ∧ e'.at_ = e.at_ ∧ e'.rest.length ≤ 1024 ∧ MR base w' G ⟨tv, cv, iv, ev, .map (some M), [], 0⟩ (e.at_ : Int) ((0, p) :: st) rg (l ++ [e']) pr tr stv' opv prv trv X)) ∧ Below base w w' := by
  obtain ⟨k, hk⟩ : ∃ k, k = c (pc : Int) := ⟨_, rfl⟩
  have hlk : ∀ nq, (Instr.lookup 153 (.map (some M)) (.int .i64 (pc : Int)) false).run Tryz.prog (w.drewN nq) = .ok (.int .i64 (k : Int)) (w.drewN nq) := fun nq => by
    have := (hm.block (w' := w.drewN nq) rfl).look (i := (pc : Int)) (by omega) (by omega)
    rw [← hk] at this
    exact this
  rw [← hk] at hc
  have k0 : ((k : Int) == 0) = false := by rw [beq_eq_false_iff_ne]; omega
  have c4 : w.cell? ⟨G, 4, none⟩ = some (.map (some M)) := h.cell (k := 4) rfl
  have c5 : w.cell? ⟨G, 5, none⟩ = some (.int .i64 (pc : Int)) := h.cell (k := 5) rfl
  obtain ⟨_, ⟨oa, oc, hov⟩, _, _⟩ := h.slices
  rw [List.length_append, List.length_singleton] at hov
  subst hov
  have HH := Lib.hid h
  have HG := Lib.hid hG
  clear h hm hc hk hG
  go_enter Tryz.func231, Tryz.ntmps231
  go_wp2_with fail
  go_quiet (fail)
  go_upto_region 3 with fail
  obtain ⟨W1, hW1⟩ : ∃ W1, W1 = w.drewN nq := ⟨_, rfl⟩
  have hb1 : Below w.heap.size w W1 := by rw [hW1]; exact Below.drewN' _ _
  rw [← hW1]
  have hm1 := HH.out.below hb1
  have HB1 := Lib.hid (hb1.mono HH.out.size)
  clear hW1 hb1 hlk c4 c5 k0
  have c23 : W1.cell? ⟨G, 23, none⟩ = some (.slice oa (l.length + 1) oc) := hm1.cellR (k := 0) rfl
  obtain ⟨a', cap, hv, -, hcc⟩ := Rec.Row.open hm1.oo.row
  obtain ⟨b, off, ha, hu⟩ := hcc l.length (by simp)
  rw [List.length_append, List.length_singleton] at hv
  injection hv with e1 e2 e3
  subst e1 e3 ha
  have hg : (l ++ [e])[l.length]'(by simp) = e := by simp
  rw [hg] at hu
  have d0 := hu 0 _ rfl
  have d1 := hu 1 _ rfl
  change W1.cell? ⟨b, off + l.length * 2, none⟩ = _ at d0
  change W1.cell? ⟨b, off + l.length * 2 + 1, none⟩ = _ at d1
  have hGl : G < W1.heap.size := hm1.blk.lt
  have hbl : b < W1.heap.size := lt_of_cell d0
  have hl1 : ((l.length : Int) + 1) - 1 = (l.length : Int) := by omega
  have hl2 : (0 : Int) ≤ (l.length : Int) := by omega
  have hl3 : (l.length : Int) < (l.length : Int) + 1 := by omega
  have hl4 : (l.length : Int) ≤ 900 := by omega
  have HM1 := Lib.hid hm1
  unfold eoF at d1
  clear hm1 hu hcc hg
  go_region
  obtain ⟨B, hB⟩ : ∃ B, B = W1.heap.size := ⟨_, rfl⟩
  have hBb : base ≤ B := by rw [hB]; exact HM1.out.size
  obtain ⟨W2, hW2⟩ : ∃ W2, W2 = (W1.alloc (.cells #[.int .i64 (e.at_ : Int), eoF e] 299)).drew := ⟨_, rfl⟩
  have hm2 : MR base W2 G ⟨tv, cv, iv, ev, .map (some M), [], 0⟩ (pc : Int) st rg (l ++ [e]) pr tr stv (.slice (some ⟨b, off, none⟩) (l.length + 1) oc) prv trv (X ++ [blkPt B hBb 299 [.int .i64 (e.at_ : Int), eoF e]]) := by
    subst hB; rw [hW2]; exact (HM1.out.add [.int .i64 (e.at_ : Int), eoF e] 299).below (b_drew _)
  have HB2 := Lib.hid (show Below base w W2 by rw [hW2]; exact HB1.out.trans ((bt (b_alloc _ _) (b_drew _)).mono HM1.out.size))
  unfold eoF at hW2
  rw [← hW2, ← hB]
  clear hW2 hB HM1 HB1 d0 d1 c23 hGl hbl
  obtain ⟨g, hgv⟩ := hm2.oo.at0 (by simp)
  obtain rfl : off = 0 := by injection hgv with h1; injection h1
  clear hgv
  have hX := hm2.loc (p := blkPt B hBb 299 [.int .i64 (e.at_ : Int), eoF e]) (by simp)
  have x1 := Blk.cell (k := 1) hX rfl
  have x2 := Blk.lt hX
  unfold eoF at x1
  have HX := Lib.hid (hm2.ob.1 e (by simp))
  have HM := Lib.hid hm2
  clear hX hm2
  cases hmo : e.more with
  | false =>
    have HLE := Lib.hid (show leftE e = [] by unfold leftE; rw [hmo]; rfl)
    go_wp2_with (go_at_call 238; refine (nextM_no HX.out hmo).mono ?_; rintro r w2 ⟨rfl, rfl⟩)
    have hm2 := HM.out
    have c23 : w2.cell? ⟨G, 23, none⟩ = some (.slice (some ⟨b, 0, none⟩) (l.length + 1) oc) := hm2.cellR (k := 0) rfl
    have f23 := hm2.free (k := 23) (by decide)
    have hGl : G < w2.heap.size := hm2.blk.lt
    have ho : recEa.Own w2 base (.slice (some ⟨b, 0, none⟩) (l ++ [e]).length oc) (l ++ [e]) := by rw [List.length_append, List.length_singleton]; exact hm2.oo
    have hrun := ho.shortRun 158 Tryz.underlying158 (by intro wx; kernel_rfl) l.length (by simp)
    rw [List.length_append, List.length_singleton] at hrun
    have hsh : recEa.Own w2.drew base (.slice (some ⟨b, 0, none⟩) l.length oc) l := by
      have := (ho.below (b_drew w2)).short l.length (by simp)
      rwa [List.take_append_of_le_length (by simp), List.take_of_length_le (by simp)] at this
    have hob := (hm2.below (b_drew w2)).ob
    have hn := (hm2.below (b_drew w2)).newO (opv' := .slice (some ⟨b, 0, none⟩) l.length oc) (l := l) (Chg.refl _ _) (fun k hk => by cases hk; exact .inl rfl) hsh ⟨fun x hx => hob.1 x (by simp [hx]), (List.pairwise_append.1 hob.2).1⟩ (fun x hx k hk => ⟨x, by simp [hx], hk⟩)
    have HN := Lib.hid hn
    clear ho hsh hn hob hm2 x1 x2 hmo
    go_region
    go_wp2_with fail
    go_ret
    exact ⟨rfl, .inl ⟨HLE.out, _, HN.out.1.drop⟩, (HB2.out.trans ((b_drew w2).mono HM.out.size)).trans HN.out.2.1⟩
  | true =>
    obtain ⟨hl1', -, hl3'⟩ := leftE_next hmo
    obtain ⟨p, hp⟩ : ∃ p, p = (Lib.cut e.rest [e.by_]).1 := ⟨_, rfl⟩
    have HY := Lib.hid (nextM_yes HX.out hmo hr (HG.out _ HB2.out).mx)
    rw [← hp] at HY hl1'
    have HL1 := Lib.hid hl1'
    have HL3 := Lib.hid hl3'
    clear hl1' hl3' hp hmo
    go_wp2_with (first | (go_at_call 234; refine (push_any (0, p) (HM2.out.setAt (e.at_ : Int)).1 (by omega)).mono ?_; rintro r w5 ⟨rfl, ⟨sv5, hm5⟩, hB5⟩; have HM5 := Lib.hid hm5; have HB5 := Lib.hid ((HB3.out.trans (HM2.out.setAt (e.at_ : Int)).2).trans hB5); clear hm5 hB5) | (go_at_call 238; refine HY.out.mono ?_; rintro r w2 ⟨rfl, hbx2, hc2⟩; obtain ⟨hm2, hb2⟩ := HM.out.turnLast hc2 hbx2; have hX2 := hm2.loc (p := blkPt B hBb 299 [.int .i64 (e.at_ : Int), eoF e]) (by simp); have x0 := Blk.cell (k := 0) hX2 rfl; have c5 := hm2.cell (k := 5) rfl; have f5 := hm2.free (k := 5) (by decide); have HM2 := Lib.hid hm2; have HB3 := Lib.hid (HB2.out.trans hb2); clear hm2 hb2 hc2 hbx2 hX2))
    go_ret
    exact ⟨rfl, .inr ⟨p, _, HL1.out, sv5, nextE e, rfl, rfl, Nat.le_trans HL3.out hr, HM5.out.drop⟩, HB5.out⟩
end
end Go.Proofs.YtndagciefnddmaaGreatDoor
namespace Go.Proofs.YtndagciefnddmaaGreatDoor
open Go.RowKit
def lexDeps (md : Region.Mode) (ops : Array Oper) : Bool :=
  (List.range ops.size).all fun i => match ops[i]? with
    | some o => o.after.all fun e => !Region.binds md e || decide (e.on < i)
    | none => true
def invSteps (P : Program) (md : Region.Mode) (ops : Array Oper) (I : Array Bool → Act → World → Prop) (Q : Exit → Act → World → Prop) : Nat → List Oper → Prop
  | _, [] => True
  | k, o :: rest => (∀ listed a w, I listed a w → listed.getD k true = false → (∀ e ∈ o.after, Region.binds md e = true → listed.getD e.on false = true) →
      (if Region.wanted o (yielded ops a.tmps) = true then o.wp P a w (fun a' w' => I (listed.setIfInBounds k true) a' w') Q else I (listed.setIfInBounds k true) (a.put o.dst undef) w)) ∧ invSteps P md ops I Q (k + 1) rest
section
variable {P : Program} {md : Region.Mode} {ops : Array Oper} {I : Array Bool → Act → World → Prop} {Q : Exit → Act → World → Prop}
theorem invSteps_at : ∀ (l : List Oper) (k i : Nat) (o : Oper), invSteps P md ops I Q k l → l[i]? = some o →
    ∀ listed a w, I listed a w → listed.getD (k + i) true = false → (∀ e ∈ o.after, Region.binds md e = true → listed.getD e.on false = true) →
      (if Region.wanted o (yielded ops a.tmps) = true then o.wp P a w (fun a' w' => I (listed.setIfInBounds (k + i) true) a' w') Q else I (listed.setIfInBounds (k + i) true) (a.put o.dst undef) w)
  | [], _, _, _, _, h => by simp at h
  | o :: l, k, 0, o', hs, h => by
    simp only [List.getElem?_cons_zero, Option.some.injEq] at h
    subst h
    exact hs.1
  | o :: l, k, i + 1, o', hs, h => by
    have := invSteps_at l (k + 1) i o' hs.2 (by simpa using h)
    rw [show k + (i + 1) = k + 1 + i by omega]
    exact this
theorem all_listed (hl : lexDeps md ops = true) {listed : Array Bool} (hs : listed.size = ops.size) (hr : Region.ready md ops listed = []) : ∀ n i, i < n → i < ops.size → listed.getD i false = true := by
  intro n
  induction n with
  | zero => intro i h; omega
  | succ n ih =>
    intro i hi his
    have ho : ops[i]? = some ops[i] := Array.getElem?_eq_getElem his
    have h1 := List.all_eq_true.1 hl i (List.mem_range.2 his)
    simp only [ho, Array.all_eq_true_iff_forall_mem] at h1
    cases hb : listed.getD i true with
    | true =>
      have hx : i < listed.size := by omega
      simp only [Array.getD_eq_getD_getElem?, Array.getElem?_eq_getElem hx, Option.getD_some] at hb ⊢
      exact hb
    | false =>
      have : i ∈ Region.ready md ops listed := mem_ready.2 ⟨hb, _, ho, fun e he hbi => by
        have h2 := h1 e he
        rw [hbi] at h2
        have h3 : e.on < i := by simpa using h2
        exact ih e.on (by omega) (by omega)⟩
      rw [hr] at this
      cases this
theorem count_set_true : ∀ (l : List Bool) (i : Nat), l[i]? = some false → (l.set i true).count false + 1 = l.count false
  | [], _, h => by simp at h
  | b :: l, 0, h => by simp at h; subst h; simp
  | b :: l, i + 1, h => by
    have := count_set_true l i (by simpa using h)
    cases b <;> simp [List.set_cons_succ, List.count_cons] <;> omega
theorem wpAny_inv (hlex : lexDeps md ops = true)
    (hend : ∀ listed a w, I listed a w → listed.size = ops.size → (∀ i, i < ops.size → listed.getD i false = true) → Q .normal a w) (hstep : invSteps P md ops I Q 0 ops.toList) :
    ∀ (fuel : Nat) (listed : Array Bool) (a : Act) (w : World), listed.size = ops.size → listed.toList.count false ≤ fuel → I listed a w → wpAny P md ops Q fuel listed a w := by
  intro fuel
  induction fuel with
  | zero =>
    intro listed a w hs hc hI
    have hr : Region.ready md ops listed = [] := by
      rw [List.eq_nil_iff_forall_not_mem]
      intro j hj
      obtain ⟨h1, o, h2, _⟩ := mem_ready.1 hj
      have hjs : j < listed.size := by rw [hs]; exact (Array.getElem?_eq_some_iff.1 h2).1
      have : false ∈ listed.toList := by
        simp only [Array.getD_eq_getD_getElem?, Array.getElem?_eq_getElem hjs, Option.getD_some] at h1
        rw [← h1]; simp
      have := List.count_pos_iff.2 this
      omega
    exact ⟨hr, hend listed a w hI hs fun i hi => all_listed hlex hs hr (i + 1) i (by omega) hi⟩
  | succ fuel ih =>
    intro listed a w hs hc hI
    refine ⟨fun hr => hend listed a w hI hs fun i hi => all_listed hlex hs hr (i + 1) i (by omega) hi, fun i hi => ?_⟩
    obtain ⟨h1, o, h2, h3⟩ := mem_ready.1 hi
    have his : i < listed.size := by rw [hs]; exact (Array.getElem?_eq_some_iff.1 h2).1
    have hget : listed.toList[i]? = some false := by
      simp only [Array.getD_eq_getD_getElem?, Array.getElem?_eq_getElem his, Option.getD_some] at h1
      rw [Array.getElem?_toList, Array.getElem?_eq_getElem his, h1]
    have hcc := count_set_true _ _ hget
    have hnext : ∀ a' w', I (listed.setIfInBounds i true) a' w' → wpAny P md ops Q fuel (listed.setIfInBounds i true) a' w' := fun a' w' hI' =>
      ih _ a' w' (by simpa using hs) (by rw [Array.toList_setIfInBounds]; omega) hI'
    have hk := invSteps_at ops.toList 0 i o hstep (by simpa using h2) listed a w hI (by simpa using h1) h3
    rw [Nat.zero_add] at hk
    unfold wpOp
    simp only [h2]
    split
    · rename_i hw
      rw [if_pos hw] at hk
      exact .inl (Oper.wp_mono hnext hk)
    · rename_i hw
      rw [if_neg hw] at hk
      exact hnext _ _ hk
theorem region_inv {id : Nat} {a : Act} {w : World} {l : List Oper} (I : Array Bool → Act → World → Prop) (hm : P.follows .mixedOrders = true) (hlex : lexDeps .any l.toArray = true)
    (h0 : I (Array.replicate l.length false) a w.drew) (hend : ∀ listed a w, I listed a w → listed.size = l.length → (∀ i, i < l.length → listed.getD i false = true) → Q .normal a w)
    (hstep : invSteps P .any l.toArray I Q 0 l) : (Code.region id l.toArray true).wp P Q a w :=
  wp_region_any hm (wpAny_inv hlex (fun listed a w h hs hall => hend listed a w h (by simpa using hs) (fun i hi => hall i (by simpa using hi))) (by simpa using hstep) _ _ _ _ (by simp) (by simp) (by simpa using h0))
end
end Go.Proofs.YtndagciefnddmaaGreatDoor
