/- Lemmas for JobRuns, part 8: walks of the functions that it reaches, and the plain laws behind them. -/
import Derived.Lib.ConvBytes
import Derived.Laws.AppendOwn
import Derived.Test.YtndagciefnddmaaGreatDoorJobRunsK1
import Derived.Test.YtndagciefnddmaaGreatDoorJobRunsK7
set_option linter.unusedSimpArgs false
set_option linter.unusedVariables false
namespace Go.Proofs.YtndagciefnddmaaGreatDoor
open Go.RowKit Oct
attribute [local irreducible] wpG
section
variable {base G : Nat} {w w' : World} {f : Mf} {at_ : Int} {st rg : List MV} {eos : List Eo} {pr : List (List UInt8 × List UInt8)} {tr : List Int} {stv opv prv trv : Value} {X : List (Pt base)}
theorem results_ccM {P : Program} {fn : Func} {p q : Tmp} {ty tz : TypeId} {tmps : Array Value} {w : World} {v u : Value} {b c : Nat} (hr : fn.results = #[.cell p ty, .cell q tz]) (hp : tmps.getD p undef = .pointer (some ⟨b, 0, none⟩)) (hq : tmps.getD q undef = .pointer (some ⟨c, 0, none⟩))
    (hl : (loadVar ty ⟨b, 0, none⟩).run P w = .ok v w) (hk : (loadVar tz ⟨c, 0, none⟩).run P w = .ok u w) : (results fn tmps).run P w = .ok (.tuple #[v, u]) w := by
  simp only [Array.getD_eq_getD_getElem?] at hp hq ⊢
  simp [results, hr, Sem.run_bind, Result.andThen, hp, hq, asAddr, hl, hk]
@[go_sem] theorem field_mv0 (v0 v1 : Value) (w : World) : (Instr.field 156 (.agg #[v0, v1]) 0).run Tryz.prog w = .ok v0 w := by kernel_rfl
@[go_sem] theorem field_mv1 (v0 v1 : Value) (w : World) : (Instr.field 156 (.agg #[v0, v1]) 1).run Tryz.prog w = .ok v1 w := by kernel_rfl
theorem size_alM (w : World) (o : Obj) : (w.alloc o).heap.size = w.heap.size + 1 := Array.size_push ..
theorem pre_setP {α : Type} {X L : List α} (h : X <+: L) (k : Nat) (q : α) : X <+: L.set (X.length + k) q := by
  obtain ⟨Z, rfl⟩ := h
  rw [List.set_append_right _ _ (by omega)]
  exact List.prefix_append _ _
set_option maxRecDepth 100000 in
set_option maxHeartbeats 4000000 in
theorem two_any (a b : MV) (h : MR base w G f at_ (b :: a :: st) rg eos pr tr stv opv prv trv X) (hl : st.length ≤ 900) :
    Calls Tryz.prog 235 #[.pointer (some ⟨G, 0, none⟩)] w fun e w' => e = .returned (.tuple #[mvV a, mvV b]) ∧ (∃ stv', MR base w' G f at_ st rg eos pr tr stv' opv prv trv X) ∧ Below base w w' := by
  have HH := Lib.hid h
  obtain ⟨R, hR⟩ : ∃ R, R = w.heap.size := ⟨_, rfl⟩
  obtain ⟨W1, hW1⟩ : ∃ W1, W1 = (w.alloc (.cells #[.int .i64 0, .string ⟨#[]⟩] 156)).alloc (.cells #[.int .i64 0, .string ⟨#[]⟩] 156) := ⟨_, rfl⟩
  have hRb : base ≤ R := by rw [hR]; exact HH.out.size
  have hRb1 : base ≤ R + 1 := by omega
  have hm1 : MR base W1 G f at_ (b :: a :: st) rg eos pr tr stv opv prv trv (X ++ [blkPt R hRb 156 [.int .i64 0, .string ⟨#[]⟩]] ++ [blkPt (R + 1) hRb1 156 [.int .i64 0, .string ⟨#[]⟩]]) := by
    have h2 := (HH.out.add [.int .i64 0, .string ⟨#[]⟩] 156).add [.int .i64 0, .string ⟨#[]⟩] 156
    have hsz : (w.alloc (.cells [Value.int .i64 0, .string ⟨#[]⟩].toArray 156)).heap.size = R + 1 := by rw [hR]; exact size_alM _ _
    simp only [hsz] at h2
    subst hR
    rw [hW1]
    exact h2
  have HB1 := Lib.hid (show Below w.heap.size w W1 by rw [hW1]; exact bt (b_alloc _ _) (b_alloc _ _))
  have HM1 := Lib.hid hm1
  have HP1 := Lib.hid (pop_any b hm1 (by simp; omega))
  clear h hm1
  go_enter Tryz.func235, Tryz.ntmps235
  go_upto_region 1 with fail
  rw [← hW1, ← hR]
  clear hW1 hR
  go_upto_region 2 with (go_at_call 88; refine HP1.out.mono ?_; rintro e w2 ⟨rfl, ⟨sv2, hm⟩, hB⟩; unfold mvV; have HM2 := Lib.hid hm; have HB2 := Lib.hid hB; have hR1 : Blk w2 (R + 1) 156 [.int .i64 0, .string ⟨#[]⟩] := hm.loc (p := blkPt (R + 1) hRb1 156 [.int .i64 0, .string ⟨#[]⟩]) (by simp); have r0 := hR1.cell (k := 0) rfl; have r1 := hR1.cell (k := 1) rfl; have k0 := hR1.free (k := 0) (by simp); have k1 := hR1.free (k := 1) (by simp); have HR1 := Lib.hid hR1; clear hR1 hm hB)
  obtain ⟨hy3, hc3⟩ := mv_store HR1.out (.int .i64 b.1) (.string (bs b.2))
  obtain ⟨W3, hW3⟩ : ∃ W3, W3 = (w2.setCell ⟨R + 1, 0, none⟩ (.int .i64 b.1)).setCell ⟨R + 1, 1, none⟩ (.string (bs b.2)) := ⟨_, rfl⟩
  rw [← hW3] at hy3 hc3 ⊢
  obtain ⟨hm3, hb3⟩ := HM2.out.updX (i := X.length + 1) (p := blkPt (R + 1) hRb1 156 [.int .i64 0, .string ⟨#[]⟩]) (by rw [List.append_assoc, List.getElem?_append_right (by omega)]; simp) hc3 (fun k hk => hk) (blkPt (R + 1) hRb1 156 [.int .i64 b.1, .string (bs b.2)]) hy3 (fun k hk => hk)
  rw [show (X ++ [blkPt R hRb 156 [.int .i64 0, .string ⟨#[]⟩]] ++ [blkPt (R + 1) hRb1 156 [.int .i64 0, .string ⟨#[]⟩]]).set (X.length + 1) (blkPt (R + 1) hRb1 156 [.int .i64 b.1, .string (bs b.2)]) = X ++ [blkPt R hRb 156 [.int .i64 0, .string ⟨#[]⟩]] ++ [blkPt (R + 1) hRb1 156 [.int .i64 b.1, .string (bs b.2)]] from by
    rw [List.append_assoc, List.append_assoc, List.set_append_right _ _ (by omega), Nat.add_sub_cancel_left]; rfl] at hm3
  have HB3 := Lib.hid (((HB1.out.mono HH.out.size).trans HB2.out).trans hb3)
  have hmd := hm3.below (b_drew W3)
  have HP2 := Lib.hid (pop_any a hmd (by omega))
  have y0 : W3.cell? ⟨R + 1, 0, none⟩ = some (.int .i64 b.1) := hy3.cell (k := 0) rfl
  have y1 : W3.cell? ⟨R + 1, 1, none⟩ = some (.string (bs b.2)) := hy3.cell (k := 1) rfl
  have HMD := Lib.hid hmd
  have hs3 : base ≤ W3.heap.size := hm3.size
  clear hW3 r0 r1 k0 k1 HR1 HM2 HB2 HP1 HM1 HB1 hy3 hc3 hm3 hb3 hmd
  go_region_with (go_at_call 88; refine HP2.out.mono ?_; rintro e w4 ⟨rfl, ⟨sv4, hm⟩, hB⟩; unfold mvV; have HM4 := Lib.hid hm; have HB4 := Lib.hid ((HB3.out.trans ((b_drew W3).mono hs3)).trans hB); have hR1 : Blk w4 (R + 1) 156 [.int .i64 b.1, .string (bs b.2)] := hm.loc (p := blkPt (R + 1) hRb1 156 [.int .i64 b.1, .string (bs b.2)]) (by simp); have hR0 : Blk w4 R 156 [.int .i64 0, .string ⟨#[]⟩] := hm.loc (p := blkPt R hRb 156 [.int .i64 0, .string ⟨#[]⟩]) (by simp); have s0 := hR1.cell (k := 0) rfl; have s1 := hR1.cell (k := 1) rfl; have k0 := hR1.free (k := 0) (by simp); have k1 := hR1.free (k := 1) (by simp); have r0 := hR0.cell (k := 0) rfl; have r1 := hR0.cell (k := 1) rfl; have j0 := hR0.free (k := 0) (by simp); have j1 := hR0.free (k := 1) (by simp); have HR0 := Lib.hid hR0; have HR1 := Lib.hid hR1; clear hR0 hR1 hm hB)
  all_goals
    (try dsimp only)
    (try go_frame)
    go_wp2_with fail
    obtain ⟨h5, c5⟩ := mv_store HR0.out (.int .i64 a.1) (.string (bs a.2))
    obtain ⟨m5, b5⟩ := HM4.out.updX (i := X.length) (p := blkPt R hRb 156 [.int .i64 0, .string ⟨#[]⟩]) (by simp) c5 (fun k hk => hk) (blkPt R hRb 156 [.int .i64 a.1, .string (bs a.2)]) h5 (fun k hk => hk)
    obtain ⟨h6, c6⟩ := mv_store (HR1.out.chg c5 (by show ¬ (R + 1 = R); omega)) (.int .i64 b.1) (.string (bs b.2))
    obtain ⟨m6, b6⟩ := m5.updX (i := X.length + 1) (p := blkPt (R + 1) hRb1 156 [.int .i64 b.1, .string (bs b.2)]) (by rw [List.getElem?_set_ne (by omega), List.append_assoc, List.getElem?_append_right (by omega)]; simp) c6 (fun k hk => hk) (blkPt (R + 1) hRb1 156 [.int .i64 b.1, .string (bs b.2)]) h6 (fun k hk => hk)
    have h7 := h5.chg c6 (by show ¬ (R = R + 1); omega)
    refine bodyPost_ret (results_ccM rfl rfl rfl (load_mv (h7.cell (k := 0) rfl) (h7.cell (k := 1) rfl)) (load_mv (h6.cell (k := 0) rfl) (h6.cell (k := 1) rfl))) rfl ?_
    exact ⟨rfl, ⟨_, m6.pre (pre_setP (pre_setP (k := 0) (by rw [List.append_assoc]; exact List.prefix_append _ _) _) 1 _)⟩, (HB4.out.trans b5).trans b6⟩
set_option maxRecDepth 100000 in
set_option maxHeartbeats 2000000 in
theorem bit_any (q : Bool) (h : MR base w G f at_ st rg eos pr tr stv opv prv trv X) (hl : st.length ≤ 1000) :
    Calls Tryz.prog 236 #[.pointer (some ⟨G, 0, none⟩), .bool q] w fun e w' => e = .returned (.int .i64 0) ∧ (∃ stv', MR base w' G f at_ (bitM q :: st) rg eos pr tr stv' opv prv trv X) ∧ Below base w w' := by
  have HP := Lib.hid (push_any (bitM q) h hl)
  clear h
  cases q with
  | true =>
    go_enter Tryz.func236, Tryz.ntmps236
    go_wp2_with (go_at_call 234; refine HP.out.mono ?_; rintro e w2 ⟨rfl, ⟨sv, hm⟩, hB⟩; have HM := Lib.hid hm; have HB := Lib.hid hB; clear hm hB)
    go_ret
    exact ⟨rfl, ⟨_, HM.out⟩, HB.out⟩
  | false =>
    go_enter Tryz.func236, Tryz.ntmps236
    go_wp2_with (go_at_call 234; refine HP.out.mono ?_; rintro e w2 ⟨rfl, ⟨sv, hm⟩, hB⟩; have HM := Lib.hid hm; have HB := Lib.hid hB; clear hm hB)
    go_ret
    exact ⟨rfl, ⟨_, HM.out⟩, HB.out⟩
set_option maxRecDepth 100000 in
set_option maxHeartbeats 2000000 in
theorem vnum_any (y : UInt8) (h : MR base w G f at_ st rg eos pr tr stv opv prv trv X) (hl : st.length ≤ 1000) :
    Calls Tryz.prog 212 #[.pointer (some ⟨G, 0, none⟩), .int .u8 (y.toNat : Int)] w fun e w' => e = .returned (.int .i64 0) ∧ (∃ stv', MR base w' G f at_ (((y.toNat : Int), []) :: st) rg eos pr tr stv' opv prv trv X) ∧ Below base w w' := by
  have HP := Lib.hid (push_any ((y.toNat : Int), []) h hl)
  have cw : wrap64 (y.toNat : Int) = (y.toNat : Int) := by have := y.toNat_lt; unfold wrap64; omega
  have cv : IntKind.i64.wrap (y.toNat : Int) = (y.toNat : Int) := by have := y.toNat_lt; simp [IntKind.wrap, IntKind.bits, IntKind.signed]; omega
  clear h
  go_enter Tryz.func212, Tryz.ntmps212
  go_wp2_with (go_at_call 234; refine HP.out.mono ?_; rintro e w2 ⟨rfl, ⟨sv, hm⟩, hB⟩; have HM := Lib.hid hm; have HB := Lib.hid hB; clear hm hB)
  go_ret
  exact ⟨rfl, ⟨_, HM.out⟩, HB.out⟩
set_option maxRecDepth 100000 in
set_option maxHeartbeats 2000000 in
theorem vdrop_any (y : UInt8) (a : MV) (h : MR base w G f at_ (a :: st) rg eos pr tr stv opv prv trv X) (hl : st.length ≤ 900) :
    Calls Tryz.prog 224 #[.pointer (some ⟨G, 0, none⟩), .int .u8 (y.toNat : Int)] w fun e w' => e = .returned (.int .i64 0) ∧ (∃ stv', MR base w' G f at_ st rg eos pr tr stv' opv prv trv X) ∧ Below base w w' := by
  have HP := Lib.hid (pop_any a h (by omega))
  clear h
  go_enter Tryz.func224, Tryz.ntmps224
  go_wp2_with (go_at_call 88; refine HP.out.mono ?_; rintro e w2 ⟨rfl, ⟨sv, hm⟩, hB⟩; have HM := Lib.hid hm; have HB := Lib.hid hB; clear hm hB)
  go_ret
  exact ⟨rfl, ⟨_, HM.out⟩, HB.out⟩
set_option maxRecDepth 100000 in
set_option maxHeartbeats 2000000 in
theorem vsize_any (y : UInt8) (a : MV) (h : MR base w G f at_ (a :: st) rg eos pr tr stv opv prv trv X) (hl : st.length ≤ 900) (ha : a.2.length ≤ 1024) :
    Calls Tryz.prog 215 #[.pointer (some ⟨G, 0, none⟩), .int .u8 (y.toNat : Int)] w fun e w' => e = .returned (.int .i64 0) ∧ (∃ stv', MR base w' G f at_ (((a.2.length : Int), []) :: st) rg eos pr tr stv' opv prv trv X) ∧ Below base w w' := by
  have HP := Lib.hid (pop_any a h (by omega))
  have hc : (a.2.length : Int) ≤ 1024 := by omega
  clear h
  go_enter Tryz.func215, Tryz.ntmps215
  go_wp2_with (first | (go_at_call 234; refine (push_any ((a.2.length : Int), []) HM.out (by omega)).mono ?_; rintro e w3 ⟨rfl, ⟨sv3, hm⟩, hB⟩; have HM3 := Lib.hid hm; have HB3 := Lib.hid (HB.out.trans hB); clear hm hB) | (go_at_call 88; refine HP.out.mono ?_; rintro e w2 ⟨rfl, ⟨sv, hm⟩, hB⟩; have HM := Lib.hid hm; have HB := Lib.hid hB; unfold mvV; clear hm hB))
  go_ret
  exact ⟨rfl, ⟨_, HM3.out⟩, HB3.out⟩
set_option maxRecDepth 100000 in
set_option maxHeartbeats 2000000 in
theorem vnot_any (y : UInt8) (a : MV) (h : MR base w G f at_ (a :: st) rg eos pr tr stv opv prv trv X) (hl : st.length ≤ 900) :
    Calls Tryz.prog 223 #[.pointer (some ⟨G, 0, none⟩), .int .u8 (y.toNat : Int)] w fun e w' => e = .returned (.int .i64 0) ∧ (∃ stv', MR base w' G f at_ (bitM (a.1 == 0) :: st) rg eos pr tr stv' opv prv trv X) ∧ Below base w w' := by
  have HP := Lib.hid (pop_any a h (by omega))
  clear h
  go_enter Tryz.func223, Tryz.ntmps223
  go_wp2_with (first | (go_at_call 236; refine (bit_any (a.1 == 0) HM.out (by omega)).mono ?_; rintro e w3 ⟨rfl, ⟨sv3, hm⟩, hB⟩; have HM3 := Lib.hid hm; have HB3 := Lib.hid (HB.out.trans hB); clear hm hB) | (go_at_call 88; refine HP.out.mono ?_; rintro e w2 ⟨rfl, ⟨sv, hm⟩, hB⟩; have HM := Lib.hid hm; have HB := Lib.hid hB; unfold mvV; clear hm hB))
  go_ret
  exact ⟨rfl, ⟨_, HM3.out⟩, HB3.out⟩
set_option maxRecDepth 100000 in
set_option maxHeartbeats 2000000 in
theorem vget_any (y : UInt8) (hy : y.toNat < 8) (h : MR base w G f at_ st rg eos pr tr stv opv prv trv X) (hl : st.length ≤ 1000) :
    Calls Tryz.prog 227 #[.pointer (some ⟨G, 0, none⟩), .int .u8 (y.toNat : Int)] w fun e w' => e = .returned (.int .i64 0) ∧ (∃ stv', MR base w' G f at_ (rg.getD y.toNat (0, []) :: st) rg eos pr tr stv' opv prv trv X) ∧ Below base w w' := by
  have HP := Lib.hid (push_any (rg.getD y.toNat (0, [])) h hl)
  obtain ⟨q0, q1⟩ := h.reg hy
  have i0 : (0 : Int) ≤ (y.toNat : Int) := by omega
  have i1 : (y.toNat : Int) < 8 := by omega
  obtain ⟨u, hu⟩ : ∃ u, u = rg.getD y.toNat (0, []) := ⟨_, rfl⟩
  rw [← hu] at HP q0 q1 ⊢
  clear h hu
  go_enter Tryz.func227, Tryz.ntmps227
  go_wp2_with (go_at_call 234; refine HP.out.mono ?_; rintro e w2 ⟨rfl, ⟨sv, hm⟩, hB⟩; have HM := Lib.hid hm; have HB := Lib.hid hB; clear hm hB)
  go_ret
  exact ⟨rfl, ⟨_, HM.out⟩, HB.out⟩
end
end Go.Proofs.YtndagciefnddmaaGreatDoor
namespace Go.Proofs.YtndagciefnddmaaGreatDoor
open Go.RowKit Oct
attribute [local irreducible] wpG
section
variable {base G : Nat} {w w' : World} {f : Mf} {at_ : Int} {st rg : List MV} {eos : List Eo} {pr : List (List UInt8 × List UInt8)} {tr : List Int} {stv opv prv trv : Value} {X : List (Pt base)}
theorem MR.add2 (h : MR base w G f at_ st rg eos pr tr stv opv prv trv X) (cs ds : List Value) (t : TypeId) (D : Nat) (hD : D = w.heap.size) (hDb : base ≤ D) (hDb1 : base ≤ D + 1) :
    MR base ((w.alloc (.cells cs.toArray t)).alloc (.cells ds.toArray t)) G f at_ st rg eos pr tr stv opv prv trv (X ++ [blkPt D hDb t cs] ++ [blkPt (D + 1) hDb1 t ds]) := by
  subst hD
  have h2 := (h.add cs t).add ds t
  have hsz : (w.alloc (.cells cs.toArray t)).heap.size = w.heap.size + 1 := size_alM _ _
  simp only [hsz] at h2
  exact h2
set_option maxRecDepth 100000 in
set_option maxHeartbeats 4000000 in
theorem vadd_any (y : UInt8) (a b : MV) (h : MR base w G f at_ (b :: a :: st) rg eos pr tr stv opv prv trv X) (hl : st.length ≤ 900) :
    Calls Tryz.prog 219 #[.pointer (some ⟨G, 0, none⟩), .int .u8 (y.toNat : Int)] w fun e w' => e = .returned (.int .i64 0) ∧ (∃ stv', MR base w' G f at_ ((wrap64 (a.1 + b.1), []) :: st) rg eos pr tr stv' opv prv trv X) ∧ Below base w w' := by
  have HP := Lib.hid (two_any a b h hl)
  have HH := Lib.hid h.size
  clear h
  go_enter Tryz.func219, Tryz.ntmps219
  go_upto_region 2 with (go_at_call 235; refine HP.out.mono ?_; rintro e w2 ⟨rfl, ⟨sv, hm⟩, hB⟩; unfold mvV; have HM := Lib.hid hm; have HB := Lib.hid hB; clear hm hB)
  obtain ⟨W3, hW3⟩ : ∃ W3, W3 = (w2.alloc (.cells #[.int .i64 a.1, .string (bs a.2)] 156)).alloc (.cells #[.int .i64 b.1, .string (bs b.2)] 156) := ⟨_, rfl⟩
  have hb3 : Below w2.heap.size w2 W3 := by rw [hW3]; exact bt (b_alloc _ _) (b_alloc _ _)
  have hx : Blk W3 w2.heap.size 156 [.int .i64 a.1, .string (bs a.2)] := by rw [hW3]; exact (Blk.new w2 _ _).below (b_alloc _ _)
  have hy : Blk W3 (w2.heap.size + 1) 156 [.int .i64 b.1, .string (bs b.2)] := by
    rw [hW3]
    have := Blk.new (w2.alloc (.cells #[.int .i64 a.1, .string (bs a.2)] 156)) [.int .i64 b.1, .string (bs b.2)] 156
    rw [size_alM] at this
    exact this
  have HM3 := Lib.hid (HM.out.below hb3)
  have HB3 := Lib.hid (HB.out.trans (hb3.mono HM.out.size))
  obtain ⟨D, hD⟩ : ∃ D, D = w2.heap.size := ⟨_, rfl⟩
  rw [← hD] at hx hy ⊢
  rw [← hW3]
  have x0 := hx.cell (k := 0) rfl
  have x1 := hx.cell (k := 1) rfl
  have y0 := hy.cell (k := 0) rfl
  have y1 := hy.cell (k := 1) rfl
  have HX := Lib.hid hx
  have HY := Lib.hid hy
  clear hx hy hW3 hD hb3 HM HB
  go_wp2_with (go_at_call 234; refine (push_any (wrap64 (a.1 + b.1), []) HM3.out (by omega)).mono ?_; rintro e w4 ⟨rfl, ⟨sv4, hm⟩, hB⟩; have HM4 := Lib.hid hm; have HB4 := Lib.hid (HB3.out.trans hB); clear hm hB)
  go_ret
  exact ⟨rfl, ⟨_, HM4.out⟩, HB4.out⟩
set_option maxRecDepth 100000 in
set_option maxHeartbeats 4000000 in
theorem vmul_any (y : UInt8) (a b : MV) (h : MR base w G f at_ (b :: a :: st) rg eos pr tr stv opv prv trv X) (hl : st.length ≤ 900) :
    Calls Tryz.prog 220 #[.pointer (some ⟨G, 0, none⟩), .int .u8 (y.toNat : Int)] w fun e w' => e = .returned (.int .i64 0) ∧ (∃ stv', MR base w' G f at_ ((wrap64 (a.1 * b.1), []) :: st) rg eos pr tr stv' opv prv trv X) ∧ Below base w w' := by
  have HP := Lib.hid (two_any a b h hl)
  have HH := Lib.hid h.size
  clear h
  go_enter Tryz.func220, Tryz.ntmps220
  go_upto_region 2 with (go_at_call 235; refine HP.out.mono ?_; rintro e w2 ⟨rfl, ⟨sv, hm⟩, hB⟩; unfold mvV; have HM := Lib.hid hm; have HB := Lib.hid hB; clear hm hB)
  obtain ⟨W3, hW3⟩ : ∃ W3, W3 = (w2.alloc (.cells #[.int .i64 a.1, .string (bs a.2)] 156)).alloc (.cells #[.int .i64 b.1, .string (bs b.2)] 156) := ⟨_, rfl⟩
  have hb3 : Below w2.heap.size w2 W3 := by rw [hW3]; exact bt (b_alloc _ _) (b_alloc _ _)
  have hx : Blk W3 w2.heap.size 156 [.int .i64 a.1, .string (bs a.2)] := by rw [hW3]; exact (Blk.new w2 _ _).below (b_alloc _ _)
  have hy : Blk W3 (w2.heap.size + 1) 156 [.int .i64 b.1, .string (bs b.2)] := by
    rw [hW3]
    have := Blk.new (w2.alloc (.cells #[.int .i64 a.1, .string (bs a.2)] 156)) [.int .i64 b.1, .string (bs b.2)] 156
    rw [size_alM] at this
    exact this
  have HM3 := Lib.hid (HM.out.below hb3)
  have HB3 := Lib.hid (HB.out.trans (hb3.mono HM.out.size))
  obtain ⟨D, hD⟩ : ∃ D, D = w2.heap.size := ⟨_, rfl⟩
  rw [← hD] at hx hy ⊢
  rw [← hW3]
  have x0 := hx.cell (k := 0) rfl
  have x1 := hx.cell (k := 1) rfl
  have y0 := hy.cell (k := 0) rfl
  have y1 := hy.cell (k := 1) rfl
  have HX := Lib.hid hx
  have HY := Lib.hid hy
  clear hx hy hW3 hD hb3 HM HB
  go_wp2_with (go_at_call 234; refine (push_any (wrap64 (a.1 * b.1), []) HM3.out (by omega)).mono ?_; rintro e w4 ⟨rfl, ⟨sv4, hm⟩, hB⟩; have HM4 := Lib.hid hm; have HB4 := Lib.hid (HB3.out.trans hB); clear hm hB)
  go_ret
  exact ⟨rfl, ⟨_, HM4.out⟩, HB4.out⟩
set_option maxRecDepth 100000 in
set_option maxHeartbeats 4000000 in
theorem vless_any (y : UInt8) (a b : MV) (h : MR base w G f at_ (b :: a :: st) rg eos pr tr stv opv prv trv X) (hl : st.length ≤ 900) :
    Calls Tryz.prog 221 #[.pointer (some ⟨G, 0, none⟩), .int .u8 (y.toNat : Int)] w fun e w' => e = .returned (.int .i64 0) ∧ (∃ stv', MR base w' G f at_ (bitM (decide (a.1 < b.1)) :: st) rg eos pr tr stv' opv prv trv X) ∧ Below base w w' := by
  have HP := Lib.hid (two_any a b h hl)
  have HH := Lib.hid h.size
  clear h
  go_enter Tryz.func221, Tryz.ntmps221
  go_upto_region 2 with (go_at_call 235; refine HP.out.mono ?_; rintro e w2 ⟨rfl, ⟨sv, hm⟩, hB⟩; unfold mvV; have HM := Lib.hid hm; have HB := Lib.hid hB; clear hm hB)
  obtain ⟨W3, hW3⟩ : ∃ W3, W3 = (w2.alloc (.cells #[.int .i64 a.1, .string (bs a.2)] 156)).alloc (.cells #[.int .i64 b.1, .string (bs b.2)] 156) := ⟨_, rfl⟩
  have hb3 : Below w2.heap.size w2 W3 := by rw [hW3]; exact bt (b_alloc _ _) (b_alloc _ _)
  have hx : Blk W3 w2.heap.size 156 [.int .i64 a.1, .string (bs a.2)] := by rw [hW3]; exact (Blk.new w2 _ _).below (b_alloc _ _)
  have hy : Blk W3 (w2.heap.size + 1) 156 [.int .i64 b.1, .string (bs b.2)] := by
    rw [hW3]
    have := Blk.new (w2.alloc (.cells #[.int .i64 a.1, .string (bs a.2)] 156)) [.int .i64 b.1, .string (bs b.2)] 156
    rw [size_alM] at this
    exact this
  have HM3 := Lib.hid (HM.out.below hb3)
  have HB3 := Lib.hid (HB.out.trans (hb3.mono HM.out.size))
  obtain ⟨D, hD⟩ : ∃ D, D = w2.heap.size := ⟨_, rfl⟩
  rw [← hD] at hx hy ⊢
  rw [← hW3]
  have x0 := hx.cell (k := 0) rfl
  have x1 := hx.cell (k := 1) rfl
  have y0 := hy.cell (k := 0) rfl
  have y1 := hy.cell (k := 1) rfl
  have HX := Lib.hid hx
  have HY := Lib.hid hy
  clear hx hy hW3 hD hb3 HM HB
  go_wp2_with (go_at_call 236; refine (bit_any (decide (a.1 < b.1)) HM3.out (by omega)).mono ?_; rintro e w4 ⟨rfl, ⟨sv4, hm⟩, hB⟩; have HM4 := Lib.hid hm; have HB4 := Lib.hid (HB3.out.trans hB); clear hm hB)
  go_ret
  exact ⟨rfl, ⟨_, HM4.out⟩, HB4.out⟩
set_option maxRecDepth 100000 in
set_option maxHeartbeats 4000000 in
theorem vsame_any (y : UInt8) (a b : MV) (h : MR base w G f at_ (b :: a :: st) rg eos pr tr stv opv prv trv X) (hl : st.length ≤ 900) :
    Calls Tryz.prog 222 #[.pointer (some ⟨G, 0, none⟩), .int .u8 (y.toNat : Int)] w fun e w' => e = .returned (.int .i64 0) ∧ (∃ stv', MR base w' G f at_ (bitM (a.2 == b.2) :: st) rg eos pr tr stv' opv prv trv X) ∧ Below base w w' := by
  have HP := Lib.hid (two_any a b h hl)
  have HH := Lib.hid h.size
  clear h
  go_enter Tryz.func222, Tryz.ntmps222
  go_upto_region 2 with (go_at_call 235; refine HP.out.mono ?_; rintro e w2 ⟨rfl, ⟨sv, hm⟩, hB⟩; unfold mvV; have HM := Lib.hid hm; have HB := Lib.hid hB; clear hm hB)
  obtain ⟨W3, hW3⟩ : ∃ W3, W3 = (w2.alloc (.cells #[.int .i64 a.1, .string (bs a.2)] 156)).alloc (.cells #[.int .i64 b.1, .string (bs b.2)] 156) := ⟨_, rfl⟩
  have hb3 : Below w2.heap.size w2 W3 := by rw [hW3]; exact bt (b_alloc _ _) (b_alloc _ _)
  have hx : Blk W3 w2.heap.size 156 [.int .i64 a.1, .string (bs a.2)] := by rw [hW3]; exact (Blk.new w2 _ _).below (b_alloc _ _)
  have hy : Blk W3 (w2.heap.size + 1) 156 [.int .i64 b.1, .string (bs b.2)] := by
    rw [hW3]
    have := Blk.new (w2.alloc (.cells #[.int .i64 a.1, .string (bs a.2)] 156)) [.int .i64 b.1, .string (bs b.2)] 156
    rw [size_alM] at this
    exact this
  have HM3 := Lib.hid (HM.out.below hb3)
  have HB3 := Lib.hid (HB.out.trans (hb3.mono HM.out.size))
  obtain ⟨D, hD⟩ : ∃ D, D = w2.heap.size := ⟨_, rfl⟩
  rw [← hD] at hx hy ⊢
  rw [← hW3]
  have x0 := hx.cell (k := 0) rfl
  have x1 := hx.cell (k := 1) rfl
  have y0 := hy.cell (k := 0) rfl
  have y1 := hy.cell (k := 1) rfl
  have HX := Lib.hid hx
  have HY := Lib.hid hy
  clear hx hy hW3 hD hb3 HM HB
  go_wp2_with (go_at_call 236; refine (bit_any (a.2 == b.2) HM3.out (by omega)).mono ?_; rintro e w4 ⟨rfl, ⟨sv4, hm⟩, hB⟩; have HM4 := Lib.hid hm; have HB4 := Lib.hid (HB3.out.trans hB); clear hm hB)
  go_ret
  exact ⟨rfl, ⟨_, HM4.out⟩, HB4.out⟩
set_option maxRecDepth 100000 in
set_option maxHeartbeats 4000000 in
theorem vswap_any (y : UInt8) (a b : MV) (h : MR base w G f at_ (b :: a :: st) rg eos pr tr stv opv prv trv X) (hl : st.length ≤ 900) :
    Calls Tryz.prog 226 #[.pointer (some ⟨G, 0, none⟩), .int .u8 (y.toNat : Int)] w fun e w' => e = .returned (.int .i64 0) ∧ (∃ stv', MR base w' G f at_ (a :: b :: st) rg eos pr tr stv' opv prv trv X) ∧ Below base w w' := by
  have HP := Lib.hid (two_any a b h hl)
  have HH := Lib.hid h.size
  clear h
  go_enter Tryz.func226, Tryz.ntmps226
  go_upto_region 2 with (go_at_call 235; refine HP.out.mono ?_; rintro e w2 ⟨rfl, ⟨sv, hm⟩, hB⟩; unfold mvV; have HM := Lib.hid hm; have HB := Lib.hid hB; clear hm hB)
  obtain ⟨W3, hW3⟩ : ∃ W3, W3 = (w2.alloc (.cells #[.int .i64 a.1, .string (bs a.2)] 156)).alloc (.cells #[.int .i64 b.1, .string (bs b.2)] 156) := ⟨_, rfl⟩
  have hb3 : Below w2.heap.size w2 W3 := by rw [hW3]; exact bt (b_alloc _ _) (b_alloc _ _)
  have hx : Blk W3 w2.heap.size 156 [.int .i64 a.1, .string (bs a.2)] := by rw [hW3]; exact (Blk.new w2 _ _).below (b_alloc _ _)
  have hy : Blk W3 (w2.heap.size + 1) 156 [.int .i64 b.1, .string (bs b.2)] := by
    rw [hW3]
    have := Blk.new (w2.alloc (.cells #[.int .i64 a.1, .string (bs a.2)] 156)) [.int .i64 b.1, .string (bs b.2)] 156
    rw [size_alM] at this
    exact this
  have HM3 := Lib.hid (HM.out.below hb3)
  have HB3 := Lib.hid (HB.out.trans (hb3.mono HM.out.size))
  obtain ⟨D, hD⟩ : ∃ D, D = w2.heap.size := ⟨_, rfl⟩
  rw [← hD] at hx hy ⊢
  rw [← hW3]
  have x0 := hx.cell (k := 0) rfl
  have x1 := hx.cell (k := 1) rfl
  have y0 := hy.cell (k := 0) rfl
  have y1 := hy.cell (k := 1) rfl
  have HX := Lib.hid hx
  have HY := Lib.hid hy
  have hDb : base ≤ D := by rw [hD]; exact HM.out.size
  have hDb1 : base ≤ D + 1 := by omega
  have HMX := Lib.hid (show MR base W3 G f at_ st rg eos pr tr sv opv prv trv (X ++ [blkPt D hDb 156 [.int .i64 a.1, .string (bs a.2)]] ++ [blkPt (D + 1) hDb1 156 [.int .i64 b.1, .string (bs b.2)]]) from by rw [hW3]; exact HM.out.add2 _ _ _ D hD hDb hDb1)
  clear hx hy hW3 hD hb3 HM HB
  go_upto_region 3 with (go_at_call 234; refine (push_any b HMX.out (by omega)).mono ?_; rintro e w4 ⟨rfl, ⟨sv4, hm⟩, hB⟩; have hd : Blk w4 D 156 [.int .i64 a.1, .string (bs a.2)] := hm.loc (p := blkPt D hDb 156 [.int .i64 a.1, .string (bs a.2)]) (by simp); have x0 := hd.cell (k := 0) rfl; have x1 := hd.cell (k := 1) rfl; have HM5 := Lib.hid hm; have HB5 := Lib.hid (HB3.out.trans hB); clear hm hB hd)
  go_wp2_with (go_at_call 234; refine (push_any a HM5.out (by simp; omega)).mono ?_; rintro e w6 ⟨rfl, ⟨sv6, hm⟩, hB⟩; have HM6 := Lib.hid hm; have HB6 := Lib.hid (HB5.out.trans hB); clear hm hB)
  go_ret
  exact ⟨rfl, ⟨_, HM6.out.pre (by rw [List.append_assoc]; exact List.prefix_append _ _)⟩, HB6.out⟩
set_option maxRecDepth 100000 in
set_option maxHeartbeats 4000000 in
theorem vcat_any (y : UInt8) (a b : MV) (h : MR base w G f at_ (b :: a :: st) rg eos pr tr stv opv prv trv X) (hl : st.length ≤ 900) (ha : a.2.length ≤ 1024) (hb : b.2.length ≤ 1024) :
    Calls Tryz.prog 214 #[.pointer (some ⟨G, 0, none⟩), .int .u8 (y.toNat : Int)] w fun e w' => ((1024 < a.2.length + b.2.length ∧ e = .returned (.int .i64 5)) ∨ (¬ 1024 < a.2.length + b.2.length ∧ e = .returned (.int .i64 0) ∧ (∃ stv', MR base w' G f at_ ((0, a.2 ++ b.2) :: st) rg eos pr tr stv' opv prv trv X))) ∧ Below base w w' := by
  have HP := Lib.hid (two_any a b h hl)
  have HH := Lib.hid h.size
  clear h
  go_enter Tryz.func214, Tryz.ntmps214
  go_upto_region 2 with (go_at_call 235; refine HP.out.mono ?_; rintro e w2 ⟨rfl, ⟨sv, hm⟩, hB⟩; unfold mvV; have HM := Lib.hid hm; have HB := Lib.hid hB; clear hm hB)
  obtain ⟨W3, hW3⟩ : ∃ W3, W3 = (w2.alloc (.cells #[.int .i64 a.1, .string (bs a.2)] 156)).alloc (.cells #[.int .i64 b.1, .string (bs b.2)] 156) := ⟨_, rfl⟩
  have hb3 : Below w2.heap.size w2 W3 := by rw [hW3]; exact bt (b_alloc _ _) (b_alloc _ _)
  have hx : Blk W3 w2.heap.size 156 [.int .i64 a.1, .string (bs a.2)] := by rw [hW3]; exact (Blk.new w2 _ _).below (b_alloc _ _)
  have hy : Blk W3 (w2.heap.size + 1) 156 [.int .i64 b.1, .string (bs b.2)] := by
    rw [hW3]
    have := Blk.new (w2.alloc (.cells #[.int .i64 a.1, .string (bs a.2)] 156)) [.int .i64 b.1, .string (bs b.2)] 156
    rw [size_alM] at this
    exact this
  have HM3 := Lib.hid (HM.out.below hb3)
  have HB3 := Lib.hid (HB.out.trans (hb3.mono HM.out.size))
  obtain ⟨D, hD⟩ : ∃ D, D = w2.heap.size := ⟨_, rfl⟩
  rw [← hD] at hx hy ⊢
  rw [← hW3]
  have x0 := hx.cell (k := 0) rfl
  have x1 := hx.cell (k := 1) rfl
  have y0 := hy.cell (k := 0) rfl
  have y1 := hy.cell (k := 1) rfl
  have HX := Lib.hid hx
  have HY := Lib.hid hy
  clear hx hy hW3 hD hb3 HM HB
  have la : (a.2.length : Int) ≤ 1024 := by omega
  have lb : (b.2.length : Int) ≤ 1024 := by omega
  by_cases hc : 1024 < a.2.length + b.2.length
  · have t1 : (1024 : Int) < (a.2.length : Int) + (b.2.length : Int) := by omega
    go_wp2_with fail
    go_ret
    exact ⟨.inl ⟨hc, rfl⟩, HB3.out⟩
  · have t1 : ¬ (1024 : Int) < (a.2.length : Int) + (b.2.length : Int) := by omega
    go_wp2_with (go_at_call 234; refine (push_any (0, a.2 ++ b.2) HM3.out (by omega)).mono ?_; rintro e w4 ⟨rfl, ⟨sv4, hm⟩, hB⟩; have HM4 := Lib.hid hm; have HB4 := Lib.hid (HB3.out.trans hB); clear hm hB)
    go_ret
    exact ⟨.inr ⟨hc, rfl, ⟨_, HM4.out⟩⟩, HB4.out⟩
end
end Go.Proofs.YtndagciefnddmaaGreatDoor
namespace Go.Proofs.YtndagciefnddmaaGreatDoor
open Go.RowKit Oct
def OwnE (w : World) (base : Nat) (e : TypeId) (v : Value) (l : List UInt8) : Prop :=
  ∃ g cap cur fz, v = .slice (some ⟨g, 0, none⟩) l.length cap ∧ base ≤ g ∧ w.heap[g]? = some (.cells cur e fz) ∧ (fz.2 = 0 ∨ cur.size ≤ fz.1) ∧ l.length ≤ cap ∧ cap ≤ maxLen ∧ cur.size = cap ∧ cur.toList.take l.length = bcells l
section
variable {P : Program}
theorem OwnE.slice {w : World} {base : Nat} {e : TypeId} {v : Value} {l : List UInt8} (h : OwnE w base e v l) : ∃ g cap, v = .slice (some ⟨g, 0, none⟩) l.length cap := by
  obtain ⟨g, cap, _, _, hv, _⟩ := h
  exact ⟨g, cap, hv⟩
theorem OwnE.below {w w' : World} {base : Nat} {e : TypeId} {v : Value} {l : List UInt8} (h : OwnE w base e v l) (hB : Below w.heap.size w w') : OwnE w' base e v l := by
  obtain ⟨g, cap, cur, fz, h1, h2, h3, h4⟩ := h
  exact ⟨g, cap, cur, fz, h1, h2, (hB.block g (Array.getElem?_eq_some_iff.1 h3).1).trans h3, h4⟩
theorem OwnE.cell {w : World} {base g n cap : Nat} {e : TypeId} {l : List UInt8} (h : OwnE w base e (.slice (some ⟨g, 0, none⟩) n cap) l) (j : Nat) (hj : j < l.length) : w.cell? ⟨g, j, none⟩ = some (.int .u8 (l[j].toNat : Int)) := by
  obtain ⟨g', cap', cur, fz, h1, h2, h3, _, _, _, _, h5⟩ := h
  injection h1 with e1 _ _
  cases e1
  rw [cell_of_row w g j cur e fz h3]
  have : (cur.toList.take l.length)[j]? = some (.int .u8 (l[j].toNat : Int)) := by rw [h5]; simp [bcells, hj]
  rw [List.getElem?_take, if_pos hj] at this
  simpa using this
theorem OwnE.new (w : World) (e : TypeId) (l : List UInt8) (hl : l.length ≤ maxLen) : OwnE (Lib.bytesWorld w e (bs l)) w.heap.size e (.slice (some ⟨w.heap.size, 0, none⟩) l.length (grownCap w (bs l).size 0 e)) l := by
  have hge := grownCap_ge w (bs l).size 0 e
  have hle := grownCap_le_maxLen w (bs l).size 0 e (by rw [bs_size]; exact hl)
  have hsz : (Lib.bytesCells w e (bs l)).size = grownCap w (bs l).size 0 e := by
    simp only [Lib.bytesCells, Array.size_append, Array.size_map, Array.size_replicate]
    have : (bs l).data.size = (bs l).size := rfl
    omega
  refine ⟨w.heap.size, _, _, _, rfl, Nat.le_refl _, Lib.bytesWorld_at_new w e (bs l), .inr (Nat.le_refl _), by rw [bs_size] at hge; exact hge, hle, hsz, ?_⟩
  have h1 : (Lib.bytesCells w e (bs l)).toList = bcells l ++ List.replicate (grownCap w (bs l).size 0 e - (bs l).size) (.int .u8 0) := by
    simp only [Lib.bytesCells, Array.toList_append, Array.toList_map, bs_data, bcells, Array.toList_replicate]
  rw [h1, List.take_append_of_le_length (by rw [bcells_length]; exact Nat.le_refl _), List.take_of_length_le (by rw [bcells_length]; exact Nat.le_refl _)]
theorem below_bytes (w : World) (e : TypeId) (s : ByteArray) : Below w.heap.size w (Lib.bytesWorld w e s) :=
  ⟨rfl, rfl, rfl, by rw [Lib.bytesWorld_size]; omega, fun k hk => Lib.bytesWorld_at_old w e s k hk⟩
end
end Go.Proofs.YtndagciefnddmaaGreatDoor
namespace Go.Proofs.YtndagciefnddmaaGreatDoor
open Go.RowKit Oct
attribute [local irreducible] wpG
theorem cut_split (c : UInt8) : ∀ s : List UInt8, (∃ a b, Lib.cut s [c] = (a, b, true) ∧ splitM c s = a :: splitM c b ∧ a.length ≤ s.length ∧ b.length ≤ s.length) ∨ (Lib.cut s [c] = (s, [], false) ∧ splitM c s = [s])
  | [] => .inr ⟨rfl, rfl⟩
  | x :: s => by
    have ih := cut_split c s
    by_cases hx : x = c
    · left
      subst hx
      refine ⟨[], s, ?_, ?_, by simp, by simp⟩
      · have hi : Lib.index (x :: s) [x] = 0 := by unfold Lib.index; simp [List.isPrefixOf]
        unfold Lib.cut
        rw [hi]
        simp
      · rw [splitM, if_pos rfl]
    · have hp : [c].isPrefixOf (x :: s) = false := by
        simp [List.isPrefixOf]
        exact fun e => hx e.symm
      have hi : Lib.index (x :: s) [c] = if Lib.index s [c] == -1 then -1 else Lib.index s [c] + 1 := by
        rw [Lib.index, hp]; rfl
      have hge := Lib.index_ge s [c]
      rcases ih with ⟨a, b, h1, h2, h3, h4⟩ | ⟨h1, h2⟩
      · left
        unfold Lib.cut at h1
        by_cases h0 : 0 ≤ Lib.index s [c]
        · rw [if_pos h0] at h1
          injection h1 with e1 e2
          injection e2 with e2 _
          refine ⟨x :: a, b, ?_, ?_, by simp; exact h3, by simp; omega⟩
          · have hne : (Lib.index s [c] == -1) = false := by rw [beq_eq_false_iff_ne]; omega
            unfold Lib.cut
            rw [hi, hne]
            obtain ⟨k, hk⟩ : ∃ k : Nat, Lib.index s [c] = (k : Int) := ⟨(Lib.index s [c]).toNat, by omega⟩
            rw [hk] at e1 e2 ⊢
            rw [if_pos (by show (0 : Int) ≤ (k : Int) + 1; omega)]
            simp only [Int.toNat_natCast] at e1 e2
            have hk1 : ((k : Int) + 1).toNat = k + 1 := by omega
            show ((x :: s).take ((k : Int) + 1).toNat, (x :: s).drop (((k : Int) + 1).toNat + [c].length), true) = _
            rw [hk1, ← e1, ← e2]
            simp [Nat.add_right_comm]
          · rw [splitM, if_neg hx, h2]
        · rw [if_neg h0] at h1; cases h1
      · right
        unfold Lib.cut at h1
        by_cases h0 : 0 ≤ Lib.index s [c]
        · rw [if_pos h0] at h1; exact absurd (congrArg (fun p => p.2.2) h1) (by simp)
        · have he : Lib.index s [c] = -1 := by omega
          have hi' : Lib.index (x :: s) [c] = -1 := by rw [hi, he]; rfl
          refine ⟨?_, ?_⟩
          · unfold Lib.cut; rw [hi', if_neg (by decide)]
          · rw [splitM, if_neg hx, h2]
def leftE (e : Eo) : List (List UInt8) := if e.more = true then splitM e.by_ e.rest else []
def nextE (e : Eo) : Eo := { e with more := (Lib.cut e.rest [e.by_]).2.2, rest := (Lib.cut e.rest [e.by_]).2.1 }
theorem leftE_next {e : Eo} (h : e.more = true) : leftE e = (Lib.cut e.rest [e.by_]).1 :: leftE (nextE e) ∧ (Lib.cut e.rest [e.by_]).1.length ≤ e.rest.length ∧ (nextE e).rest.length ≤ e.rest.length := by
  unfold leftE nextE
  rw [if_pos h]
  rcases cut_split e.by_ e.rest with ⟨a, b, h1, h2, h3, h4⟩ | ⟨h1, h2⟩
  · rw [h1, h2]; simp [h3, h4]
  · rw [h1, h2]; simp
structure GlobV (w : World) : Prop where
  tab : Lib.TabIs Tryz.prog w "internal/strconv.uint64pow10" .u64 Lib.pow10Tab
  syn : ∃ te pe, w.cell? ⟨3, 0, none⟩ = some (.iface te pe)
  rng : ∃ te pe, w.cell? ⟨4, 0, none⟩ = some (.iface te pe)
  mx : ∃ m, w.cell? ⟨5, 0, none⟩ = some (.int .i64 m)
theorem cut_belM (l : List UInt8) (c : UInt8) {w : World} (hg : ∃ m, w.cell? ⟨5, 0, none⟩ = some (.int .i64 m)) (hl : l.length ≤ 2000) : Calls Tryz.prog 239 #[.string (bs l), .string (bs [c])] w fun e w' => e = .returned (.tuple #[.string (bs (Lib.cut l [c]).1), .string (bs (Lib.cut l [c]).2.1), .bool (Lib.cut l [c]).2.2]) ∧ Below w.heap.size w w' := by
  obtain ⟨m, hm⟩ := hg
  have h := Tryz.strings_Cut (bs l) (bs [c]) m w (by rw [bs_size]; omega) hm
  rw [show (bs l).data.toList = l by simp [bs], show (bs [c]).data.toList = [c] by simp [bs]] at h
  refine h.mono ?_
  rintro e w' ⟨rfl, n, rfl⟩
  exact ⟨rfl, Below.drewN' _ _⟩
section
variable {base : Nat} {w : World} {e : Eo}
set_option maxRecDepth 100000 in
theorem nextM_no (h : boxOk base w e) (hm : e.more = false) : Calls Tryz.prog 238 #[.pointer (some ⟨e.bm, 0, none⟩), .pointer (some ⟨e.bt, 0, none⟩), .pointer (some ⟨e.bc, 0, none⟩)] w fun r w' => r = .returned (.tuple #[.string (bs []), .bool false]) ∧ w' = w := by
  have c0 := h.1.cell (k := 0) rfl
  rw [hm] at c0
  clear h hm
  go_enter Tryz.func238, Tryz.ntmps238
  go_wp2
  go_ret2
  exact ⟨rfl, rfl⟩
set_option maxRecDepth 100000 in
set_option maxHeartbeats 2000000 in
theorem nextM_yes (h : boxOk base w e) (hm : e.more = true) (hl : e.rest.length ≤ 1024) (hg : ∃ m, w.cell? ⟨5, 0, none⟩ = some (.int .i64 m)) :
    Calls Tryz.prog 238 #[.pointer (some ⟨e.bm, 0, none⟩), .pointer (some ⟨e.bt, 0, none⟩), .pointer (some ⟨e.bc, 0, none⟩)] w fun r w' => r = .returned (.tuple #[.string (bs (Lib.cut e.rest [e.by_]).1), .bool true]) ∧ boxOk base w' (nextE e) ∧ Chg (fun k => k = e.bm ∨ k = e.bt) w w' := by
  obtain ⟨h1, h2, h3, h4⟩ := h
  have c0 := h1.cell (k := 0) rfl
  rw [hm] at c0
  have c1 := h2.cell (k := 0) rfl
  have c2 := h3.cell (k := 0) rfl
  have l2 := h3.lt
  have HC := Lib.hid (fun w' (hB : Below w.heap.size w w') => cut_belM e.rest e.by_ (w := w') (by obtain ⟨m, hm⟩ := hg; exact ⟨m, Below.keeps hB hm⟩) (by omega))
  have H1 := Lib.hid h1
  have H2 := Lib.hid h2
  have H3 := Lib.hid h3
  have H4 := Lib.hid h4
  clear h1 h2 h3 h4 hm hg
  go_enter Tryz.func238, Tryz.ntmps238
  obtain ⟨A, hA⟩ : ∃ A, A = (Lib.cut e.rest [e.by_]).1 := ⟨_, rfl⟩
  obtain ⟨B, hB0⟩ : ∃ B, B = (Lib.cut e.rest [e.by_]).2.1 := ⟨_, rfl⟩
  obtain ⟨C, hC0⟩ : ∃ C, C = (Lib.cut e.rest [e.by_]).2.2 := ⟨_, rfl⟩
  rw [← hA, ← hB0, ← hC0] at HC
  have HE := Lib.hid (show nextE e = { e with more := C, rest := B } by rw [hB0, hC0]; rfl)
  have HA := Lib.hid hA
  clear hA hB0 hC0
  have nb : ¬ e.bm = e.bt := H4.out.2.2.2.1
  have nb' : ¬ e.bt = e.bm := fun h => nb h.symm
  have hcv : (convert 66 9 (.slice (some ⟨w.heap.size, 0, none⟩) 1 1)).run Tryz.prog (w.alloc (.cells #[.int .u8 (e.by_.toNat : Int)] 5)) = .ok (.string (bs [e.by_])) (w.alloc (.cells #[.int .u8 (e.by_.toNat : Int)] 5)) :=
    conv_own _ _ 5 Tryz.underlying66 Tryz.underlying5 Tryz.underlying9 _ w.heap.size _ 1 [e.by_] ⟨rfl, .inr ⟨w.heap.size, 1, #[.int .u8 (e.by_.toNat : Int)], rfl, Nat.le_refl _, World.alloc_heap_new w _, Nat.le_refl _, by decide, rfl, rfl⟩⟩
  go_wp2_with (go_at_call 239; refine (HC.out _ (b_alloc _ _)).mono ?_; rintro r w2 ⟨rfl, hB⟩; have hB2 := bt (b_alloc w (.cells #[.int .u8 (e.by_.toNat : Int)] 5)) hB; have q0 := (H1.out.below hB2).cell (k := 0) rfl; have q1 := (H2.out.below hB2).cell (k := 0) rfl; have f0 := (H1.out.below hB2).free (k := 0) (by simp); have f1 := (H2.out.below hB2).free (k := 0) (by simp); have HB2 := Lib.hid hB2; clear hB hB2)
  go_ret2
  obtain ⟨b1, b2, b3, n1, n2, n3⟩ := H4.out
  refine ⟨by rw [← HA.out]; rfl, ?_, ?_⟩
  · rw [HE.out]
    have g1 := H1.out.below HB2.out
    have g2 := H2.out.below HB2.out
    have g3 := H3.out.below HB2.out
    have x1 : Chg (fun k => k = e.bt) w2 (w2.setCell ⟨e.bt, 0, none⟩ (.string (bs B))) := Chg.setCell _ _ _ rfl
    have x2 : Chg (fun k => k = e.bm) (w2.setCell ⟨e.bt, 0, none⟩ (.string (bs B))) ((w2.setCell ⟨e.bt, 0, none⟩ (.string (bs B))).setCell ⟨e.bm, 0, none⟩ (.bool C)) := Chg.setCell _ _ _ rfl
    exact ⟨(g1.chg x1 n1).set 0 (.bool C), (g2.set 0 (.string (bs B))).chg x2 (fun h => n1 h.symm), (g3.chg x1 (fun h => n3 h.symm)).chg x2 (fun h => n2 h.symm), b1, b2, b3, n1, n2, n3⟩
  · exact ((Chg.of_below HB2.out).trans (Chg.setCell w2 ⟨e.bt, 0, none⟩ _ (.inr rfl))).trans (Chg.setCell _ ⟨e.bm, 0, none⟩ _ (.inl rfl))
set_option maxRecDepth 100000 in
set_option maxHeartbeats 2000000 in
theorem pieces_any (s : List UInt8) (c : UInt8) (w : World) (pc : Nat) (hb : base ≤ w.heap.size) :
    Calls Tryz.prog 237 #[.string (bs s), .int .u8 (c.toNat : Int)] w fun r w' => r = .returned (eoF ⟨pc, w.heap.size + 2, w.heap.size, w.heap.size + 1, !s.isEmpty, s, c⟩) ∧ boxOk base w' ⟨pc, w.heap.size + 2, w.heap.size, w.heap.size + 1, !s.isEmpty, s, c⟩ ∧ Below w.heap.size w w' := by
  obtain ⟨W3, hW3⟩ : ∃ W3, W3 = ((w.alloc (.cells #[.string (bs s)] 9)).alloc (.cells #[.int .u8 (c.toNat : Int)] 5)).alloc (.cells #[.bool (!s.isEmpty)] 4) := ⟨_, rfl⟩
  have hsm : ∀ (fn : Fn) (first cap : Array Value) (w : World), (Instr.makeFunc fn first cap).run Tryz.prog w = .ok (.func fn first cap) w := fun _ _ _ _ => rfl
  have h1 : Blk W3 w.heap.size 9 [.string (bs s)] := by rw [hW3]; exact ((Blk.new w _ _).below (b_alloc _ _)).below (b_alloc _ _)
  have h2 : Blk W3 (w.heap.size + 1) 5 [.int .u8 (c.toNat : Int)] := by
    rw [hW3]
    have := Blk.new (w.alloc (.cells #[.string (bs s)] 9)) [.int .u8 (c.toNat : Int)] 5
    rw [show (w.alloc (.cells #[.string (bs s)] 9)).heap.size = w.heap.size + 1 from Array.size_push ..] at this
    exact this.below (b_alloc _ _)
  have h3 : Blk W3 (w.heap.size + 2) 4 [.bool (!s.isEmpty)] := by
    rw [hW3]
    have := Blk.new ((w.alloc (.cells #[.string (bs s)] 9)).alloc (.cells #[.int .u8 (c.toNat : Int)] 5)) [.bool (!s.isEmpty)] 4
    rw [show ((w.alloc (.cells #[.string (bs s)] 9)).alloc (.cells #[.int .u8 (c.toNat : Int)] 5)).heap.size = w.heap.size + 2 from by rw [show ((w.alloc (.cells #[.string (bs s)] 9)).alloc (.cells #[.int .u8 (c.toNat : Int)] 5)).heap.size = (w.alloc (.cells #[.string (bs s)] 9)).heap.size + 1 from Array.size_push .., show (w.alloc (.cells #[.string (bs s)] 9)).heap.size = w.heap.size + 1 from Array.size_push ..]] at this
    exact this
  have hb3 : Below w.heap.size w W3 := by rw [hW3]; exact bt (b_alloc _ _) (bt (b_alloc _ _) (b_alloc _ _))
  have HK := Lib.hid (show boxOk base W3 ⟨pc, w.heap.size + 2, w.heap.size, w.heap.size + 1, !s.isEmpty, s, c⟩ ∧ Below w.heap.size w W3 from ⟨⟨h3, h1, h2, by show base ≤ w.heap.size + 2; omega, hb, by show base ≤ w.heap.size + 1; omega, by show w.heap.size + 2 ≠ w.heap.size; omega, by show w.heap.size + 2 ≠ w.heap.size + 1; omega, by show w.heap.size ≠ w.heap.size + 1; omega⟩, hb3⟩)
  clear h1 h2 h3 hb3
  go_enter Tryz.func237, Tryz.ntmps237
  go_upto_region 2 with fail
  rw [← hW3]
  clear hW3
  go_wp2_with fail
  go_ret
  exact ⟨rfl, HK.out⟩
end
end Go.Proofs.YtndagciefnddmaaGreatDoor
namespace Go.Proofs.YtndagciefnddmaaGreatDoor
open Go.RowKit Oct
attribute [local irreducible] wpG
section
variable {base G : Nat} {w w' : World} {f : Mf} {at_ : Int} {st rg : List MV} {eos : List Eo} {pr : List (List UInt8 × List UInt8)} {tr : List Int} {tv cv iv ev lv stv opv prv trv : Value} {X : List (Pt base)}
theorem fmt_bel {n : Int} (h0 : -9223372036854775808 ≤ n) (h1 : n ≤ 9223372036854775807) {w : World} (ht : Lib.TabIs Tryz.prog w "internal/strconv.uint64pow10" .u64 Lib.pow10Tab) : Calls Tryz.prog 138 #[.int .i64 n, .int .i64 10] w fun e w' => e = .returned (.string (bs (Lib.itoa n))) ∧ Below w.heap.size w w' := by
  refine (Tryz.strconv_FormatInt_10 n h0 h1 w ht).mono ?_
  rintro e w' ⟨rfl, k, os, rfl⟩
  refine ⟨rfl, ?_⟩
  have hb : Below w.heap.size w (Sort.grow (w.drewN k) os) := ⟨rfl, rfl, rfl, by show w.heap.size ≤ (w.heap ++ os).size; rw [Array.size_append]; omega, fun j hj => by show (w.heap ++ os)[j]? = _; rw [Array.getElem?_append_left hj]⟩
  exact hb
theorem step_callM {P : Program} {ops : Array Oper} {o : Oper} {a : Act} {w : World} {K : Act → World → Prop} {Q : Exit → Act → World → Prop} {E : Prop} {R : Ending → World → Prop} (hg : o.guard = none) (f : FuncId) (vals : Array Value)
    (hrun : (execOp a.eval o).run P w = .ok (.enter f vals) w) (hc : Calls P f vals w R)
    (h : ∀ e w', R e w' → match e with | .returned v => K (a.put o.dst v) w' | .panicked ch => Q (.panic ch) a w' | .outgrown => LetsOut Q) : if Region.wanted o (yielded ops a.tmps) = true then Oper.wp P o a w K Q else E := by
  have hw : Region.wanted o (yielded ops a.tmps) = true := by simp [Region.wanted, hg]
  rw [if_pos hw]
  unfold Oper.wp
  rw [hrun]
  refine Calls.mono hc ?_
  intro e w' hR
  have := h e w' hR
  cases e <;> exact this
theorem MR.setReg (h : MR base w G f at_ st rg eos pr tr stv opv prv trv X) {i : Nat} (hi : i < 8) (v : MV) : MR base ((w.setCell ⟨G, 7 + i * 2, none⟩ (.int .i64 v.1)).setCell ⟨G, 7 + i * 2 + 1, none⟩ (.string (bs v.2))) G f at_ st (rg.set i v) eos pr tr stv opv prv trv X ∧ Below base w ((w.setCell ⟨G, 7 + i * 2, none⟩ (.int .i64 v.1)).setCell ⟨G, 7 + i * 2 + 1, none⟩ (.string (bs v.2))) := by
  have hs : Chg (fun k => k = G) w ((w.setCell ⟨G, 7 + i * 2, none⟩ (.int .i64 v.1)).setCell ⟨G, 7 + i * 2 + 1, none⟩ (.string (bs v.2))) := Chg.trans (Chg.setCell w ⟨G, 7 + i * 2, none⟩ _ rfl) (Chg.setCell _ ⟨G, 7 + i * 2 + 1, none⟩ _ rfl)
  have hb := (h.blk.set (7 + i * 2) (.int .i64 v.1)).set (7 + i * 2 + 1) (.string (bs v.2))
  have hc : ((mCells f at_ stv rg opv prv f.tx f.sn trv).set (7 + i * 2) (.int .i64 v.1)).set (7 + i * 2 + 1) (.string (bs v.2)) = mCells f at_ stv (rg.set i v) opv prv f.tx f.sn trv := by
    obtain ⟨a, b, c, d, e, f', g, j, hr⟩ := eightM h.rl
    rw [hr]
    rcases (by omega : i = 0 ∨ i = 1 ∨ i = 2 ∨ i = 3 ∨ i = 4 ∨ i = 5 ∨ i = 6 ∨ i = 7) with rfl | rfl | rfl | rfl | rfl | rfl | rfl | rfl <;> rfl
  rw [hc] at hb
  have s2 := h.sep.upd (i := 0) rfl hs (fun k hk => hk) (blkPt G h.gb 160 (mCells f at_ stv (rg.set i v) opv prv f.tx f.sn trv)) hb (fun k hk => .inl hk)
  exact ⟨⟨h.gb, by rw [List.length_set]; exact h.rl, s2⟩, h.sep.updB (i := 0) rfl hs (fun k hk => hk) h.size⟩
theorem recJ_openM {w : World} {v : Value} {l : List Int} (h : recJ.Row w v l) : ∃ a n, v = .slice a l.length n ∧ ∀ k (hk : k < l.length), ∃ b off, a = some ⟨b, off, none⟩ ∧ w.cell? ⟨b, off + k, none⟩ = some (.int .i64 l[k]) := by
  obtain ⟨a, cap, rfl, hle, hc⟩ := Rec.Row.open h
  refine ⟨a, cap, rfl, fun k hk => ?_⟩
  obtain ⟨b, off, ha, hu⟩ := hc k hk
  refine ⟨b, off, ha, ?_⟩
  have := hu 0 _ rfl
  rwa [show off + k * recJ.n + 0 = off + k by show off + k * 1 + 0 = _; omega] at this
set_option maxRecDepth 100000 in
set_option maxHeartbeats 2000000 in
theorem vtext_any (y : UInt8) (h : MR base w G ⟨tv, cv, iv, ev, lv, [], 0⟩ at_ st rg eos pr tr stv opv prv trv X) (hl : st.length ≤ 1000) {l : List (List UInt8)} (ht : recS.Row w tv l) (hy : y.toNat < l.length) (hl2 : l.length ≤ 1000) :
    Calls Tryz.prog 211 #[.pointer (some ⟨G, 0, none⟩), .int .u8 (y.toNat : Int)] w fun e w' => e = .returned (.int .i64 0) ∧ (∃ stv', MR base w' G ⟨tv, cv, iv, ev, lv, [], 0⟩ at_ ((0, l.getD y.toNat []) :: st) rg eos pr tr stv' opv prv trv X) ∧ Below base w w' := by
  obtain ⟨a, n, rfl, -, hc⟩ := recS_open ht
  obtain ⟨b, off, rfl, d0⟩ := hc y.toNat hy
  have HP := Lib.hid (push_any (0, l[y.toNat]) h hl)
  have hg : l.getD y.toNat [] = l[y.toNat] := by rw [List.getD_eq_getElem?_getD, List.getElem?_eq_getElem hy]; rfl
  have c0 := h.cell (k := 0) rfl
  have i0 : (0 : Int) ≤ (y.toNat : Int) := by omega
  have i1 : (y.toNat : Int) < (l.length : Int) := by omega
  have i2 : (l.length : Int) ≤ 1000 := by omega
  have HG := Lib.hid hg
  clear h hg ht hc
  go_enter Tryz.func211, Tryz.ntmps211
  go_wp2_with (go_at_call 234; refine HP.out.mono ?_; rintro e w2 ⟨rfl, ⟨sv, hm⟩, hB⟩; have HM := Lib.hid hm; have HB := Lib.hid hB; clear hm hB)
  go_ret
  rw [HG.out]
  exact ⟨rfl, ⟨_, HM.out⟩, HB.out⟩
set_option maxRecDepth 100000 in
set_option maxHeartbeats 2000000 in
theorem vinput_any (y : UInt8) (h : MR base w G ⟨tv, cv, iv, ev, lv, [], 0⟩ at_ st rg eos pr tr stv opv prv trv X) (hl : st.length ≤ 1000) {l : List (List UInt8)} (ht : recS.Row w iv l) (hy : y.toNat < l.length) (hl2 : l.length ≤ 1000) :
    Calls Tryz.prog 213 #[.pointer (some ⟨G, 0, none⟩), .int .u8 (y.toNat : Int)] w fun e w' => e = .returned (.int .i64 0) ∧ (∃ stv', MR base w' G ⟨tv, cv, iv, ev, lv, [], 0⟩ at_ ((0, l.getD y.toNat []) :: st) rg eos pr tr stv' opv prv trv X) ∧ Below base w w' := by
  obtain ⟨a, n, rfl, -, hc⟩ := recS_open ht
  obtain ⟨b, off, rfl, d0⟩ := hc y.toNat hy
  have HP := Lib.hid (push_any (0, l[y.toNat]) h hl)
  have hg : l.getD y.toNat [] = l[y.toNat] := by rw [List.getD_eq_getElem?_getD, List.getElem?_eq_getElem hy]; rfl
  have c0 := h.cell (k := 2) rfl
  have i0 : (0 : Int) ≤ (y.toNat : Int) := by omega
  have i1 : (y.toNat : Int) < (l.length : Int) := by omega
  have i2 : (l.length : Int) ≤ 1000 := by omega
  have HG := Lib.hid hg
  clear h hg ht hc
  go_enter Tryz.func213, Tryz.ntmps213
  go_wp2_with (go_at_call 234; refine HP.out.mono ?_; rintro e w2 ⟨rfl, ⟨sv, hm⟩, hB⟩; have HM := Lib.hid hm; have HB := Lib.hid hB; clear hm hB)
  go_ret
  rw [HG.out]
  exact ⟨rfl, ⟨_, HM.out⟩, HB.out⟩
set_option maxRecDepth 100000 in
set_option maxHeartbeats 2000000 in
theorem vshow_any (y : UInt8) (a : MV) (h : MR base w G f at_ (a :: st) rg eos pr tr stv opv prv trv X) (hl : st.length ≤ 900) (ha : vOk a) (ht : ∀ w', Below base w w' → Lib.TabIs Tryz.prog w' "internal/strconv.uint64pow10" .u64 Lib.pow10Tab) :
    Calls Tryz.prog 218 #[.pointer (some ⟨G, 0, none⟩), .int .u8 (y.toNat : Int)] w fun e w' => e = .returned (.int .i64 0) ∧ (∃ stv', MR base w' G f at_ ((0, Lib.itoa a.1) :: st) rg eos pr tr stv' opv prv trv X) ∧ Below base w w' := by
  have HP := Lib.hid (pop_any a h (by omega))
  have HT := Lib.hid ht
  obtain ⟨h1, h2, -⟩ := ha
  clear h ht
  go_enter Tryz.func218, Tryz.ntmps218
  go_wp2_with (first | (go_at_call 234; refine (push_any (0, Lib.itoa a.1) HM3.out (by omega)).mono ?_; rintro e w4 ⟨rfl, ⟨sv4, hm⟩, hB⟩; have HM4 := Lib.hid hm; have HB4 := Lib.hid (HB3.out.trans hB); clear hm hB) | (go_at_call 138; refine (fmt_bel h1 h2 (HT.out _ HB.out)).mono ?_; rintro e w3 ⟨rfl, hB⟩; have HM3 := Lib.hid (HM.out.below hB); have HB3 := Lib.hid (HB.out.trans (hB.mono HM.out.size)); clear hB) | (go_at_call 88; refine HP.out.mono ?_; rintro e w2 ⟨rfl, ⟨sv, hm⟩, hB⟩; have HM := Lib.hid hm; have HB := Lib.hid hB; unfold mvV; clear hm hB))
  go_ret
  exact ⟨rfl, ⟨_, HM4.out⟩, HB4.out⟩
set_option maxRecDepth 100000 in
set_option maxHeartbeats 4000000 in
theorem vset_any (y : UInt8) (hy : y.toNat < 8) (a : MV) (h : MR base w G f at_ (a :: st) rg eos pr tr stv opv prv trv X) (hl : st.length ≤ 900) :
    Calls Tryz.prog 228 #[.pointer (some ⟨G, 0, none⟩), .int .u8 (y.toNat : Int)] w fun e w' => e = .returned (.int .i64 0) ∧ (∃ stv', MR base w' G f at_ st (rg.set y.toNat a) eos pr tr stv' opv prv trv X) ∧ Below base w w' := by
  have hd := h.below (b_drew w)
  have HP := Lib.hid (pop_any a hd (by omega))
  have HS := Lib.hid h.size
  have i0 : (0 : Int) ≤ (y.toNat : Int) := by omega
  have i1 : (y.toNat : Int) < 8 := by omega
  have HY := Lib.hid hy
  clear h hd
  go_enter Tryz.func228, Tryz.ntmps228
  go_wp2_with fail
  go_region_with (go_at_call 88; refine HP.out.mono ?_; rintro e w2 ⟨rfl, ⟨sv, hm⟩, hB⟩; unfold mvV; have HM := Lib.hid hm; have HB := Lib.hid (((b_drew w).mono HS.out).trans hB); obtain ⟨q0, q1⟩ := hm.reg HY.out; have k0 := hm.free (k := 7 + y.toNat * 2) (by have := HY.out; omega); have k1 := hm.free (k := 7 + y.toNat * 2 + 1) (by have := HY.out; omega); clear hm hB)
  all_goals
    (try dsimp only)
    (try go_frame)
    go_wp2_with fail
    go_ret
    obtain ⟨m5, b5⟩ := HM.out.setReg HY.out a
    exact ⟨rfl, ⟨_, m5⟩, HB.out.trans b5⟩
set_option maxRecDepth 100000 in
set_option maxHeartbeats 4000000 in
theorem vdup_any (y : UInt8) (a : MV) (h : MR base w G f at_ (a :: st) rg eos pr tr stv opv prv trv X) (hl : st.length ≤ 900) :
    Calls Tryz.prog 225 #[.pointer (some ⟨G, 0, none⟩), .int .u8 (y.toNat : Int)] w fun e w' => e = .returned (.int .i64 0) ∧ (∃ stv', MR base w' G f at_ (a :: a :: st) rg eos pr tr stv' opv prv trv X) ∧ Below base w w' := by
  obtain ⟨⟨ab, cb, hsv⟩, _, _, _⟩ := h.slices
  rw [List.length_cons] at hsv
  subst hsv
  have hd := h.below (b_drew w)
  have HP := Lib.hid (push_any a hd (by simp; omega))
  have HS := Lib.hid h.size
  obtain ⟨g, rfl, -, e0, e1⟩ := h.top
  have c6 : w.cell? ⟨G, 6, none⟩ = some (.slice (some ⟨g, 0, none⟩) (st.length + 1) cb) := h.cell (k := 6) rfl
  have hl1 : ((st.length : Int) + 1) - 1 = (st.length : Int) := by omega
  have hl2 : (0 : Int) ≤ (st.length : Int) := by omega
  have hl3 : (st.length : Int) < (st.length : Int) + 1 := by omega
  have hl4 : (st.length : Int) ≤ 1000 := by omega
  have hw : IntKind.i64.wrap (st.length : Int) = (st.length : Int) := IntWalk.i64_in _ (by omega)
  clear h hd
  go_enter Tryz.func225, Tryz.ntmps225
  go_wp2_with fail
  go_region_law (refine step_callM rfl 234 #[.pointer (some ⟨G, 0, none⟩), .agg #[.int .i64 a.1, .string (bs a.2)]] (by go_simp) HP.out ?_; rintro e w2 ⟨rfl, ⟨sv, hm⟩, hB⟩; have HM := Lib.hid hm; have HB := Lib.hid (((b_drew w).mono HS.out).trans hB); clear hm hB)
  all_goals
    (try simp only [List.getElem_toArray, List.getElem_cons_succ, List.getElem_cons_zero])
    (try go_frame)
    (try go_wp2_with fail)
    (try simp only [List.getElem_toArray, List.getElem_cons_succ, List.getElem_cons_zero])
    go_ret
    exact ⟨rfl, ⟨_, HM.out⟩, HB.out⟩
set_option maxRecDepth 100000 in
set_option maxHeartbeats 4000000 in
theorem vturn_any (y : UInt8) (pc : Nat) (h : MR base w G ⟨tv, cv, iv, ev, lv, [], 0⟩ (pc : Int) st rg eos pr tr stv opv prv trv X) {l : List Int} (ht : recJ.Row w ev l) (hp : pc < l.length) (hl2 : l.length ≤ 1000) (hv : -1000 ≤ l[pc] ∧ l[pc] ≤ 1000) :
    Calls Tryz.prog 230 #[.pointer (some ⟨G, 0, none⟩), .int .u8 (y.toNat : Int)] w fun e w' => e = .returned (.int .i64 0) ∧ MR base w' G ⟨tv, cv, iv, ev, lv, [], 0⟩ (l[pc] - 1) st rg eos pr tr stv opv prv trv X ∧ Below base w w' := by
  obtain ⟨a, n, rfl, hc⟩ := recJ_openM ht
  obtain ⟨b, off, rfl, d0⟩ := hc pc hp
  have c3 := h.cell (k := 3) rfl
  have c5 := h.cell (k := 5) rfl
  have f5 := h.free (k := 5) (by decide)
  have i0 : (0 : Int) ≤ (pc : Int) := by omega
  have i1 : (pc : Int) < (l.length : Int) := by omega
  have i2 : (l.length : Int) ≤ 1000 := by omega
  obtain ⟨v, hv'⟩ : ∃ v, v = l[pc] := ⟨_, rfl⟩
  rw [← hv'] at d0 hv ⊢
  obtain ⟨j0, j1⟩ := hv
  have HD := Lib.hid (h.below (b_drew w))
  have HS := Lib.hid h.size
  clear h ht hc hv'
  go_enter Tryz.func230, Tryz.ntmps230
  go_wp2_with fail
  go_region
  all_goals
    go_wp2_with fail
    go_ret
    obtain ⟨m5, b5⟩ := HD.out.setAt (v - 1)
    exact ⟨rfl, m5, ((b_drew w).mono HS.out).trans b5⟩
set_option maxRecDepth 100000 in
set_option maxHeartbeats 4000000 in
theorem vbranch_any (y : UInt8) (a : MV) (pc : Nat) (h : MR base w G ⟨tv, cv, iv, ev, lv, [], 0⟩ (pc : Int) (a :: st) rg eos pr tr stv opv prv trv X) (hl : st.length ≤ 900) {l : List Int} (ht : ∀ w', Below base w w' → recJ.Row w' ev l) (hp : pc < l.length) (hl2 : l.length ≤ 1000) :
    Calls Tryz.prog 229 #[.pointer (some ⟨G, 0, none⟩), .int .u8 (y.toNat : Int)] w fun e w' => e = .returned (.int .i64 0) ∧ (∃ stv', MR base w' G ⟨tv, cv, iv, ev, lv, [], 0⟩ (if a.1 = 0 then l[pc] else (pc : Int)) st rg eos pr tr stv' opv prv trv X) ∧ Below base w w' := by
  have HP := Lib.hid (pop_any a h (by omega))
  have HT := Lib.hid ht
  clear h ht
  by_cases ha : a.1 = 0
  · rw [if_pos ha]
    have i0 : (0 : Int) ≤ (pc : Int) := by omega
    have i1 : (pc : Int) < (l.length : Int) := by omega
    have i2 : (l.length : Int) ≤ 1000 := by omega
    have t0 : (a.1 == 0) = true := by simp [ha]
    have HA := Lib.hid ha
    clear ha
    go_enter Tryz.func229, Tryz.ntmps229
    go_upto_region 2 with (go_at_call 88; refine HP.out.mono ?_; rintro e w2 ⟨rfl, ⟨sv, hm⟩, hB⟩; unfold mvV; have HM := Lib.hid hm; have HB := Lib.hid hB; clear hm hB)
    obtain ⟨a', n, hev, hc⟩ := recJ_openM (HT.out _ HB.out)
    obtain ⟨b, off, rfl, d0⟩ := hc pc hp
    subst hev
    obtain ⟨v, hv'⟩ : ∃ v, v = l[pc] := ⟨_, rfl⟩
    rw [← hv'] at d0
    have HV := Lib.hid hv'
    have c3 := HM.out.cell (k := 3) rfl
    have c5 := HM.out.cell (k := 5) rfl
    have f5 := HM.out.free (k := 5) (by decide)
    have HD := Lib.hid (HM.out.below (b_drew w2))
    clear hc hv'
    go_region
    all_goals
      go_wp2_with fail
      go_ret
      obtain ⟨m5, b5⟩ := HD.out.setAt v
      exact ⟨rfl, ⟨_, by rw [← HV.out]; exact m5⟩, (HB.out.trans ((b_drew w2).mono HM.out.size)).trans b5⟩
  · rw [if_neg ha]
    have t0 : (a.1 == 0) = false := by rw [beq_eq_false_iff_ne]; exact ha
    go_enter Tryz.func229, Tryz.ntmps229
    go_wp2_with (go_at_call 88; refine HP.out.mono ?_; rintro e w2 ⟨rfl, ⟨sv, hm⟩, hB⟩; unfold mvV; have HM := Lib.hid hm; have HB := Lib.hid hB; clear hm hB)
    go_ret
    exact ⟨rfl, ⟨_, HM.out⟩, HB.out⟩
end
end Go.Proofs.YtndagciefnddmaaGreatDoor
namespace Go.Proofs.YtndagciefnddmaaGreatDoor
open Go.RowKit Oct
attribute [local irreducible] wpG
section
variable {base G : Nat} {w w' w3 : World} {f : Mf} {at_ : Int} {st rg : List MV} {eos : List Eo} {pr : List (List UInt8 × List UInt8)} {tr : List Int} {tv cv iv ev lv stv opv prv prv' trv : Value} {X : List (Pt base)}
theorem GlobV.below {w w' : World} (h : GlobV w) (hB : Below w.heap.size w w') : GlobV w' := by
  obtain ⟨h2, ⟨a, b, h3⟩, ⟨c, d, h4⟩, ⟨m, h5⟩⟩ := h
  have hv : Lib.TabIs Tryz.prog w' "internal/strconv.uint64pow10" .u64 Lib.pow10Tab := by
    have h2 := h2
    unfold Lib.TabIs World.var? at h2 ⊢
    generalize Tryz.prog.globalNamed "internal/strconv.uint64pow10" = og at h2 ⊢
    cases og with
    | none => cases h2
    | some g =>
      simp only [Option.bind_some] at h2 ⊢
      cases hh : w.heap[g]? with
      | none => rw [hh] at h2; cases h2
      | some o => rw [hB.block g (Array.getElem?_eq_some_iff.1 hh).1, hh]; rw [hh] at h2; exact h2
  exact ⟨hv, ⟨a, b, Below.keeps hB h3⟩, ⟨c, d, Below.keeps hB h4⟩, ⟨m, Below.keeps hB h5⟩⟩
theorem pI_bel (s : List UInt8) (hs : s.length ≤ 1024) {w : World} (hg : GlobV w) : Calls Tryz.prog 148 #[.string (bs s), .int .i64 10, .int .i64 64] w fun e w' => ((∃ v, Lib.atoiAll s = .ok v ∧ e = .returned (.tuple #[.int .i64 v, .nilIface])) ∨ ((∀ v, Lib.atoiAll s ≠ .ok v) ∧ ∃ n tp N, e = .returned (.tuple #[.int .i64 n, .iface tp (.pointer (some ⟨N, 0, none⟩))]))) ∧ Below w.heap.size w w' := by
  obtain ⟨te, pe, hsy⟩ := hg.syn
  obtain ⟨te2, pe2, hrg⟩ := hg.rng
  have hl : (bs s).data.toList = s := by simp [bs]
  cases h : Lib.atoiAll s with
  | ok v =>
    refine (Tryz.strconv_ParseInt_10_at64_ok (bs s) (by rw [bs_size]; omega) v (by rw [hl, Lib.parseIntB_64]; exact h) w).mono ?_
    rintro e w' ⟨rfl, rfl | ⟨t, rfl⟩⟩
    · exact ⟨.inl ⟨v, rfl, rfl⟩, Below.refl _ _⟩
    · exact ⟨.inl ⟨v, rfl, rfl⟩, below_bytes _ _ _⟩
  | range =>
    refine (Tryz.strconv_ParseInt_10_at64_range (bs s) (by rw [bs_size]; omega) (by rw [hl, Lib.parseIntB_64]; exact h) _ w hrg (.inr ⟨te2, pe2, rfl⟩)).mono ?_
    rintro e w' ⟨N, rfl, -, -, hB⟩
    exact ⟨.inr ⟨fun v h' => by (first | cases h' | (rw [h] at h'; cases h')), _, _, _, rfl⟩, hB⟩
  | _ =>
    refine (Tryz.strconv_ParseInt_10_at64_syntax (bs s) (by rw [bs_size]; omega) (by rw [hl, Lib.parseIntB_64]; exact h) _ w hsy (.inr ⟨te, pe, rfl⟩)).mono ?_
    rintro e w' ⟨N, rfl, -, -, hB⟩
    exact ⟨.inr ⟨fun v h' => by (first | cases h' | (rw [h] at h'; cases h')), _, _, _, rfl⟩, hB⟩
theorem MR.newP (h : MR base w G f at_ st rg eos pr tr stv opv prv trv X) {l : List (List UInt8 × List UInt8)} (hc : Chg (fun k => prv.ownBlock = some k) w w3) (hg : ∀ k, prv'.ownBlock = some k → prv.ownBlock = some k ∨ w.heap.size ≤ k) (ho : recKv.Own w3 base prv' l) :
    MR base (w3.setCell ⟨G, 24, none⟩ prv') G f at_ st rg eos l tr stv opv prv' trv X ∧ Below base w (w3.setCell ⟨G, 24, none⟩ prv') ∧ w3.frozen? ⟨G, 24, none⟩ = false ∧ w3.cell? ⟨G, 24, none⟩ = some prv := by
  have s1 := h.sep.upd (i := 4) rfl hc (fun k hk => hk) (ownPt recKv prv' l) ho hg
  have hs : Chg (fun k => k = G) w3 (w3.setCell ⟨G, 24, none⟩ prv') := Chg.setCell _ _ _ rfl
  have b3 : Blk w3 G 160 (mCells f at_ stv rg opv prv f.tx f.sn trv) := s1.get (i := 0) rfl
  have hcs : (mCells f at_ stv rg opv prv f.tx f.sn trv).set 24 prv' = mCells f at_ stv rg opv prv' f.tx f.sn trv := by
    obtain ⟨a, b, c, d, e, f', g, j, hr⟩ := eightM h.rl
    rw [hr]; rfl
  have hb := b3.set 24 prv'
  rw [hcs] at hb
  have s2 := s1.upd (i := 0) rfl hs (fun k hk => hk) (blkPt G h.gb 160 (mCells f at_ stv rg opv prv' f.tx f.sn trv)) hb (fun k hk => .inl hk)
  exact ⟨⟨h.gb, h.rl, s2⟩, (h.sep.updB (i := 4) rfl hc (fun k hk => hk) h.size).trans (hs.below (fun k hk => by have := h.gb; omega) (Nat.le_trans h.size hc.size)), by obtain ⟨a, b, c, d, e, f', g, j, hr⟩ := eightM h.rl; rw [hr] at b3; exact b3.free (k := 24) (by show 24 < 28; decide), by obtain ⟨a, b, c, d, e, f', g, j, hr⟩ := eightM h.rl; rw [hr] at b3; exact b3.cell (k := 24) rfl⟩
set_option maxRecDepth 100000 in
set_option maxHeartbeats 4000000 in
theorem vemit_any (y : UInt8) (a b : MV) (h : MR base w G f at_ (b :: a :: st) rg eos pr tr stv opv prv trv X) (hl : st.length ≤ 900) (hp : pr.length ≤ 256) :
    Calls Tryz.prog 233 #[.pointer (some ⟨G, 0, none⟩), .int .u8 (y.toNat : Int)] w fun e w' => ((256 ≤ pr.length ∧ e = .returned (.int .i64 4)) ∨ (¬ 256 ≤ pr.length ∧ e = .returned (.int .i64 0) ∧ ∃ stv' prv', MR base w' G f at_ st rg eos (pr ++ [(a.2, b.2)]) tr stv' opv prv' trv X)) ∧ Below base w w' := by
  obtain ⟨_, _, ⟨pa, pc, rfl⟩, _⟩ := h.slices
  have c24 : w.cell? ⟨G, 24, none⟩ = some (.slice pa pr.length pc) := h.cellR (k := 1) rfl
  have HS := Lib.hid h.size
  by_cases h256 : 256 ≤ pr.length
  · have t1 : (256 : Int) ≤ (pr.length : Int) := by omega
    have hi : (pr.length : Int) ≤ 256 := by omega
    clear h
    go_enter Tryz.func233, Tryz.ntmps233
    go_wp2_with fail
    go_ret
    exact ⟨.inl ⟨h256, rfl⟩, Below.refl _ _⟩
  · have t1 : ¬ (256 : Int) ≤ (pr.length : Int) := by omega
    have hi : (pr.length : Int) ≤ 256 := by omega
    have HP := Lib.hid (two_any a b h hl)
    have H256 := Lib.hid h256
    clear h h256
    go_enter Tryz.func233, Tryz.ntmps233
    go_upto_region 4 with (go_at_call 235; refine HP.out.mono ?_; rintro e w2 ⟨rfl, ⟨sv, hm⟩, hB⟩; unfold mvV; have HM := Lib.hid hm; have HB := Lib.hid hB; clear hm hB)
    obtain ⟨W3, hW3⟩ : ∃ W3, W3 = (w2.alloc (.cells #[.int .i64 a.1, .string (bs a.2)] 156)).alloc (.cells #[.int .i64 b.1, .string (bs b.2)] 156) := ⟨_, rfl⟩
    have hb3 : Below w2.heap.size w2 W3 := by rw [hW3]; exact bt (b_alloc _ _) (b_alloc _ _)
    have hx : Blk W3 w2.heap.size 156 [.int .i64 a.1, .string (bs a.2)] := by rw [hW3]; exact (Blk.new w2 _ _).below (b_alloc _ _)
    have hy : Blk W3 (w2.heap.size + 1) 156 [.int .i64 b.1, .string (bs b.2)] := by
      rw [hW3]
      have := Blk.new (w2.alloc (.cells #[.int .i64 a.1, .string (bs a.2)] 156)) [.int .i64 b.1, .string (bs b.2)] 156
      rw [size_alM] at this
      exact this
    have hm3 := HM.out.below hb3
    have HB3 := Lib.hid (HB.out.trans (hb3.mono HM.out.size))
    obtain ⟨D, hD⟩ : ∃ D, D = w2.heap.size := ⟨_, rfl⟩
    rw [← hD] at hx hy ⊢
    rw [← hW3]
    have x1 := hx.cell (k := 1) rfl
    have y1 := hy.cell (k := 1) rfl
    have lx := hx.lt
    have ly := hy.lt
    have c24' : W3.cell? ⟨G, 24, none⟩ = some (.slice pa pr.length pc) := hm3.cellR (k := 1) rfl
    have hGl : G < W3.heap.size := hm3.blk.lt
    have h3d := hm3.below (b_drew W3)
    have hgb : base ≤ W3.drew.heap.size := h3d.size
    have hby : (pr.length + 1) * 32 ≤ 140737488355328 := by omega
    have H3D := Lib.hid h3d
    have hop := h3d.op
    have HM3 := Lib.hid hm3
    clear hx hy hW3 hD hb3 HM HB h3d hm3 c24
    go_region_law (refine recKv.step_append1V W3.drew (a.2, b.2) rfl _ _ 28 rfl Tryz.underlying28 base (.slice pa pr.length pc) pr rfl hop _ rfl _ rfl _ rfl hby hgb ?_; intro g gc w4 hown hc hg; have hn := H3D.out.newP (prv' := .slice (some ⟨g, 0, none⟩) (pr.length + 1) gc) (l := pr ++ [(a.2, b.2)]) hc (fun k hk => by cases hk; exact hg) hown; have f24 := hn.2.2.1; have c24'' := hn.2.2.2; have HN := Lib.hid hn; clear hn hown hc hg)
    all_goals
      (try simp only [List.getElem_toArray, List.getElem_cons_succ, List.getElem_cons_zero])
      (try go_frame)
      go_wp2_with fail
      go_ret
      exact ⟨.inr ⟨H256.out, rfl, _, _, HN.out.1⟩, (HB3.out.trans ((b_drew W3).mono HM3.out.size)).trans HN.out.2.1⟩
end
end Go.Proofs.YtndagciefnddmaaGreatDoor
namespace Go.Proofs.YtndagciefnddmaaGreatDoor
open Go.RowKit Oct
attribute [local irreducible] wpG
set_option maxRecDepth 100000 in
theorem rnum_any (n : Int) (w : World) : Calls Tryz.prog 137 #[.int .i64 n] w fun e w' => e = .returned (rvV (false, n, [])) ∧ Below w.heap.size w w' := by
  go_enter Tryz.func137, Tryz.ntmps137
  go_wp2_with fail
  have hy := Blk.new w [.bool false, .int .i64 n, .string ⟨#[]⟩] 173
  refine bodyPost_ret (results_cellN rfl rfl (load_rv (hy.cell (k := 0) rfl) (hy.cell (k := 1) rfl) (hy.cell (k := 2) rfl))) rfl ?_
  exact ⟨rfl, b_alloc _ _⟩
set_option maxRecDepth 100000 in
theorem rtext_any (s : List UInt8) (w : World) : Calls Tryz.prog 136 #[.string (bs s)] w fun e w' => e = .returned (rvV (true, 0, s)) ∧ Below w.heap.size w w' := by
  go_enter Tryz.func136, Tryz.ntmps136
  go_wp2_with fail
  have hy := Blk.new w [.bool true, .int .i64 0, .string (bs s)] 173
  refine bodyPost_ret (results_cellN rfl rfl (load_rv (hy.cell (k := 0) rfl) (hy.cell (k := 1) rfl) (hy.cell (k := 2) rfl))) rfl ?_
  exact ⟨rfl, b_alloc _ _⟩
set_option maxRecDepth 100000 in
theorem rbit_any (b : Bool) (w : World) : Calls Tryz.prog 139 #[.bool b] w fun e w' => e = .returned (rvV (false, bitM b)) ∧ Below w.heap.size w w' := by
  obtain ⟨W1, hW1⟩ : ∃ W1, W1 = w.alloc (.cells #[.bool false, .int .i64 0, .string ⟨#[]⟩] 173) := ⟨_, rfl⟩
  have hb1 : Below w.heap.size w W1 := by rw [hW1]; exact b_alloc _ _
  obtain ⟨D, hD⟩ : ∃ D, D = w.heap.size := ⟨_, rfl⟩
  have hx : Blk W1 D 173 [.bool false, .int .i64 0, .string ⟨#[]⟩] := by rw [hD, hW1]; exact Blk.new w _ _
  have HB1 := Lib.hid hb1
  have HX := Lib.hid hx
  have HD := Lib.hid hD
  obtain ⟨n, hn⟩ : ∃ n : Int, n = if b = true then 1 else 0 := ⟨_, rfl⟩
  have HV := Lib.hid (show rvV (false, bitM b) = .agg #[.bool false, .int .i64 n, .string (bs [])] by unfold rvV bitM; rw [hn])
  have hN : ∀ w', Calls Tryz.prog 137 #[.int .i64 n] w' fun e w'' => e = .returned (.agg #[.bool false, .int .i64 n, .string (bs [])]) ∧ Below w'.heap.size w' w'' := fun w' => rnum_any n w'
  have HN := Lib.hid hN
  clear hN hb1 hx
  go_enter Tryz.func139, Tryz.ntmps139
  go_upto_region 1 with fail
  rw [← hW1, ← hD]
  clear hW1 hD
  cases b with
  | true =>
    obtain rfl : n = 1 := hn
    go_wp2_with (go_at_call 137; refine (HN.out _).mono ?_; rintro e w2 ⟨rfl, hB⟩; have hy := HX.out.below hB; have y0 := hy.cell (k := 0) rfl; have y1 := hy.cell (k := 1) rfl; have y2 := hy.cell (k := 2) rfl; have k0 := hy.free (k := 0) (by simp); have k1 := hy.free (k := 1) (by simp); have k2 := hy.free (k := 2) (by simp); have HY := Lib.hid hy; have HB := Lib.hid (bt HB1.out hB); clear hy hB)
    obtain ⟨hy, hc⟩ := rv_store HY.out (.bool false) (.int .i64 1) (.string (bs []))
    refine bodyPost_ret (results_cellN rfl rfl (load_rv (hy.cell (k := 0) rfl) (hy.cell (k := 1) rfl) (hy.cell (k := 2) rfl))) rfl ?_
    exact ⟨by rw [HV.out], HB.out.trans (hc.below (fun k hk => by rw [show k = D from hk, HD.out]; exact Nat.le_refl _) HB.out.size)⟩
  | false =>
    obtain rfl : n = 0 := hn
    go_wp2_with (go_at_call 137; refine (HN.out _).mono ?_; rintro e w2 ⟨rfl, hB⟩; have hy := HX.out.below hB; have y0 := hy.cell (k := 0) rfl; have y1 := hy.cell (k := 1) rfl; have y2 := hy.cell (k := 2) rfl; have k0 := hy.free (k := 0) (by simp); have k1 := hy.free (k := 1) (by simp); have k2 := hy.free (k := 2) (by simp); have HY := Lib.hid hy; have HB := Lib.hid (bt HB1.out hB); clear hy hB)
    obtain ⟨hy, hc⟩ := rv_store HY.out (.bool false) (.int .i64 0) (.string (bs []))
    refine bodyPost_ret (results_cellN rfl rfl (load_rv (hy.cell (k := 0) rfl) (hy.cell (k := 1) rfl) (hy.cell (k := 2) rfl))) rfl ?_
    exact ⟨by rw [HV.out], HB.out.trans (hc.below (fun k hk => by rw [show k = D from hk, HD.out]; exact Nat.le_refl _) HB.out.size)⟩
theorem clamp_sub (s : List UInt8) (k : Nat) (hk : k ≤ s.length) (n : Int) : clampM n (s.drop k).length = (min (max n 0) ((s.length : Int) - (k : Int))).toNat := by
  unfold clampM
  rw [List.length_drop]
  omega
set_option maxRecDepth 100000 in
theorem rpart_any (s : List UInt8) (a n : Int) (w : World) (hs : s.length ≤ 1024) (ha : -9223372036854775808 ≤ a ∧ a ≤ 9223372036854775807) (hn : -9223372036854775808 ≤ n ∧ n ≤ 9223372036854775807) :
    Calls Tryz.prog 140 #[.string (bs s), .int .i64 a, .int .i64 n] w fun e w' => e = .returned (.string (bs (partM s a n))) ∧ Below w.heap.size w w' := by
  obtain ⟨k, hk⟩ : ∃ k, k = clampM a s.length := ⟨_, rfl⟩
  have hk1 : min (max a 0) (s.length : Int) = (k : Int) := by rw [hk]; unfold clampM; omega
  have hk2 : (k : Int) ≤ (s.length : Int) := by omega
  have hk3 : (0 : Int) ≤ (k : Int) := by omega
  obtain ⟨j, hj⟩ : ∃ j, j = clampM n (s.drop k).length := ⟨_, rfl⟩
  have hj1 : min (max n 0) ((s.length : Int) - (k : Int)) = (j : Int) := by rw [hj, clamp_sub s k (by omega)]; omega
  have hj2 : (j : Int) ≤ (s.length : Int) - (k : Int) := by omega
  have hj3 : (0 : Int) ≤ (j : Int) := by omega
  have hsl : (s.length : Int) ≤ 1024 := by omega
  have HV := Lib.hid (show partM s a n = (s.drop k).take j by unfold partM; rw [← hk, ← hj])
  have q1 : (k : Int) ≤ (k : Int) + (j : Int) := by omega
  have q2 : (k : Int) + (j : Int) ≤ (s.length : Int) := by omega
  clear hk hj
  go_enter Tryz.func140, Tryz.ntmps140
  go_wp2_with fail
  go_ret
  rw [HV.out, show k + j - k = j by omega]
  exact ⟨rfl, Below.refl _ _⟩
def pN (s : List UInt8) : Int := match Lib.atoiAll s with
  | .ok v => v
  | .range => Lib.atoiSat s
  | _ => 0
theorem pN_in (s : List UInt8) : -9223372036854775808 ≤ pN s ∧ pN s ≤ 9223372036854775807 := by
  unfold pN
  cases h : Lib.atoiAll s with
  | ok v =>
    rw [← Lib.parseIntB_64] at h
    have := Lib.parseIntB_bounds h
    simp only
    simp at this; omega
  | range => unfold Lib.atoiSat; simp only; split <;> simp
  | _ => simp
theorem pN_parse (s : List UInt8) : parseM s = if Lib.itoa (pN s) = s then pN s else 0 := by
  unfold parseM pN
  cases h : Lib.atoiAll s with
  | ok v => rfl
  | range => simp only; rw [if_neg (parse_range h)]
  | _ => simp only; rw [if_neg (parse_syntax h)]
theorem pI2_bel (s : List UInt8) (hs : s.length ≤ 1024) {w : World} (hg : GlobV w) : Calls Tryz.prog 148 #[.string (bs s), .int .i64 10, .int .i64 64] w fun e w' => (∃ ev, e = .returned (.tuple #[.int .i64 (pN s), ev])) ∧ Below w.heap.size w w' := by
  obtain ⟨te, pe, hsy⟩ := hg.syn
  obtain ⟨te2, pe2, hrg⟩ := hg.rng
  have hl : (bs s).data.toList = s := by simp [bs]
  unfold pN
  cases h : Lib.atoiAll s with
  | ok v =>
    refine (Tryz.strconv_ParseInt_10_at64_ok (bs s) (by rw [bs_size]; omega) v (by rw [hl, Lib.parseIntB_64]; exact h) w).mono ?_
    rintro e w' ⟨rfl, rfl | ⟨t, rfl⟩⟩
    · exact ⟨⟨_, rfl⟩, Below.refl _ _⟩
    · exact ⟨⟨_, rfl⟩, below_bytes _ _ _⟩
  | range =>
    refine (Tryz.strconv_ParseInt_10_at64_range (bs s) (by rw [bs_size]; omega) (by rw [hl, Lib.parseIntB_64]; exact h) _ w hrg (.inr ⟨te2, pe2, rfl⟩)).mono ?_
    rintro e w' ⟨N, rfl, -, -, hB⟩
    exact ⟨⟨_, by rw [hl, Lib.intSat_64]⟩, hB⟩
  | _ =>
    refine (Tryz.strconv_ParseInt_10_at64_syntax (bs s) (by rw [bs_size]; omega) (by rw [hl, Lib.parseIntB_64]; exact h) _ w hsy (.inr ⟨te, pe, rfl⟩)).mono ?_
    rintro e w' ⟨N, rfl, -, -, hB⟩
    exact ⟨⟨_, rfl⟩, hB⟩
set_option maxRecDepth 100000 in
theorem rparse_any (s : List UInt8) (w : World) (hs : s.length ≤ 1024) (hG : GlobV w) :
    Calls Tryz.prog 141 #[.string (bs s)] w fun e w' => e = .returned (.int .i64 (parseM s)) ∧ Below w.heap.size w w' := by
  have HP := Lib.hid (pI2_bel s hs hG)
  obtain ⟨n, hn⟩ : ∃ n, n = pN s := ⟨_, rfl⟩
  have hin := pN_in s
  have hpa := pN_parse s
  rw [← hn] at hin hpa HP
  have HF := Lib.hid (fun w' (hB : Below w.heap.size w w') => fmt_bel hin.1 hin.2 (hG.below hB).tab)
  obtain ⟨u, hu⟩ : ∃ u, u = Lib.itoa n := ⟨_, rfl⟩
  rw [← hu] at HF hpa
  clear hn hu hG
  by_cases hus : u = s
  · have HV := Lib.hid (show parseM s = n by rw [hpa, if_pos hus])
    have t1 : (u == s) = true := by rw [hus]; simp
    have t2 : (u != s) = false := by rw [hus]; simp
    rw [HV.out]
    clear hus hpa
    go_enter Tryz.func141, Tryz.ntmps141
    go_wp2_with (first | (go_at_call 138; refine (HF.out _ HB.out).mono ?_; rintro e w4 ⟨rfl, hB⟩; have HB4 := Lib.hid (bt HB.out hB); clear hB) | (go_at_call 148; refine HP.out.mono ?_; rintro e w3 ⟨⟨ev, rfl⟩, hB⟩; have HB := Lib.hid hB; clear hB))
    go_ret
    exact ⟨rfl, HB4.out⟩
  · have HV := Lib.hid (show parseM s = 0 by rw [hpa, if_neg hus])
    have t1 : (u == s) = false := by simpa using hus
    have t2 : (u != s) = true := by simpa using hus
    rw [HV.out]
    clear hus hpa
    go_enter Tryz.func141, Tryz.ntmps141
    go_wp2_with (first | (go_at_call 138; refine (HF.out _ HB.out).mono ?_; rintro e w4 ⟨rfl, hB⟩; have HB4 := Lib.hid (bt HB.out hB); clear hB) | (go_at_call 148; refine HP.out.mono ?_; rintro e w3 ⟨⟨ev, rfl⟩, hB⟩; have HB := Lib.hid hB; clear hB))
    go_ret
    exact ⟨rfl, HB4.out⟩
set_option maxRecDepth 100000 in
set_option maxHeartbeats 4000000 in
theorem rPieces_any (s : List UInt8) (c : UInt8) (w : World) (hs : s.length ≤ 1024) :
    Calls Tryz.prog 142 #[.string (bs s), .int .u8 (c.toNat : Int)] w fun e w' => (∃ v, e = .returned v ∧ recS.Own w' w.heap.size v (piecesM s c)) ∧ Below w.heap.size w w' := by
  by_cases hse : s = []
  · have HV := Lib.hid (show piecesM s c = [] by unfold piecesM; rw [if_pos hse])
    subst hse
    rw [HV.out]
    go_enter Tryz.func142, Tryz.ntmps142
    go_wp2_with fail
    go_ret
    exact ⟨⟨_, rfl, Rec.Own.nil _ _⟩, Below.refl _ _⟩
  · have HV := Lib.hid (show piecesM s c = splitM c s by unfold piecesM; rw [if_neg hse])
    have t1 : (s == []) = false := by simpa using hse
    have hsl : (s.length : Int) ≤ 1024 := by omega
    clear hse
    go_enter Tryz.func142, Tryz.ntmps142
    go_wp2_with fail
    go_loopw [5, 6, 7] (fun vo vf vi wr => ∃ (out : List (List UInt8)) (fr i : Nat) (av : Option Addr) (cv : Nat), vo = .slice av out.length cv ∧ vf = .int .i64 (fr : Int) ∧ vi = .int .i64 (i : Int) ∧ Hid (PInv s c out fr i) ∧ Hid (recS.Own wr w.heap.size (.slice av out.length cv) out) ∧ Hid (Below w.heap.size w wr)) (fun _ _ vi _ => s.length - (intOf vi).toNat)
    case atStart => exact ⟨[], 0, 0, none, 0, rfl, rfl, rfl, PInv.start s c, Rec.Own.nil _ _, Below.refl _ _⟩
    case round =>
      obtain ⟨out, fr, i, av, cv, rfl, rfl, rfl, HP, HO, HB⟩ := hrel
      have p1 := HP.out.le
      have p2 := HP.out.lt
      have p3 := HP.out.len
      by_cases h0 : i < s.length
      · have i0 : (0 : Int) ≤ (i : Int) := by omega
        have i1 : (i : Int) < (s.length : Int) := by omega
        have f0 : (0 : Int) ≤ (fr : Int) := by omega
        have f1 : (fr : Int) ≤ (i : Int) := by omega
        have f2 : (i : Int) ≤ (s.length : Int) := by omega
        by_cases hc : s[i] = c
        · have t2 : ((s[i].toNat : Int) == (c.toNat : Int)) = true := by rw [hc]; simp
          have HC := Lib.hid (HP.out.cut h0 hc)
          have hlo : ((out.length : Int)) ≤ 1025 := by omega
          have hho : out.length ≤ 1025 := by omega
          clear hc p1 p2 p3
          go_wp2_with (at_builtin; go_must (refine recS.append1V _ ((s.drop fr).take (i - fr)) rfl _ _ 22 rfl Tryz.underlying22 w.heap.size _ out (HO.out.below (b_alloc _ _)) rfl _ rfl (Rec.Row.new (R := recS) wr [(s.drop fr).take (i - fr)] _).1 (by show (out.length + 1) * 16 ≤ _; omega) (Nat.le_trans HB.out.size (b_alloc _ _).size) ?_); intro g gc w6 hown hc6 _; have HO6 := Lib.hid hown; have HB6 := Lib.hid (HB.out.trans ((((b_alloc wr (.cells (recS.cells [(s.drop fr).take (i - fr)]).toArray 9)).mono HB.out.size)).trans (hc6.below (B := w.heap.size) (fun k hk => (Rec.Own.ltV HO.out k hk).1) (Nat.le_trans HB.out.size (b_alloc _ _).size)))); clear hown hc6)
          exact ⟨⟨_, i + 1, i + 1, some ⟨g, 0, none⟩, gc, by rw [List.length_append]; rfl, by go_num, by go_num, HC.out, by rw [List.length_append]; exact HO6.out, HB6.out⟩, by simp [intOf]; omega⟩
        · have t2 : ((s[i].toNat : Int) == (c.toNat : Int)) = false := by
            rw [beq_eq_false_iff_ne]
            intro h
            exact hc (UInt8.toNat_inj.1 (by omega))
          have HC := Lib.hid (HP.out.on h0 hc)
          clear hc p1 p2 p3
          go_wp2_with fail
          exact ⟨⟨out, fr, i + 1, av, cv, rfl, rfl, by go_num, HC.out, HO.out, HB.out⟩, by simp [intOf]; omega⟩
      · have HE := Lib.hid (HP.out.end h0)
        have f0 : (0 : Int) ≤ (fr : Int) := by omega
        have f2 : (fr : Int) ≤ (s.length : Int) := by omega
        obtain ⟨u, hu⟩ : ∃ u, u = s.drop fr := ⟨_, rfl⟩
        have hu' : List.drop fr s = u := hu.symm
        have hq : List.take (s.length - fr) u = u := List.take_of_length_le (by rw [hu, List.length_drop]; exact Nat.le_refl _)
        rw [hu'] at HE
        have hho : out.length ≤ 1025 := by omega
        have i1 : ¬ (i : Int) < (s.length : Int) := by omega
        clear p1 p2 p3 hu
        go_wp2_with (at_builtin; go_must (refine recS.append1V _ u rfl _ _ 22 rfl Tryz.underlying22 w.heap.size _ out (HO.out.below (b_alloc _ _)) rfl _ rfl (Rec.Row.new (R := recS) wr [u] _).1 (by show (out.length + 1) * 16 ≤ _; omega) (Nat.le_trans HB.out.size (b_alloc _ _).size) ?_); intro g gc w6 hown hc6 _; have HO6 := Lib.hid hown; have HB6 := Lib.hid (HB.out.trans ((((b_alloc wr (.cells (recS.cells [u]).toArray 9)).mono HB.out.size)).trans (hc6.below (B := w.heap.size) (fun k hk => (Rec.Own.ltV HO.out k hk).1) (Nat.le_trans HB.out.size (b_alloc _ _).size)))); clear hown hc6)
        go_ret
        rw [HV.out, HE.out]
        exact ⟨⟨_, rfl, HO6.out⟩, HB6.out⟩
end Go.Proofs.YtndagciefnddmaaGreatDoor
