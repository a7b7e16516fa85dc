/- Lemmas for JobRuns, part 7: walks of the functions that it reaches, and the plain laws behind them. -/
import Derived.Test.YtndagciefnddmaaGreatDoorJobRunsK2
import Derived.Test.YtndagciefnddmaaGreatDoorJobRunsK3
import Derived.Test.YtndagciefnddmaaGreatDoorJobRunsK6
set_option linter.unusedSimpArgs false
set_option linter.unusedVariables false
namespace Go.Proofs.YtndagciefnddmaaGreatDoor
open Go.RowKit Oct
theorem wpG_nilN {P : Program} {ops : Array Oper} {C : World → Prop} {R : World → World → Prop} {F : Nat → Option (Known R)} {Q : Facts → Act → Prop} {k : Nat} {S : Facts} {a : Act} (h : Q S a) : wpG P ops C R F Q k [] S a := h
attribute [local irreducible] wpG
theorem results_cellN {P : Program} {fn : Func} {p : Tmp} {ty : TypeId} {tmps : Array Value} {w : World} {v : Value} {b : Nat} (hr : fn.results = #[.cell p ty]) (hp : tmps.getD p undef = .pointer (some ⟨b, 0, none⟩))
    (hl : (loadVar ty ⟨b, 0, none⟩).run P w = .ok v w) : (results fn tmps).run P w = .ok v w := by
  simp only [Array.getD_eq_getD_getElem?] at hp ⊢
  simp [results, hr, Sem.run_bind, Result.andThen, hp, asAddr, hl]
theorem load_rv {w : World} {b : Nat} {v0 v1 v2 : Value} (h0 : w.cell? ⟨b, 0, none⟩ = some v0) (h1 : w.cell? ⟨b, 1, none⟩ = some v1) (h2 : w.cell? ⟨b, 2, none⟩ = some v2) : (loadVar 173 ⟨b, 0, none⟩).run Tryz.prog w = .ok (.agg #[v0, v1, v2]) w := by
  go_simp
theorem rv_store {w : World} {b : Nat} {t : TypeId} {a0 a1 a2 : Value} (hx : Blk w b t [a0, a1, a2]) (v0 v1 v2 : Value) :
    Blk (((w.setCell ⟨b, 0, none⟩ v0).setCell ⟨b, 1, none⟩ v1).setCell ⟨b, 2, none⟩ v2) b t [v0, v1, v2] ∧ Chg (fun x => x = b) w (((w.setCell ⟨b, 0, none⟩ v0).setCell ⟨b, 1, none⟩ v1).setCell ⟨b, 2, none⟩ v2) :=
  ⟨((hx.set 0 v0).set 1 v1).set 2 v2, Chg.trans (Chg.trans (Chg.setCell w ⟨b, 0, none⟩ v0 rfl) (Chg.setCell _ ⟨b, 1, none⟩ v1 rfl)) (Chg.setCell _ ⟨b, 2, none⟩ v2 rfl)⟩
theorem pre_setN {α : Type} (X Y Z : List α) (q : α) : X <+: (X ++ Y ++ Z).set X.length q := by
  rw [List.append_assoc, List.set_append_right _ _ (Nat.le_refl _)]
  exact List.prefix_append _ _
section
variable {base G : Nat} {w w' w3 : World} {f : Rf} {at_ : Int} {st rg : List RV} {los : List Lo} {pr : List (List UInt8 × List UInt8)} {sv sv' lv lv' prv prv' : Value} {X : List (Pt base)}
set_option maxRecDepth 100000 in
set_option maxHeartbeats 4000000 in
theorem rpop_any (v : RV) (h : RM base w G f at_ (v :: st) rg los pr sv lv prv X) (hl : st.length ≤ 1000) :
    Calls Tryz.prog 97 #[.pointer (some ⟨G, 0, none⟩)] w fun e w' => e = .returned (rvV v) ∧ (∃ sv', RM base w' G f at_ st rg los pr sv' lv prv X) ∧ Below base w w' := by
  obtain ⟨⟨ab, cb, hsv⟩, _, _⟩ := h.slices
  rw [List.length_cons] at hsv
  subst hsv
  have HH := Lib.hid h
  obtain ⟨R, hR⟩ : ∃ R, R = w.heap.size := ⟨_, rfl⟩
  obtain ⟨W1, hW1⟩ : ∃ W1, W1 = w.alloc (.cells #[.bool false, .int .i64 0, .string ⟨#[]⟩] 173) := ⟨_, rfl⟩
  have hRb : base ≤ R := by rw [hR]; exact HH.out.size
  have hm1 : RM base W1 G f at_ (v :: st) rg los pr (.slice ab (st.length + 1) cb) lv prv (X ++ [blkPt R hRb 173 [.bool false, .int .i64 0, .string ⟨#[]⟩]]) := by subst hR; rw [hW1]; exact HH.out.add _ _
  have HB1 := Lib.hid (show Below w.heap.size w W1 by rw [hW1]; exact b_alloc _ _)
  clear h
  go_enter Tryz.func97, Tryz.ntmps97
  go_upto_region 1 with fail
  rw [← hW1, ← hR]
  clear hW1 hR
  obtain ⟨g, rfl, -, e0, e1, e2⟩ := hm1.top
  have c6 : W1.cell? ⟨G, 6, none⟩ = some (.slice (some ⟨g, 0, none⟩) (st.length + 1) cb) := hm1.cell (k := 6) rfl
  have hGl : G < W1.heap.size := hm1.blk.lt
  have hgl : g < W1.heap.size := lt_of_cell e0
  have hl1 : ((st.length : Int) + 1) - 1 = (st.length : Int) := by omega
  have hl2 : (0 : Int) ≤ (st.length : Int) := by omega
  have hl3 : (st.length : Int) < (st.length : Int) + 1 := by omega
  have hl4 : (st.length : Int) ≤ 1000 := by omega
  have HM1 := Lib.hid hm1
  clear hm1
  go_region
  obtain ⟨T, hT⟩ : ∃ T, T = W1.heap.size := ⟨_, rfl⟩
  have hTb : base ≤ T := by rw [hT]; exact HM1.out.size
  obtain ⟨W2, hW2⟩ : ∃ W2, W2 = (W1.alloc (.cells #[.bool v.1, .int .i64 v.2.1, .string (bs v.2.2)] 173)).drew := ⟨_, rfl⟩
  have hm2 : RM base W2 G f at_ (v :: st) rg los pr (.slice (some ⟨g, 0, none⟩) (st.length + 1) cb) lv prv (X ++ [blkPt R hRb 173 [.bool false, .int .i64 0, .string ⟨#[]⟩]] ++ [blkPt T hTb 173 [.bool v.1, .int .i64 v.2.1, .string (bs v.2.2)]]) := by
    subst hT; rw [hW2]; exact (HM1.out.add [.bool v.1, .int .i64 v.2.1, .string (bs v.2.2)] 173).below (b_drew _)
  have HB2 := Lib.hid (show Below w.heap.size w W2 by rw [hW2]; exact bt HB1.out (bt (b_alloc _ _) (b_drew _)))
  rw [← hW2, ← hT]
  clear hW2 hT e0 e1 e2 c6 hGl hgl HM1
  have c6 : W2.cell? ⟨G, 6, none⟩ = some (.slice (some ⟨g, 0, none⟩) (st.length + 1) cb) := hm2.cell (k := 6) rfl
  have f6 := hm2.free (k := 6) (by decide)
  have hGl : G < W2.heap.size := hm2.blk.lt
  have ho : recVa.Own W2 base (.slice (some ⟨g, 0, none⟩) (v :: st).reverse.length cb) (v :: st).reverse := by rw [List.length_reverse]; exact hm2.os
  have hrun := ho.shortRun 171 Tryz.underlying171 (by intro wx; kernel_rfl) st.length (by simp)
  rw [List.length_reverse, List.length_cons] at hrun
  have hsh : recVa.Own W2.drew base (.slice (some ⟨g, 0, none⟩) st.length cb) st.reverse := by
    have := (ho.below (b_drew W2)).short st.length (by simp)
    rwa [List.reverse_cons, List.take_append_of_le_length (by simp), List.take_of_length_le (by simp)] at this
  have hn := (hm2.below (b_drew W2)).newS (sv' := .slice (some ⟨g, 0, none⟩) st.length cb) (l := st) (Chg.refl _ _) (fun k hk => by cases hk; exact .inl rfl) hsh
  have HN := Lib.hid hn
  clear ho hsh hn hm2
  go_wp2_with fail
  go_region
  obtain ⟨W3, hW3⟩ : ∃ W3, W3 = (W2.setCell ⟨G, 6, none⟩ (.slice (some ⟨g, 0, none⟩) st.length cb)).drew := ⟨_, rfl⟩
  have hm3 : RM base W3 G f at_ st rg los pr (.slice (some ⟨g, 0, none⟩) st.length cb) lv prv (X ++ [blkPt R hRb 173 [.bool false, .int .i64 0, .string ⟨#[]⟩]] ++ [blkPt T hTb 173 [.bool v.1, .int .i64 v.2.1, .string (bs v.2.2)]]) := by rw [hW3]; exact HN.out.1
  have hb3 : Below base w W3 := by rw [hW3]; exact ((bt HB2.out (b_drew W2)).mono HH.out.size).trans HN.out.2.1
  rw [← hW3]
  clear hW3 HN c6 f6 hGl hrun HB2
  have hTk : Blk W3 T 173 [.bool v.1, .int .i64 v.2.1, .string (bs v.2.2)] := hm3.loc (p := blkPt T hTb 173 [.bool v.1, .int .i64 v.2.1, .string (bs v.2.2)]) (by simp)
  have hRk : Blk W3 R 173 [.bool false, .int .i64 0, .string ⟨#[]⟩] := hm3.loc (p := blkPt R hRb 173 [.bool false, .int .i64 0, .string ⟨#[]⟩]) (by simp)
  have t0 := hTk.cell (k := 0) rfl
  have t1 := hTk.cell (k := 1) rfl
  have t2 := hTk.cell (k := 2) rfl
  have r0 := hRk.cell (k := 0) rfl
  have r1 := hRk.cell (k := 1) rfl
  have r2 := hRk.cell (k := 2) rfl
  have k0 := hRk.free (k := 0) (by simp)
  have k1 := hRk.free (k := 1) (by simp)
  have k2 := hRk.free (k := 2) (by simp)
  have HM3 := Lib.hid hm3
  have HB3 := Lib.hid hb3
  have HRK := Lib.hid hRk
  clear hm3 hb3 hRk hTk
  go_wp2_with fail
  obtain ⟨hy, hc⟩ := rv_store HRK.out (.bool v.1) (.int .i64 v.2.1) (.string (bs v.2.2))
  refine bodyPost_ret (results_cellN rfl rfl (load_rv (hy.cell (k := 0) rfl) (hy.cell (k := 1) rfl) (hy.cell (k := 2) rfl))) rfl ?_
  obtain ⟨hm4, hb4⟩ := HM3.out.updX (i := X.length) (p := blkPt R hRb 173 [.bool false, .int .i64 0, .string ⟨#[]⟩]) (by simp) hc (fun k hk => hk) (blkPt R hRb 173 [.bool v.1, .int .i64 v.2.1, .string (bs v.2.2)]) hy (fun k hk => hk)
  exact ⟨rfl, ⟨_, hm4.pre (pre_setN X _ _ _)⟩, HB3.out.trans hb4⟩
set_option maxRecDepth 100000 in
set_option maxHeartbeats 4000000 in
theorem rpush_any (v : RV) (h : RM base w G f at_ st rg los pr sv lv prv X) (hl : st.length ≤ 1000) :
    Calls Tryz.prog 135 #[.pointer (some ⟨G, 0, none⟩), rvV v] w fun e w' => e = .returned (.tuple #[]) ∧ (∃ sv', RM base w' G f at_ (v :: st) rg los pr sv' lv prv X) ∧ Below base w w' := by
  obtain ⟨⟨ab, cb, rfl⟩, _, _⟩ := h.slices
  obtain ⟨W1, hW1⟩ : ∃ W1, W1 = w.alloc (.cells #[.bool v.1, .int .i64 v.2.1, .string (bs v.2.2)] 173) := ⟨_, rfl⟩
  have hb1 : Below w.heap.size w W1 := by rw [hW1]; exact b_alloc _ _
  have hx : Blk W1 w.heap.size 173 [.bool v.1, .int .i64 v.2.1, .string (bs v.2.2)] := by rw [hW1]; exact Blk.new w _ _
  obtain ⟨D, hD⟩ : ∃ D, D = w.heap.size := ⟨_, rfl⟩
  rw [← hD] at hx
  have HS := Lib.hid h.size
  have h1 := h.below hb1
  have c6 := h1.cell (k := 6) rfl
  have x0 := hx.cell (k := 0) rfl
  have x1 := hx.cell (k := 1) rfl
  have x2 := hx.cell (k := 2) rfl
  have HB1 := Lib.hid (hb1.mono h.size)
  have H1 := Lib.hid h1
  have HOS := Lib.hid h1.os
  have hlr : st.reverse.length = st.length := List.length_reverse
  obtain ⟨xs, hxs⟩ : ∃ xs, xs = st.reverse := ⟨_, rfl⟩
  rw [← hxs] at HOS hlr
  rw [← hlr] at c6
  have HXS := Lib.hid hxs
  have HLR := Lib.hid hlr
  have hl2 : xs.length ≤ 1000 := by omega
  clear h h1 hb1 hx hxs hlr
  unfold rvV
  go_enter Tryz.func135, Tryz.ntmps135
  go_upto_region 1 with fail
  rw [← hW1, ← hD]
  clear hW1 hD
  refine region_relA recVa xs v 11 [(4, .exact _ (.slice ab xs.length cb)), (5, kOwnA recVa W1.heap.size xs v), (6, .exact _ (.agg #[.bool v.1, .int .i64 v.2.1, .string (bs v.2.2)])), (7, kOneA recVa W1.heap.size xs v), (8, kOwnB recVa W1.heap.size xs v)] (by kernel_rfl) (by kernel_rfl) ?_
  simp only [List.take_succ_cons, List.take_zero, List.drop_succ_cons, List.drop_zero]
  (repeat (first | (refine wpG_skip (by kernel_rfl) (fun K hK => ?_); go_big_quiet_skip; refine wpQuiet_nil (hK _ ?_); clear hK K) | (refine wpG_quiet (by rfl) (by rfl) (fun K hK => ?_); go_big_quiet_want; go_big_quiet_op; go_big_quiet_on; refine wpQuiet_nil (hK _ ?_); clear hK K) | (refine wpG_nilOk rfl rfl rfl (by kernel_rfl) (fun K hK => ?_); go_simp; refine hK _ ?_; clear hK K)))
  refine wpG_exact rfl (by kernel_rfl) (fun w' G hB hS hG => ?_) (fun K hK => ?_)
  · have y := Below.keeps hB c6
    go_simp; exact hG _ (RelA.refl _)
  go_simp; refine hK _ ?_; clear hK K; (repeat (first | (refine wpG_skip (by kernel_rfl) (fun K hK => ?_); go_big_quiet_skip; refine wpQuiet_nil (hK _ ?_); clear hK K) | (refine wpG_quiet (by rfl) (by rfl) (fun K hK => ?_); go_big_quiet_want; go_big_quiet_op; go_big_quiet_on; refine wpQuiet_nil (hK _ ?_); clear hK K) | (refine wpG_nilOk rfl rfl rfl (by kernel_rfl) (fun K hK => ?_); go_simp; refine hK _ ?_; clear hK K)))
  refine wpG_known (kOwnA recVa W1.heap.size xs v) rfl (by kernel_rfl) (fun w' G hB hS hG => ?_) (fun x K hK => ?_)
  · refine recVa.grow_copy _ _ 171 rfl Tryz.underlying171 W1.heap.size rfl _ xs (show recVa.Row w' (.slice ab xs.length cb) xs from by rw [HLR.out]; exact (HOS.out.below hB).row) rfl (by show xs.length * 32 ≤ _; omega) hB.size (fun A C w'' ho hb => hG (A, C) w'' (RelA.of_bel hB.size hb) (fun φ h => by cases h; exact ho))
  obtain ⟨ad, c⟩ := x; go_simp; refine hK _ ?_; clear hK K; (repeat (first | (refine wpG_skip (by kernel_rfl) (fun K hK => ?_); go_big_quiet_skip; refine wpQuiet_nil (hK _ ?_); clear hK K) | (refine wpG_quiet (by rfl) (by rfl) (fun K hK => ?_); go_big_quiet_want; go_big_quiet_op; go_big_quiet_on; refine wpQuiet_nil (hK _ ?_); clear hK K) | (refine wpG_nilOk rfl rfl rfl (by kernel_rfl) (fun K hK => ?_); go_simp; refine hK _ ?_; clear hK K)))
  refine wpG_exact rfl (by kernel_rfl) (fun w' G hB hS hG => ?_) (fun K hK => ?_)
  · have y0 := Below.keeps hB x0
    have y1 := Below.keeps hB x1
    have y2 := Below.keeps hB x2
    go_simp; exact hG _ (RelA.refl _)
  go_simp; refine hK _ ?_; clear hK K; (repeat (first | (refine wpG_skip (by kernel_rfl) (fun K hK => ?_); go_big_quiet_skip; refine wpQuiet_nil (hK _ ?_); clear hK K) | (refine wpG_quiet (by rfl) (by rfl) (fun K hK => ?_); go_big_quiet_want; go_big_quiet_op; go_big_quiet_on; refine wpQuiet_nil (hK _ ?_); clear hK K) | (refine wpG_nilOk rfl rfl rfl (by kernel_rfl) (fun K hK => ?_); go_simp; refine hK _ ?_; clear hK K)))
  refine wpG_known (kOneA recVa W1.heap.size xs v) rfl (by kernel_rfl) (fun w' G hB hS hG => ?_) (fun (bb : Nat) K hK => ?_)
  · go_simp; exact one_newA hG rfl hB.size
  go_simp; refine hK _ ?_; clear hK K; (repeat (first | (refine wpG_skip (by kernel_rfl) (fun K hK => ?_); go_big_quiet_skip; refine wpQuiet_nil (hK _ ?_); clear hK K) | (refine wpG_quiet (by rfl) (by rfl) (fun K hK => ?_); go_big_quiet_want; go_big_quiet_op; go_big_quiet_on; refine wpQuiet_nil (hK _ ?_); clear hK K) | (refine wpG_nilOk rfl rfl rfl (by kernel_rfl) (fun K hK => ?_); go_simp; refine hK _ ?_; clear hK K)))
  refine wpG_known (kOwnB recVa W1.heap.size xs v) rfl (by kernel_rfl) (fun w' G hB hS hG => ?_) (fun y K hK => ?_)
  · have hown : recVa.Own w' W1.heap.size (.slice ad xs.length c) xs := at1 hS (by kernel_rfl)
    have hone : w'.heap[bb]? = some (.cells (recVa.cell v).toArray recVa.e (0, 0)) := at0 hS (by kernel_rfl)
    exact recVa.grow_app1 _ _ 171 rfl Tryz.underlying171 W1.heap.size _ xs v hown rfl bb rfl hone (by show (xs.length + 1) * 32 ≤ _; omega) hB.size (fun A C w'' ho hr => hG (A, C) w'' hr (fun φ h => by cases h; exact ho))
  obtain ⟨ad2, c2⟩ := y
  go_simp; refine hK _ ?_; clear hK K; (repeat (first | (refine wpG_skip (by kernel_rfl) (fun K hK => ?_); go_big_quiet_skip; refine wpQuiet_nil (hK _ ?_); clear hK K) | (refine wpG_quiet (by rfl) (by rfl) (fun K hK => ?_); go_big_quiet_want; go_big_quiet_op; go_big_quiet_on; refine wpQuiet_nil (hK _ ?_); clear hK K) | (refine wpG_nilOk rfl rfl rfl (by kernel_rfl) (fun K hK => ?_); go_simp; refine hK _ ?_; clear hK K)))
  refine wpG_nilN ?_
  intro w5 hB5 hA5
  have ho5 : recVa.Own w5 W1.heap.size (.slice ad2 (xs.length + 1) c2) (xs ++ [v]) := all0 hA5
  have hn := H1.out.newS (w3 := w5) (sv' := .slice ad2 (xs.length + 1) c2) (l := v :: st) (Chg.of_below hB5) (fun k hk => .inr (Rec.Own.ltV ho5 k hk).1) (by rw [List.reverse_cons, ← HXS.out]; exact ho5.baseLe H1.out.size)
  have c6 := hn.2.2.1
  have f6 := hn.2.2.2
  have HN := Lib.hid hn
  clear hn ho5 hB5 hA5 x0 x1 x2
  go_wp2_with fail
  refine bodyPost_end (results_none rfl _ _ _) rfl ?_
  exact ⟨rfl, ⟨_, HN.out.1⟩, HB1.out.trans HN.out.2.1⟩
end
end Go.Proofs.YtndagciefnddmaaGreatDoor
namespace Go.Proofs.YtndagciefnddmaaGreatDoor
def insN : List Nat := [0, 0, 0, 0, 2, 1, 3, 1, 1, 2, 2, 2, 2, 1, 1, 1, 2, 0, 1, 1, 0, 0, 1, 2]
def outN : List Nat := [0, 1, 1, 1, 1, 1, 1, 1, 1, 1, 1, 1, 1, 1, 0, 2, 2, 1, 0, 0, 0, 0, 0, 0]
def givesLen (n : Nat) (g : List UInt8) : Nat := g.foldr (fun c a => (if c = 49 then min 1 n else if c = 50 then min 1 (n - 1) else 1) + a) 0
theorem givesM_len (top : List UInt8) : ∀ g : List UInt8, (givesV top g).length = givesLen top.length g
  | [] => rfl
  | c :: g => by
    have ih := givesM_len top g
    show (List.flatMap _ (c :: g)).length = _
    rw [List.flatMap_cons, List.length_append]
    show _ + (givesV top g).length = _
    rw [ih]
    show _ = (if c = 49 then min 1 top.length else if c = 50 then min 1 (top.length - 1) else 1) + givesLen top.length g
    congr 1
    split
    · simp
    · split
      · simp
      · simp
theorem effs_tab : ∀ n : Nat, n < 24 → ∀ r : List UInt8, r = [84] ∨ r = [78] → (replV (effs.getD n ([], [])).1 r).length = insN.getD n 0 ∧ givesLen (insN.getD n 0) (replV (effs.getD n ([], [])).2 r) = outN.getD n 0 := by
  intro n hn r hr
  have h : ∀ n : Nat, n < 24 → ((replV (effs.getD n ([], [])).1 [84]).length = insN.getD n 0 ∧ givesLen (insN.getD n 0) (replV (effs.getD n ([], [])).2 [84]) = outN.getD n 0) ∧ ((replV (effs.getD n ([], [])).1 [78]).length = insN.getD n 0 ∧ givesLen (insN.getD n 0) (replV (effs.getD n ([], [])).2 [78]) = outN.getD n 0) := by decide
  rcases hr with rfl | rfl
  · exact (h n hn).1
  · exact (h n hn).2
theorem regM_two (a : UInt8) : regV a = [84] ∨ regV a = [78] := by unfold regV; split <;> simp
theorem valuesM_len {k : List UInt8} {x : VI} (hx : x.1.toNat < 24) (h0 : (valuesV k x).1 = 0) : insN.getD x.1.toNat 0 ≤ k.length ∧ (valuesV k x).2.length = k.length - insN.getD x.1.toNat 0 + outN.getD x.1.toNat 0 := by
  obtain ⟨e1, e2⟩ := effs_tab x.1.toNat hx (regV x.2) (regM_two x.2)
  have e1' : (effV x).1.length = insN.getD x.1.toNat 0 := e1
  have e2' : givesLen (insN.getD x.1.toNat 0) (effV x).2 = outN.getD x.1.toNat 0 := e2
  unfold valuesV at h0 ⊢
  split at h0
  · simp at h0
  rename_i hl
  rw [if_neg hl]
  split at h0
  · simp at h0
  rename_i hf
  rw [if_neg hf]
  split at h0
  · simp at h0
  rename_i hm
  rw [if_neg hm]
  refine ⟨by omega, ?_⟩
  rw [List.length_append, givesM_len, List.length_take, List.length_drop, e1']
  rw [show k.length - (k.length - insN.getD x.1.toNat 0) = insN.getD x.1.toNat 0 by omega, e2']
  omega
structure OneOk (nt inp : Nat) (role : UInt8) (i : Nat) (x : VI) (s s' : Vs) : Prop where
  th : thereV nt inp role s.blocks x = 0
  vl : (valuesV s.kinds x).1 = 0
  pl : opensV x.1 = false → x.1 ≠ 21 → s'.kinds = (valuesV s.kinds x).2
  k19 : x.1 = 19 → s'.kinds = (valuesV s.kinds x).2
  k22 : x.1 = 22 → s'.kinds = (valuesV s.kinds x).2 ++ [84]
  k20 : x.1 = 20 → ∃ r b, s.blocks = r ++ [b] ∧ b.op = 19 ∧ b.did = false ∧ s'.kinds = b.opn
  k21 : x.1 = 21 → s'.kinds = s.kinds
theorem oneV_ok {nt inp : Nat} {role : UInt8} {i : Nat} {x : VI} {s : Vs} (h0 : (oneV nt inp role i x s).1 = 0) : OneOk nt inp role i x s (oneV nt inp role i x s).2 := by
  have ht := oneV_there h0
  unfold oneV at h0 ⊢
  rw [if_neg (by rw [ht]; simp)] at h0 ⊢
  split at h0
  · rename_i hv; exact absurd h0 hv
  rename_i hv
  rw [if_neg hv]
  have hv0 : (valuesV s.kinds x).1 = 0 := by simpa using hv
  clear hv
  have h20 : x.1 = 20 → elseBad s.blocks.getLast? = false := by
    intro e
    unfold thereV at ht
    rw [if_neg (by rw [e]; rintro (⟨h, -⟩ | ⟨h, -⟩ | ⟨h | h, -⟩) <;> exact absurd h (by decide)), if_neg (by rw [e]; rintro ⟨h, -⟩; exact absurd h (by decide))] at ht
    cases hb : elseBad s.blocks.getLast? with
    | false => rfl
    | true => rw [if_pos ⟨e, hb⟩] at ht; cases ht
  refine ⟨ht, hv0, ?_, ?_, ?_, ?_, ?_⟩
  · intro ho h21
    unfold opensV at ho
    simp at ho
    unfold turnsV
    rw [if_neg ho.1.1, if_neg ho.1.2, if_neg ho.2, if_neg h21]
  · intro e
    unfold turnsV
    rw [if_pos e]
  · intro e
    unfold turnsV
    rw [if_neg (by rw [e]; decide), if_pos e]
  · intro e
    have hb := h20 e
    unfold turnsV
    rw [if_neg (by rw [e]; decide), if_neg (by rw [e]; decide), if_pos e]
    cases hl : s.blocks.getLast? with
    | none => rw [hl] at hb; simp [elseBad] at hb
    | some b =>
      rw [hl] at hb
      simp [elseBad] at hb
      exact ⟨_, b, getLast_split hl, hb.1, hb.2, rfl⟩
  · intro e
    have hk : (valuesV s.kinds x).2 = s.kinds := valuesV_none (.inr e)
    unfold turnsV at h0 ⊢
    rw [if_neg (by rw [e]; decide), if_neg (by rw [e]; decide), if_neg (by rw [e]; decide), if_pos e] at h0 ⊢
    cases hl : s.blocks.getLast? with
    | none => exact hk
    | some b =>
      simp only [hl] at h0 ⊢
      split
      · exact hk
      · exact hk
/-! ## blocks -/
section
variable {nt inp : Nat} {role : UInt8} {E : Me}
abbrev sM (nt inp : Nat) (role : UInt8) (E : Me) (i : Nat) : Vs := stV nt inp role E.code i
theorem GoodM.step (G : GoodM nt inp role E) {i : Nat} (hi : i < E.code.length) : StepB i (E.code.getD i (0, 0)) (sM nt inp role E i) (sM nt inp role E (i + 1)) ∧ OneOk nt inp role i (E.code.getD i (0, 0)) (sM nt inp role E i) (sM nt inp role E (i + 1)) := by
  have h2 := (stV_run G.ok i (by omega)).k
  exact ⟨(oneV_step h2 (G.ok i hi)).1, oneV_ok (G.ok i hi)⟩
theorem GoodM.run (G : GoodM nt inp role E) {i : Nat} (hi : i ≤ E.code.length) : RunB nt inp role E.code i := stV_run G.ok i hi
theorem pre_last {α : Type} {r t u : List α} {b c : α} (h : r ++ [b] ++ t = u ++ [c]) : (t = [] ∧ r = u ∧ b = c) ∨ ∃ t', t = t' ++ [c] ∧ u = r ++ [b] ++ t' := by
  rcases List.eq_nil_or_concat t with rfl | ⟨t', d, rfl⟩
  · rw [List.append_nil] at h
    have := List.append_inj' h rfl
    exact .inl ⟨rfl, this.1, by simpa using this.2⟩
  · rw [List.concat_eq_append, ← List.append_assoc] at h
    have := List.append_inj' h rfl
    refine .inr ⟨t', by rw [List.concat_eq_append]; simpa using this.2, this.1.symm⟩
theorem open_stays (G : GoodM nt inp role E) {r : List Vb} {b : Vb} {i : Nat} (hb : ∃ t, (sM nt inp role E i).blocks = r ++ [b] ++ t) :
    ∀ n, i + n = E.code.length → ∃ e, i ≤ e ∧ e < E.code.length ∧ (sM nt inp role E e).blocks = r ++ [b] ∧ (opV E.code e = 20 ∨ opV E.code e = 21) ∧ E.ends.getD b.at_ 0 = (e : Int) ∧ ∀ k, i ≤ k → k ≤ e → ∃ t, (sM nt inp role E k).blocks = r ++ [b] ++ t := by
  intro n
  induction n generalizing i with
  | zero =>
    intro hn
    obtain ⟨t, ht⟩ := hb
    have hi : i = E.code.length := by omega
    subst hi
    have := G.done
    rw [show stV nt inp role E.code E.code.length = sM nt inp role E E.code.length from rfl, ht] at this
    simp at this
  | succ n ih =>
    intro hn
    have hi : i < E.code.length := by omega
    obtain ⟨hs, -⟩ := G.step hi
    obtain ⟨t, ht⟩ := hb
    have stay : (∃ t, (sM nt inp role E (i + 1)).blocks = r ++ [b] ++ t) → ∃ e, i ≤ e ∧ e < E.code.length ∧ (sM nt inp role E e).blocks = r ++ [b] ∧ (opV E.code e = 20 ∨ opV E.code e = 21) ∧ E.ends.getD b.at_ 0 = (e : Int) ∧ ∀ k, i ≤ k → k ≤ e → ∃ t, (sM nt inp role E k).blocks = r ++ [b] ++ t := by
      intro h
      obtain ⟨e, h1, h2, h3, h4, h5, h6⟩ := ih h (by omega)
      refine ⟨e, by omega, h2, h3, h4, h5, fun k hk1 hk2 => ?_⟩
      rcases Nat.eq_or_lt_of_le hk1 with rfl | hk
      · exact ⟨t, ht⟩
      · exact h6 k (by omega) hk2
    have close : ∀ (c : Vb) (u v : List Vb), t = [] → (sM nt inp role E (i + 1)).blocks.map Vb.at_ = v.map Vb.at_ → (∀ a ∈ v.map Vb.at_, a ≠ b.at_) → (sM nt inp role E (i + 1)).ends = (sM nt inp role E i).ends.set b.at_ (i : Int) → (opV E.code i = 20 ∨ opV E.code i = 21) → ∃ e, i ≤ e ∧ e < E.code.length ∧ (sM nt inp role E e).blocks = r ++ [b] ∧ (opV E.code e = 20 ∨ opV E.code e = 21) ∧ E.ends.getD b.at_ 0 = (e : Int) ∧ ∀ k, i ≤ k → k ≤ e → ∃ t, (sM nt inp role E k).blocks = r ++ [b] ++ t := by
      intro c u v ht0 hv hne he ho
      subst ht0
      rw [List.append_nil] at ht
      have hr := G.run (i := i) (by omega)
      have hbm : b ∈ (sM nt inp role E i).blocks := by rw [ht]; simp
      have hbi := (hr.inv.bl b hbm).1
      have hel := hr.inv.el
      refine ⟨i, Nat.le_refl _, hi, ht, ho, ?_, fun k h1 h2 => ⟨[], by rw [List.append_nil, show k = i by omega]; exact ht⟩⟩
      have hn' : b.at_ ∉ (stV nt inp role E.code (i + 1)).blocks.map Vb.at_ := by
        show b.at_ ∉ (sM nt inp role E (i + 1)).blocks.map Vb.at_
        rw [hv]
        exact fun h => hne _ h rfl
      have := (stV_ends G.ok (i := i + 1) (j := b.at_) (by omega) hn' (E.code.length - (i + 1)) (by omega)).1
      rw [show i + 1 + (E.code.length - (i + 1)) = E.code.length by omega] at this
      rw [G.ends, this]
      show (sM nt inp role E (i + 1)).ends.getD b.at_ 0 = _
      rw [he]
      exact getD_setEqB (by rw [hel]; omega)
    have hst := (G.run (i := i) (by omega)).inv.st
    rcases hs with ⟨_, k, _, hb', _⟩ | ⟨h20, r', b', hl, hb', he⟩ | ⟨h21, r', b', hl, _, hb', he⟩ | ⟨_, hb', _⟩
    · exact stay ⟨t ++ [⟨(E.code.getD i (0, 0)).1, k, k, i, false⟩], by rw [hb', ht]; simp⟩
    · rw [ht] at hl
      rcases pre_last hl with ⟨h1, rfl, rfl⟩ | ⟨t', rfl, rfl⟩
      · subst h1
        rw [ht, List.append_nil] at hst
        have hlt := (st_split hst).2
        have hbi := ((G.run (i := i) (by omega)).inv.bl b (by rw [ht]; simp)).1
        refine close b [] (r ++ [{ b with want := (sM nt inp role E i).kinds, at_ := i, did := true }]) rfl (by rw [hb']) ?_ he (.inl h20)
        intro a ha
        rw [List.map_append] at ha
        rcases List.mem_append.1 ha with ha | ha
        · have := hlt a ha; omega
        · simp at ha; omega
      · exact stay ⟨t' ++ [{ b' with want := (sM nt inp role E i).kinds, at_ := i, did := true }], by rw [hb']; simp⟩
    · rw [ht] at hl
      rcases pre_last hl with ⟨h1, rfl, rfl⟩ | ⟨t', rfl, rfl⟩
      · subst h1
        rw [ht, List.append_nil] at hst
        have hlt := (st_split hst).2
        refine close b [] r rfl (by rw [hb']) ?_ he (.inr h21)
        intro a ha
        have := hlt a ha; omega
      · exact stay ⟨t', hb'⟩
    · exact stay ⟨t, by rw [hb', ht]⟩
end
end Go.Proofs.YtndagciefnddmaaGreatDoor
namespace Go.Proofs.YtndagciefnddmaaGreatDoor
open Go.RowKit
section
variable {nt inp : Nat} {role : UInt8} {E : Me}
theorem loops_append (s s' : Vs) (b : Vb) (h : s'.blocks = s.blocks ++ [b]) : loopsB s' = (if b.op = 22 then [b.at_] else []) ++ loopsB s := by
  unfold loopsB
  rw [h, List.filter_append, List.map_append, List.reverse_append]
  by_cases hb : b.op = 22
  · simp [hb]
  · simp [hb]
theorem loops_split {s : Vs} {r : List Vb} {b : Vb} (h : s.blocks = r ++ [b]) : loopsB s = (if b.op = 22 then [b.at_] else []) ++ ((r.filter fun b => b.op == 22).map Vb.at_).reverse := by
  unfold loopsB
  rw [h, List.filter_append, List.map_append, List.reverse_append]
  by_cases hb : b.op = 22
  · simp [hb]
  · simp [hb]
theorem loops_eq {s s' : Vs} (h : s'.blocks = s.blocks) : loopsB s' = loopsB s := by unfold loopsB; rw [h]
structure MatchM (nt inp : Nat) (role : UInt8) (E : Me) (i e : Nat) (r : List Vb) (b : Vb) : Prop where
  lt : i < e
  le : e < E.code.length
  en : E.ends.getD i 0 = (e : Int)
  be : (sM nt inp role E e).blocks = r ++ [b]
  oe : opV E.code e = 20 ∨ opV E.code e = 21
  all : ∀ k, i + 1 ≤ k → k ≤ e → ∃ t, (sM nt inp role E k).blocks = r ++ [b] ++ t
theorem match_of (G : GoodM nt inp role E) {i : Nat} {r : List Vb} {b : Vb} (hi : i < E.code.length) (hb : (sM nt inp role E (i + 1)).blocks = r ++ [b]) (ha : b.at_ = i) : ∃ e, MatchM nt inp role E i e r b := by
  obtain ⟨e, h1, h2, h3, h4, h5, h6⟩ := open_stays G (r := r) (b := b) (i := i + 1) ⟨[], by rw [hb]; simp⟩ (E.code.length - (i + 1)) (by omega)
  rw [ha] at h5
  exact ⟨e, by omega, h2, h5, h3, h4, h6⟩
theorem behind_open (G : GoodM nt inp role E) {i : Nat} (hi : i < E.code.length) (ho : opV E.code i = 19 ∨ opV E.code i = 22) :
    ∃ e, i < e ∧ e < E.code.length ∧ E.ends.getD i 0 = (e : Int) ∧ (sM nt inp role E (e + 1)).kinds.length = (sM nt inp role E i).kinds.length - 1 ∧ 1 ≤ (sM nt inp role E i).kinds.length ∧ loopsB (sM nt inp role E (e + 1)) = loopsB (sM nt inp role E i) ∧ (opV E.code i = 22 → opV E.code e = 21) := by
  obtain ⟨hs, h1⟩ := G.step hi
  have hx : (E.code.getD i (0, 0)).1 = 19 ∨ (E.code.getD i (0, 0)).1 = 22 := ho
  have hn : (E.code.getD i (0, 0)).1.toNat < 24 := by rcases hx with h | h <;> rw [h] <;> decide
  obtain ⟨l1, l2⟩ := valuesM_len hn h1.vl
  have hins : insN.getD (E.code.getD i (0, 0)).1.toNat 0 = 1 := by rcases hx with h | h <;> rw [h] <;> rfl
  have hout : outN.getD (E.code.getD i (0, 0)).1.toNat 0 = 0 := by rcases hx with h | h <;> rw [h] <;> rfl
  rw [hins] at l1 l2
  rcases hs with ⟨_, k, hk, hb, _⟩ | ⟨h20, _⟩ | ⟨h21, _⟩ | ⟨hr, _⟩
  · obtain ⟨e, hm⟩ := match_of G hi hb rfl
    have hkl : k.length = (sM nt inp role E i).kinds.length - 1 := by rw [hk, List.length_take]; omega
    obtain ⟨hse, h1e⟩ := G.step hm.le
    refine ⟨e, hm.lt, hm.le, hm.en, ?_, l1, ?_, ?_⟩
    · rcases hm.oe with h20 | h21
      · obtain ⟨r, b, hl, _, _, hkk⟩ := h1e.k20 h20
        rw [hm.be] at hl
        have := (List.append_inj' hl rfl).2
        simp at this
        rw [hkk, ← this]
        exact hkl
      · rw [h1e.k21 h21]
        rcases hse with ⟨h, _⟩ | ⟨h, _⟩ | ⟨_, r, b, hl, hwant, _, _⟩ | ⟨h, _⟩
        · rw [show (E.code.getD e (0, 0)).1 = 21 from h21] at h; rcases h with h | h <;> exact absurd h (by decide)
        · rw [show (E.code.getD e (0, 0)).1 = 21 from h21] at h; exact absurd h (by decide)
        · rw [hm.be] at hl
          have := (List.append_inj' hl rfl).2
          simp at this
          rw [hwant, ← this]
          exact hkl
        · exact absurd h21 h.2
    · rcases hse with ⟨h, _⟩ | ⟨h, r, b, hl, hb', _⟩ | ⟨h, r, b, hl, _, hb', _⟩ | ⟨h, _⟩
      · rcases hm.oe with h' | h' <;> rw [show (E.code.getD e (0, 0)).1 = _ from h'] at h <;> rcases h with h | h <;> exact absurd h (by decide)
      · obtain ⟨r', b', hl', hbop, _, _⟩ := h1e.k20 h
        rw [hl] at hl'
        have e1 := List.append_inj' hl' rfl
        rw [hm.be] at hl
        have e2 := List.append_inj' hl rfl
        have hbb : b = b' := by simpa using e1.2
        rw [loops_split hb']
        rw [if_neg (by show ¬ b.op = 22; rw [hbb, hbop]; decide), List.nil_append, ← e2.1]
        rfl
      · rw [hm.be] at hl
        have e2 := List.append_inj' hl rfl
        unfold loopsB
        rw [hb', ← e2.1]
      · rcases hm.oe with h' | h'
        · rw [show (E.code.getD e (0, 0)).1 = _ from h'] at h; exact absurd h.1 (by decide)
        · exact absurd h' h.2
    · intro h22
      rcases hm.oe with h20 | h21
      · obtain ⟨r, b, hl, hbop, _, _⟩ := h1e.k20 h20
        rw [hm.be] at hl
        have := (List.append_inj' hl rfl).2
        simp at this
        rw [← this] at hbop
        have : (E.code.getD i (0, 0)).1 = 19 := hbop
        rw [show (E.code.getD i (0, 0)).1 = 22 from h22] at this
        exact absurd this (by decide)
      · exact h21
  · rcases hx with h | h <;> rw [h] at h20 <;> exact absurd h20 (by decide)
  · rcases hx with h | h <;> rw [h] at h21 <;> exact absurd h21 (by decide)
  · rcases hx with h | h <;> rw [h] at hr <;> exact absurd hr.1 (by decide)
theorem at_else (G : GoodM nt inp role E) {i : Nat} (hi : i < E.code.length) (ho : opV E.code i = 20) :
    ∃ e, i < e ∧ e < E.code.length ∧ E.ends.getD i 0 = (e : Int) ∧ (sM nt inp role E e).kinds.length = (sM nt inp role E i).kinds.length ∧ loopsB (sM nt inp role E e) = loopsB (sM nt inp role E i) := by
  obtain ⟨hs, h1⟩ := G.step hi
  obtain ⟨r0, b0, hl0, hop0, hd0, hk0⟩ := h1.k20 ho
  rcases hs with ⟨h, _⟩ | ⟨_, r, b, hl, hb, _⟩ | ⟨h, _⟩ | ⟨h, _⟩
  · rw [show (E.code.getD i (0, 0)).1 = 20 from ho] at h; rcases h with h | h <;> exact absurd h (by decide)
  · rw [hl] at hl0
    have e0 := List.append_inj' hl0 rfl
    have hbb : b = b0 := by simpa using e0.2
    obtain ⟨e, hm⟩ := match_of G hi hb rfl
    obtain ⟨hse, h1e⟩ := G.step hm.le
    have h21 : opV E.code e = 21 := by
      rcases hm.oe with h20 | h21
      · obtain ⟨r', b', hl', _, hdid, _⟩ := h1e.k20 h20
        rw [hm.be] at hl'
        have := (List.append_inj' hl' rfl).2
        simp at this
        rw [← this] at hdid
        cases hdid
      · exact h21
    refine ⟨e, hm.lt, hm.le, hm.en, ?_, ?_⟩
    · rcases hse with ⟨h, _⟩ | ⟨h, _⟩ | ⟨_, r', b', hl', hwant, _, _⟩ | ⟨h, _⟩
      · rw [show (E.code.getD e (0, 0)).1 = 21 from h21] at h; rcases h with h | h <;> exact absurd h (by decide)
      · rw [show (E.code.getD e (0, 0)).1 = 21 from h21] at h; exact absurd h (by decide)
      · rw [hm.be] at hl'
        have := (List.append_inj' hl' rfl).2
        simp at this
        rw [hwant, ← this]
      · exact absurd h21 h.2
    · rw [loops_split hm.be, loops_split hl, if_neg (by show ¬ b.op = 22; rw [hbb, hop0]; decide), if_neg (by rw [hbb, hop0]; decide)]
  · rw [show (E.code.getD i (0, 0)).1 = 20 from ho] at h; exact absurd h (by decide)
  · rw [show (E.code.getD i (0, 0)).1 = 20 from ho] at h; exact absurd h.1 (by decide)
theorem opened (G : GoodM nt inp role E) {j : Nat} (hj : j < E.code.length) (ho : opensV (opV E.code j) = true) :
    ∃ r b, (sM nt inp role E (j + 1)).blocks = r ++ [b] ∧ b.at_ = j ∧ (opV E.code j = 22 ↔ b.op = 22) ∧ (opV E.code j = 22 → (sM nt inp role E (j + 1)).kinds.length = b.want.length + 1) := by
  obtain ⟨hs, h1⟩ := G.step hj
  rcases hs with ⟨hx, k, hk, hb, _⟩ | ⟨h20, r, b, hl, hb, _⟩ | ⟨h21, _⟩ | ⟨h, _⟩
  · refine ⟨_, _, hb, rfl, Iff.rfl, fun h22 => ?_⟩
    have h22' : (E.code.getD j (0, 0)).1 = 22 := h22
    obtain ⟨l1, l2⟩ := valuesM_len (by rw [h22']; decide) h1.vl
    rw [h22'] at l1 l2
    have e1 : insN.getD (22 : UInt8).toNat 0 = 1 := rfl
    have e2 : outN.getD (22 : UInt8).toNat 0 = 0 := rfl
    rw [e1] at l1 l2
    rw [e2] at l2
    rw [h1.k22 h22', List.length_append, l2]
    show _ = k.length + 1
    rw [hk, List.length_take]
    simp
    omega
  · obtain ⟨r', b', hl', hop, _, _⟩ := h1.k20 h20
    rw [hl] at hl'
    have hbb : b = b' := by simpa using (List.append_inj' hl' rfl).2
    refine ⟨r, _, hb, rfl, ⟨fun h => ?_, fun h => ?_⟩, fun h => ?_⟩
    · rw [show opV E.code j = 20 from h20] at h; exact absurd h (by decide)
    · have : b.op = 22 := h
      rw [hbb, hop] at this; exact absurd this (by decide)
    · rw [show opV E.code j = 20 from h20] at h; exact absurd h (by decide)
  · rw [show opV E.code j = 21 from h21] at ho; exact absurd ho (by decide)
  · rw [show opV E.code j = (E.code.getD j (0, 0)).1 from rfl, h.1] at ho; cases ho
theorem at_end (G : GoodM nt inp role E) {i : Nat} (hi : i < E.code.length) (ho : opV E.code i = 21) :
    ∃ (j : Nat) (b : Vb), j < i ∧ (opV E.code j = 22 ↔ b.op = 22) ∧ opensV (opV E.code j) = true ∧ E.ends.getD j 0 = (i : Int) ∧ (∀ j', j' < E.code.length → opensV (opV E.code j') = true → E.ends.getD j' 0 = (i : Int) → j' = j) ∧
    loopsB (sM nt inp role E i) = (if b.op = 22 then [j] else []) ++ loopsB (sM nt inp role E (i + 1)) ∧ (sM nt inp role E (i + 1)).kinds = (sM nt inp role E i).kinds ∧
    (b.op = 22 → (sM nt inp role E (j + 1)).kinds.length = (sM nt inp role E i).kinds.length + 1 ∧ loopsB (sM nt inp role E (j + 1)) = loopsB (sM nt inp role E i)) := by
  obtain ⟨hs, h1⟩ := G.step hi
  have hx : (E.code.getD i (0, 0)).1 = 21 := ho
  rcases hs with ⟨h, _⟩ | ⟨h, _⟩ | ⟨_, r, b, hl, hwant, hb, _⟩ | ⟨h, _⟩
  · rw [hx] at h; rcases h with h | h <;> exact absurd h (by decide)
  · rw [hx] at h; exact absurd h (by decide)
  · have hrun := G.run (i := i) (by omega)
    have hbm : b ∈ (sM nt inp role E i).blocks := by rw [hl]; simp
    obtain ⟨hji, hoj, -, -⟩ := hrun.inv.bl b hbm
    have hst := hrun.inv.st
    rw [show (stV nt inp role E.code i).blocks = r ++ [b] from hl] at hst
    have hlt := (st_split hst).2
    obtain ⟨r1, b1, hb1, ha1, ho1, hk1⟩ := opened G (j := b.at_) (by omega) hoj
    obtain ⟨e, hm⟩ := match_of G (by omega) hb1 ha1
    have hei : e = i := by
      rcases Nat.lt_trichotomy e i with h | h | h
      · exfalso
        obtain ⟨hse, h1e⟩ := G.step hm.le
        have hst1 := (G.run (i := e) (by omega)).inv.st
        rw [show (stV nt inp role E.code e).blocks = r1 ++ [b1] from hm.be] at hst1
        have hlt1 := (st_split hst1).2
        rw [ha1] at hlt1
        have hno : b.at_ ∉ (stV nt inp role E.code (e + 1)).blocks.map Vb.at_ := by
          show b.at_ ∉ (sM nt inp role E (e + 1)).blocks.map Vb.at_
          intro hmem
          rcases hse with ⟨h, _⟩ | ⟨h20, r', b', hl', hb', _⟩ | ⟨h21, r', b', hl', _, hb', _⟩ | ⟨h, _⟩
          · rcases hm.oe with h' | h' <;> rw [show (E.code.getD e (0, 0)).1 = _ from h'] at h <;> rcases h with h | h <;> exact absurd h (by decide)
          · rw [hm.be] at hl'
            have e2 := (List.append_inj' hl' rfl).1
            rw [hb', ← e2, List.map_append] at hmem
            rcases List.mem_append.1 hmem with hmem | hmem
            · have := hlt1 _ hmem; omega
            · simp at hmem; have := hm.lt; omega
          · rw [hm.be] at hl'
            have e2 := (List.append_inj' hl' rfl).1
            rw [hb', ← e2] at hmem
            have := hlt1 _ hmem; omega
          · rcases hm.oe with h' | h'
            · rw [show (E.code.getD e (0, 0)).1 = _ from h'] at h; exact absurd h.1 (by decide)
            · exact absurd h' h.2
        have := (stV_ends G.ok (i := e + 1) (j := b.at_) (by have := hm.lt; omega) hno (i - (e + 1)) (by omega)).2
        rw [show e + 1 + (i - (e + 1)) = i by omega, show (stV nt inp role E.code i).blocks = r ++ [b] from hl] at this
        simp at this
      · exact h
      · exfalso
        obtain ⟨t, ht⟩ := hm.all (i + 1) (by omega) (by omega)
        rw [hb] at ht
        have hmem : b1.at_ ∈ r.map Vb.at_ := by rw [ht]; simp
        have := hlt _ hmem
        omega
    subst hei
    have hbe := hm.be
    rw [hl] at hbe
    have e1 := List.append_inj' hbe rfl
    have hbb : b = b1 := by simpa using e1.2
    refine ⟨b.at_, b, hji, by rw [hbb]; rw [hbb] at ho1; exact ho1, hoj, hm.en, ?_, ?_, h1.k21 hx, ?_⟩
    · intro j' hj' ho' he'
      obtain ⟨r2, b2, hb2, ha2, -, -⟩ := opened G hj' ho'
      obtain ⟨e2, hm2⟩ := match_of G hj' hb2 ha2
      have h3 := hm2.en
      rw [he'] at h3
      have h4 : e2 = e := by omega
      subst h4
      have h5 := hm2.be
      rw [hl] at h5
      have h6 : b = b2 := by simpa using (List.append_inj' h5 rfl).2
      rw [← ha2, ← h6]
    · rw [loops_split hl]
      unfold loopsB
      rw [hb]
    · intro h22
      have hj22 : opV E.code b.at_ = 22 := by
        rw [hbb] at h22 ⊢
        rw [hbb] at ho1
        exact ho1.2 h22
      refine ⟨by rw [hk1 hj22, hwant, hbb], ?_⟩
      rw [loops_split hb1, loops_split hl, e1.1, hbb]
  · exact absurd hx h.2
end
end Go.Proofs.YtndagciefnddmaaGreatDoor
namespace Go.Proofs.YtndagciefnddmaaGreatDoor
open Go.RowKit
theorem one_of {α : Type} {l : List α} (h : 1 ≤ l.length) : ∃ a s, l = a :: s := by
  match l, h with
  | a :: s, _ => exact ⟨a, s, rfl⟩
theorem two_of {α : Type} {l : List α} (h : 2 ≤ l.length) : ∃ a b s, l = a :: b :: s := by
  match l, h with
  | a :: b :: s, _ => exact ⟨a, b, s, rfl⟩
  | [_], h => exact absurd h (by simp)
theorem three_of {α : Type} {l : List α} (h : 3 ≤ l.length) : ∃ a b c s, l = a :: b :: c :: s := by
  match l, h with
  | a :: b :: c :: s, _ => exact ⟨a, b, c, s, rfl⟩
  | [_, _], h => exact absurd h (by simp)
  | [_], h => exact absurd h (by simp)
theorem there_args {nt inp : Nat} {role : UInt8} {bl : List Vb} {x : VI} (h : thereV nt inp role bl x = 0) : (x.1 = 1 → x.2.toNat < nt) ∧ (x.1 = 3 → x.2.toNat < inp) ∧ (x.1 = 17 ∨ x.1 = 18 → x.2.toNat < 8) ∧ (x.1 = 23 → role = 1) := by
  unfold thereV at h
  split at h
  · cases h
  rename_i h1
  split at h
  · cases h
  rename_i h2
  refine ⟨fun e => ?_, fun e => ?_, fun e => ?_, fun e => ?_⟩
  · exact Nat.lt_of_not_le fun hc => h1 (.inl ⟨e, hc⟩)
  · exact Nat.lt_of_not_le fun hc => h1 (.inr (.inl ⟨e, hc⟩))
  · exact Nat.lt_of_not_le fun hc => h1 (.inr (.inr ⟨e, hc⟩))
  · exact Decidable.byContradiction fun hc => h2 ⟨e, hc⟩
theorem wrap64_bounds (n : Int) : -9223372036854775808 ≤ wrap64 n ∧ wrap64 n ≤ 9223372036854775807 := by unfold wrap64; omega
theorem vOk_num {n : Int} (h1 : -9223372036854775808 ≤ n) (h2 : n ≤ 9223372036854775807) : vOk (n, []) := ⟨h1, h2, by simp⟩
theorem vOk_txt {s : List UInt8} (h : s.length ≤ 1024) : vOk (0, s) := ⟨by simp, by simp, h⟩
theorem vOk_bit (b : Bool) : vOk (bitM b) := by cases b <;> exact ⟨by decide, by decide, by decide⟩
theorem partM_len (s : List UInt8) (a n : Int) : (partM s a n).length ≤ s.length := by unfold partM; rw [List.length_take, List.length_drop]; omega
section
variable {nt inp : Nat} {role : UInt8} {E : Me} {S : Nat → Vs} {pc : Nat} {st st' rg : List MV} {op : List (Nat × List (List UInt8))} {pr : List (List UInt8 × List UInt8)}
theorem OkM.next (h : OkM S E ⟨pc, st, rg, op, pr⟩) (hpc : pc < E.code.length) (hk : (S (pc + 1)).kinds.length = st'.length) (hl : loopsB (S (pc + 1)) = loopsB (S pc)) (hv : ∀ v ∈ st', vOk v) : OkM S E ⟨pc + 1, st', rg, op, pr⟩ :=
  ⟨hpc, hk.symm, by rw [h.op]; exact hl.symm, h.rg, hv, h.rv, h.ov, h.pr, h.pv⟩
theorem cons_ok {v : MV} {s : List MV} (h : vOk v) (hs : ∀ v ∈ s, vOk v) : ∀ u ∈ v :: s, vOk u := fun u hu => by
  rcases List.mem_cons.1 hu with rfl | hu
  · exact h
  · exact hs u hu
theorem tail_ok {v : MV} {s : List MV} (h : ∀ u ∈ v :: s, vOk u) : ∀ u ∈ s, vOk u := fun u hu => h u (List.mem_cons_of_mem _ hu)
theorem head_ok {v : MV} {s : List MV} (h : ∀ u ∈ v :: s, vOk u) : vOk v := h v (List.mem_cons_self ..)
theorem piecesM_ok {s : List UInt8} (h : s.length ≤ 1024) (c : UInt8) : (piecesM s c).length ≤ 1025 ∧ ∀ p ∈ piecesM s c, p.length ≤ 1024 := by
  obtain ⟨h1, -, h3⟩ := splitM_len c s
  unfold piecesM
  split
  · simp
  · exact ⟨by omega, fun p hp => by have := h3 p hp; omega⟩
theorem getD_ok {α : Type} {P : α → Prop} {l : List α} (h : ∀ x ∈ l, P x) {i : Nat} (hi : i < l.length) (d : α) : P (l.getD i d) := by
  rw [List.getD_eq_getElem?_getD, List.getElem?_eq_getElem hi]
  exact h _ (List.getElem_mem hi)
theorem set_ok {α : Type} {P : α → Prop} {l : List α} (h : ∀ x ∈ l, P x) (i : Nat) {v : α} (hv : P v) : ∀ x ∈ l.set i v, P x := fun x hx => by
  rcases List.mem_or_eq_of_mem_set hx with hx | rfl
  · exact h x hx
  · exact hv
theorem plain_step (G : GoodM nt inp role E) (hpc : pc < E.code.length) {n : Nat} (hn : (E.code.getD pc (0, 0)).1.toNat = n) (hn24 : n < 24) (h19 : n ≠ 19) (h20 : n ≠ 20) (h21 : n ≠ 21) (h22 : n ≠ 22) :
    insN.getD n 0 ≤ (sM nt inp role E pc).kinds.length ∧ (sM nt inp role E (pc + 1)).kinds.length = (sM nt inp role E pc).kinds.length - insN.getD n 0 + outN.getD n 0 ∧ loopsB (sM nt inp role E (pc + 1)) = loopsB (sM nt inp role E pc) := by
  obtain ⟨hs, ho⟩ := G.step hpc
  have hne : ∀ k : UInt8, k.toNat ≠ n → (E.code.getD pc (0, 0)).1 ≠ k := fun k hk e => hk (by rw [← e]; exact hn)
  have e19 := hne 19 (by show 19 ≠ n; omega)
  have e20 := hne 20 (by show 20 ≠ n; omega)
  have e21 := hne 21 (by show 21 ≠ n; omega)
  have e22 := hne 22 (by show 22 ≠ n; omega)
  have hop : opensV (E.code.getD pc (0, 0)).1 = false := by unfold opensV; rw [beq_eq_false_iff_ne.2 e19, beq_eq_false_iff_ne.2 e22, beq_eq_false_iff_ne.2 e20]; rfl
  obtain ⟨l1, l2⟩ := valuesM_len (by omega) ho.vl
  rw [hn] at l1 l2
  refine ⟨l1, by rw [ho.pl hop e21]; exact l2, ?_⟩
  rcases hs with ⟨h, _⟩ | ⟨h, _⟩ | ⟨h, _⟩ | ⟨_, hb, _⟩
  · rcases h with h | h
    · exact absurd h e19
    · exact absurd h e22
  · exact absurd h e20
  · exact absurd h e21
  · exact loops_eq hb
theorem loopEnd_of {j : Nat} (hle : ∀ j', j' < E.code.length → opensV (opV E.code j') = true → E.ends.getD j' 0 = (pc : Int) → j' = j) (hj : j < E.code.length) (he : E.ends.getD j 0 = (pc : Int)) : loopEnd E pc = (opV E.code j == 22) := by
  unfold loopEnd
  cases h : (opV E.code j == 22) with
  | true =>
    refine List.any_eq_true.2 ⟨j, List.mem_range.2 hj, ?_⟩
    rw [Bool.and_eq_true]
    exact ⟨h, by rw [he]; simp⟩
  | false =>
    refine List.any_eq_false.2 fun k hk => ?_
    intro hc
    rw [Bool.and_eq_true] at hc
    have h22 : opV E.code k = 22 := by simpa [opV] using hc.1
    have := hle k (List.mem_range.1 hk) (by rw [h22]; rfl) (by simpa using hc.2)
    subst this
    rw [h22] at h
    cases h
end
end Go.Proofs.YtndagciefnddmaaGreatDoor
namespace Go.Proofs.YtndagciefnddmaaGreatDoor
open Go.RowKit
section
variable {nt inp : Nat} {role : UInt8} {E : Me}
theorem doM_ok (G : GoodM nt inp role E) {m : Mc} (h : OkM (sM nt inp role E) E m) (hpc : m.pc < E.code.length) :
    (doM E (xM E m) m).1 ≠ 99 ∧ ((doM E (xM E m) m).1 = 0 → OkM (sM nt inp role E) E (doM E (xM E m) m).2) := by
  obtain ⟨pc, st, rg, op, pr⟩ := m
  have hpc : pc < E.code.length := hpc
  have hst : st.length = (sM nt inp role E pc).kinds.length := h.st
  have hop : op.map (·.1) = loopsB (sM nt inp role E pc) := h.op
  have hsv : ∀ v ∈ st, vOk v := h.sv
  have hrv : ∀ v ∈ rg, vOk v := h.rv
  have hrg : rg.length = 8 := h.rg
  have hov : ∀ o ∈ op, o.2.length ≤ 1024 ∧ ∀ p ∈ o.2, p.length ≤ 1024 := h.ov
  have hpr : pr.length ≤ 256 := h.pr
  have hpv : ∀ p ∈ pr, p.1.length ≤ 1024 ∧ p.2.length ≤ 1024 := h.pv
  have hx : insOk (E.code.getD pc (0, 0)) = true := getD_ok (P := fun x => insOk x = true) G.may hpc _
  have hx1 : 1 ≤ (E.code.getD pc (0, 0)).1.toNat ∧ (E.code.getD pc (0, 0)).1.toNat ≤ 23 := by
    unfold insOk at hx
    simp at hx
    exact hx.1
  obtain ⟨hs, ho⟩ := G.step hpc
  obtain ⟨g1, g3, g17, g23⟩ := there_args ho.th
  show (doN E (E.code.getD pc (0, 0)).1.toNat (E.code.getD pc (0, 0)).2 pc st rg op pr).1 ≠ 99 ∧ ((doN E (E.code.getD pc (0, 0)).1.toNat (E.code.getD pc (0, 0)).2 pc st rg op pr).1 = 0 → OkM (sM nt inp role E) E (doN E (E.code.getD pc (0, 0)).1.toNat (E.code.getD pc (0, 0)).2 pc st rg op pr).2)
  obtain ⟨n, hn⟩ : ∃ n, (E.code.getD pc (0, 0)).1.toNat = n := ⟨_, rfl⟩
  have hu : ∀ k : UInt8, k.toNat = n → (E.code.getD pc (0, 0)).1 = k := fun k hk => UInt8.toNat_inj.1 (hn.trans hk.symm)
  have hpl := fun (h19 : n ≠ 19) (h20 : n ≠ 20) (h21 : n ≠ 21) (h22 : n ≠ 22) => plain_step G hpc hn (by omega) h19 h20 h21 h22
  rw [hn] at hx1 ⊢
  rw [← hst] at hpl
  obtain ⟨y, hy⟩ : ∃ y, (E.code.getD pc (0, 0)).2 = y := ⟨_, rfl⟩
  rw [hy] at g1 g3 g17 ⊢
  have n0 : (0 : Nat) ≠ 99 := by decide
  have n4 : (4 : Nat) ≠ 99 := by decide
  have n5 : (5 : Nat) ≠ 99 := by decide
  have n40 : ¬ (4 : Nat) = 0 := by decide
  have n50 : ¬ (5 : Nat) = 0 := by decide
  clear hx hn
  rcases (show n = 1 ∨ n = 2 ∨ n = 3 ∨ n = 4 ∨ n = 5 ∨ n = 6 ∨ n = 7 ∨ n = 8 ∨ n = 9 ∨ n = 10 ∨ n = 11 ∨ n = 12 ∨ n = 13 ∨ n = 14 ∨ n = 15 ∨ n = 16 ∨ n = 17 ∨ n = 18 ∨ n = 19 ∨ n = 20 ∨ n = 21 ∨ n = 22 ∨ n = 23 by omega) with rfl | rfl | rfl | rfl | rfl | rfl | rfl | rfl | rfl | rfl | rfl | rfl | rfl | rfl | rfl | rfl | rfl | rfl | rfl | rfl | rfl | rfl | rfl
  · obtain ⟨l1, l2, l3⟩ := hpl (by decide) (by decide) (by decide) (by decide)
    exact ⟨n0, fun _ => h.next (st' := (0, E.tx.getD y.toNat []) :: st) hpc (l2.trans (by simp [insN, outN])) l3 (cons_ok (vOk_txt (getD_ok (P := fun s : List UInt8 => s.length ≤ 1024) G.txv (by rw [G.txl]; exact g1 (hu 1 rfl)) _)) hsv)⟩
  · obtain ⟨l1, l2, l3⟩ := hpl (by decide) (by decide) (by decide) (by decide)
    exact ⟨n0, fun _ => h.next (st' := ((y.toNat : Int), []) :: st) hpc (l2.trans (by simp [insN, outN])) l3 (cons_ok (vOk_num (by omega) (by have := y.toNat_lt; omega)) hsv)⟩
  · obtain ⟨l1, l2, l3⟩ := hpl (by decide) (by decide) (by decide) (by decide)
    exact ⟨n0, fun _ => h.next (st' := (0, E.ins.getD y.toNat []) :: st) hpc (l2.trans (by simp [insN, outN])) l3 (cons_ok (vOk_txt (getD_ok (P := fun s : List UInt8 => s.length ≤ 1024) G.inv (by rw [G.inl]; exact g3 (hu 3 rfl)) _)) hsv)⟩
  · obtain ⟨l1, l2, l3⟩ := hpl (by decide) (by decide) (by decide) (by decide)
    obtain ⟨b, a, s, rfl⟩ := two_of (show 2 ≤ st.length from l1)
    have hd : doN E 4 y pc (b :: a :: s) rg op pr = if 1024 < a.2.length + b.2.length then (5, ⟨pc, b :: a :: s, rg, op, pr⟩) else (0, ⟨pc + 1, (0, a.2 ++ b.2) :: s, rg, op, pr⟩) := rfl
    rw [hd]
    split
    · exact ⟨n5, fun h' => absurd h' n50⟩
    · exact ⟨n0, fun _ => h.next hpc (l2.trans (by simp [insN, outN])) l3 (cons_ok (vOk_txt (by rw [List.length_append]; omega)) (tail_ok (tail_ok hsv)))⟩
  · obtain ⟨l1, l2, l3⟩ := hpl (by decide) (by decide) (by decide) (by decide)
    obtain ⟨a, s, rfl⟩ := one_of (show 1 ≤ st.length from l1)
    exact ⟨n0, fun _ => h.next (st' := ((a.2.length : Int), []) :: s) hpc (l2.trans (by simp [insN, outN])) l3 (cons_ok (vOk_num (by omega) (by have := (head_ok hsv).2.2; omega)) (tail_ok hsv))⟩
  · obtain ⟨l1, l2, l3⟩ := hpl (by decide) (by decide) (by decide) (by decide)
    obtain ⟨n, a, t, s, rfl⟩ := three_of (show 3 ≤ st.length from l1)
    exact ⟨n0, fun _ => h.next (st' := (0, partM t.2 a.1 n.1) :: s) hpc (l2.trans (by simp [insN, outN])) l3 (cons_ok (vOk_txt (Nat.le_trans (partM_len _ _ _) (head_ok (tail_ok (tail_ok hsv))).2.2)) (tail_ok (tail_ok (tail_ok hsv))))⟩
  · obtain ⟨l1, l2, l3⟩ := hpl (by decide) (by decide) (by decide) (by decide)
    obtain ⟨a, s, rfl⟩ := one_of (show 1 ≤ st.length from l1)
    exact ⟨n0, fun _ => h.next (st' := (parseM a.2, []) :: s) hpc (l2.trans (by simp [insN, outN])) l3 (cons_ok (vOk_num (parseM_in _).1 (parseM_in _).2) (tail_ok hsv))⟩
  · obtain ⟨l1, l2, l3⟩ := hpl (by decide) (by decide) (by decide) (by decide)
    obtain ⟨a, s, rfl⟩ := one_of (show 1 ≤ st.length from l1)
    exact ⟨n0, fun _ => h.next (st' := (0, Lib.itoa a.1) :: s) hpc (l2.trans (by simp [insN, outN])) l3 (cons_ok (vOk_txt (Nat.le_trans (Lib.itoa_length_le _ (head_ok hsv).1 (head_ok hsv).2.1) (by decide))) (tail_ok hsv))⟩
  · obtain ⟨l1, l2, l3⟩ := hpl (by decide) (by decide) (by decide) (by decide)
    obtain ⟨b, a, s, rfl⟩ := two_of (show 2 ≤ st.length from l1)
    exact ⟨n0, fun _ => h.next (st' := (wrap64 (a.1 + b.1), []) :: s) hpc (l2.trans (by simp [insN, outN])) l3 (cons_ok (vOk_num (wrap64_bounds _).1 (wrap64_bounds _).2) (tail_ok (tail_ok hsv)))⟩
  · obtain ⟨l1, l2, l3⟩ := hpl (by decide) (by decide) (by decide) (by decide)
    obtain ⟨b, a, s, rfl⟩ := two_of (show 2 ≤ st.length from l1)
    exact ⟨n0, fun _ => h.next (st' := (wrap64 (a.1 * b.1), []) :: s) hpc (l2.trans (by simp [insN, outN])) l3 (cons_ok (vOk_num (wrap64_bounds _).1 (wrap64_bounds _).2) (tail_ok (tail_ok hsv)))⟩
  · obtain ⟨l1, l2, l3⟩ := hpl (by decide) (by decide) (by decide) (by decide)
    obtain ⟨b, a, s, rfl⟩ := two_of (show 2 ≤ st.length from l1)
    exact ⟨n0, fun _ => h.next (st' := bitM (decide (a.1 < b.1)) :: s) hpc (l2.trans (by simp [insN, outN])) l3 (cons_ok (vOk_bit _) (tail_ok (tail_ok hsv)))⟩
  · obtain ⟨l1, l2, l3⟩ := hpl (by decide) (by decide) (by decide) (by decide)
    obtain ⟨b, a, s, rfl⟩ := two_of (show 2 ≤ st.length from l1)
    exact ⟨n0, fun _ => h.next (st' := bitM (a.2 == b.2) :: s) hpc (l2.trans (by simp [insN, outN])) l3 (cons_ok (vOk_bit _) (tail_ok (tail_ok hsv)))⟩
  · obtain ⟨l1, l2, l3⟩ := hpl (by decide) (by decide) (by decide) (by decide)
    obtain ⟨a, s, rfl⟩ := one_of (show 1 ≤ st.length from l1)
    exact ⟨n0, fun _ => h.next (st' := bitM (a.1 == 0) :: s) hpc (l2.trans (by simp [insN, outN])) l3 (cons_ok (vOk_bit _) (tail_ok hsv))⟩
  · obtain ⟨l1, l2, l3⟩ := hpl (by decide) (by decide) (by decide) (by decide)
    obtain ⟨a, s, rfl⟩ := one_of (show 1 ≤ st.length from l1)
    exact ⟨n0, fun _ => h.next (st' := s) hpc (l2.trans (by simp [insN, outN])) l3 (tail_ok hsv)⟩
  · obtain ⟨l1, l2, l3⟩ := hpl (by decide) (by decide) (by decide) (by decide)
    obtain ⟨a, s, rfl⟩ := one_of (show 1 ≤ st.length from l1)
    exact ⟨n0, fun _ => h.next (st' := a :: a :: s) hpc (l2.trans (by simp [insN, outN])) l3 (cons_ok (head_ok hsv) hsv)⟩
  · obtain ⟨l1, l2, l3⟩ := hpl (by decide) (by decide) (by decide) (by decide)
    obtain ⟨b, a, s, rfl⟩ := two_of (show 2 ≤ st.length from l1)
    exact ⟨n0, fun _ => h.next (st' := a :: b :: s) hpc (l2.trans (by simp [insN, outN])) l3 (cons_ok (head_ok (tail_ok hsv)) (cons_ok (head_ok hsv) (tail_ok (tail_ok hsv))))⟩
  · obtain ⟨l1, l2, l3⟩ := hpl (by decide) (by decide) (by decide) (by decide)
    exact ⟨n0, fun _ => h.next (st' := rg.getD y.toNat (0, []) :: st) hpc (l2.trans (by simp [insN, outN])) l3 (cons_ok (getD_ok (P := vOk) hrv (by rw [hrg]; exact g17 (.inl (hu 17 rfl))) _) hsv)⟩
  · obtain ⟨l1, l2, l3⟩ := hpl (by decide) (by decide) (by decide) (by decide)
    obtain ⟨a, s, rfl⟩ := one_of (show 1 ≤ st.length from l1)
    refine ⟨n0, fun _ => ⟨hpc, by show s.length = (sM nt inp role E (pc + 1)).kinds.length; rw [l2]; simp [insN, outN], by show op.map (·.1) = _; rw [hop]; exact l3.symm, by show (rg.set y.toNat a).length = 8; rw [List.length_set]; exact hrg, tail_ok hsv, set_ok (P := vOk) hrv _ (head_ok hsv), hov, hpr, hpv⟩⟩
  · obtain ⟨e, e1, e2, e3, e4, e5, e6, -⟩ := behind_open G hpc (.inl (hu 19 rfl))
    rw [← hst] at e4 e5
    obtain ⟨a, s, rfl⟩ := one_of e5
    refine ⟨n0, fun _ => ?_⟩
    show OkM (sM nt inp role E) E ⟨if a.1 = 0 then (E.ends.getD pc 0).toNat + 1 else pc + 1, s, rg, op, pr⟩
    by_cases ha : a.1 = 0
    · rw [if_pos ha, e3]
      exact ⟨by show e + 1 ≤ _; omega, by show s.length = (sM nt inp role E (e + 1)).kinds.length; rw [e4]; simp, by show op.map (·.1) = loopsB (sM nt inp role E (e + 1)); rw [e6]; exact hop, hrg, tail_ok hsv, hrv, hov, hpr, hpv⟩
    · rw [if_neg ha]
      obtain ⟨l1, l2⟩ := valuesM_len (by rw [hu 19 rfl]; decide) ho.vl
      rw [hu 19 rfl] at l2
      have hk := ho.k19 (hu 19 rfl)
      refine ⟨hpc, ?_, ?_, hrg, tail_ok hsv, hrv, hov, hpr, hpv⟩
      · show s.length = (sM nt inp role E (pc + 1)).kinds.length
        rw [hk, l2, ← hst]
        show s.length = (a :: s).length - 1 + 0
        simp
      · show op.map (·.1) = loopsB (sM nt inp role E (pc + 1))
        rcases hs with ⟨_, k, _, hb, _⟩ | ⟨h', _⟩ | ⟨h', _⟩ | ⟨h', _⟩
        · rw [loops_append _ _ _ hb, if_neg (by show ¬ (E.code.getD pc (0, 0)).1 = 22; rw [hu 19 rfl]; decide)]
          exact hop
        · rw [hu 19 rfl] at h'; exact absurd h' (by decide)
        · rw [hu 19 rfl] at h'; exact absurd h' (by decide)
        · rw [hu 19 rfl] at h'; exact absurd h'.1 (by decide)
  · obtain ⟨e, e1, e2, e3, e4, e5⟩ := at_else G hpc (hu 20 rfl)
    refine ⟨n0, fun _ => ?_⟩
    show OkM (sM nt inp role E) E ⟨(E.ends.getD pc 0).toNat, st, rg, op, pr⟩
    rw [e3]
    exact ⟨by show e ≤ _; omega, by show st.length = (sM nt inp role E e).kinds.length; rw [e4]; exact hst, by show op.map (·.1) = loopsB (sM nt inp role E e); rw [e5]; exact hop, hrg, hsv, hrv, hov, hpr, hpv⟩
  · obtain ⟨j, b, e1, e2, e3, e4, e5, e6, e7, e8⟩ := at_end G hpc (hu 21 rfl)
    have hle := loopEnd_of e5 (by omega) e4
    have hd : doN E 21 y pc st rg op pr = if loopEnd E pc = true then (match op with | (a, p :: ps) :: o => (0, ⟨a + 1, (0, p) :: st, rg, (a, ps) :: o, pr⟩) | (_, []) :: o => (0, ⟨pc + 1, st, rg, o, pr⟩) | [] => (99, ⟨pc, st, rg, op, pr⟩)) else (0, ⟨pc + 1, st, rg, op, pr⟩) := rfl
    rw [hd]
    by_cases hb : b.op = 22
    · have h22 : opV E.code j = 22 := e2.2 hb
      rw [hle, h22, if_pos (by rfl)]
      rw [if_pos hb] at e6
      obtain ⟨e9, e10⟩ := e8 hb
      rw [e6] at hop
      match op, hop, hov with
      | [], hop, _ => cases hop
      | (a, []) :: o, hop2, hov =>
        injection hop2 with ha hop2
        exact ⟨n0, fun _ => ⟨hpc, by show st.length = (sM nt inp role E (pc + 1)).kinds.length; rw [e7]; exact hst, hop2, hrg, hsv, hrv, fun o' ho' => hov o' (List.mem_cons_of_mem _ ho'), hpr, hpv⟩⟩
      | (a, p :: ps) :: o, hop2, hov =>
        injection hop2 with ha hop2
        have ha : a = j := ha
        subst ha
        obtain ⟨q1, q2⟩ := hov _ (List.mem_cons_self ..)
        refine ⟨n0, fun _ => ⟨by show a + 1 ≤ _; omega, ?_, ?_, hrg, cons_ok (vOk_txt (q2 p (List.mem_cons_self ..))) hsv, hrv, ?_, hpr, hpv⟩⟩
        · show st.length + 1 = (sM nt inp role E (a + 1)).kinds.length
          rw [e9, hst]
        · show a :: o.map (·.1) = loopsB (sM nt inp role E (a + 1))
          rw [e10, e6, hop2]; rfl
        · intro o' ho'
          rcases List.mem_cons.1 ho' with rfl | ho'
          · exact ⟨by simp at q1; show ps.length ≤ 1024; omega, fun p' hp' => q2 p' (List.mem_cons_of_mem _ hp')⟩
          · exact hov o' (List.mem_cons_of_mem _ ho')
    · have h22 : ¬ opV E.code j = 22 := fun h' => hb (e2.1 h')
      rw [hle, if_neg (by simpa using h22)]
      rw [if_neg hb] at e6
      exact ⟨n0, fun _ => ⟨hpc, by show st.length = (sM nt inp role E (pc + 1)).kinds.length; rw [e7]; exact hst, by show op.map (·.1) = loopsB (sM nt inp role E (pc + 1)); rw [hop, e6]; rfl, hrg, hsv, hrv, hov, hpr, hpv⟩⟩
  · obtain ⟨e, e1, e2, e3, e4, e5, e6, -⟩ := behind_open G hpc (.inr (hu 22 rfl))
    rw [← hst] at e4 e5
    obtain ⟨a, s, rfl⟩ := one_of e5
    have hd : doN E 22 y pc (a :: s) rg op pr = (match piecesM a.2 y with | [] => (0, ⟨(E.ends.getD pc 0).toNat + 1, s, rg, op, pr⟩) | p :: ps => (0, ⟨pc + 1, (0, p) :: s, rg, (pc, ps) :: op, pr⟩)) := rfl
    rw [hd]
    obtain ⟨q1, q2⟩ := piecesM_ok (head_ok hsv).2.2 y
    cases hp : piecesM a.2 y with
    | nil =>
      refine ⟨n0, fun _ => ?_⟩
      show OkM (sM nt inp role E) E ⟨(E.ends.getD pc 0).toNat + 1, s, rg, op, pr⟩
      rw [e3]
      exact ⟨by show e + 1 ≤ _; omega, by show s.length = (sM nt inp role E (e + 1)).kinds.length; rw [e4]; simp, by show op.map (·.1) = loopsB (sM nt inp role E (e + 1)); rw [e6]; exact hop, hrg, tail_ok hsv, hrv, hov, hpr, hpv⟩
    | cons p ps =>
      rw [hp] at q1 q2
      obtain ⟨l1, l2⟩ := valuesM_len (by rw [hu 22 rfl]; decide) ho.vl
      rw [hu 22 rfl] at l2
      have hk := ho.k22 (hu 22 rfl)
      refine ⟨n0, fun _ => ⟨hpc, ?_, ?_, hrg, cons_ok (vOk_txt (q2 p (List.mem_cons_self ..))) (tail_ok hsv), hrv, ?_, hpr, hpv⟩⟩
      · show s.length + 1 = (sM nt inp role E (pc + 1)).kinds.length
        rw [hk, List.length_append, l2, ← hst]
        show s.length + 1 = (a :: s).length - 1 + 0 + 1
        simp
      · show pc :: op.map (·.1) = loopsB (sM nt inp role E (pc + 1))
        rcases hs with ⟨_, k, _, hb, _⟩ | ⟨h', _⟩ | ⟨h', _⟩ | ⟨h', _⟩
        · rw [loops_append _ _ _ hb, if_pos (by show (E.code.getD pc (0, 0)).1 = 22; exact hu 22 rfl), hop]; rfl
        · rw [hu 22 rfl] at h'; exact absurd h' (by decide)
        · rw [hu 22 rfl] at h'; exact absurd h' (by decide)
        · rw [hu 22 rfl] at h'; exact absurd h'.1 (by decide)
      · intro o' ho'
        rcases List.mem_cons.1 ho' with rfl | ho'
        · exact ⟨by simp at q1; show ps.length ≤ 1024; omega, fun p' hp' => q2 p' (List.mem_cons_of_mem _ hp')⟩
        · exact hov o' ho'
  · obtain ⟨l1, l2, l3⟩ := hpl (by decide) (by decide) (by decide) (by decide)
    obtain ⟨v, k, s, rfl⟩ := two_of (show 2 ≤ st.length from l1)
    have hd : doN E 23 y pc (v :: k :: s) rg op pr = if 256 ≤ pr.length then (4, ⟨pc, v :: k :: s, rg, op, pr⟩) else (0, ⟨pc + 1, s, rg, op, pr ++ [(k.2, v.2)]⟩) := rfl
    rw [hd]
    split
    · exact ⟨n4, fun h' => absurd h' n40⟩
    · refine ⟨n0, fun _ => ⟨hpc, by show s.length = (sM nt inp role E (pc + 1)).kinds.length; rw [l2]; simp [insN, outN], by show op.map (·.1) = _; rw [hop]; exact l3.symm, hrg, tail_ok (tail_ok hsv), hrv, hov, by show (pr ++ [(k.2, v.2)]).length ≤ 256; rw [List.length_append, List.length_singleton]; omega, fun p hp => ?_⟩⟩
      rcases List.mem_append.1 hp with hp | hp
      · exact hpv p hp
      · rw [List.mem_singleton] at hp
        subst hp
        exact ⟨(head_ok (tail_ok hsv)).2.2, (head_ok hsv).2.2⟩
end
end Go.Proofs.YtndagciefnddmaaGreatDoor
namespace Go.Proofs.YtndagciefnddmaaGreatDoor
open Go.RowKit
theorem mayV_textsM {t : List (List UInt8)} {c : List VI} (h : mayV t c = true) : ∀ s ∈ t, s.length ≤ 64 := by
  unfold mayV at h
  simp only [Bool.and_eq_true, List.all_eq_true, decide_eq_true_eq] at h
  exact h.1.2
section
variable {nt inp : Nat} {role : UInt8} {E : Me}
theorem runM_end (f : Nat) (m : Mc) (h : ¬ m.pc < E.code.length) : runM E f m = (0, m) := by cases f <;> simp [runM, h]
theorem runM_fuel (m : Mc) (h : m.pc < E.code.length) : runM E 0 m = (140, m) := by simp [runM, h]
theorem runM_bad {f : Nat} {m : Mc} (h : m.pc < E.code.length) (h0 : (doM E (xM E m) m).1 ≠ 0) : runM E (f + 1) m = doM E (xM E m) m := by rw [runM, if_pos h, if_neg h0]
theorem runM_on {f : Nat} {m : Mc} (h : m.pc < E.code.length) (h0 : (doM E (xM E m) m).1 = 0) : runM E (f + 1) m = runM E f (doM E (xM E m) m).2 := by rw [runM, if_pos h, if_pos h0]
theorem runM_ok (G : GoodM nt inp role E) : ∀ (f : Nat) (m : Mc), OkM (sM nt inp role E) E m → (runM E f m).1 = 0 → OkM (sM nt inp role E) E (runM E f m).2 ∧ (runM E f m).2.pc = E.code.length
  | f, m, h, h0 => by
    by_cases hpc : m.pc < E.code.length
    · cases f with
      | zero => rw [runM_fuel m hpc] at h0; cases h0
      | succ f =>
        by_cases hd : (doM E (xM E m) m).1 = 0
        · rw [runM_on hpc hd] at h0 ⊢
          exact runM_ok G f _ ((doM_ok G h hpc).2 hd) h0
        · rw [runM_bad hpc hd] at h0
          exact absurd h0 hd
    · rw [runM_end f m hpc]
      exact ⟨h, by show m.pc = _; have := h.pc; omega⟩
theorem startM_ok : OkM (sM nt inp role E) E startM := by
  refine ⟨Nat.zero_le _, rfl, rfl, by simp [startM], fun v hv => by simp [startM] at hv, fun v hv => ?_, fun v hv => by simp [startM] at hv, by simp [startM], fun v hv => by simp [startM] at hv⟩
  have : v = (0, []) := by
    have hv : v ∈ List.replicate 8 ((0, []) : MV) := hv
    exact (List.mem_replicate.1 hv).2
  subst this
  exact ⟨by decide, by decide, by decide⟩
def ranV (E : Me) (role : UInt8) (fuel : Nat) : Nat × List (List UInt8 × List UInt8) × List UInt8 :=
  if (runM E fuel startM).1 = 0 then (0, (runM E fuel startM).2.pr, if role = 1 then [] else ((runM E fuel startM).2.st.headD (0, [])).2) else ((runM E fuel startM).1, [], [])
theorem goodM_of {texts : List (List UInt8)} {code : List VI} {role : UInt8} (h : (throughV texts code role).2.1 = 0) {ins : List (List UInt8)} (hl : ins.length = inputsV role) (hi : ∀ s ∈ ins, s.length ≤ 1024) :
    GoodM texts.length (inputsV role) role ⟨texts, code, ins, (throughV texts code role).2.2.ends⟩ ∧ (sM texts.length (inputsV role) role ⟨texts, code, ins, (throughV texts code role).2.2.ends⟩ code.length).kinds = wantV role := by
  obtain ⟨hm, -, n, hr⟩ := throughV_ok h
  obtain ⟨t, ht⟩ : ∃ t, t = (throughV texts code role).2.2 := ⟨_, rfl⟩
  rw [← ht] at hr ⊢
  obtain ⟨hok, hst, hov⟩ := runV_st code 0 rfl (Nat.zero_le _) hr
  have hbl : t.blocks = [] ∧ t.kinds = wantV role := by
    unfold overV at hov
    split at hov
    · cases hov
    rename_i hb
    split at hov
    · cases hov
    split at hov
    · cases hov
    rename_i hk
    exact ⟨List.eq_nil_of_length_eq_zero (by omega), Decidable.byContradiction hk⟩
  have hmi : ∀ x ∈ code, insOk x = true := by
    unfold mayV at hm
    simp only [Bool.and_eq_true, List.all_eq_true] at hm
    exact hm.2
  refine ⟨⟨hmi, fun j hj => hok j (Nat.zero_le _) hj, by show (stV _ _ role code code.length).blocks = []; rw [hst]; exact hbl.1, by show t.ends = (stV _ _ role code code.length).ends; rw [hst], rfl, fun s hs => by have := (mayV_textsM hm) s hs; omega, hl, hi⟩, ?_⟩
  show (stV _ _ role code code.length).kinds = _
  rw [hst]
  exact hbl.2
end
end Go.Proofs.YtndagciefnddmaaGreatDoor
namespace Go.Proofs.YtndagciefnddmaaGreatDoor
open Go.RowKit Oct
theorem wpG_nilM7 {P : Program} {ops : Array Oper} {C : World → Prop} {R : World → World → Prop} {F : Nat → Option (Known R)} {Q : Facts → Act → Prop} {k : Nat} {S : Facts} {a : Act} (h : Q S a) : wpG P ops C R F Q k [] S a := h
attribute [local irreducible] wpG
def recMV : Rec MV where
  cell v := [.int .i64 v.1, .string (bs v.2)]
  e := 156
  n := 2
  bytes := 24
  z := .agg #[.int .i64 0, .string ByteArray.empty]
  len := fun _ => rfl
  one := by intro x u h; simp at h; rcases h with rfl | rfl <;> rfl
  info := by kernel_rfl
  zs := rfl
  pos := by decide
  bpos := by decide
structure Eo where
  at_ : Nat
  bm : Nat
  bt : Nat
  bc : Nat
  more : Bool
  rest : List UInt8
  by_ : UInt8
def eoF (e : Eo) : Value := .func (.func 238) #[] #[.pointer (some ⟨e.bm, 0, none⟩), .pointer (some ⟨e.bt, 0, none⟩), .pointer (some ⟨e.bc, 0, none⟩)]
def recEa : Rec Eo where
  cell e := [.int .i64 (e.at_ : Int), eoF e]
  e := 299
  n := 2
  bytes := 16
  z := .agg #[.int .i64 0, .nilFunc]
  len := fun _ => rfl
  one := by intro x u h; simp at h; rcases h with rfl | rfl <;> rfl
  info := by kernel_rfl
  zs := rfl
  pos := by decide
  bpos := by decide
def recKv : Rec (List UInt8 × List UInt8) where
  cell v := [.string (bs v.1), .string (bs v.2)]
  e := 60
  n := 2
  bytes := 32
  z := .agg #[.string ByteArray.empty, .string ByteArray.empty]
  len := fun _ => rfl
  one := by intro x u h; simp at h; rcases h with rfl | rfl <;> rfl
  info := by kernel_rfl
  zs := rfl
  pos := by decide
  bpos := by decide
def eoIn (k : Nat) (e : Eo) : Prop := k = e.bm ∨ k = e.bt ∨ k = e.bc
def boxOk (base : Nat) (w : World) (e : Eo) : Prop := Blk w e.bm 4 [.bool e.more] ∧ Blk w e.bt 9 [.string (bs e.rest)] ∧ Blk w e.bc 5 [.int .u8 (e.by_.toNat : Int)] ∧ base ≤ e.bm ∧ base ≤ e.bt ∧ base ≤ e.bc ∧ e.bm ≠ e.bt ∧ e.bm ≠ e.bc ∧ e.bt ≠ e.bc
def boxPt {base : Nat} (l : List Eo) : Pt base where
  fp k := ∃ e ∈ l, eoIn k e
  P w := (∀ e ∈ l, boxOk base w e) ∧ l.Pairwise fun e f => ∀ k, eoIn k e → ¬ eoIn k f
  frame := fun h hc hX => ⟨fun e he => by
    obtain ⟨h1, h2, h3, h4⟩ := h.1 e he
    exact ⟨h1.chg hc (hX _ ⟨e, he, .inl rfl⟩), h2.chg hc (hX _ ⟨e, he, .inr (.inl rfl)⟩), h3.chg hc (hX _ ⟨e, he, .inr (.inr rfl)⟩), h4⟩, h.2⟩
  lt := fun h k hk => by
    obtain ⟨e, he, hk⟩ := hk
    obtain ⟨h1, h2, h3, b1, b2, b3, -⟩ := h.1 e he
    rcases hk with rfl | rfl | rfl
    · exact ⟨b1, h1.lt⟩
    · exact ⟨b2, h2.lt⟩
    · exact ⟨b3, h3.lt⟩
structure Mf where
  tv : Value
  cv : Value
  iv : Value
  ev : Value
  lv : Value
  tx : List UInt8
  sn : Int
def mCells (f : Mf) (at_ : Int) (stv : Value) (rg : List MV) (opv prv : Value) (txt : List UInt8) (steps : Int) (trv : Value) : List Value :=
  [f.tv, f.cv, f.iv, f.ev, f.lv, .int .i64 at_, stv] ++ (recMV.cells rg ++ [opv, prv, .string (bs txt), .int .i64 steps, trv])
structure MR (base : Nat) (w : World) (G : Nat) (f : Mf) (at_ : Int) (st rg : List MV) (eos : List Eo) (pr : List (List UInt8 × List UInt8)) (tr : List Int) (stv opv prv trv : Value) (X : List (Pt base)) : Prop where
  gb : base ≤ G
  rl : rg.length = 8
  sep : Sep base w (blkPt G gb 160 (mCells f at_ stv rg opv prv f.tx f.sn trv) :: ownPt recMV stv st.reverse :: ownPt recEa opv eos :: boxPt eos :: ownPt recKv prv pr :: ownPt recJ trv tr :: X)
section
variable {base G : Nat} {w w' w3 : World} {f : Mf} {at_ : Int} {st rg : List MV} {eos : List Eo} {pr : List (List UInt8 × List UInt8)} {tr : List Int} {stv stv' opv opv' prv prv' trv trv' : Value} {X : List (Pt base)}
theorem eightM {α : Type} {l : List α} (h : l.length = 8) : ∃ a b c d e f g i, l = [a, b, c, d, e, f, g, i] := by
  match l, h with
  | [a, b, c, d, e, f, g, i], _ => exact ⟨a, b, c, d, e, f, g, i, rfl⟩
theorem MR.blk (h : MR base w G f at_ st rg eos pr tr stv opv prv trv X) : Blk w G 160 (mCells f at_ stv rg opv prv f.tx f.sn trv) := h.sep.get (i := 0) rfl
theorem MR.os (h : MR base w G f at_ st rg eos pr tr stv opv prv trv X) : recMV.Own w base stv st.reverse := h.sep.get (i := 1) rfl
theorem MR.oo (h : MR base w G f at_ st rg eos pr tr stv opv prv trv X) : recEa.Own w base opv eos := h.sep.get (i := 2) rfl
theorem MR.ob (h : MR base w G f at_ st rg eos pr tr stv opv prv trv X) : (∀ e ∈ eos, boxOk base w e) ∧ eos.Pairwise fun e f => ∀ k, eoIn k e → ¬ eoIn k f := h.sep.get (i := 3) rfl
theorem MR.op (h : MR base w G f at_ st rg eos pr tr stv opv prv trv X) : recKv.Own w base prv pr := h.sep.get (i := 4) rfl
theorem MR.ot (h : MR base w G f at_ st rg eos pr tr stv opv prv trv X) : recJ.Own w base trv tr := h.sep.get (i := 5) rfl
theorem MR.size (h : MR base w G f at_ st rg eos pr tr stv opv prv trv X) : base ≤ w.heap.size := Nat.le_trans h.gb (Nat.le_of_lt h.blk.lt)
theorem MR.below (h : MR base w G f at_ st rg eos pr tr stv opv prv trv X) (hB : Below w.heap.size w w') : MR base w' G f at_ st rg eos pr tr stv opv prv trv X := ⟨h.gb, h.rl, h.sep.below hB⟩
theorem MR.add (h : MR base w G f at_ st rg eos pr tr stv opv prv trv X) (cs : List Value) (t : TypeId) : MR base (w.alloc (.cells cs.toArray t)) G f at_ st rg eos pr tr stv opv prv trv (X ++ [blkPt w.heap.size h.size t cs]) :=
  ⟨h.gb, h.rl, h.sep.snoc (b_alloc _ _) (blkPt w.heap.size h.size t cs) (Blk.new w cs t) (fun k hk => by rw [show k = w.heap.size from hk]; exact Nat.le_refl _)⟩
theorem MR.drop {Y : List (Pt base)} (h : MR base w G f at_ st rg eos pr tr stv opv prv trv (X ++ Y)) : MR base w G f at_ st rg eos pr tr stv opv prv trv X := ⟨h.gb, h.rl, Sep.init (p := Y) h.sep⟩
theorem MR.loc {p : Pt base} (h : MR base w G f at_ st rg eos pr tr stv opv prv trv X) (hp : p ∈ X) : p.P w := h.sep.1 p (by simp [hp])
theorem MR.updX (h : MR base w G f at_ st rg eos pr tr stv opv prv trv X) {Y : Nat → Prop} {i : Nat} {p : Pt base} (hi : X[i]? = some p) (hc : Chg Y w w') (hY : ∀ k, Y k → p.fp k) (q : Pt base) (hq : q.P w') (hf : ∀ k, q.fp k → p.fp k) :
    MR base w' G f at_ st rg eos pr tr stv opv prv trv (X.set i q) ∧ Below base w w' :=
  ⟨⟨h.gb, h.rl, h.sep.upd (i := i + 6) hi hc hY q hq (fun k hk => .inl (hf k hk))⟩, h.sep.updB (i := i + 6) hi hc hY h.size⟩
theorem MR.cell (h : MR base w G f at_ st rg eos pr tr stv opv prv trv X) {k : Nat} {v : Value} (hv : [f.tv, f.cv, f.iv, f.ev, f.lv, .int .i64 at_, stv][k]? = some v) : w.cell? ⟨G, k, none⟩ = some v := by
  refine h.blk.cell (k := k) ?_
  unfold mCells
  rw [List.getElem?_append_left (List.getElem?_eq_some_iff.1 hv).1]
  exact hv
theorem MR.cellR (h : MR base w G f at_ st rg eos pr tr stv opv prv trv X) {k : Nat} {v : Value} (hv : [opv, prv, .string (bs f.tx), .int .i64 f.sn, trv][k]? = some v) : w.cell? ⟨G, 23 + k, none⟩ = some v := by
  refine h.blk.cell (k := 23 + k) ?_
  obtain ⟨a, b, c, d, e, f', g, i, rfl⟩ := eightM h.rl
  unfold mCells
  rw [List.getElem?_append_right (by simp; omega), List.getElem?_append_right (by simp [Rec.cells, recMV]; omega)]
  rw [← hv]
  congr 1
  simp [Rec.cells, recMV]
  omega
theorem MR.reg (h : MR base w G f at_ st rg eos pr tr stv opv prv trv X) {i : Nat} (hi : i < 8) : w.cell? ⟨G, 7 + i * 2, none⟩ = some (.int .i64 (rg.getD i (0, [])).1) ∧ w.cell? ⟨G, 7 + i * 2 + 1, none⟩ = some (.string (bs (rg.getD i (0, [])).2)) := by
  obtain ⟨a, b, c, d, e, f', g, j, hr⟩ := eightM h.rl
  have hb := h.blk
  rw [hr] at hb ⊢
  rcases (by omega : i = 0 ∨ i = 1 ∨ i = 2 ∨ i = 3 ∨ i = 4 ∨ i = 5 ∨ i = 6 ∨ i = 7) with rfl | rfl | rfl | rfl | rfl | rfl | rfl | rfl <;> exact ⟨hb.cell (by rfl), hb.cell (by rfl)⟩
theorem MR.free (h : MR base w G f at_ st rg eos pr tr stv opv prv trv X) {k : Nat} (hk : k < 28) : w.frozen? ⟨G, k, none⟩ = false := by
  refine h.blk.free ?_
  obtain ⟨a, b, c, d, e, f', g, j, hr⟩ := eightM h.rl
  rw [hr]
  exact hk
theorem MR.slices (h : MR base w G f at_ st rg eos pr tr stv opv prv trv X) : (∃ a c, stv = .slice a st.length c) ∧ (∃ a c, opv = .slice a eos.length c) ∧ (∃ a c, prv = .slice a pr.length c) ∧ ∃ a c, trv = .slice a tr.length c := by
  obtain ⟨a, c, e⟩ := owns_slice h.os
  rw [List.length_reverse] at e
  exact ⟨⟨a, c, e⟩, owns_slice h.oo, owns_slice h.op, owns_slice h.ot⟩
theorem MR.newS (h : MR base w G f at_ st rg eos pr tr stv opv prv trv X) {l : List MV} (hc : Chg (fun k => stv.ownBlock = some k) w w3) (hg : ∀ k, stv'.ownBlock = some k → stv.ownBlock = some k ∨ w.heap.size ≤ k) (ho : recMV.Own w3 base stv' l.reverse) :
    MR base (w3.setCell ⟨G, 6, none⟩ stv') G f at_ l rg eos pr tr stv' opv prv trv X ∧ Below base w (w3.setCell ⟨G, 6, none⟩ stv') ∧ Blk w3 G 160 (mCells f at_ stv rg opv prv f.tx f.sn trv) := by
  have s1 := h.sep.upd (i := 1) rfl hc (fun k hk => hk) (ownPt recMV stv' l.reverse) ho hg
  have hs : Chg (fun k => k = G) w3 (w3.setCell ⟨G, 6, none⟩ stv') := Chg.setCell _ _ _ rfl
  have b3 : Blk w3 G 160 (mCells f at_ stv rg opv prv f.tx f.sn trv) := s1.get (i := 0) rfl
  have s2 := s1.upd (i := 0) rfl hs (fun k hk => hk) (blkPt G h.gb 160 (mCells f at_ stv' rg opv prv f.tx f.sn trv)) (b3.set 6 stv') (fun k hk => .inl hk)
  exact ⟨⟨h.gb, h.rl, s2⟩, (h.sep.updB (i := 1) rfl hc (fun k hk => hk) h.size).trans (hs.below (fun k hk => by have := h.gb; omega) (Nat.le_trans h.size hc.size)), b3⟩
theorem MR.setAt (h : MR base w G f at_ st rg eos pr tr stv opv prv trv X) (n : Int) : MR base (w.setCell ⟨G, 5, none⟩ (.int .i64 n)) G f n st rg eos pr tr stv opv prv trv X ∧ Below base w (w.setCell ⟨G, 5, none⟩ (.int .i64 n)) := by
  have hs : Chg (fun k => k = G) w (w.setCell ⟨G, 5, none⟩ (.int .i64 n)) := Chg.setCell _ _ _ rfl
  have s2 := h.sep.upd (i := 0) rfl hs (fun k hk => hk) (blkPt G h.gb 160 (mCells f n stv rg opv prv f.tx f.sn trv)) (h.blk.set 5 (.int .i64 n)) (fun k hk => .inl hk)
  exact ⟨⟨h.gb, h.rl, s2⟩, h.sep.updB (i := 0) rfl hs (fun k hk => hk) h.size⟩
def mvV (v : MV) : Value := .agg #[.int .i64 v.1, .string (bs v.2)]
set_option maxRecDepth 100000 in
set_option maxHeartbeats 2000000 in
theorem push_any (v : MV) (h : MR base w G f at_ st rg eos pr tr stv opv prv trv X) (hl : st.length ≤ 1000) :
    Calls Tryz.prog 234 #[.pointer (some ⟨G, 0, none⟩), mvV v] w fun e w' => e = .returned (.int .i64 0) ∧ (∃ stv', MR base w' G f at_ (v :: st) rg eos pr tr stv' opv prv trv X) ∧ Below base w w' := by
  obtain ⟨⟨ab, cb, rfl⟩, _, _, _⟩ := h.slices
  have HH := Lib.hid h
  obtain ⟨W1, hW1⟩ : ∃ W1, W1 = w.alloc (.cells #[.int .i64 v.1, .string (bs v.2)] 156) := ⟨_, rfl⟩
  have hb1 : Below w.heap.size w W1 := by rw [hW1]; exact b_alloc _ _
  have hx : Blk W1 w.heap.size 156 [.int .i64 v.1, .string (bs v.2)] := by rw [hW1]; exact Blk.new w _ _
  have h1 := h.below hb1
  have c6 := h1.cell (k := 6) rfl
  have x0 := hx.cell (k := 0) rfl
  have x1 := hx.cell (k := 1) rfl
  have H1 := Lib.hid h1
  have HB1 := Lib.hid hb1
  clear h h1 hx hb1
  unfold mvV
  go_enter Tryz.func234, Tryz.ntmps234
  go_upto_region 1 with fail
  rw [← hW1]
  clear hW1
  have h1d := H1.out.below (b_drew W1)
  have hgb : base ≤ W1.drew.heap.size := h1d.size
  have hby : (st.reverse.length + 1) * 24 ≤ 140737488355328 := by rw [List.length_reverse]; omega
  have H1D := Lib.hid h1d
  have hod := h1d.os
  have hGl : G < W1.heap.size := H1.out.blk.lt
  have hwl : w.heap.size < W1.heap.size := lt_of_cell x0
  clear h1d
  go_region_law (refine recMV.step_append1V W1.drew v rfl _ _ 154 rfl Tryz.underlying154 base (.slice ab st.length cb) st.reverse rfl hod _ rfl _ rfl _ rfl hby hgb ?_; intro g gc w3 hown3 hc3 hg3; rw [← List.reverse_cons] at hown3; rw [List.length_reverse] at hown3; have hn := H1D.out.newS (stv' := .slice (some ⟨g, 0, none⟩) (st.length + 1) gc) (l := v :: st) hc3 (fun k hk => by cases hk; exact hg3) hown3; have f6 : w3.frozen? ⟨G, 6, none⟩ = false := hn.2.2.free (k := 6) (by simp [mCells]); have c6' : w3.cell? ⟨G, 6, none⟩ = some (.slice ab st.length cb) := hn.2.2.cell (k := 6) rfl; rw [List.length_reverse]; have HN := Lib.hid hn; clear hn hown3 hc3 hg3)
  all_goals
    (try dsimp only)
    (try go_frame)
    go_wp2
    go_ret
    exact ⟨rfl, ⟨_, HN.out.1⟩, ((bt HB1.out (b_drew W1)).mono HH.out.size).trans HN.out.2.1⟩
theorem MR.top {v : MV} {ab : Option Addr} {n cb : Nat} (h : MR base w G f at_ (v :: st) rg eos pr tr (.slice ab n cb) opv prv trv X) : ∃ g, ab = some ⟨g, 0, none⟩ ∧ n = st.length + 1 ∧ w.cell? ⟨g, st.length * 2, none⟩ = some (.int .i64 v.1) ∧ w.cell? ⟨g, st.length * 2 + 1, none⟩ = some (.string (bs v.2)) := by
  obtain ⟨⟨a, c, e⟩, _, _, _⟩ := h.slices
  injection e with e1 e2 e3
  subst e1 e2 e3
  obtain ⟨g, rfl⟩ := h.os.at0 (by simp)
  obtain ⟨a', cap, hv, hle, hc⟩ := Rec.Row.open h.os.row
  injection hv with e1 e2 e3
  subst e1
  obtain ⟨b, off, ha, hu⟩ := hc st.length (by simp)
  injection ha with ha
  injection ha with ha1 ha2 _
  subst ha1 ha2
  have hg : (v :: st).reverse[st.length]'(by simp) = v := by simp [List.reverse_cons]
  rw [hg] at hu
  have h0 := hu 0 _ rfl
  have h1 := hu 1 _ rfl
  rw [Nat.zero_add] at h0 h1
  exact ⟨g, rfl, rfl, h0, h1⟩
theorem results_cellM {P : Program} {fn : Func} {p : Tmp} {ty : TypeId} {tmps : Array Value} {w : World} {v : Value} {b : Nat} (hr : fn.results = #[.cell p ty]) (hp : tmps.getD p undef = .pointer (some ⟨b, 0, none⟩))
    (hl : (loadVar ty ⟨b, 0, none⟩).run P w = .ok v w) : (results fn tmps).run P w = .ok v w := by
  simp only [Array.getD_eq_getD_getElem?] at hp ⊢
  simp [results, hr, Sem.run_bind, Result.andThen, hp, asAddr, hl]
theorem load_mv {w : World} {b : Nat} {v0 v1 : Value} (h0 : w.cell? ⟨b, 0, none⟩ = some v0) (h1 : w.cell? ⟨b, 1, none⟩ = some v1) : (loadVar 156 ⟨b, 0, none⟩).run Tryz.prog w = .ok (.agg #[v0, v1]) w := by
  go_simp
theorem pre_set {α : Type} (X Y Z : List α) (q : α) : X <+: (X ++ Y ++ Z).set X.length q := by
  rw [List.append_assoc, List.set_append_right _ _ (Nat.le_refl _)]
  exact List.prefix_append _ _
theorem MR.pre {Y : List (Pt base)} (h : MR base w G f at_ st rg eos pr tr stv opv prv trv Y) (hX : X <+: Y) : MR base w G f at_ st rg eos pr tr stv opv prv trv X := by
  obtain ⟨Z, rfl⟩ := hX
  exact h.drop
theorem mv_store {w : World} {b : Nat} {t : TypeId} {a0 a1 : Value} (hx : Blk w b t [a0, a1]) (v0 v1 : Value) :
    Blk ((w.setCell ⟨b, 0, none⟩ v0).setCell ⟨b, 1, none⟩ v1) b t [v0, v1] ∧ Chg (fun x => x = b) w ((w.setCell ⟨b, 0, none⟩ v0).setCell ⟨b, 1, none⟩ v1) :=
  ⟨(hx.set 0 v0).set 1 v1, Chg.trans (Chg.setCell w ⟨b, 0, none⟩ v0 rfl) (Chg.setCell _ ⟨b, 1, none⟩ v1 rfl)⟩
set_option maxRecDepth 100000 in
set_option maxHeartbeats 4000000 in
theorem pop_any (v : MV) (h : MR base w G f at_ (v :: st) rg eos pr tr stv opv prv trv X) (hl : st.length ≤ 1000) :
    Calls Tryz.prog 88 #[.pointer (some ⟨G, 0, none⟩)] w fun e w' => e = .returned (mvV v) ∧ (∃ stv', MR base w' G f at_ st rg eos pr tr stv' opv prv trv X) ∧ Below base w w' := by
  obtain ⟨⟨ab, cb, hsv⟩, _, _, _⟩ := h.slices
  rw [List.length_cons] at hsv
  subst hsv
  have HH := Lib.hid h
  obtain ⟨R, hR⟩ : ∃ R, R = w.heap.size := ⟨_, rfl⟩
  obtain ⟨W1, hW1⟩ : ∃ W1, W1 = w.alloc (.cells #[.int .i64 0, .string ⟨#[]⟩] 156) := ⟨_, rfl⟩
  have hRb : base ≤ R := by rw [hR]; exact HH.out.size
  have hm1 : MR base W1 G f at_ (v :: st) rg eos pr tr (.slice ab (st.length + 1) cb) opv prv trv (X ++ [blkPt R hRb 156 [.int .i64 0, .string ⟨#[]⟩]]) := by subst hR; rw [hW1]; exact HH.out.add _ _
  have HB1 := Lib.hid (show Below w.heap.size w W1 by rw [hW1]; exact b_alloc _ _)
  clear h
  go_enter Tryz.func88, Tryz.ntmps88
  go_upto_region 1 with fail
  rw [← hW1, ← hR]
  clear hW1 hR
  obtain ⟨g, rfl, -, e0, e1⟩ := hm1.top
  have c6 : W1.cell? ⟨G, 6, none⟩ = some (.slice (some ⟨g, 0, none⟩) (st.length + 1) cb) := hm1.cell (k := 6) rfl
  have hGl : G < W1.heap.size := hm1.blk.lt
  have hgl : g < W1.heap.size := lt_of_cell e0
  have hl1 : ((st.length : Int) + 1) - 1 = (st.length : Int) := by omega
  have hl2 : (0 : Int) ≤ (st.length : Int) := by omega
  have hl3 : (st.length : Int) < (st.length : Int) + 1 := by omega
  have hl4 : (st.length : Int) ≤ 1000 := by omega
  have HM1 := Lib.hid hm1
  clear hm1
  go_region
  obtain ⟨T, hT⟩ : ∃ T, T = W1.heap.size := ⟨_, rfl⟩
  have hTb : base ≤ T := by rw [hT]; exact HM1.out.size
  obtain ⟨W2, hW2⟩ : ∃ W2, W2 = (W1.alloc (.cells #[.int .i64 v.1, .string (bs v.2)] 156)).drew := ⟨_, rfl⟩
  have hm2 : MR base W2 G f at_ (v :: st) rg eos pr tr (.slice (some ⟨g, 0, none⟩) (st.length + 1) cb) opv prv trv (X ++ [blkPt R hRb 156 [.int .i64 0, .string ⟨#[]⟩]] ++ [blkPt T hTb 156 [.int .i64 v.1, .string (bs v.2)]]) := by
    subst hT; rw [hW2]; exact (HM1.out.add [.int .i64 v.1, .string (bs v.2)] 156).below (b_drew _)
  have HB2 := Lib.hid (show Below w.heap.size w W2 by rw [hW2]; exact bt HB1.out (bt (b_alloc _ _) (b_drew _)))
  rw [← hW2, ← hT]
  clear hW2 hT e0 e1 c6 hGl hgl HM1
  have c6 : W2.cell? ⟨G, 6, none⟩ = some (.slice (some ⟨g, 0, none⟩) (st.length + 1) cb) := hm2.cell (k := 6) rfl
  have f6 := hm2.free (k := 6) (by decide)
  have hGl : G < W2.heap.size := hm2.blk.lt
  have ho : recMV.Own W2 base (.slice (some ⟨g, 0, none⟩) (v :: st).reverse.length cb) (v :: st).reverse := by rw [List.length_reverse]; exact hm2.os
  have hrun := ho.shortRun 154 Tryz.underlying154 (by intro wx; kernel_rfl) st.length (by simp)
  rw [List.length_reverse, List.length_cons] at hrun
  have hsh : recMV.Own W2.drew base (.slice (some ⟨g, 0, none⟩) st.length cb) st.reverse := by
    have := (ho.below (b_drew W2)).short st.length (by simp)
    rwa [List.reverse_cons, List.take_append_of_le_length (by simp), List.take_of_length_le (by simp)] at this
  have hn := (hm2.below (b_drew W2)).newS (stv' := .slice (some ⟨g, 0, none⟩) st.length cb) (l := st) (Chg.refl _ _) (fun k hk => by cases hk; exact .inl rfl) hsh
  have HN := Lib.hid hn
  clear ho hsh hn hm2
  go_wp2_with fail
  go_region
  obtain ⟨W3, hW3⟩ : ∃ W3, W3 = (W2.setCell ⟨G, 6, none⟩ (.slice (some ⟨g, 0, none⟩) st.length cb)).drew := ⟨_, rfl⟩
  have hm3 : MR base W3 G f at_ st rg eos pr tr (.slice (some ⟨g, 0, none⟩) st.length cb) opv prv trv (X ++ [blkPt R hRb 156 [.int .i64 0, .string ⟨#[]⟩]] ++ [blkPt T hTb 156 [.int .i64 v.1, .string (bs v.2)]]) := by rw [hW3]; exact HN.out.1
  have hb3 : Below base w W3 := by rw [hW3]; exact ((bt HB2.out (b_drew W2)).mono HH.out.size).trans HN.out.2.1
  rw [← hW3]
  clear hW3 HN c6 f6 hGl hrun HB2
  have hTk : Blk W3 T 156 [.int .i64 v.1, .string (bs v.2)] := hm3.loc (p := blkPt T hTb 156 [.int .i64 v.1, .string (bs v.2)]) (by simp)
  have hRk : Blk W3 R 156 [.int .i64 0, .string ⟨#[]⟩] := hm3.loc (p := blkPt R hRb 156 [.int .i64 0, .string ⟨#[]⟩]) (by simp)
  have t0 := hTk.cell (k := 0) rfl
  have t1 := hTk.cell (k := 1) rfl
  have r0 := hRk.cell (k := 0) rfl
  have r1 := hRk.cell (k := 1) rfl
  have k0 := hRk.free (k := 0) (by simp)
  have k1 := hRk.free (k := 1) (by simp)
  have HM3 := Lib.hid hm3
  have HB3 := Lib.hid hb3
  have HRK := Lib.hid hRk
  clear hm3 hb3 hRk hTk
  go_wp2_with fail
  obtain ⟨hy, hc⟩ := mv_store HRK.out (.int .i64 v.1) (.string (bs v.2))
  refine bodyPost_ret (results_cellM rfl rfl (load_mv (hy.cell (k := 0) rfl) (hy.cell (k := 1) rfl))) rfl ?_
  obtain ⟨hm4, hb4⟩ := HM3.out.updX (i := X.length) (p := blkPt R hRb 156 [.int .i64 0, .string ⟨#[]⟩]) (by simp) hc (fun k hk => hk) (blkPt R hRb 156 [.int .i64 v.1, .string (bs v.2)]) hy (fun k hk => hk)
  exact ⟨rfl, ⟨_, hm4.pre (pre_set X _ _ _)⟩, HB3.out.trans hb4⟩
end
end Go.Proofs.YtndagciefnddmaaGreatDoor
