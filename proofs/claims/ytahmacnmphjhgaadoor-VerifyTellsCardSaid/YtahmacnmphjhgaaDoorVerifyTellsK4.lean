/- Lemmas for VerifyTells, part 4: walks of the functions that it reaches, and the plain laws behind them. -/
import Derived.Laws.MakeOwn
import Derived.Test.YtahmacnmphjhgaaDoorVerifyTellsK3
set_option linter.unusedSimpArgs false
set_option linter.unusedVariables false
namespace Go.Proofs.YtahmacnmphjhgaaDoor
open Go.RowKit Oct
attribute [local irreducible] wpG

section
variable {a : UInt8} {i : Nat} {s : Vs}
theorem tu19 : turnsV i (19, a) s = (0, { s with blocks := s.blocks ++ [⟨19, s.kinds, s.kinds, i, false⟩] }) := rfl
theorem tu22 : turnsV i (22, a) s = (0, { s with blocks := s.blocks ++ [⟨22, s.kinds, s.kinds, i, false⟩], kinds := s.kinds ++ [84] }) := rfl
theorem tu20 {b : Vb} (h : s.blocks.getLast? = some b) : turnsV i (20, a) s = (0, { s with ends := s.ends.set b.at_ (i : Int), blocks := s.blocks.dropLast ++ [{ b with want := s.kinds, at_ := i, did := true }], kinds := b.opn }) := by unfold turnsV; simp [h]
theorem tu21y {b : Vb} (h : s.blocks.getLast? = some b) (hk : s.kinds = b.want) : turnsV i (21, a) s = (0, { s with ends := s.ends.set b.at_ (i : Int), blocks := s.blocks.dropLast }) := by unfold turnsV; simp [h, hk]
theorem tu21n {b : Vb} (h : s.blocks.getLast? = some b) (hk : s.kinds ≠ b.want) : turnsV i (21, a) s = (132, s) := by unfold turnsV; simp [h, hk]
theorem tuN {p : UInt8} (h19 : p ≠ 19) (h22 : p ≠ 22) (h20 : p ≠ 20) (h21 : p ≠ 21) : turnsV i (p, a) s = (0, s) := by unfold turnsV; simp [h19, h22, h20, h21]
end
theorem set_last {α : Type} {l : List α} {m : Nat} (hm : l.length = m + 1) (x : α) : l.set m x = l.dropLast ++ [x] := by
  have hne : l ≠ [] := by rintro rfl; simp at hm
  obtain ⟨l', y, rfl⟩ : ∃ l' y, l = l' ++ [y] := ⟨l.dropLast, l.getLast hne, (List.dropLast_concat_getLast hne).symm⟩
  have : l'.length = m := by simpa using hm
  rw [List.set_append_right _ _ (by omega)]
  simp [this]
section
variable {w : World} {base G : Nat} {tv cv bv sv ev : Value} {inp : Nat} {role : UInt8} {s : Vs}
theorem VG.as {s' : Vs} (h : VG w base G tv cv inp role s bv sv ev) (e : s = s') : VG w base G tv cv inp role s' bv sv ev := e ▸ h
/-- a place of the ends, written -/
theorem VG.setE {g c n : Nat} (h : VG w base G tv cv inp role s bv sv (.slice (some ⟨g, 0, none⟩) n c)) {k : Nat} (hk : k < s.ends.length) (x : Int) : VG (w.setCell ⟨g, k, none⟩ (.int .i64 x)) base G tv cv inp role { s with ends := s.ends.set k x } bv sv (.slice (some ⟨g, 0, none⟩) n c) ∧ Below base w (w.setCell ⟨g, k, none⟩ (.int .i64 x)) := by
  have ho := h.oe.setCell hk (y := x) (j := 0) (by decide) (u := .int .i64 x) rfl
  rw [show k * recJ.n + 0 = k from Nat.mul_one k] at ho
  exact h.chgE (Chg.setCell _ _ _ rfl) ho
/-- the innermost block, written -/
theorem VG.setB {g c n m : Nat} (h : VG w base G tv cv inp role s (.slice (some ⟨g, 0, none⟩) n c) sv ev) (hm : s.blocks.length = m + 1) {b b' : Vb} (hb : s.blocks[m]? = some b) {j : Nat} (hj : j < 5) {u : Value} (hu : recVb.cell b' = (recVb.cell b).set j u) :
    VG (w.setCell ⟨g, m * 5 + j, none⟩ u) base G tv cv inp role { s with blocks := s.blocks.set m b' } (.slice (some ⟨g, 0, none⟩) n c) sv ev ∧ Below base w (w.setCell ⟨g, m * 5 + j, none⟩ u) := by
  have hml : m < s.blocks.length := by omega
  rw [List.getElem?_eq_getElem hml] at hb
  have hb2 := Option.some.inj hb
  have ho := h.ob.setCell hml (y := b') (j := j) hj (u := u) (by rw [hb2]; exact hu)
  exact h.chgB (Chg.setCell _ _ _ rfl) ho
theorem VG.cellE {g c n : Nat} (h : VG w base G tv cv inp role s bv sv (.slice (some ⟨g, 0, none⟩) n c)) {k : Nat} (hk : k < s.ends.length) : (∃ v, w.cell? ⟨g, k, none⟩ = some v) ∧ w.frozen? ⟨g, k, none⟩ = false := by
  rcases h.oe.2 with ⟨hv, _⟩ | ⟨g', cap, cur, hv, hb, hh, r1, r2, r3, r4⟩
  · cases hv
  · cases hv
    have hb2 : Blk w g recJ.e cur.toList := by unfold Blk; rw [hh]
    have hl : k < cur.toList.length := by
      have : cur.size = c * recJ.n := r3
      have h2 : recJ.n = 1 := rfl
      rw [h2] at this
      simp; omega
    exact ⟨⟨_, hb2.cell (List.getElem?_eq_getElem hl)⟩, hb2.free hl⟩
theorem VG.cellB {g c n : Nat} (h : VG w base G tv cv inp role s (.slice (some ⟨g, 0, none⟩) n c) sv ev) {k : Nat} (hk : k < s.blocks.length * 5) : w.frozen? ⟨g, k, none⟩ = false := by
  rcases h.ob.2 with ⟨hv, _⟩ | ⟨g', cap, cur, hv, hb, hh, r1, r2, r3, r4⟩
  · cases hv
  · cases hv
    have hb2 : Blk w g recVb.e cur.toList := by unfold Blk; rw [hh]
    have hl : k < cur.toList.length := by
      have : cur.size = c * recVb.n := r3
      have h2 : recVb.n = 5 := rfl
      rw [h2] at this
      have : s.blocks.length * 5 ≤ c * 5 := Nat.mul_le_mul_right _ r1
      simp; omega
    exact hb2.free hl
set_option maxRecDepth 100000 in
set_option maxHeartbeats 8000000 in
theorem turns_any (h : VG w base G tv cv inp role s bv sv ev) (p a : UInt8) (i : Nat) (hl : s.blocks.length ≤ 1000) (hk : s.kinds.length ≤ 1000) (hne : p = 20 ∨ p = 21 → s.blocks ≠ []) (hat : ∀ b ∈ s.blocks, b.at_ < s.ends.length) (hel : s.ends.length ≤ 1000) (hi : i ≤ 1000) :
    Calls Tryd.prog 39 #[.pointer (some ⟨G, 0, none⟩), .int .i64 (i : Int), .agg #[.int .u8 (p.toNat : Int), .int .u8 (a.toNat : Int)]] w fun e w' => e = .returned (.int .i64 (((turnsV i (p, a) s).1 : Nat) : Int)) ∧ (∃ bv', VG w' base G tv cv inp role (turnsV i (p, a) s).2 bv' sv ev) ∧ Below base w w' := by
  have HH := Lib.hid h
  have hgw : G < w.heap.size := h.blk.lt
  have hbw : base ≤ w.heap.size := Nat.le_trans h.gb (Nat.le_of_lt hgw)
  obtain ⟨W1, hW1⟩ : ∃ W1, W1 = w.alloc (.cells #[.int .u8 (p.toNat : Int), .int .u8 (a.toNat : Int)] 33) := ⟨_, rfl⟩
  have hb1 : Below w.heap.size w W1 := by rw [hW1]; exact b_alloc _ _
  have hx : Blk W1 w.heap.size 33 [.int .u8 (p.toNat : Int), .int .u8 (a.toNat : Int)] := by rw [hW1]; exact Blk.new w _ _
  have x0 := hx.cell (k := 0) rfl
  have H1 := Lib.hid (h.below hb1)
  have HB1 := Lib.hid hb1
  have HBW := Lib.hid hbw
  have HT := Lib.hid (stop_any (h.below hb1) hl)
  have HNE := Lib.hid hne
  have HAT := Lib.hid hat
  have k1 : (s.kinds.length : Int) ≤ 1000 := by omega
  have i1 : (i : Int) ≤ 1000 := by omega
  have i0 : (0 : Int) ≤ (i : Int) := by omega
  clear h hx hb1 hne hat
  by_cases h19 : p = 19
  · subst h19
    rw [show (((19 : UInt8).toNat : Nat) : Int) = 19 from rfl] at hW1 x0 ⊢
    go_enter Tryd.func39, Tryd.ntmps39
    go_upto_region 1 with fail
    rw [← hW1]
    clear hW1
    go_wp2_with fail
    refine HT.out.mono ?_
    rintro e w2 ⟨htop, hB2⟩
    have HTOP := Lib.hid htop
    have H2 := Lib.hid (H1.out.below hB2)
    have y0 := Below.keeps hB2 x0
    have HB2 := Lib.hid (bt HB1.out hB2)
    clear htop hB2 x0
    obtain ⟨tp, rfl⟩ : ∃ tp, e = .returned tp := by rcases HTOP.out with ⟨_, rfl⟩ | ⟨_, _, _, _, _, rfl⟩ <;> exact ⟨_, rfl⟩
    clear HTOP
    have c4 := H2.out.cell (k := 4) rfl
    go_upto_region 4 with fail
    refine region_tail 15 [(4, .exact _ (.int .u8 19)), (8, .exact _ (.string (bs s.kinds))), (12, .exact _ (.string (bs s.kinds)))] (by kernel_rfl) (by kernel_rfl) ?_
    simp only [List.take_succ_cons, List.take_zero, List.drop_succ_cons, List.drop_zero]
    (repeat (first | (refine wpG_skip (by kernel_rfl) (fun K hK => ?_); go_big_quiet_skip; refine wpQuiet_nil (hK _ ?_); clear hK K) | (refine wpG_quiet (by rfl) (by rfl) (fun K hK => ?_); go_big_quiet_want; go_big_quiet_op; go_big_quiet_on; refine wpQuiet_nil (hK _ ?_); clear hK K) | (refine wpG_nilOk rfl rfl rfl (by kernel_rfl) (fun K hK => ?_); go_simp; refine hK _ ?_; clear hK K)))
    repeat (refine wpG_exact rfl (by kernel_rfl) (fun w' G hB hS hG => ?_) (fun K hK => ?_); (have z0 := Below.keeps hB y0; have z1 := Below.keeps hB c4; go_simp; exact hG _ (Bel.refl _)); go_simp; refine hK _ ?_; clear hK K; (repeat (first | (refine wpG_skip (by kernel_rfl) (fun K hK => ?_); go_big_quiet_skip; refine wpQuiet_nil (hK _ ?_); clear hK K) | (refine wpG_quiet (by rfl) (by rfl) (fun K hK => ?_); go_big_quiet_want; go_big_quiet_op; go_big_quiet_on; refine wpQuiet_nil (hK _ ?_); clear hK K) | (refine wpG_nilOk rfl rfl rfl (by kernel_rfl) (fun K hK => ?_); go_simp; refine hK _ ?_; clear hK K))))
    refine wpG_nilV3 ?_
    intro w3 hB3 hA3
    have H3 := Lib.hid (H2.out.below hB3)
    have HB3 := Lib.hid (bt HB2.out hB3)
    clear hB3 hA3 y0 c4
    go_wp2_with fail
    refine (spush_any ⟨19, s.kinds, s.kinds, i, false⟩ H3.out hl).mono ?_
    rintro e w4 ⟨⟨v, rfl⟩, ⟨bv', hv4⟩, hB4⟩
    have H4 := Lib.hid hv4
    have HB4 := Lib.hid ((HB3.out.mono HBW.out).trans hB4)
    clear hv4 hB4
    go_wp2_with fail
    go_ret
    exact ⟨by rw [tu19]; rfl, ⟨_, by rw [tu19]; exact H4.out⟩, HB4.out⟩
  by_cases h22 : p = 22
  · subst h22
    rw [show (((22 : UInt8).toNat : Nat) : Int) = 22 from rfl] at hW1 x0 ⊢
    go_enter Tryd.func39, Tryd.ntmps39
    go_upto_region 1 with fail
    rw [← hW1]
    clear hW1
    go_wp2_with fail
    refine HT.out.mono ?_
    rintro e w2 ⟨htop, hB2⟩
    have HTOP := Lib.hid htop
    have H2 := Lib.hid (H1.out.below hB2)
    have y0 := Below.keeps hB2 x0
    have HB2 := Lib.hid (bt HB1.out hB2)
    clear htop hB2 x0
    obtain ⟨tp, rfl⟩ : ∃ tp, e = .returned tp := by rcases HTOP.out with ⟨_, rfl⟩ | ⟨_, _, _, _, _, rfl⟩ <;> exact ⟨_, rfl⟩
    clear HTOP
    have c4 := H2.out.cell (k := 4) rfl
    go_upto_region 6 with fail
    refine region_tail 15 [(4, .exact _ (.int .u8 22)), (8, .exact _ (.string (bs s.kinds))), (12, .exact _ (.string (bs s.kinds)))] (by kernel_rfl) (by kernel_rfl) ?_
    simp only [List.take_succ_cons, List.take_zero, List.drop_succ_cons, List.drop_zero]
    (repeat (first | (refine wpG_skip (by kernel_rfl) (fun K hK => ?_); go_big_quiet_skip; refine wpQuiet_nil (hK _ ?_); clear hK K) | (refine wpG_quiet (by rfl) (by rfl) (fun K hK => ?_); go_big_quiet_want; go_big_quiet_op; go_big_quiet_on; refine wpQuiet_nil (hK _ ?_); clear hK K) | (refine wpG_nilOk rfl rfl rfl (by kernel_rfl) (fun K hK => ?_); go_simp; refine hK _ ?_; clear hK K)))
    repeat (refine wpG_exact rfl (by kernel_rfl) (fun w' G hB hS hG => ?_) (fun K hK => ?_); (have z0 := Below.keeps hB y0; have z1 := Below.keeps hB c4; go_simp; exact hG _ (Bel.refl _)); go_simp; refine hK _ ?_; clear hK K; (repeat (first | (refine wpG_skip (by kernel_rfl) (fun K hK => ?_); go_big_quiet_skip; refine wpQuiet_nil (hK _ ?_); clear hK K) | (refine wpG_quiet (by rfl) (by rfl) (fun K hK => ?_); go_big_quiet_want; go_big_quiet_op; go_big_quiet_on; refine wpQuiet_nil (hK _ ?_); clear hK K) | (refine wpG_nilOk rfl rfl rfl (by kernel_rfl) (fun K hK => ?_); go_simp; refine hK _ ?_; clear hK K))))
    refine wpG_nilV3 ?_
    intro w3 hB3 hA3
    have H3 := Lib.hid (H2.out.below hB3)
    have HB3 := Lib.hid (bt HB2.out hB3)
    clear hB3 hA3 y0 c4
    go_wp2_with fail
    refine (spush_any ⟨22, s.kinds, s.kinds, i, false⟩ H3.out hl).mono ?_
    rintro e w4 ⟨⟨v, rfl⟩, ⟨bv', hv4⟩, hB4⟩
    have H4 := Lib.hid hv4
    have HB4 := Lib.hid ((HB3.out.mono HBW.out).trans hB4)
    clear hv4 hB4
    have c5 := H4.out.cell (k := 4) rfl
    have f5 := H4.out.free (k := 4) (by decide)
    have hk5 := H4.out.kinds (s.kinds ++ [84])
    have HK5 := Lib.hid hk5
    clear hk5
    go_wp2_with fail
    go_ret
    exact ⟨by rw [tu22]; rfl, ⟨_, by rw [tu22]; exact HK5.out.1⟩, HB4.out.trans HK5.out.2⟩
  by_cases h20 : p = 20
  · subst h20
    rw [show (((20 : UInt8).toNat : Nat) : Int) = 20 from rfl] at hW1 x0 ⊢
    go_enter Tryd.func39, Tryd.ntmps39
    go_upto_region 1 with fail
    rw [← hW1]
    clear hW1
    go_wp2_with fail
    refine HT.out.mono ?_
    rintro e w2 ⟨htop, hB2⟩
    have HTOP := Lib.hid htop
    have H2 := Lib.hid (H1.out.below hB2)
    have y0 := Below.keeps hB2 x0
    have HB2 := Lib.hid (bt HB1.out hB2)
    clear htop hB2 x0
    rcases HTOP.out with ⟨hb, rfl⟩ | ⟨g, c, m, hv, hm, rfl⟩
    · exact absurd hb (HNE.out (by decide))
    obtain ⟨b, hb, hbm, l0, l1, l2, l3, l4⟩ := H2.out.last hv hm
    subst hv
    have hbat : b.at_ < s.ends.length := HAT.out b (List.mem_of_getElem? hbm)
    obtain ⟨⟨_, _, _⟩, _, ae, ce, rfl⟩ := H2.out.slices
    obtain ⟨E, rfl⟩ := H2.out.oe.at0 (by omega)
    have HBM := Lib.hid hbm
    have HBL := Lib.hid hb
    have HMM := Lib.hid hm
    have HAT2 := Lib.hid hbat
    have e0 : (0 : Int) ≤ (b.at_ : Int) := by omega
    have e1 : (b.at_ : Int) < (s.ends.length : Int) := by omega
    have e2 : (s.ends.length : Int) ≤ 1000 := by omega
    have c7 := H2.out.cell (k := 7) rfl
    have c4 := H2.out.cell (k := 4) rfl
    clear HTOP hb hbm hbat hm
    go_upto_region 9 with fail
    refine region_tail 10 [(3, .exact _ (.slice (some ⟨E, 0, none⟩) s.ends.length ce)), (7, .exact _ (.int .i64 (b.at_ : Int)))] (by kernel_rfl) (by kernel_rfl) ?_
    simp only [List.take_succ_cons, List.take_zero, List.drop_succ_cons, List.drop_zero]
    (repeat (first | (refine wpG_skip (by kernel_rfl) (fun K hK => ?_); go_big_quiet_skip; refine wpQuiet_nil (hK _ ?_); clear hK K) | (refine wpG_quiet (by rfl) (by rfl) (fun K hK => ?_); go_big_quiet_want; go_big_quiet_op; go_big_quiet_on; refine wpQuiet_nil (hK _ ?_); clear hK K) | (refine wpG_nilOk rfl rfl rfl (by kernel_rfl) (fun K hK => ?_); go_simp; refine hK _ ?_; clear hK K)))
    repeat (refine wpG_exact rfl (by kernel_rfl) (fun w' G hB hS hG => ?_) (fun K hK => ?_); (have z0 := Below.keeps hB c7; have z1 := Below.keeps hB l3; go_simp; exact hG _ (Bel.refl _)); go_simp; refine hK _ ?_; clear hK K; (repeat (first | (refine wpG_skip (by kernel_rfl) (fun K hK => ?_); go_big_quiet_skip; refine wpQuiet_nil (hK _ ?_); clear hK K) | (refine wpG_quiet (by rfl) (by rfl) (fun K hK => ?_); go_big_quiet_want; go_big_quiet_op; go_big_quiet_on; refine wpQuiet_nil (hK _ ?_); clear hK K) | (refine wpG_nilOk rfl rfl rfl (by kernel_rfl) (fun K hK => ?_); go_simp; refine hK _ ?_; clear hK K))))
    refine wpG_nilV3 ?_
    intro w3 hB3 hA3
    have h3 := H2.out.below hB3
    obtain ⟨⟨v3, d3⟩, f3⟩ := h3.cellE HAT2.out
    have hs3 := h3.setE HAT2.out (i : Int)
    have HS3 := Lib.hid hs3
    have HB3 := Lib.hid (bt HB2.out hB3)
    clear hB3 hA3 h3 hs3 c7 c4 l0 l1 l2 l3 l4
    go_upto_region 10 with fail
    obtain ⟨X, hX⟩ : ∃ X, X = w3.setCell ⟨E, b.at_, none⟩ (.int .i64 (i : Int)) := ⟨_, rfl⟩
    rw [← hX] at HS3 ⊢
    clear hX d3 f3
    have hx := HS3.out.1
    obtain ⟨_, _, _, l0, l1, l2, l3, l4⟩ := hx.last rfl HMM.out
    have c4 := hx.cell (k := 4) rfl
    have f1 := hx.cellB (k := m * 5 + 1) (by have := HMM.out; show _ < s.blocks.length * 5; omega)
    have f3 := hx.cellB (k := m * 5 + 3) (by have := HMM.out; show _ < s.blocks.length * 5; omega)
    have f4 := hx.cellB (k := m * 5 + 4) (by have := HMM.out; show _ < s.blocks.length * 5; omega)
    obtain ⟨b1, hb1⟩ : ∃ b1 : Vb, b1 = { b with want := s.kinds } := ⟨_, rfl⟩
    obtain ⟨b2, hb2⟩ : ∃ b2 : Vb, b2 = { b with want := s.kinds, at_ := i } := ⟨_, rfl⟩
    obtain ⟨b3, hb3⟩ : ∃ b3 : Vb, b3 = { b with want := s.kinds, at_ := i, did := true } := ⟨_, rfl⟩
    have hml : m < s.blocks.length := by have := HMM.out; omega
    have s1 := hx.setB HMM.out HBM.out (j := 1) (b' := b1) (u := .string (bs s.kinds)) (by decide) (by rw [hb1]; rfl)
    have s2 := s1.1.setB (by show (s.blocks.set m b1).length = m + 1; rw [List.length_set]; exact HMM.out) (by show (s.blocks.set m b1)[m]? = some b1; simp [hml]) (j := 3) (b' := b2) (u := .int .i64 (i : Int)) (by decide) (by rw [hb1, hb2]; rfl)
    have s3 := s2.1.setB (by show ((s.blocks.set m b1).set m b2).length = m + 1; rw [List.length_set, List.length_set]; exact HMM.out) (by show ((s.blocks.set m b1).set m b2)[m]? = some b2; simp [hml]) (j := 4) (b' := b3) (u := .bool true) (by decide) (by rw [hb2, hb3]; rfl)
    have hbl : ((s.blocks.set m b1).set m b2).set m b3 = s.blocks.dropLast ++ [b3] := by rw [List.set_set, List.set_set]; exact set_last HMM.out b3
    have HS4 := Lib.hid s3
    have HSB := Lib.hid ((s1.2.trans s2.2).trans s3.2)
    have HBL3 := Lib.hid hbl
    have HB33 := Lib.hid hb3
    clear hx s1 s2 s3 hbl hb1 hb2 hb3 hml
    go_upto_region 11 with fail
    obtain ⟨Y, hY⟩ : ∃ Y, Y = ((X.setCell ⟨g, m * 5 + 1, none⟩ (.string (bs s.kinds))).setCell ⟨g, m * 5 + 3, none⟩ (.int .i64 (i : Int))).setCell ⟨g, m * 5 + 4, none⟩ (.bool true) := ⟨_, rfl⟩
    rw [← hY] at HS4 HSB ⊢
    clear hY l0 l1 l2 l3 l4 c4 f1 f3 f4
    have hy := HS4.out.1
    obtain ⟨b9, hb9, _, _, _, l2, _, _⟩ := hy.last (g := g) (c := c) (m := m) (by show Value.slice (some ⟨g, 0, none⟩) s.blocks.length c = Value.slice (some ⟨g, 0, none⟩) (((s.blocks.set m b1).set m b2).set m b3).length c; rw [List.length_set, List.length_set, List.length_set]) (by show (((s.blocks.set m b1).set m b2).set m b3).length = m + 1; rw [List.length_set, List.length_set, List.length_set]; exact HMM.out)
    have hb93 : b9 = b3 := by
      have e : (((s.blocks.set m b1).set m b2).set m b3).getLast? = some b9 := hb9
      rw [HBL3.out] at e
      simpa using e.symm
    have ho : b9.opn = b.opn := by rw [hb93, HB33.out]
    rw [ho] at l2
    have c4 := hy.cell (k := 4) rfl
    have f4 := hy.free (k := 4) (by decide)
    have hyk := hy.kinds b.opn
    have HYK := Lib.hid hyk
    clear hy hb9 hb93 ho hyk
    go_wp2_with fail
    go_ret
    refine ⟨by rw [tu20 HBL.out]; rfl, ⟨.slice (some ⟨g, 0, none⟩) s.blocks.length c, ?_⟩, (((HB3.out.mono HBW.out).trans HS3.out.2).trans HSB.out).trans HYK.out.2⟩
    rw [tu20 HBL.out]
    exact HYK.out.1.as (by show ({ kinds := b.opn, blocks := ((s.blocks.set m b1).set m b2).set m b3, seen := s.seen, ends := s.ends.set b.at_ (i : Int), deep := s.deep } : Vs) = _; rw [HBL3.out, HB33.out])
  by_cases h21 : p = 21
  · subst h21
    rw [show (((21 : UInt8).toNat : Nat) : Int) = 21 from rfl] at hW1 x0 ⊢
    go_enter Tryd.func39, Tryd.ntmps39
    go_upto_region 1 with fail
    rw [← hW1]
    clear hW1
    go_wp2_with fail
    refine HT.out.mono ?_
    rintro e w2 ⟨htop, hB2⟩
    have HTOP := Lib.hid htop
    have H2 := Lib.hid (H1.out.below hB2)
    have y0 := Below.keeps hB2 x0
    have HB2 := Lib.hid (bt HB1.out hB2)
    clear htop hB2 x0
    rcases HTOP.out with ⟨hb, rfl⟩ | ⟨g, c, m, hv, hm, rfl⟩
    · exact absurd hb (HNE.out (by decide))
    obtain ⟨b, hb, hbm, l0, l1, l2, l3, l4⟩ := H2.out.last hv hm
    subst hv
    have hbat : b.at_ < s.ends.length := HAT.out b (List.mem_of_getElem? hbm)
    obtain ⟨⟨_, _, _⟩, _, ae, ce, rfl⟩ := H2.out.slices
    obtain ⟨E, rfl⟩ := H2.out.oe.at0 (by omega)
    have HBM := Lib.hid hbm
    have HBL := Lib.hid hb
    have HMM := Lib.hid hm
    have HAT2 := Lib.hid hbat
    have e0 : (0 : Int) ≤ (b.at_ : Int) := by omega
    have e1 : (b.at_ : Int) < (s.ends.length : Int) := by omega
    have e2 : (s.ends.length : Int) ≤ 1000 := by omega
    have c7 := H2.out.cell (k := 7) rfl
    have c4 := H2.out.cell (k := 4) rfl
    clear HTOP hb hbm hbat hm
    by_cases hkw : s.kinds = b.want
    · have q1 : (s.kinds == b.want) = true := by rw [hkw]; simp
      have HKW := Lib.hid hkw
      clear hkw
      go_upto_region 13 with fail
      refine region_known [(3, .exact _ (.string (bs s.kinds))), (7, .exact _ (.string (bs b.want)))] (by kernel_rfl) (by kernel_rfl) ?_
      (repeat (first | (refine wpG_skip (by kernel_rfl) (fun K hK => ?_); go_big_quiet_skip; refine wpQuiet_nil (hK _ ?_); clear hK K) | (refine wpG_quiet (by rfl) (by rfl) (fun K hK => ?_); go_big_quiet_want; go_big_quiet_op; go_big_quiet_on; refine wpQuiet_nil (hK _ ?_); clear hK K) | (refine wpG_nilOk rfl rfl rfl (by kernel_rfl) (fun K hK => ?_); go_simp; refine hK _ ?_; clear hK K)))
      repeat (refine wpG_exact rfl (by kernel_rfl) (fun w' G hB hS hG => ?_) (fun K hK => ?_); (have z0 := Below.keeps hB c4; have z1 := Below.keeps hB l1; go_simp; exact hG _ (Bel.refl _)); go_simp; refine hK _ ?_; clear hK K; (repeat (first | (refine wpG_skip (by kernel_rfl) (fun K hK => ?_); go_big_quiet_skip; refine wpQuiet_nil (hK _ ?_); clear hK K) | (refine wpG_quiet (by rfl) (by rfl) (fun K hK => ?_); go_big_quiet_want; go_big_quiet_op; go_big_quiet_on; refine wpQuiet_nil (hK _ ?_); clear hK K) | (refine wpG_nilOk rfl rfl rfl (by kernel_rfl) (fun K hK => ?_); go_simp; refine hK _ ?_; clear hK K))))
      refine wpG_nilV3 ?_
      intro w6 hB6 hA6
      have h6 := Lib.hid (H2.out.below hB6)
      have HB6 := Lib.hid (bt HB2.out hB6)
      have c7' := Below.keeps hB6 c7
      have l3' := Below.keeps hB6 l3
      clear hB6 hA6 c7 c4 l0 l1 l2 l3 l4
      go_upto_region 15 with fail
      refine region_tail 10 [(3, .exact _ (.slice (some ⟨E, 0, none⟩) s.ends.length ce)), (7, .exact _ (.int .i64 (b.at_ : Int)))] (by kernel_rfl) (by kernel_rfl) ?_
      simp only [List.take_succ_cons, List.take_zero, List.drop_succ_cons, List.drop_zero]
      (repeat (first | (refine wpG_skip (by kernel_rfl) (fun K hK => ?_); go_big_quiet_skip; refine wpQuiet_nil (hK _ ?_); clear hK K) | (refine wpG_quiet (by rfl) (by rfl) (fun K hK => ?_); go_big_quiet_want; go_big_quiet_op; go_big_quiet_on; refine wpQuiet_nil (hK _ ?_); clear hK K) | (refine wpG_nilOk rfl rfl rfl (by kernel_rfl) (fun K hK => ?_); go_simp; refine hK _ ?_; clear hK K)))
      repeat (refine wpG_exact rfl (by kernel_rfl) (fun w' G hB hS hG => ?_) (fun K hK => ?_); (have z0 := Below.keeps hB c7'; have z1 := Below.keeps hB l3'; go_simp; exact hG _ (Bel.refl _)); go_simp; refine hK _ ?_; clear hK K; (repeat (first | (refine wpG_skip (by kernel_rfl) (fun K hK => ?_); go_big_quiet_skip; refine wpQuiet_nil (hK _ ?_); clear hK K) | (refine wpG_quiet (by rfl) (by rfl) (fun K hK => ?_); go_big_quiet_want; go_big_quiet_op; go_big_quiet_on; refine wpQuiet_nil (hK _ ?_); clear hK K) | (refine wpG_nilOk rfl rfl rfl (by kernel_rfl) (fun K hK => ?_); go_simp; refine hK _ ?_; clear hK K))))
      refine wpG_nilV3 ?_
      intro w3 hB3 hA3
      have h3 := h6.out.below hB3
      obtain ⟨⟨v3, d3⟩, f3⟩ := h3.cellE HAT2.out
      have hs3 := h3.setE HAT2.out (i : Int)
      have HS3 := Lib.hid hs3
      have HB3 := Lib.hid (bt HB6.out hB3)
      clear hB3 hA3 h3 hs3 c7' l3'
      go_upto_region 16 with fail
      clear d3 f3
      go_wp2_with fail
      refine (spop_any HS3.out.1 hl (by have := HMM.out; show 0 < s.blocks.length; omega)).mono ?_
      rintro e w4 ⟨⟨v, rfl⟩, ⟨bv', hv4⟩, hB4⟩
      have H4 := Lib.hid hv4
      have HB4 := Lib.hid (((HB3.out.mono HBW.out).trans HS3.out.2).trans hB4)
      clear hv4 hB4
      go_wp2_with fail
      go_ret
      exact ⟨by rw [tu21y HBL.out HKW.out]; rfl, ⟨_, by rw [tu21y HBL.out HKW.out]; exact H4.out⟩, HB4.out⟩
    · have q1 : (s.kinds == b.want) = false := by simpa using hkw
      have HKW := Lib.hid hkw
      clear hkw
      go_upto_region 13 with fail
      refine region_known [(3, .exact _ (.string (bs s.kinds))), (7, .exact _ (.string (bs b.want)))] (by kernel_rfl) (by kernel_rfl) ?_
      (repeat (first | (refine wpG_skip (by kernel_rfl) (fun K hK => ?_); go_big_quiet_skip; refine wpQuiet_nil (hK _ ?_); clear hK K) | (refine wpG_quiet (by rfl) (by rfl) (fun K hK => ?_); go_big_quiet_want; go_big_quiet_op; go_big_quiet_on; refine wpQuiet_nil (hK _ ?_); clear hK K) | (refine wpG_nilOk rfl rfl rfl (by kernel_rfl) (fun K hK => ?_); go_simp; refine hK _ ?_; clear hK K)))
      repeat (refine wpG_exact rfl (by kernel_rfl) (fun w' G hB hS hG => ?_) (fun K hK => ?_); (have z0 := Below.keeps hB c4; have z1 := Below.keeps hB l1; go_simp; exact hG _ (Bel.refl _)); go_simp; refine hK _ ?_; clear hK K; (repeat (first | (refine wpG_skip (by kernel_rfl) (fun K hK => ?_); go_big_quiet_skip; refine wpQuiet_nil (hK _ ?_); clear hK K) | (refine wpG_quiet (by rfl) (by rfl) (fun K hK => ?_); go_big_quiet_want; go_big_quiet_op; go_big_quiet_on; refine wpQuiet_nil (hK _ ?_); clear hK K) | (refine wpG_nilOk rfl rfl rfl (by kernel_rfl) (fun K hK => ?_); go_simp; refine hK _ ?_; clear hK K))))
      refine wpG_nilV3 ?_
      intro w6 hB6 hA6
      clear hA6 c7 c4 l0 l1 l2 l3 l4
      go_wp2_with fail
      go_ret
      exact ⟨by rw [tu21n HBL.out HKW.out]; rfl, ⟨_, by rw [tu21n HBL.out HKW.out]; exact H2.out.below hB6⟩, (bt HB2.out hB6).mono HBW.out⟩
  have HTU := Lib.hid (tuN (a := a) (i := i) (s := s) h19 h22 h20 h21)
  have e19 : ((p.toNat : Int) == 19) = false := u8_ne (k := 19) (by decide) h19
  have e22 : ((p.toNat : Int) == 22) = false := u8_ne (k := 22) (by decide) h22
  have e20 : ((p.toNat : Int) == 20) = false := u8_ne (k := 20) (by decide) h20
  have e21 : ((p.toNat : Int) == 21) = false := u8_ne (k := 21) (by decide) h21
  clear h19 h22 h20 h21
  go_enter Tryd.func39, Tryd.ntmps39
  go_upto_region 1 with fail
  rw [← hW1]
  clear hW1
  go_wp2_with fail
  refine HT.out.mono ?_
  rintro e w2 ⟨htop, hB2⟩
  have HTOP := Lib.hid htop
  have H2 := Lib.hid (H1.out.below hB2)
  have y0 := Below.keeps hB2 x0
  have HB2 := Lib.hid (bt HB1.out hB2)
  clear htop hB2 x0
  obtain ⟨tp, rfl⟩ : ∃ tp, e = .returned tp := by rcases HTOP.out with ⟨_, rfl⟩ | ⟨_, _, _, _, _, rfl⟩ <;> exact ⟨_, rfl⟩
  clear HTOP
  go_wp2_with fail
  go_ret
  exact ⟨by rw [HTU.out]; rfl, ⟨_, by rw [HTU.out]; exact H2.out⟩, HB2.out.mono HBW.out⟩
end
end Go.Proofs.YtahmacnmphjhgaaDoor
namespace Go.Proofs.YtahmacnmphjhgaaDoor

theorem runV_nil (nt inp : Nat) (role : UInt8) (i : Nat) (s : Vs) : runV nt inp role i [] s = (i, overV role s, s) := rfl
theorem runV_ok {nt inp : Nat} {role : UInt8} {i : Nat} {x : VI} {r : List VI} {s : Vs} (h : (oneV nt inp role i x s).1 = 0) : runV nt inp role i (x :: r) s = runV nt inp role (i + 1) r (oneV nt inp role i x s).2 := by rw [runV, if_pos h]
theorem runV_bad {nt inp : Nat} {role : UInt8} {i : Nat} {x : VI} {r : List VI} {s : Vs} (h : (oneV nt inp role i x s).1 ≠ 0) : runV nt inp role i (x :: r) s = (i, (oneV nt inp role i x s).1, (oneV nt inp role i x s).2) := by rw [runV, if_neg h]
theorem effs_len : effs.length = 24 := by decide
/-- what a kind row is at most -/
theorem eff_small : ∀ n, n < 24 → (effs.getD n ([], [])).1.length ≤ 3 ∧ (effs.getD n ([], [])).2.length ≤ 2 := by decide

/-- another number, where the number is no name -/
def moreV (k : UInt8) (x : VI) : VI := if x.1 = 2 ∨ x.1 = 22 then (x.1, x.2 + k) else x
theorem moreV_fst (k : UInt8) (x : VI) : (moreV k x).1 = x.1 := by unfold moreV; split <;> rfl
theorem effV_more (k : UInt8) (x : VI) : effV (moreV k x) = effV x := by
  unfold moreV
  split
  · rename_i h
    obtain ⟨o, a⟩ := x
    rcases h with h | h <;> (simp only at h; subst h; rfl)
  · rfl
theorem thereV_more (nt inp : Nat) (role : UInt8) (bl : List Vb) (k : UInt8) (x : VI) : thereV nt inp role bl (moreV k x) = thereV nt inp role bl x := by
  unfold moreV
  split
  · rename_i h
    obtain ⟨o, a⟩ := x
    rcases h with h | h <;> (simp only at h; subst h; rfl)
  · rfl
theorem oneV_more (nt inp : Nat) (role : UInt8) (i : Nat) (k : UInt8) (x : VI) (s : Vs) : oneV nt inp role i (moreV k x) s = oneV nt inp role i x s := by
  have h1 : valuesV s.kinds (moreV k x) = valuesV s.kinds x := by unfold valuesV; rw [effV_more, moreV_fst]
  have h2 : ∀ s, turnsV i (moreV k x) s = turnsV i x s := fun s => by unfold turnsV; rw [moreV_fst]
  unfold oneV
  rw [thereV_more, h1, h2]
theorem runV_more (nt inp : Nat) (role : UInt8) (k : UInt8) : ∀ (code : List VI) (i : Nat) (s : Vs), runV nt inp role i (code.map (moreV k)) s = runV nt inp role i code s
  | [], _, _ => rfl
  | x :: r, i, s => by
    rw [List.map_cons, runV, runV, oneV_more]
    split
    · exact runV_more nt inp role k r (i + 1) _
    · rfl
theorem insOk_more (k : UInt8) (x : VI) : insOk (moreV k x) = insOk x := by
  unfold moreV
  split
  · rename_i h
    obtain ⟨o, a⟩ := x
    rcases h with h | h <;> (simp only at h; subst h; simp [insOk, hasArg])
  · rfl
theorem throughV_others {texts texts' : List (List UInt8)} (code : List VI) (k role : UInt8) (hl : texts'.length = texts.length) (h1 : ∀ s ∈ texts, s.length ≤ 64) (h2 : ∀ s ∈ texts', s.length ≤ 64) : throughV texts' (code.map (moreV k)) role = throughV texts code role := by
  have e1 : texts.all (fun s => decide (s.length ≤ 64)) = true := List.all_eq_true.2 fun s hs => decide_eq_true (h1 s hs)
  have e2 : texts'.all (fun s => decide (s.length ≤ 64)) = true := List.all_eq_true.2 fun s hs => decide_eq_true (h2 s hs)
  have e3 : (code.map (moreV k)).all insOk = code.all insOk := by
    rw [List.all_map]; congr 1; funext x; exact insOk_more k x
  have e4 : mayV texts' (code.map (moreV k)) = mayV texts code := by unfold mayV; rw [hl, List.length_map, e1, e2, e3]
  unfold throughV
  rw [e4, List.length_map, runV_more, hl]

/-- from a state that a run reached -/
theorem runV_app {nt inp : Nat} {role : UInt8} : ∀ (a b : List VI) (i : Nat) (s t : Vs) (n : Nat), runV nt inp role i a s = (n, 0, t) → overV role t = 0 → ∃ t', runV nt inp role i (a ++ b) s = runV nt inp role (i + a.length) b t' ∧ t'.kinds = t.kinds ∧ t'.blocks = t.blocks
  | [], b, i, s, t, n, h, _ => by
    rw [runV_nil] at h
    simp only [Prod.mk.injEq] at h
    exact ⟨s, by simp, by rw [h.2.2], by rw [h.2.2]⟩
  | x :: a, b, i, s, t, n, h, ho => by
    by_cases h0 : (oneV nt inp role i x s).1 = 0
    · rw [runV_ok h0] at h
      obtain ⟨t', h1, h2, h3⟩ := runV_app a b (i + 1) _ t n h ho
      exact ⟨t', by rw [List.cons_append, runV_ok h0, h1, List.length_cons]; congr 1; omega, h2, h3⟩
    · rw [runV_bad h0] at h
      simp only [Prod.mk.injEq] at h
      exact absurd h.2.1 h0
end Go.Proofs.YtahmacnmphjhgaaDoor
namespace Go.Proofs.YtahmacnmphjhgaaDoor

/-- what counts of a block -/
def Vb.core (b : Vb) : UInt8 × List UInt8 × List UInt8 × Bool := (b.op, b.want, b.opn, b.did)
theorem last_core {bl bl' : List Vb} (h : bl.map Vb.core = bl'.map Vb.core) : bl.getLast?.map Vb.core = bl'.getLast?.map Vb.core := by
  rw [← List.getLast?_map, ← List.getLast?_map, h]
theorem thereV_core {nt inp : Nat} {role : UInt8} {bl bl' : List Vb} (x : VI) (h : bl.map Vb.core = bl'.map Vb.core) : thereV nt inp role bl x = thereV nt inp role bl' x := by
  have hl : bl.length = bl'.length := by have := congrArg List.length h; simpa using this
  have hn : (bl = []) = (bl' = []) := by
    rw [← List.length_eq_zero_iff, ← List.length_eq_zero_iff, hl]
  have hg : elseBad bl.getLast? = elseBad bl'.getLast? := by
    have hc := last_core h
    cases h1 : bl.getLast? with
    | none => cases h2 : bl'.getLast? with
      | none => rfl
      | some b' => rw [h1, h2] at hc; cases hc
    | some b => cases h2 : bl'.getLast? with
      | none => rw [h1, h2] at hc; cases hc
      | some b' =>
        rw [h1, h2] at hc
        simp only [Option.map_some, Option.some.injEq, Vb.core, Prod.mk.injEq] at hc
        simp only [elseBad, hc.1, hc.2.2.2]
  unfold thereV
  simp only [hl, hn, hg]
/-- two states that go on alike -/
def Alike (s s' : Vs) : Prop := s.kinds = s'.kinds ∧ s.blocks.map Vb.core = s'.blocks.map Vb.core
theorem turnsV_alike {i i' : Nat} {x x' : VI} {s s' : Vs} (hx : x'.1 = x.1) (h : Alike s s') : (turnsV i x s).1 = (turnsV i' x' s').1 ∧ Alike (turnsV i x s).2 (turnsV i' x' s').2 := by
  obtain ⟨h1, h2⟩ := h
  unfold turnsV
  rw [hx]
  split
  · exact ⟨rfl, h1, by simp [h2, h1, Vb.core]⟩
  · split
    · exact ⟨rfl, by simp [h1], by simp [h2, h1, Vb.core]⟩
    · have hc := last_core h2
      have hd : s.blocks.dropLast.map Vb.core = s'.blocks.dropLast.map Vb.core := by rw [List.map_dropLast, List.map_dropLast, h2]
      split
      · cases e1 : s.blocks.getLast? with
        | none => cases e2 : s'.blocks.getLast? with
          | none => exact ⟨rfl, h1, h2⟩
          | some b' => rw [e1, e2] at hc; cases hc
        | some b => cases e2 : s'.blocks.getLast? with
          | none => rw [e1, e2] at hc; cases hc
          | some b' =>
            rw [e1, e2] at hc
            simp only [Option.map_some, Option.some.injEq, Vb.core, Prod.mk.injEq] at hc
            exact ⟨rfl, hc.2.2.1, by simp only [List.map_append, hd, List.map_cons, List.map_nil, Vb.core, hc.1, hc.2.2.1, h1]⟩
      · split
        · cases e1 : s.blocks.getLast? with
          | none => cases e2 : s'.blocks.getLast? with
            | none => exact ⟨rfl, h1, h2⟩
            | some b' => rw [e1, e2] at hc; cases hc
          | some b => cases e2 : s'.blocks.getLast? with
            | none => rw [e1, e2] at hc; cases hc
            | some b' =>
              rw [e1, e2] at hc
              simp only [Option.map_some, Option.some.injEq, Vb.core, Prod.mk.injEq] at hc
              simp only [h1, hc.2.1]
              split
              · exact ⟨rfl, rfl, hd⟩
              · exact ⟨rfl, h1, h2⟩
        · exact ⟨rfl, h1, h2⟩
theorem oneV_alike {nt nt' inp : Nat} {role : UInt8} {i i' : Nat} {x x' : VI} {s s' : Vs} (hx : x'.1 = x.1) (he : effV x' = effV x) (ht : thereV nt' inp role s'.blocks x' = thereV nt inp role s.blocks x) (h : Alike s s') :
    (oneV nt inp role i x s).1 = (oneV nt' inp role i' x' s').1 ∧ Alike (oneV nt inp role i x s).2 (oneV nt' inp role i' x' s').2 := by
  have hv : valuesV s'.kinds x' = valuesV s.kinds x := by unfold valuesV; rw [he, hx, h.1]
  unfold oneV
  rw [ht, hv]
  split
  · exact ⟨rfl, h⟩
  · split
    · exact ⟨rfl, h⟩
    · have := turnsV_alike (i := i) (i' := i') hx (s := { s with seen := s.seen ++ [s.kinds], kinds := (valuesV s.kinds x).2 }) (s' := { s' with seen := s'.seen ++ [s'.kinds], kinds := (valuesV s.kinds x).2 }) ⟨rfl, h.2⟩
      exact ⟨this.1, this.2.1, this.2.2⟩
theorem overV_alike {role : UInt8} {s s' : Vs} (h : Alike s s') : overV role s = overV role s' := by
  have hl : s.blocks.length = s'.blocks.length := by have := congrArg List.length h.2; simpa using this
  unfold overV
  rw [hl, h.1]
/-- texts of another program ahead -/
def shiftV (k : Nat) (x : VI) : VI := if x.1 = 1 then (x.1, x.2 + UInt8.ofNat k) else x
theorem shiftV_fst (k : Nat) (x : VI) : (shiftV k x).1 = x.1 := by unfold shiftV; split <;> rfl
theorem shiftV_eff (k : Nat) (x : VI) : effV (shiftV k x) = effV x := by
  unfold shiftV
  split
  · rename_i h
    obtain ⟨o, a⟩ := x
    simp only at h; subst h; rfl
  · rfl
theorem thereV_ok {nt nt' inp : Nat} {role : UInt8} {bl : List Vb} {x : VI} (hn : nt ≤ nt') (h : thereV nt inp role bl x = 0) : thereV nt' inp role bl x = 0 := by
  unfold thereV at h ⊢
  split at h
  · cases h
  · rename_i h0
    rw [if_neg (fun h1 => h0 ?_)]
    · exact h
    · rcases h1 with h1 | h1 | h1
      · exact .inl ⟨h1.1, by omega⟩
      · exact .inr (.inl h1)
      · exact .inr (.inr h1)
theorem thereV_shift {nt k inp : Nat} {role : UInt8} {bl : List Vb} {x : VI} (hk : nt + k ≤ 16) (h : thereV nt inp role bl x = 0) : thereV (k + nt) inp role bl (shiftV k x) = 0 := by
  unfold shiftV
  split
  · rename_i hx
    obtain ⟨o, a⟩ := x
    simp only at hx
    subst hx
    unfold thereV at h ⊢
    split at h
    · cases h
    · rename_i h0
      have ha : ¬ nt ≤ a.toNat := fun h1 => h0 (.inl ⟨rfl, h1⟩)
      have hs : (a + UInt8.ofNat k).toNat = a.toNat + k := by
        have h1 : (UInt8.ofNat k).toNat = k % 256 := rfl
        rw [UInt8.toNat_add, h1]
        omega
      rw [if_neg]
      · exact h
      · rintro (h1 | h1 | h1)
        · have h2 : k + nt ≤ (a + UInt8.ofNat k).toNat := h1.2
          omega
        · exact absurd (show (1 : UInt8) = 3 from h1.1) (by decide)
        · rcases h1.1 with h2 | h2
          · exact absurd (show (1 : UInt8) = 17 from h2) (by decide)
          · exact absurd (show (1 : UInt8) = 18 from h2) (by decide)
  · exact thereV_ok (by omega) h
theorem oneV_there {nt inp : Nat} {role : UInt8} {i : Nat} {x : VI} {s : Vs} (h : (oneV nt inp role i x s).1 = 0) : thereV nt inp role s.blocks x = 0 := by
  unfold oneV at h
  split at h
  · rename_i h0; exact absurd h h0
  · rename_i h0; simpa using h0
theorem runV_mono {nt nt' inp : Nat} {role : UInt8} (hn : nt ≤ nt') : ∀ (a : List VI) (i n : Nat) (s t : Vs), runV nt inp role i a s = (n, 0, t) → runV nt' inp role i a s = (n, 0, t)
  | [], i, n, s, t, h => h
  | x :: a, i, n, s, t, h => by
    by_cases h0 : (oneV nt inp role i x s).1 = 0
    · rw [runV_ok h0] at h
      have e : oneV nt' inp role i x s = oneV nt inp role i x s := by
        have h1 := oneV_there h0
        have h2 := thereV_ok hn h1
        unfold oneV
        rw [h1, h2]
      rw [runV_ok (by rw [e]; exact h0), e]
      exact runV_mono hn a (i + 1) n _ t h
    · rw [runV_bad h0] at h
      simp only [Prod.mk.injEq] at h
      exact absurd h.2.1 h0
theorem runV_shift {nt k inp : Nat} {role : UInt8} (hk : nt + k ≤ 16) : ∀ (a : List VI) (i j n : Nat) (s s' t : Vs), Alike s s' → runV nt inp role i a s = (n, 0, t) → ∃ m t', runV (k + nt) inp role j (a.map (shiftV k)) s' = (m, 0, t')
  | [], i, j, n, s, s', t, hs, h => by
    rw [runV_nil] at h
    simp only [Prod.mk.injEq] at h
    exact ⟨j, s', by rw [List.map_nil, runV_nil, ← overV_alike hs, h.2.1]⟩
  | x :: a, i, j, n, s, s', t, hs, h => by
    by_cases h0 : (oneV nt inp role i x s).1 = 0
    · rw [runV_ok h0] at h
      have h1 := oneV_there h0
      have h2 := thereV_shift hk h1
      rw [thereV_core (x := shiftV k x) hs.2] at h2
      have h3 := oneV_alike (i := i) (i' := j) (nt := nt) (nt' := k + nt) (shiftV_fst k x) (shiftV_eff k x) (by rw [h1, h2]) hs
      obtain ⟨m, t', h4⟩ := runV_shift hk a (i + 1) (j + 1) n _ _ t h3.2 h
      exact ⟨m, t', by rw [List.map_cons, runV_ok (by rw [← h3.1]; exact h0)]; exact h4⟩
    · rw [runV_bad h0] at h
      simp only [Prod.mk.injEq] at h
      exact absurd h.2.1 h0
theorem throughV_ok {texts : List (List UInt8)} {code : List VI} {role : UInt8} (h : (throughV texts code role).2.1 = 0) : mayV texts code = true ∧ roleOk role = true ∧ ∃ n, runV texts.length (inputsV role) role 0 code (startV code.length) = (n, 0, (throughV texts code role).2.2) := by
  unfold throughV at h ⊢
  split at h
  · rename_i hm
    rw [Bool.and_eq_true] at hm
    refine ⟨hm.1, hm.2, ?_⟩
    rw [if_pos (by rw [hm.1, hm.2]; rfl)]
    split at h
    · rename_i h0
      rw [if_pos h0]
      exact ⟨_, Prod.ext rfl (Prod.ext h0 rfl)⟩
    · rename_i h0
      exact absurd h h0
  · cases h
theorem over_map {s : Vs} (h : overV 1 s = 0) : s.kinds = [] ∧ s.blocks = [] := by
  unfold overV at h
  by_cases hb : 0 < s.blocks.length
  · rw [if_pos hb] at h; cases h
  · rw [if_neg hb] at h
    by_cases hk : s.kinds.length = (wantV 1).length
    · exact ⟨List.eq_nil_of_length_eq_zero hk, List.eq_nil_of_length_eq_zero (by omega)⟩
    · rw [if_pos hk] at h; cases h
/-- of two programs that are let be the program, one behind the other, is let be -/
theorem throughV_both {tp tq : List (List UInt8)} {cp cq : List VI} (ht : tp.length + tq.length ≤ 16) (hc : cp.length + cq.length ≤ 256) (hp : (throughV tp cp 1).2.1 = 0) (hq : (throughV tq cq 1).2.1 = 0) :
    (throughV (tp ++ tq) (cp ++ cq.map (shiftV tp.length)) 1).1 = 0 ∧ (throughV (tp ++ tq) (cp ++ cq.map (shiftV tp.length)) 1).2.1 = 0 := by
  obtain ⟨m1, r1, n1, h1⟩ := throughV_ok hp
  obtain ⟨m2, r2, n2, h2⟩ := throughV_ok hq
  have key : ∃ n t, runV (tp ++ tq).length (inputsV 1) 1 0 (cp ++ cq.map (shiftV tp.length)) (startV (cp ++ cq.map (shiftV tp.length)).length) = (n, 0, t) := by
    have run0 : ∀ (e : List Int) (a : List VI) (i n : Nat) (nt inp : Nat) (role : UInt8) (s t : Vs), runV nt inp role i a s = (n, 0, t) → ∀ s', Alike s s' → ∃ m t', runV nt inp role i a s' = (m, 0, t') ∧ Alike t t' := by
      intro e a
      induction a with
      | nil =>
        intro i n nt inp role s t h s' hs
        rw [runV_nil] at h ⊢
        simp only [Prod.mk.injEq] at h
        exact ⟨i, s', by rw [← overV_alike hs, h.2.1], by rw [← h.2.2]; exact hs⟩
      | cons x a ih =>
        intro i n nt inp role s t h s' hs
        by_cases h0 : (oneV nt inp role i x s).1 = 0
        · rw [runV_ok h0] at h
          have h3 := oneV_alike (i := i) (i' := i) (nt := nt) (nt' := nt) (inp := inp) (role := role) (x := x) rfl rfl (thereV_core x hs.2).symm hs
          obtain ⟨m, t', h4, h5⟩ := ih (i + 1) n nt inp role _ t h _ h3.2
          exact ⟨m, t', by rw [runV_ok (by rw [← h3.1]; exact h0)]; exact h4, h5⟩
        · rw [runV_bad h0] at h
          simp only [Prod.mk.injEq] at h
          exact absurd h.2.1 h0
    obtain ⟨m3, t3, h3, hs3⟩ := run0 [] cp 0 n1 _ _ _ _ _ h1 (startV (cp ++ cq.map (shiftV tp.length)).length) ⟨rfl, rfl⟩
    have h4 := runV_mono (nt' := (tp ++ tq).length) (by simp) cp 0 m3 _ _ h3
    have ho : overV 1 t3 = 0 := by
      have : ∀ (a : List VI) (i n nt inp : Nat) (s t : Vs), runV nt inp 1 i a s = (n, 0, t) → overV 1 t = 0 := by
        intro a
        induction a with
        | nil => intro i n nt inp s t h; rw [runV_nil] at h; simp only [Prod.mk.injEq] at h; rw [← h.2.2]; exact h.2.1
        | cons x a ih =>
          intro i n nt inp s t h
          by_cases h0 : (oneV nt inp 1 i x s).1 = 0
          · rw [runV_ok h0] at h; exact ih _ _ _ _ _ _ h
          · rw [runV_bad h0] at h; simp only [Prod.mk.injEq] at h; exact absurd h.2.1 h0
      exact this _ _ _ _ _ _ _ h4
    obtain ⟨t4, h5, hk, hb⟩ := runV_app cp (cq.map (shiftV tp.length)) 0 _ _ _ h4 ho
    have hal : Alike (startV cq.length) t4 := by
      obtain ⟨hk1, hb1⟩ := over_map ho
      exact ⟨by rw [hk, hk1]; rfl, by rw [hb, hb1]; rfl⟩
    obtain ⟨m6, t6, h6⟩ := runV_shift (k := tp.length) (by omega) cq 0 (0 + cp.length) n2 _ t4 _ hal h2
    rw [h5, List.length_append]
    exact ⟨m6, t6, h6⟩
  obtain ⟨n, t, h⟩ := key
  have hm : mayV (tp ++ tq) (cp ++ cq.map (shiftV tp.length)) = true := by
    unfold mayV at m1 m2 ⊢
    simp only [Bool.and_eq_true, decide_eq_true_eq] at m1 m2 ⊢
    have e : (cq.map (shiftV tp.length)).all insOk = true := by
      rw [List.all_map, List.all_eq_true]
      intro x hx
      have := List.all_eq_true.1 m2.2 x hx
      show insOk (shiftV _ x) = true
      unfold shiftV
      split
      · rename_i h
        obtain ⟨o, a⟩ := x
        simp only at h
        subst h
        simp [insOk, hasArg]
      · exact this
    refine ⟨⟨⟨by simp; omega, by simp; omega⟩, ?_⟩, ?_⟩
    · rw [List.all_append, m1.1.2, m2.1.2]; rfl
    · rw [List.all_append, m1.2, e]; rfl
  unfold throughV
  rw [if_pos (by rw [hm]; rfl), h]
  exact ⟨rfl, rfl⟩
end Go.Proofs.YtahmacnmphjhgaaDoor
namespace Go.Proofs.YtahmacnmphjhgaaDoor
open Go.RowKit Oct
attribute [local irreducible] wpG

/-- what holds of a state on the way -/
structure InvV (n : Nat) (s : Vs) : Prop where
  bl : s.blocks.length ≤ 8
  kl : s.kinds.length ≤ 16
  bs : ∀ b ∈ s.blocks, b.at_ < s.ends.length ∧ b.opn.length ≤ 16
  el : s.ends.length ≤ 256
  sl : s.seen.length ≤ n
  dl : s.deep ≤ 16
theorem thereV_blocks {nt inp : Nat} {role : UInt8} {bl : List Vb} {x : VI} (h : thereV nt inp role bl x = 0) : (x.1 = 20 ∨ x.1 = 21 → bl ≠ []) ∧ (x.1 = 19 ∨ x.1 = 22 → bl.length < 8) := by
  unfold thereV at h
  split at h
  · cases h
  split at h
  · cases h
  split at h
  · cases h
  rename_i h20
  split at h
  · cases h
  rename_i h21
  split at h
  · cases h
  rename_i h8
  refine ⟨?_, fun e => ?_⟩
  · rintro (e | e) hb
    · exact h20 ⟨e, by rw [hb]; rfl⟩
    · exact h21 ⟨e, hb⟩
  · rcases Nat.lt_or_ge bl.length 8 with h1 | h1
    · exact h1
    · exact absurd ⟨e, h1⟩ h8
theorem valuesV_len {k : List UInt8} {x : VI} (hk : k.length ≤ 16) : (valuesV k x).2.length ≤ 16 ∧ ((valuesV k x).1 = 0 → x.1 = 22 → (valuesV k x).2.length < 16) := by
  unfold valuesV
  split
  · exact ⟨hk, fun h => by cases h⟩
  split
  · exact ⟨hk, fun h => by cases h⟩
  split
  · exact ⟨hk, fun h => by cases h⟩
  rename_i h
  obtain ⟨r, hr⟩ : ∃ r, r = k.take (k.length - (effV x).1.length) ++ givesV (k.drop (k.length - (effV x).1.length)) (effV x).2 := ⟨_, rfl⟩
  rw [← hr] at h ⊢
  refine ⟨?_, fun _ e => ?_⟩
  · show r.length ≤ 16
    omega
  · show r.length < 16
    have hc : ¬ 16 ≤ r.length := fun h' => h (.inl ⟨e, h'⟩)
    omega
theorem InvV.one {nt inp : Nat} {role : UInt8} {i n : Nat} {x : VI} {s : Vs} (h : InvV n s) (hi : i < s.ends.length) (h0 : (oneV nt inp role i x s).1 = 0) : InvV (n + 1) (oneV nt inp role i x s).2 ∧ (oneV nt inp role i x s).2.ends.length = s.ends.length := by
  have ht := oneV_there h0
  obtain ⟨h2, h3⟩ := thereV_blocks ht
  unfold oneV at h0 ⊢
  rw [if_neg (by rw [ht]; simp)] at h0 ⊢
  split at h0
  · rename_i hv
    exact absurd h0 hv
  rename_i hv
  rw [if_neg hv]
  have hv0 : (valuesV s.kinds x).1 = 0 := by simpa using hv
  obtain ⟨hvl, hv22⟩ := valuesV_len (x := x) h.kl
  have hv22 := hv22 hv0
  clear h0 hv hv0
  obtain ⟨k', hk'⟩ : ∃ k', k' = (valuesV s.kinds x).2 := ⟨_, rfl⟩
  simp only [← hk']
  rw [← hk'] at hvl hv22
  have hsl : (s.seen ++ [s.kinds]).length ≤ n + 1 := by have := h.sl; simp; omega
  have hd := h.dl
  have hlast : ∀ b, s.blocks.getLast? = some b → b ∈ s.blocks := fun b hb => List.mem_of_getLast? hb
  unfold turnsV
  split
  · rename_i e
    refine ⟨⟨by have := h3 (.inl e); simp; omega, hvl, fun b hb => ?_, h.el, hsl, by show max s.deep k'.length ≤ 16; omega⟩, rfl⟩
    rcases List.mem_append.1 hb with hb | hb
    · exact h.bs b hb
    · rw [List.mem_singleton] at hb; subst hb; exact ⟨hi, hvl⟩
  · split
    · rename_i e
      have h16 := hv22 e
      refine ⟨⟨by have := h3 (.inr e); simp; omega, by show (k' ++ [84]).length ≤ 16; simp; omega, fun b hb => ?_, h.el, hsl, by show max s.deep (k' ++ [84]).length ≤ 16; simp; omega⟩, rfl⟩
      rcases List.mem_append.1 hb with hb | hb
      · exact h.bs b hb
      · rw [List.mem_singleton] at hb; subst hb; exact ⟨hi, hvl⟩
    · split
      · cases hb : s.blocks.getLast? with
        | none => exact ⟨⟨h.bl, hvl, h.bs, h.el, hsl, by show max s.deep k'.length ≤ 16; omega⟩, rfl⟩
        | some b =>
          have hbm := h.bs b (hlast b hb)
          refine ⟨⟨?_, hbm.2, fun b' hb' => ?_, by show (s.ends.set _ _).length ≤ 256; rw [List.length_set]; exact h.el, hsl, by show max s.deep b.opn.length ≤ 16; have := hbm.2; omega⟩, by show (s.ends.set _ _).length = _; rw [List.length_set]⟩
          · show (s.blocks.dropLast ++ [_]).length ≤ 8
            have := h.bl
            have hne : s.blocks ≠ [] := by rintro e; rw [e] at hb; cases hb
            have : 0 < s.blocks.length := List.length_pos_iff.2 hne
            simp; omega
          · show b'.at_ < (s.ends.set _ _).length ∧ _
            rw [List.length_set]
            rcases List.mem_append.1 hb' with h' | h'
            · exact h.bs b' ((List.dropLast_subset _ h'))
            · rw [List.mem_singleton] at h'; subst h'; exact ⟨hi, hbm.2⟩
      · split
        · cases hb : s.blocks.getLast? with
          | none => exact ⟨⟨h.bl, hvl, h.bs, h.el, hsl, by show max s.deep k'.length ≤ 16; omega⟩, rfl⟩
          | some b =>
            simp only
            split
            · refine ⟨⟨by show s.blocks.dropLast.length ≤ 8; have := h.bl; rw [List.length_dropLast]; omega, hvl, fun b' hb' => ?_, by show (s.ends.set _ _).length ≤ 256; rw [List.length_set]; exact h.el, hsl, by show max s.deep k'.length ≤ 16; omega⟩, by show (s.ends.set _ _).length = _; rw [List.length_set]⟩
              show b'.at_ < (s.ends.set _ _).length ∧ _
              rw [List.length_set]
              exact h.bs b' ((List.dropLast_subset _ hb'))
            · exact ⟨⟨h.bl, hvl, h.bs, h.el, hsl, by show max s.deep k'.length ≤ 16; omega⟩, rfl⟩
        · exact ⟨⟨h.bl, hvl, h.bs, h.el, hsl, by show max s.deep k'.length ≤ 16; omega⟩, rfl⟩
theorem valuesV_bad {k : List UInt8} {x : VI} (h : (valuesV k x).1 ≠ 0) : (valuesV k x).2 = k := by
  unfold valuesV at h ⊢
  split
  · rfl
  split
  · rfl
  split
  · rfl
  rename_i h1 h2 h3
  rw [if_neg h1, if_neg h2, if_neg h3] at h
  exact absurd rfl h
theorem turnsV_deep (i : Nat) (x : VI) (s : Vs) : (turnsV i x s).2.deep = s.deep := by
  unfold turnsV
  split
  · rfl
  split
  · rfl
  split
  · cases s.blocks.getLast? <;> rfl
  split
  · cases s.blocks.getLast? with
    | none => rfl
    | some b => simp only; split <;> rfl
  · rfl
theorem turnsV_kinds {i : Nat} {x : VI} {s : Vs} (hb : ∀ b ∈ s.blocks, b.opn.length ≤ 16) (hk : s.kinds.length ≤ 16) : (turnsV i x s).2.kinds.length ≤ 17 := by
  unfold turnsV
  split
  · exact Nat.le_succ_of_le hk
  split
  · show (s.kinds ++ [84]).length ≤ 17
    simp; omega
  split
  · cases h : s.blocks.getLast? with
    | none => exact Nat.le_succ_of_le hk
    | some b => exact Nat.le_succ_of_le (hb b (List.mem_of_getLast? h))
  split
  · cases h : s.blocks.getLast? with
    | none => exact Nat.le_succ_of_le hk
    | some b => simp only; split <;> exact Nat.le_succ_of_le hk
  · exact Nat.le_succ_of_le hk
section
variable {w : World} {base G : Nat} {cv bv sv ev : Value} {inp : Nat} {role : UInt8} {s : Vs} {nt ct n : Nat} {at_ : Option Addr}
set_option maxRecDepth 100000 in
set_option maxHeartbeats 8000000 in
theorem one_any (h : VG w base G (.slice at_ nt ct) cv inp role s bv sv ev) (hE : EffM w) (hg : 0 < base) (p a : UInt8) (i : Nat) (hp : p.toNat < 24) (hI : InvV n s) (hn : n ≤ 1000) (hnt : nt ≤ 1000) (hinp : inp ≤ 1000) (hi : i ≤ 1000) :
    Calls Tryd.prog 25 #[.pointer (some ⟨G, 0, none⟩), .int .i64 (i : Int), .agg #[.int .u8 (p.toNat : Int), .int .u8 (a.toNat : Int)]] w fun e w' => e = .returned (.int .i64 (((oneV nt inp role i (p, a) s).1 : Nat) : Int)) ∧ (∃ bv' sv', VG w' base G (.slice at_ nt ct) cv inp role (oneV nt inp role i (p, a) s).2 bv' sv' ev) ∧ Below base w w' := by
  have HH := Lib.hid h
  have hgw : G < w.heap.size := h.blk.lt
  have hbw : base ≤ w.heap.size := Nat.le_trans h.gb (Nat.le_of_lt hgw)
  obtain ⟨W1, hW1⟩ : ∃ W1, W1 = w.alloc (.cells #[.int .u8 (p.toNat : Int), .int .u8 (a.toNat : Int)] 33) := ⟨_, rfl⟩
  have hb1 : Below w.heap.size w W1 := by rw [hW1]; exact b_alloc _ _
  have hx : Blk W1 w.heap.size 33 [.int .u8 (p.toNat : Int), .int .u8 (a.toNat : Int)] := by rw [hW1]; exact Blk.new w _ _
  have h1 := h.below hb1
  have h1d := h1.below (b_drew W1)
  obtain ⟨_, ⟨a3, cs, rfl⟩, _⟩ := h.slices
  have x0 := hx.cell (k := 0) rfl
  have x1 := hx.cell (k := 1) rfl
  have c6 := h1.cell (k := 6) rfl
  have c4 := h1.cell (k := 4) rfl
  have hG1 : G < W1.heap.size := h1.blk.lt
  have hwl : w.heap.size < W1.heap.size := lt_of_cell x0
  have hgb : base ≤ W1.drew.heap.size := Nat.le_trans h1d.gb (Nat.le_of_lt h1d.blk.lt)
  have hby : (s.seen.length + 1) * 16 ≤ 140737488355328 := by have := hI.sl; omega
  have hod := h1d.os
  have H1D := Lib.hid h1d
  have HB1 := Lib.hid hb1
  have HBW := Lib.hid hbw
  have HE := Lib.hid hE
  have HI := Lib.hid hI
  have HW1 := Lib.hid hW1
  have hws : w.heap.size < W1.drew.heap.size := hwl
  clear h h1 h1d hx hb1 hE hI
  go_enter Tryd.func25, Tryd.ntmps25
  go_upto_region 1 with fail
  rw [← hW1]
  clear hW1
  go_cut [] (fun wx => ∃ sv', Hid (VG wx base G (.slice at_ nt ct) cv inp role { s with seen := s.seen ++ [s.kinds] } bv sv' ev) ∧ Hid (Below base w wx) ∧ wx.cell? ⟨w.heap.size, 0, none⟩ = some (.int .u8 (p.toNat : Int)) ∧ wx.cell? ⟨w.heap.size, 1, none⟩ = some (.int .u8 (a.toNat : Int)))
  case first =>
    go_region_law (refine recS.step_append1V W1.drew s.kinds rfl _ _ 22 rfl Tryd.underlying22 base (.slice a3 s.seen.length cs) s.seen rfl hod _ rfl _ rfl _ rfl hby hgb ?_; intro g gc w3 hown3 hc3 hg3; have hn3 := H1D.out.newS (sv' := .slice (some ⟨g, 0, none⟩) (s.seen.length + 1) gc) hc3 (fun k hk => by cases hk; exact hg3) hown3; have hb3 : Blk w3 G 57 _ := H1D.out.blk.chg hc3 (fun e => (H1D.out.a2 G e).1 rfl); have f6 := hb3.free (k := 6) (by simp); have c6' := hb3.cell (k := 6) rfl; have HN := Lib.hid hn3; have HC3 := Lib.hid hc3; clear hn3 hb3 hown3 hc3 hg3)
    all_goals
      go_wp2_with fail
      go_meet
      case rel =>
        have hnb : ¬ ((Value.slice a3 s.seen.length cs).ownBlock = some w.heap.size) := fun e => by
          have := (HH.out.os.ltV _ e).2
          omega
        have hbl := HC3.out
        have hbk : ∀ k v, W1.cell? ⟨w.heap.size, k, none⟩ = some v → (w3.setCell ⟨G, 6, none⟩ (.slice (some ⟨g, 0, none⟩) (s.seen.length + 1) gc)).cell? ⟨w.heap.size, k, none⟩ = some v := fun k v hv =>
          Chg.cell (X := fun k => k = G) (Chg.setCell _ _ _ rfl) (Chg.cell hbl ((World.cell?_of_block (by rfl)).trans hv) hnb) (fun e => by have : w.heap.size = G := e; omega)
        exact ⟨_, HN.out.1, ((bt HB1.out (b_drew W1)).mono HBW.out).trans HN.out.2, hbk 0 _ x0, hbk 1 _ x1⟩
  case rest =>
    obtain ⟨sv', HG, HBA, y0, y1⟩ := hcut
    have hbl8 := HI.out.bl
    obtain ⟨q, hq⟩ : ∃ q, q = thereV nt inp role s.blocks (p, a) := ⟨_, rfl⟩
    have HTH := Lib.hid (there_any HG.out p a (by show s.blocks.length ≤ 1000; omega) hnt hinp)
    go_wp2_with fail
    refine HTH.out.mono ?_
    rintro e w2 ⟨rfl, hB2⟩
    rw [show thereV nt inp role ({ s with seen := s.seen ++ [s.kinds] } : Vs).blocks (p, a) = q from hq.symm]
    have z0 := Below.keeps hB2 y0
    have z1 := Below.keeps hB2 y1
    have H2 := Lib.hid (HG.out.below hB2)
    have hbs2 : base ≤ wc.heap.size := Nat.le_trans HBW.out HBA.out.size
    have HB2 := Lib.hid (HBA.out.trans (hB2.mono hbs2))
    have HQ := Lib.hid hq
    clear hB2 hbs2 y0 y1 hq HTH hbl8
    by_cases hq0 : q = 0
    · have q1 : ((q : Int) != 0) = false := by rw [hq0]; rfl
      have HT0 := Lib.hid (show thereV nt inp role s.blocks (p, a) = 0 by rw [← HQ.out, hq0])
      clear hq0
      obtain ⟨x, hx⟩ : ∃ x, x = valuesV s.kinds (p, a) := ⟨_, rfl⟩
      have HVV := Lib.hid (values_any H2.out (HE.out.below HB2.out hg) hg p a hp (by show s.kinds.length ≤ 1000; have := HI.out.kl; omega))
      go_wp2_with fail
      refine HVV.out.mono ?_
      rintro e w3 ⟨rfl, hv3, hC3⟩
      rw [show valuesV ({ s with seen := s.seen ++ [s.kinds] } : Vs).kinds (p, a) = x from hx.symm] at hv3 ⊢
      have hGn : ∀ k, ¬ ((⟨w.heap.size, k, none⟩ : Addr).block = G) := fun k e => by have : w.heap.size = G := e; omega
      have u0 := hC3.cell z0 (hGn 0)
      have u1 := hC3.cell z1 (hGn 1)
      have H3 := Lib.hid hv3
      have HB3 := Lib.hid (HB2.out.trans (hC3.below (fun k hk => by rw [hk]; exact HH.out.gb) (Nat.le_trans HBW.out HB2.out.size)))
      have HX := Lib.hid hx
      clear hv3 hC3 hx z0 z1 hGn
      by_cases hx0 : x.1 = 0
      · have q2 : ((x.1 : Int) != 0) = false := by rw [hx0]; rfl
        have HV0 := Lib.hid (show (valuesV s.kinds (p, a)).1 = 0 by rw [← HX.out, hx0])
        have HTB := Lib.hid (thereV_blocks HT0.out)
        have hxl := (valuesV_len (x := (p, a)) HI.out.kl).1
        rw [← HX.out] at hxl
        obtain ⟨r, hr⟩ : ∃ r, r = turnsV i (p, a) { s with seen := s.seen ++ [s.kinds], kinds := x.2 } := ⟨_, rfl⟩
        have HTU := Lib.hid (turns_any H3.out p a i (by show s.blocks.length ≤ 1000; have := HI.out.bl; omega) (by show x.2.length ≤ 1000; omega) HTB.out.1 (fun b hb => (HI.out.bs b hb).1) (by show s.ends.length ≤ 1000; have := HI.out.el; omega) hi)
        have HON := Lib.hid (show oneV nt inp role i (p, a) s = (r.1, { r.2 with deep := max s.deep r.2.kinds.length }) by
          unfold oneV
          rw [HT0.out, HV0.out, ← HX.out, ← hr]
          rfl)
        have HRD := Lib.hid (show r.2.deep = s.deep by rw [hr, turnsV_deep])
        have hkr : r.2.kinds.length ≤ 17 := by rw [hr]; exact turnsV_kinds (fun b hb => (HI.out.bs b hb).2) hxl
        go_wp2_with fail
        refine HTU.out.mono ?_
        rintro e w4 ⟨rfl, ⟨bv', hv4⟩, hB4⟩
        rw [← hr] at hv4 ⊢
        have c8 := hv4.cell (k := 8) rfl
        have c4 := hv4.cell (k := 4) rfl
        have H4 := Lib.hid hv4
        have HB4 := Lib.hid (HB3.out.trans hB4)
        have d1 : (s.deep : Int) ≤ 16 := by have := HI.out.dl; omega
        have d2 : (r.2.kinds.length : Int) ≤ 17 := by omega
        rw [HRD.out] at c8
        clear hv4 hB4 hr u0 u1 hx0 hxl hkr
        go_upto_region 9 with fail
        refine region_tail 13 [(4, .exact _ (.int .i64 (s.deep : Int))), (8, .exact _ (.string (bs r.2.kinds)))] (by kernel_rfl) (by kernel_rfl) ?_
        simp only [List.take_succ_cons, List.take_zero, List.drop_succ_cons, List.drop_zero]
        (repeat (first | (refine wpG_skip (by kernel_rfl) (fun K hK => ?_); go_big_quiet_skip; refine wpQuiet_nil (hK _ ?_); clear hK K) | (refine wpG_quiet (by rfl) (by rfl) (fun K hK => ?_); go_big_quiet_want; go_big_quiet_op; go_big_quiet_on; refine wpQuiet_nil (hK _ ?_); clear hK K) | (refine wpG_nilOk rfl rfl rfl (by kernel_rfl) (fun K hK => ?_); go_simp; refine hK _ ?_; clear hK K)))
        repeat (refine wpG_exact rfl (by kernel_rfl) (fun w' G hB hS hG => ?_) (fun K hK => ?_); (have v0 := Below.keeps hB c8; have v1 := Below.keeps hB c4; go_simp; exact hG _ (Bel.refl _)); go_simp; refine hK _ ?_; clear hK K; (repeat (first | (refine wpG_skip (by kernel_rfl) (fun K hK => ?_); go_big_quiet_skip; refine wpQuiet_nil (hK _ ?_); clear hK K) | (refine wpG_quiet (by rfl) (by rfl) (fun K hK => ?_); go_big_quiet_want; go_big_quiet_op; go_big_quiet_on; refine wpQuiet_nil (hK _ ?_); clear hK K) | (refine wpG_nilOk rfl rfl rfl (by kernel_rfl) (fun K hK => ?_); go_simp; refine hK _ ?_; clear hK K))))
        refine wpG_nilV3 ?_
        intro w5 hB5 hA5
        have h5 := H4.out.below hB5
        have f8 := h5.free (k := 8) (by decide)
        have c8' := h5.cell (k := 8) rfl
        have hd5 := h5.deep (max s.deep r.2.kinds.length)
        have HD5 := Lib.hid hd5
        have HB5 := Lib.hid (HB4.out.trans (hB5.mono (Nat.le_trans HBW.out HB4.out.size)))
        clear h5 hd5 hB5 hA5 c8 c4
        rw [show (max (s.deep : Int) (r.2.kinds.length : Int)) = ((max s.deep r.2.kinds.length : Nat) : Int) by omega]
        go_wp2
        go_ret
        exact ⟨by rw [HON.out]; rfl, ⟨_, _, by rw [HON.out]; exact HD5.out.1⟩, HB5.out.trans HD5.out.2⟩
      · have q2 : ((x.1 : Int) != 0) = true := by rw [bne_iff_ne]; omega
        have hxk : x.2 = s.kinds := by rw [HX.out]; exact valuesV_bad (by rw [← HX.out]; exact hx0)
        have HON := Lib.hid (show oneV nt inp role i (p, a) s = (x.1, { s with seen := s.seen ++ [s.kinds] }) by unfold oneV; rw [HT0.out, ← HX.out, if_neg (by simp), if_pos hx0])
        rw [hxk] at H3
        clear hx0 hxk
        go_wp2_with fail
        go_ret
        exact ⟨by rw [HON.out]; rfl, ⟨_, _, by rw [HON.out]; exact H3.out⟩, HB3.out⟩
    · have q1 : ((q : Int) != 0) = true := by rw [bne_iff_ne]; omega
      have HON := Lib.hid (show oneV nt inp role i (p, a) s = (q, { s with seen := s.seen ++ [s.kinds] }) by unfold oneV; rw [← HQ.out, if_pos hq0])
      clear hq0
      go_wp2_with fail
      go_ret
      exact ⟨by rw [HON.out]; rfl, ⟨_, _, by rw [HON.out]; exact H2.out⟩, HB2.out⟩
set_option maxRecDepth 100000 in
set_option maxHeartbeats 4000000 in
theorem over_any {tv : Value} (h : VG w base G tv cv inp role s bv sv ev) (hl : s.blocks.length ≤ 1000) (hk : s.kinds.length ≤ 1000) :
    Calls Tryd.prog 26 #[.pointer (some ⟨G, 0, none⟩)] w fun e w' => e = .returned (.int .i64 ((overV role s : Nat) : Int)) ∧ w' = w := by
  have HL := Lib.hid (slen_any h)
  have c3 := h.cell (k := 3) rfl
  have c4 := h.cell (k := 4) rfl
  have l1 : (s.blocks.length : Int) ≤ 1000 := by omega
  have l2 : (s.kinds.length : Int) ≤ 1000 := by omega
  clear h
  by_cases hr : role = 1
  · have r1 : ((role.toNat : Int) == 1) = true := by rw [hr]; rfl
    by_cases hb : 0 < s.blocks.length
    · have b1 : (0 : Int) < (s.blocks.length : Int) := by omega
      have HO := Lib.hid (show overV role s = 132 by unfold overV; rw [if_pos hb])
      clear hb hr
      go_enter Tryd.func26, Tryd.ntmps26
      go_wp2_with fail
      refine HL.out.mono ?_
      rintro e w1 ⟨rfl, rfl⟩
      go_wp2_with fail
      go_ret
      exact ⟨by rw [HO.out]; rfl, rfl⟩
    · have b1 : ¬ (0 : Int) < (s.blocks.length : Int) := by omega
      by_cases hk0 : s.kinds.length = 0
      · have k1 : ((s.kinds.length : Int) != 0) = false := by rw [hk0]; rfl
        have hke : s.kinds = [] := List.eq_nil_of_length_eq_zero hk0
        have k2 : (s.kinds == []) = true := by rw [hke]; rfl
        have HO := Lib.hid (show overV role s = 0 by unfold overV wantV; rw [if_neg hb, if_pos hr, hke]; simp)
        clear hb hr hk0 hke
        go_enter Tryd.func26, Tryd.ntmps26
        go_wp2_with fail
        refine HL.out.mono ?_
        rintro e w1 ⟨rfl, rfl⟩
        go_wp2_with fail
        go_ret
        exact ⟨by rw [HO.out]; rfl, rfl⟩
      · have k1 : ((s.kinds.length : Int) != 0) = true := by rw [bne_iff_ne]; omega
        have HO := Lib.hid (show overV role s = 130 by unfold overV wantV; rw [if_neg hb, if_pos hr, if_pos (by simpa using hk0)])
        clear hb hr hk0
        go_enter Tryd.func26, Tryd.ntmps26
        go_wp2_with fail
        refine HL.out.mono ?_
        rintro e w1 ⟨rfl, rfl⟩
        go_wp2_with fail
        go_ret
        exact ⟨by rw [HO.out]; rfl, rfl⟩
  · have r1 : ((role.toNat : Int) == 1) = false := u8_ne (k := 1) (by decide) hr
    by_cases hb : 0 < s.blocks.length
    · have b1 : (0 : Int) < (s.blocks.length : Int) := by omega
      have HO := Lib.hid (show overV role s = 132 by unfold overV; rw [if_pos hb])
      clear hb hr
      go_enter Tryd.func26, Tryd.ntmps26
      go_wp2_with fail
      refine HL.out.mono ?_
      rintro e w1 ⟨rfl, rfl⟩
      go_wp2_with fail
      go_ret
      exact ⟨by rw [HO.out]; rfl, rfl⟩
    · have b1 : ¬ (0 : Int) < (s.blocks.length : Int) := by omega
      by_cases hk0 : s.kinds.length = 1
      · have k1 : ((s.kinds.length : Int) != 1) = false := by rw [hk0]; rfl
        by_cases hke : s.kinds = [84]
        · have k2 : (s.kinds == [84]) = true := by rw [hke]; rfl
          have HO := Lib.hid (show overV role s = 0 by unfold overV wantV; rw [if_neg hb, if_neg hr, hke]; simp)
          clear hb hr hk0 hke
          go_enter Tryd.func26, Tryd.ntmps26
          go_wp2_with fail
          refine HL.out.mono ?_
          rintro e w1 ⟨rfl, rfl⟩
          go_wp2_with fail
          go_ret
          exact ⟨by rw [HO.out]; rfl, rfl⟩
        · have k2 : (s.kinds == [84]) = false := by simpa using hke
          have HO := Lib.hid (show overV role s = 131 by unfold overV wantV; rw [if_neg hb, if_neg hr, if_neg (by rw [hk0]; simp), if_pos hke])
          clear hb hr hk0 hke
          go_enter Tryd.func26, Tryd.ntmps26
          go_wp2_with fail
          refine HL.out.mono ?_
          rintro e w1 ⟨rfl, rfl⟩
          go_wp2_with fail
          go_ret
          exact ⟨by rw [HO.out]; rfl, rfl⟩
      · have k1 : ((s.kinds.length : Int) != 1) = true := by rw [bne_iff_ne]; omega
        have HO := Lib.hid (show overV role s = 130 by unfold overV wantV; rw [if_neg hb, if_neg hr, if_pos (by simpa using hk0)])
        clear hb hr hk0
        go_enter Tryd.func26, Tryd.ntmps26
        go_wp2_with fail
        refine HL.out.mono ?_
        rintro e w1 ⟨rfl, rfl⟩
        go_wp2_with fail
        go_ret
        exact ⟨by rw [HO.out]; rfl, rfl⟩
end
end Go.Proofs.YtahmacnmphjhgaaDoor
namespace Go.Proofs.YtahmacnmphjhgaaDoor
open Go.RowKit Oct
theorem wpG_nilVA {P : Program} {ops : Array Oper} {C : World → Prop} {R : World → World → Prop} {F : Nat → Option (Known R)} {Q : Facts → Act → Prop} {k : Nat} {S : Facts} {a : Act} (h : Q S a) : wpG P ops C R F Q k [] S a := h
attribute [local irreducible] wpG
theorem u8_eq (p k : UInt8) : ((p.toNat : Int) == (k.toNat : Int)) = (p == k) := by
  by_cases h : p = k
  · subst h; simp
  · have h1 : (p == k) = false := by simpa using h
    rw [h1]
    have : p.toNat ≠ k.toNat := fun e => h (UInt8.toNat_inj.1 e)
    simp; omega
set_option maxRecDepth 100000 in
set_option maxHeartbeats 1000000 in
theorem chas_any (p : UInt8) (w : World) : Calls Tryd.prog 43 #[.int .u8 (p.toNat : Int)] w fun e w' => e = .returned (.bool (hasArg p)) ∧ w' = w := by
  by_cases h1 : p = 1
  · subst h1
    rw [show (((1 : UInt8).toNat : Nat) : Int) = 1 from rfl]
    go_enter Tryd.func43, Tryd.ntmps43
    go_wp2
    go_ret
    exact ⟨rfl, rfl⟩
  by_cases h2 : p = 2
  · subst h2
    rw [show (((2 : UInt8).toNat : Nat) : Int) = 2 from rfl]
    go_enter Tryd.func43, Tryd.ntmps43
    go_wp2
    go_ret
    exact ⟨rfl, rfl⟩
  by_cases h3 : p = 3
  · subst h3
    rw [show (((3 : UInt8).toNat : Nat) : Int) = 3 from rfl]
    go_enter Tryd.func43, Tryd.ntmps43
    go_wp2
    go_ret
    exact ⟨rfl, rfl⟩
  by_cases h17 : p = 17
  · subst h17
    rw [show (((17 : UInt8).toNat : Nat) : Int) = 17 from rfl]
    go_enter Tryd.func43, Tryd.ntmps43
    go_wp2
    go_ret
    exact ⟨rfl, rfl⟩
  by_cases h18 : p = 18
  · subst h18
    rw [show (((18 : UInt8).toNat : Nat) : Int) = 18 from rfl]
    go_enter Tryd.func43, Tryd.ntmps43
    go_wp2
    go_ret
    exact ⟨rfl, rfl⟩
  by_cases h22 : p = 22
  · subst h22
    rw [show (((22 : UInt8).toNat : Nat) : Int) = 22 from rfl]
    go_enter Tryd.func43, Tryd.ntmps43
    go_wp2
    go_ret
    exact ⟨rfl, rfl⟩
  have q1 : ((p.toNat : Int) == 1) = false := u8_ne (by decide) h1
  have q2 : ((p.toNat : Int) == 2) = false := u8_ne (by decide) h2
  have q3 : ((p.toNat : Int) == 3) = false := u8_ne (by decide) h3
  have q17 : ((p.toNat : Int) == 17) = false := u8_ne (by decide) h17
  have q18 : ((p.toNat : Int) == 18) = false := u8_ne (by decide) h18
  have q22 : ((p.toNat : Int) == 22) = false := u8_ne (by decide) h22
  have HE := Lib.hid (show hasArg p = false by unfold hasArg; simp [h1, h2, h3, h17, h18, h22])
  go_enter Tryd.func43, Tryd.ntmps43
  go_wp2
  go_ret
  exact ⟨by rw [HE.out]; rfl, rfl⟩
set_option maxRecDepth 100000 in
set_option maxHeartbeats 1000000 in
theorem rHas_any (p : UInt8) (w : World) : Calls Tryd.prog 41 #[.int .u8 (p.toNat : Int)] w fun e w' => e = .returned (.bool (hasArg p)) ∧ w' = w := by
  by_cases h1 : p = 1
  · subst h1
    rw [show (((1 : UInt8).toNat : Nat) : Int) = 1 from rfl]
    go_enter Tryd.func41, Tryd.ntmps41
    go_wp2
    go_ret
    exact ⟨rfl, rfl⟩
  by_cases h2 : p = 2
  · subst h2
    rw [show (((2 : UInt8).toNat : Nat) : Int) = 2 from rfl]
    go_enter Tryd.func41, Tryd.ntmps41
    go_wp2
    go_ret
    exact ⟨rfl, rfl⟩
  by_cases h3 : p = 3
  · subst h3
    rw [show (((3 : UInt8).toNat : Nat) : Int) = 3 from rfl]
    go_enter Tryd.func41, Tryd.ntmps41
    go_wp2
    go_ret
    exact ⟨rfl, rfl⟩
  by_cases h17 : p = 17
  · subst h17
    rw [show (((17 : UInt8).toNat : Nat) : Int) = 17 from rfl]
    go_enter Tryd.func41, Tryd.ntmps41
    go_wp2
    go_ret
    exact ⟨rfl, rfl⟩
  by_cases h18 : p = 18
  · subst h18
    rw [show (((18 : UInt8).toNat : Nat) : Int) = 18 from rfl]
    go_enter Tryd.func41, Tryd.ntmps41
    go_wp2
    go_ret
    exact ⟨rfl, rfl⟩
  by_cases h22 : p = 22
  · subst h22
    rw [show (((22 : UInt8).toNat : Nat) : Int) = 22 from rfl]
    go_enter Tryd.func41, Tryd.ntmps41
    go_wp2
    go_ret
    exact ⟨rfl, rfl⟩
  have q1 : ((p.toNat : Int) == 1) = false := u8_ne (by decide) h1
  have q2 : ((p.toNat : Int) == 2) = false := u8_ne (by decide) h2
  have q3 : ((p.toNat : Int) == 3) = false := u8_ne (by decide) h3
  have q17 : ((p.toNat : Int) == 17) = false := u8_ne (by decide) h17
  have q18 : ((p.toNat : Int) == 18) = false := u8_ne (by decide) h18
  have q22 : ((p.toNat : Int) == 22) = false := u8_ne (by decide) h22
  have HE := Lib.hid (show hasArg p = false by unfold hasArg; simp [h1, h2, h3, h17, h18, h22])
  go_enter Tryd.func41, Tryd.ntmps41
  go_wp2
  go_ret
  exact ⟨by rw [HE.out]; rfl, rfl⟩
set_option maxRecDepth 100000 in
set_option maxHeartbeats 4000000 in
theorem cins_any (x : VI) (w : World) : Calls Tryd.prog 34 #[.agg #[.int .u8 (x.1.toNat : Int), .int .u8 (x.2.toNat : Int)]] w fun e w' => e = .returned (.bool (insOk x)) ∧ Below w.heap.size w w' := by
  obtain ⟨p, a⟩ := x
  show Calls Tryd.prog 34 #[.agg #[.int .u8 (p.toNat : Int), .int .u8 (a.toNat : Int)]] w _
  obtain ⟨W1, hW1⟩ : ∃ W1, W1 = w.alloc (.cells #[.int .u8 (p.toNat : Int), .int .u8 (a.toNat : Int)] 33) := ⟨_, rfl⟩
  have hb1 : Below w.heap.size w W1 := by rw [hW1]; exact b_alloc _ _
  have hx : Blk W1 w.heap.size 33 [.int .u8 (p.toNat : Int), .int .u8 (a.toNat : Int)] := by rw [hW1]; exact Blk.new w _ _
  have x0 := hx.cell (k := 0) rfl
  have x1 := hx.cell (k := 1) rfl
  have HB1 := Lib.hid hb1
  clear hx hb1
  by_cases h1 : 1 ≤ p.toNat
  · have q1 : (1 : Int) ≤ (p.toNat : Int) := by omega
    by_cases h2 : p.toNat ≤ 23
    · have q2 : (p.toNat : Int) ≤ 23 := by omega
      by_cases h3 : a = 0
      · subst h3
        rw [show (((0 : UInt8).toNat : Nat) : Int) = 0 from rfl] at hW1 x1 ⊢
        have HE := Lib.hid (show insOk (p, 0) = true by unfold insOk; simp [h1, h2])
        go_enter Tryd.func34, Tryd.ntmps34
        go_upto_region 1 with fail
        rw [← hW1]
        clear hW1
        go_wp2_with fail
        go_ret
        exact ⟨by rw [HE.out]; rfl, HB1.out⟩
      · have q3 : ((a.toNat : Int) == 0) = false := u8_ne (by decide) h3
        obtain ⟨q, hq⟩ : ∃ q, q = hasArg p := ⟨_, rfl⟩
        have HC := Lib.hid (fun w' => chas_any p w')
        rw [← hq] at HC
        have HE := Lib.hid (show insOk (p, a) = q by unfold insOk; rw [hq]; simp [h1, h2, h3])
        clear hq
        go_enter Tryd.func34, Tryd.ntmps34
        go_upto_region 1 with fail
        rw [← hW1]
        clear hW1
        go_wp2_with fail
        refine (HC.out _).mono ?_
        rintro e w3 ⟨rfl, rfl⟩
        go_wp2_with fail
        go_ret
        exact ⟨by rw [HE.out]; rfl, HB1.out⟩
    · have q2 : ¬ (p.toNat : Int) ≤ 23 := by omega
      have HE := Lib.hid (show insOk (p, a) = false by unfold insOk; simp [h2])
      go_enter Tryd.func34, Tryd.ntmps34
      go_upto_region 1 with fail
      rw [← hW1]
      clear hW1
      go_wp2_with fail
      go_ret
      exact ⟨by rw [HE.out]; rfl, HB1.out⟩
  · have q1 : ¬ (1 : Int) ≤ (p.toNat : Int) := by omega
    have HE := Lib.hid (show insOk (p, a) = false by unfold insOk; simp [h1])
    go_enter Tryd.func34, Tryd.ntmps34
    go_upto_region 1 with fail
    rw [← hW1]
    clear hW1
    go_wp2_with fail
    go_ret
    exact ⟨by rw [HE.out]; rfl, HB1.out⟩
set_option maxRecDepth 100000 in
set_option maxHeartbeats 4000000 in
theorem rIns_any (x : VI) (w : World) : Calls Tryd.prog 27 #[.agg #[.int .u8 (x.1.toNat : Int), .int .u8 (x.2.toNat : Int)]] w fun e w' => e = .returned (.bool (insOk x)) ∧ Below w.heap.size w w' := by
  obtain ⟨p, a⟩ := x
  show Calls Tryd.prog 27 #[.agg #[.int .u8 (p.toNat : Int), .int .u8 (a.toNat : Int)]] w _
  obtain ⟨W1, hW1⟩ : ∃ W1, W1 = w.alloc (.cells #[.int .u8 (p.toNat : Int), .int .u8 (a.toNat : Int)] 33) := ⟨_, rfl⟩
  have hb1 : Below w.heap.size w W1 := by rw [hW1]; exact b_alloc _ _
  have hx : Blk W1 w.heap.size 33 [.int .u8 (p.toNat : Int), .int .u8 (a.toNat : Int)] := by rw [hW1]; exact Blk.new w _ _
  have x0 := hx.cell (k := 0) rfl
  have x1 := hx.cell (k := 1) rfl
  have HB1 := Lib.hid hb1
  clear hx hb1
  by_cases h1 : 1 ≤ p.toNat
  · have q1 : (1 : Int) ≤ (p.toNat : Int) := by omega
    by_cases h2 : p.toNat ≤ 23
    · have q2 : (p.toNat : Int) ≤ 23 := by omega
      by_cases h3 : a = 0
      · subst h3
        rw [show (((0 : UInt8).toNat : Nat) : Int) = 0 from rfl] at hW1 x1 ⊢
        have HE := Lib.hid (show insOk (p, 0) = true by unfold insOk; simp [h1, h2])
        go_enter Tryd.func27, Tryd.ntmps27
        go_upto_region 1 with fail
        rw [← hW1]
        clear hW1
        go_wp2_with fail
        go_ret
        exact ⟨by rw [HE.out]; rfl, HB1.out⟩
      · have q3 : ((a.toNat : Int) == 0) = false := u8_ne (by decide) h3
        obtain ⟨q, hq⟩ : ∃ q, q = hasArg p := ⟨_, rfl⟩
        have HC := Lib.hid (fun w' => rHas_any p w')
        rw [← hq] at HC
        have HE := Lib.hid (show insOk (p, a) = q by unfold insOk; rw [hq]; simp [h1, h2, h3])
        clear hq
        go_enter Tryd.func27, Tryd.ntmps27
        go_upto_region 1 with fail
        rw [← hW1]
        clear hW1
        go_wp2_with fail
        refine (HC.out _).mono ?_
        rintro e w3 ⟨rfl, rfl⟩
        go_wp2_with fail
        go_ret
        exact ⟨by rw [HE.out]; rfl, HB1.out⟩
    · have q2 : ¬ (p.toNat : Int) ≤ 23 := by omega
      have HE := Lib.hid (show insOk (p, a) = false by unfold insOk; simp [h2])
      go_enter Tryd.func27, Tryd.ntmps27
      go_upto_region 1 with fail
      rw [← hW1]
      clear hW1
      go_wp2_with fail
      go_ret
      exact ⟨by rw [HE.out]; rfl, HB1.out⟩
  · have q1 : ¬ (1 : Int) ≤ (p.toNat : Int) := by omega
    have HE := Lib.hid (show insOk (p, a) = false by unfold insOk; simp [h1])
    go_enter Tryd.func27, Tryd.ntmps27
    go_upto_region 1 with fail
    rw [← hW1]
    clear hW1
    go_wp2_with fail
    go_ret
    exact ⟨by rw [HE.out]; rfl, HB1.out⟩

/-- the bad ones of a row -/
def longOk (s : List UInt8) : Bool := decide (s.length ≤ 64)
theorem long_any (s : List UInt8) (w : World) (hs : s.length ≤ 140737488355328) : Calls Tryd.prog 32 #[.string (bs s)] w fun e w' => e = .returned (.bool (!longOk s)) ∧ Below w.heap.size w w' := by
  have h63 : (s.length : Int) ≤ 140737488355328 := by omega
  by_cases h : s.length ≤ 64
  · have h1 : ¬ (64 : Int) < (s.length : Int) := by omega
    have HE := Lib.hid (show longOk s = true by unfold longOk; simp [h])
    clear h
    go_enter Tryd.func32, Tryd.ntmps32
    go_wp2
    go_ret
    exact ⟨by rw [HE.out]; rfl, Below.refl _ _⟩
  · have h1 : (64 : Int) < (s.length : Int) := by omega
    have HE := Lib.hid (show longOk s = false by unfold longOk; simp [h])
    clear h
    go_enter Tryd.func32, Tryd.ntmps32
    go_wp2
    go_ret
    exact ⟨by rw [HE.out]; rfl, Below.refl _ _⟩
theorem badIns_any (x : VI) (w : World) : Calls Tryd.prog 33 #[.agg #[.int .u8 (x.1.toNat : Int), .int .u8 (x.2.toNat : Int)]] w fun e w' => e = .returned (.bool (!insOk x)) ∧ Below w.heap.size w w' := by
  have HC := Lib.hid (cins_any x)
  obtain ⟨q, hq⟩ : ∃ q, q = insOk x := ⟨_, rfl⟩
  rw [← hq] at HC ⊢
  clear hq
  obtain ⟨W1, hW1⟩ : ∃ W1, W1 = w.alloc (.cells #[.int .u8 (x.1.toNat : Int), .int .u8 (x.2.toNat : Int)] 33) := ⟨_, rfl⟩
  have hb1 : Below w.heap.size w W1 := by rw [hW1]; exact b_alloc _ _
  have hx : Blk W1 w.heap.size 33 [.int .u8 (x.1.toNat : Int), .int .u8 (x.2.toNat : Int)] := by rw [hW1]; exact Blk.new w _ _
  have x0 := hx.cell (k := 0) rfl
  have x1 := hx.cell (k := 1) rfl
  have HB1 := Lib.hid hb1
  clear hx hb1
  go_enter Tryd.func33, Tryd.ntmps33
  go_upto_region 1 with fail
  rw [← hW1]
  clear hW1
  go_wp2_with fail
  refine (HC.out _).mono ?_
  rintro e w3 ⟨rfl, hB3⟩
  have HB3 := Lib.hid (bt HB1.out hB3)
  clear hB3
  go_wp2_with fail
  go_ret
  exact ⟨rfl, HB3.out⟩
end Go.Proofs.YtahmacnmphjhgaaDoor
namespace Go.Proofs.YtahmacnmphjhgaaDoor
open Go.RowKit Oct
attribute [local irreducible] wpG
theorem recIns_open {w : World} {v : Value} {l : List VI} (h : recIns.Row w v l) : ∃ a cap, v = .slice a l.length cap ∧ l.length ≤ cap ∧ ∀ k (hk : k < l.length), ∃ b off, a = some ⟨b, off, none⟩ ∧ w.cell? ⟨b, off + k * 2, none⟩ = some (.int .u8 (l[k].1.toNat : Int)) ∧ w.cell? ⟨b, off + k * 2 + 1, none⟩ = some (.int .u8 (l[k].2.toNat : Int)) := by
  obtain ⟨a, cap, hv, hle, hc⟩ := h.open
  refine ⟨a, cap, hv, hle, fun k hk => ?_⟩
  obtain ⟨b, off, ha, hu⟩ := hc k hk
  exact ⟨b, off, ha, hu 0 _ rfl, hu 1 _ rfl⟩
theorem all_false {α : Type} {f : α → Bool} {l : List α} (k : Nat) (h : k < l.length) (hk : f l[k] = false) : l.all f = false := by
  rw [List.all_eq_false]
  exact ⟨l[k], List.getElem_mem h, by rw [hk]; simp⟩
theorem all_true {α : Type} {f : α → Bool} {l : List α} (h : ∀ k (hk : k < l.length), f l[k] = true) : l.all f = true := by
  rw [List.all_eq_true]
  intro t ht
  obtain ⟨k, hk, rfl⟩ := List.getElem_of_mem ht
  exact h k hk
set_option maxRecDepth 100000 in
set_option maxHeartbeats 1000000 in
theorem index_long (v : Value) (l : List (List UInt8)) (w : World) (hr : recS.Row w v l) (hl : l.length ≤ 140737488355328) (hm : ∀ s ∈ l, s.length ≤ 140737488355328) :
    Calls Tryd.prog 44 #[v, .func (.func 32) #[] #[]] w fun e w' => (∃ i : Int, e = .returned (.int .i64 i) ∧ decide (0 ≤ i) = !l.all longOk) ∧ Below w.heap.size w w' := by
  obtain ⟨a, cap, rfl, _, hc⟩ := recS_open hr
  have HC := Lib.hid hc
  have HM := Lib.hid hm
  clear hc hr hm
  go_enter Tryd.func44, Tryd.ntmps44
  go_wp2
  go_loopw [8] (fun t wr => ∃ i : Nat, i ≤ l.length ∧ t = .int .i64 (i : Int) ∧ Hid (∀ j (hj : j < l.length), j < i → longOk l[j] = true) ∧ Hid (Below w.heap.size w wr)) (fun t _ => l.length - (intOf t).toNat)
  case atStart => exact ⟨0, by omega, rfl, fun j _ h => absurd h (by omega), Below.refl _ _⟩
  case round =>
    obtain ⟨i, hi, rfl, hH, hB⟩ := hrel
    by_cases h0 : i < l.length
    · obtain ⟨b, off, rfl, c0⟩ := HC.out i h0
      have e0 := Below.keeps hB.out c0
      clear c0
      have kk0 : (0 : Int) ≤ (i : Int) := by omega
      have kk1 : (i : Int) < (l.length : Int) := by omega
      have hml := HM.out l[i] (List.getElem_mem h0)
      have HBD := Lib.hid (long_any l[i] wr hml)
      clear hml
      obtain ⟨q, hq⟩ : ∃ q, q = longOk l[i] := ⟨_, rfl⟩
      rw [← hq] at HBD
      have HQ := Lib.hid hq
      clear hq
      cases q with
      | false =>
        go_wp2_with fail
        refine HBD.out.mono ?_
        rintro e w1 ⟨rfl, hB1⟩
        have HB1 := Lib.hid (bt hB.out hB1)
        clear hB1
        go_wp2
        go_ret
        exact ⟨⟨_, rfl, by rw [all_false i h0 HQ.out.symm]; simp⟩, HB1.out⟩
      | true =>
        go_wp2_with fail
        refine HBD.out.mono ?_
        rintro e w1 ⟨rfl, hB1⟩
        have HB1 := Lib.hid (bt hB.out hB1)
        clear hB1
        go_wp2
        go_roundw
        case rel =>
          refine ⟨i + 1, by omega, by go_num, ?_, HB1.out⟩
          intro j hj hji
          by_cases e : j = i
          · subst e; exact HQ.out.symm
          · exact hH.out j hj (by omega)
        case measure => simp [intOf]; omega
    · have HF := Lib.hid (all_true (f := longOk) fun k hk => hH.out k hk (by omega))
      obtain rfl : i = l.length := by omega
      go_wp2
      go_ret
      exact ⟨⟨_, rfl, by rw [HF.out]; rfl⟩, hB.out⟩
set_option maxRecDepth 100000 in
theorem contains_long (v : Value) (l : List (List UInt8)) (w : World) (hr : recS.Row w v l) (hl : l.length ≤ 140737488355328) (hm : ∀ s ∈ l, s.length ≤ 140737488355328) :
    Calls Tryd.prog 35 #[v, .func (.func 32) #[] #[]] w fun e w' => e = .returned (.bool (!l.all longOk)) ∧ Below w.heap.size w w' := by
  have hix := index_long v l w hr hl hm
  obtain ⟨a, cap, rfl, _, _⟩ := recS_open hr
  have HIX := Lib.hid hix
  clear hix hr hm
  go_enter Tryd.func35, Tryd.ntmps35
  go_wp2_with fail
  refine HIX.out.mono ?_
  rintro e w1 ⟨⟨i, rfl, hi⟩, hB1⟩
  have HB1 := Lib.hid hB1
  clear hB1
  obtain ⟨q, hq⟩ : ∃ q, q = !l.all longOk := ⟨_, rfl⟩
  rw [← hq] at hi
  have HQ := Lib.hid hq
  clear hq
  cases q with
  | false =>
    have hi' : ¬ (0 : Int) ≤ i := of_decide_eq_false hi
    clear hi
    go_wp2
    go_ret
    exact ⟨by rw [← HQ.out]; simp [hi'], HB1.out⟩
  | true =>
    have hi' : (0 : Int) ≤ i := of_decide_eq_true hi
    clear hi
    go_wp2
    go_ret
    exact ⟨by rw [← HQ.out]; simp [hi'], HB1.out⟩
set_option maxRecDepth 100000 in
set_option maxHeartbeats 1000000 in
theorem index_badIns (v : Value) (l : List VI) (w : World) (hr : recIns.Row w v l) (hl : l.length ≤ 140737488355328) :
    Calls Tryd.prog 45 #[v, .func (.func 33) #[] #[]] w fun e w' => (∃ i : Int, e = .returned (.int .i64 i) ∧ decide (0 ≤ i) = !l.all insOk) ∧ Below w.heap.size w w' := by
  obtain ⟨a, cap, rfl, _, hc⟩ := recIns_open hr
  have HC := Lib.hid hc
  clear hc hr
  go_enter Tryd.func45, Tryd.ntmps45
  go_wp2
  go_loopw [8] (fun t wr => ∃ i : Nat, i ≤ l.length ∧ t = .int .i64 (i : Int) ∧ Hid (∀ j (hj : j < l.length), j < i → insOk l[j] = true) ∧ Hid (Below w.heap.size w wr)) (fun t _ => l.length - (intOf t).toNat)
  case atStart => exact ⟨0, by omega, rfl, fun j _ h => absurd h (by omega), Below.refl _ _⟩
  case round =>
    obtain ⟨i, hi, rfl, hH, hB⟩ := hrel
    by_cases h0 : i < l.length
    · obtain ⟨b, off, rfl, c0, c1⟩ := HC.out i h0
      have e0 := Below.keeps hB.out c0
      have e1 := Below.keeps hB.out c1
      clear c0 c1
      have kk0 : (0 : Int) ≤ (i : Int) := by omega
      have kk1 : (i : Int) < (l.length : Int) := by omega
      have HBD := Lib.hid (badIns_any l[i] wr)
      obtain ⟨q, hq⟩ : ∃ q, q = insOk l[i] := ⟨_, rfl⟩
      rw [← hq] at HBD
      have HQ := Lib.hid hq
      clear hq
      cases q with
      | false =>
        go_wp2_with fail
        refine HBD.out.mono ?_
        rintro e w1 ⟨rfl, hB1⟩
        have HB1 := Lib.hid (bt hB.out hB1)
        clear hB1
        go_wp2
        go_ret
        exact ⟨⟨_, rfl, by rw [all_false i h0 HQ.out.symm]; simp⟩, HB1.out⟩
      | true =>
        go_wp2_with fail
        refine HBD.out.mono ?_
        rintro e w1 ⟨rfl, hB1⟩
        have HB1 := Lib.hid (bt hB.out hB1)
        clear hB1
        go_wp2
        go_roundw
        case rel =>
          refine ⟨i + 1, by omega, by go_num, ?_, HB1.out⟩
          intro j hj hji
          by_cases e : j = i
          · subst e; exact HQ.out.symm
          · exact hH.out j hj (by omega)
        case measure => simp [intOf]; omega
    · have HF := Lib.hid (all_true (f := insOk) fun k hk => hH.out k hk (by omega))
      obtain rfl : i = l.length := by omega
      go_wp2
      go_ret
      exact ⟨⟨_, rfl, by rw [HF.out]; rfl⟩, hB.out⟩
set_option maxRecDepth 100000 in
theorem contains_badIns (v : Value) (l : List VI) (w : World) (hr : recIns.Row w v l) (hl : l.length ≤ 140737488355328) :
    Calls Tryd.prog 36 #[v, .func (.func 33) #[] #[]] w fun e w' => e = .returned (.bool (!l.all insOk)) ∧ Below w.heap.size w w' := by
  have hix := index_badIns v l w hr hl
  obtain ⟨a, cap, rfl, _, _⟩ := recIns_open hr
  have HIX := Lib.hid hix
  clear hix hr
  go_enter Tryd.func36, Tryd.ntmps36
  go_wp2_with fail
  refine HIX.out.mono ?_
  rintro e w1 ⟨⟨i, rfl, hi⟩, hB1⟩
  have HB1 := Lib.hid hB1
  clear hB1
  obtain ⟨q, hq⟩ : ∃ q, q = !l.all insOk := ⟨_, rfl⟩
  rw [← hq] at hi
  have HQ := Lib.hid hq
  clear hq
  cases q with
  | false =>
    have hi' : ¬ (0 : Int) ≤ i := of_decide_eq_false hi
    clear hi
    go_wp2
    go_ret
    exact ⟨by rw [← HQ.out]; simp [hi'], HB1.out⟩
  | true =>
    have hi' : (0 : Int) ≤ i := of_decide_eq_true hi
    clear hi
    go_wp2
    go_ret
    exact ⟨by rw [← HQ.out]; simp [hi'], HB1.out⟩

theorem mayV_all (texts : List (List UInt8)) (code : List VI) : mayV texts code = (decide (texts.length ≤ 16) && decide (code.length ≤ 256) && texts.all longOk && code.all insOk) := rfl
set_option maxRecDepth 100000 in
set_option maxHeartbeats 4000000 in
theorem CCheck_any (tv cv : Value) (texts : List (List UInt8)) (code : List VI) (w : World) (ht : recS.Row w tv texts) (hc : recIns.Row w cv code) (hlt : texts.length ≤ 140737488355328) (hlc : code.length ≤ 140737488355328) (hm : ∀ s ∈ texts, s.length ≤ 140737488355328) :
    Calls Tryd.prog 24 #[.agg #[tv, cv]] w fun e w' => e = .returned (.int .i64 (if mayV texts code = true then 0 else 2)) ∧ Below w.heap.size w w' := by
  have HT := Lib.hid (fun w' (hB : Below w.heap.size w w') => contains_long tv texts w' (ht.below hB) hlt hm)
  have HCC := Lib.hid (fun w' (hB : Below w.heap.size w w') => contains_badIns cv code w' (hc.below hB) hlc)
  obtain ⟨at_, ct, rfl, _, _⟩ := recS_open ht
  obtain ⟨ac, cc, rfl, _, _⟩ := recIns_open hc
  obtain ⟨qt, hqt⟩ : ∃ q, q = texts.all longOk := ⟨_, rfl⟩
  obtain ⟨qc, hqc⟩ : ∃ q, q = code.all insOk := ⟨_, rfl⟩
  have hM := mayV_all texts code
  rw [← hqt, ← hqc] at hM
  rw [← hqt] at HT
  rw [← hqc] at HCC
  obtain ⟨r, hr⟩ : ∃ r : Int, r = if mayV texts code = true then 0 else 2 := ⟨_, rfl⟩
  rw [← hr]
  rw [hM] at hr
  have HM := Lib.hid hr
  clear hr hM hqt hqc ht hc hm
  obtain ⟨W1, hW1⟩ : ∃ W1, W1 = w.alloc (.cells #[.slice at_ texts.length ct, .slice ac code.length cc] 25) := ⟨_, rfl⟩
  have hb1 : Below w.heap.size w W1 := by rw [hW1]; exact b_alloc _ _
  have hx : Blk W1 w.heap.size 25 [.slice at_ texts.length ct, .slice ac code.length cc] := by rw [hW1]; exact Blk.new w _ _
  have x0 := hx.cell (k := 0) rfl
  have x1 := hx.cell (k := 1) rfl
  have HB1 := Lib.hid hb1
  clear hx hb1
  by_cases h1 : texts.length ≤ 16
  · have q1 : ¬ (16 : Int) < (texts.length : Int) := by omega
    by_cases h2 : code.length ≤ 256
    · have q2 : ¬ (256 : Int) < (code.length : Int) := by omega
      cases qt with
      | false =>
        have HE := Lib.hid (show r = 2 by rw [HM.out]; simp)
        go_enter Tryd.func24, Tryd.ntmps24
        go_upto_region 1 with fail
        rw [← hW1]
        clear hW1
        go_wp2_with fail
        refine (HT.out _ HB1.out).mono ?_
        rintro e w2 ⟨rfl, hB2⟩
        have HB2 := Lib.hid (bt HB1.out hB2)
        have y0 := Below.keeps hB2 x0
        have y1 := Below.keeps hB2 x1
        clear hB2 x0 x1
        go_wp2_with fail
        go_ret
        exact ⟨by rw [HE.out]; rfl, HB2.out⟩
      | true =>
        cases qc with
        | false =>
          have HE := Lib.hid (show r = 2 by rw [HM.out]; simp)
          go_enter Tryd.func24, Tryd.ntmps24
          go_upto_region 1 with fail
          rw [← hW1]
          clear hW1
          go_wp2_with fail
          refine (HT.out _ HB1.out).mono ?_
          rintro e w2 ⟨rfl, hB2⟩
          have HB2 := Lib.hid (bt HB1.out hB2)
          have y0 := Below.keeps hB2 x0
          have y1 := Below.keeps hB2 x1
          clear hB2 x0 x1
          go_wp2_with fail
          refine (HCC.out _ HB2.out).mono ?_
          rintro e w3 ⟨rfl, hB3⟩
          have HB3 := Lib.hid (bt HB2.out hB3)
          clear hB3 y0 y1
          go_wp2_with fail
          go_ret
          exact ⟨by rw [HE.out]; rfl, HB3.out⟩
        | true =>
          have HE := Lib.hid (show r = 0 by rw [HM.out]; simp [h1, h2])
          go_enter Tryd.func24, Tryd.ntmps24
          go_upto_region 1 with fail
          rw [← hW1]
          clear hW1
          go_wp2_with fail
          refine (HT.out _ HB1.out).mono ?_
          rintro e w2 ⟨rfl, hB2⟩
          have HB2 := Lib.hid (bt HB1.out hB2)
          have y0 := Below.keeps hB2 x0
          have y1 := Below.keeps hB2 x1
          clear hB2 x0 x1
          go_wp2_with fail
          refine (HCC.out _ HB2.out).mono ?_
          rintro e w3 ⟨rfl, hB3⟩
          have HB3 := Lib.hid (bt HB2.out hB3)
          clear hB3 y0 y1
          go_wp2_with fail
          go_ret
          exact ⟨by rw [HE.out]; rfl, HB3.out⟩
    · have q2 : (256 : Int) < (code.length : Int) := by omega
      have HE := Lib.hid (show r = 2 by rw [HM.out]; simp [h2])
      go_enter Tryd.func24, Tryd.ntmps24
      go_upto_region 1 with fail
      rw [← hW1]
      clear hW1
      go_wp2_with fail
      go_ret
      exact ⟨by rw [HE.out]; rfl, HB1.out⟩
  · have q1 : (16 : Int) < (texts.length : Int) := by omega
    have HE := Lib.hid (show r = 2 by rw [HM.out]; simp [h1])
    go_enter Tryd.func24, Tryd.ntmps24
    go_upto_region 1 with fail
    rw [← hW1]
    clear hW1
    go_wp2_with fail
    go_ret
    exact ⟨by rw [HE.out]; rfl, HB1.out⟩
end Go.Proofs.YtahmacnmphjhgaaDoor
namespace Go.Proofs.YtahmacnmphjhgaaDoor
open Go.RowKit
variable {P : Program}
theorem madeCells_one (z : Value) (n : Nat) : madeCells #[z] n = (List.replicate n z).toArray := by
  apply Array.ext
  · simp [madeCells]
  · intro i h1 h2
    simp [madeCells]
    simp [madeCells, Nat.mod_one]
theorem make_one (t e : TypeId) (z : Value) (bytes : Nat) (ht : P.underlying t = some (.slice e)) (hinfo : (P.info? e).map (fun i => (i.zero, i.size, i.bytes)) = some (some z, 1, bytes)) (hz : z.cells = #[z]) (n : Nat) (hb : (bytes : Int) * (n : Int) ≤ 281474976710656) (hn : n ≤ 140737488355328) (w : World) :
    (Instr.makeSlice t (.int .i64 (n : Int)) (.int .i64 (n : Int))).run P w = .ok (.slice (some ⟨w.heap.size, 0, none⟩) n n) (w.alloc (.cells (List.replicate n z).toArray e)) := by
  obtain ⟨i, hi, hz0, hi1, hi2⟩ := info_parts hinfo
  have := run_make (P := P) w t e i z ht hi hz0 .i64 .i64 n n (by omega) (Int.le_refl _) (by rw [hi2]; exact hb) (by omega)
  rw [this, hz, hi1, Nat.mul_one, Int.toNat_natCast, madeCells_one]
end Go.Proofs.YtahmacnmphjhgaaDoor
