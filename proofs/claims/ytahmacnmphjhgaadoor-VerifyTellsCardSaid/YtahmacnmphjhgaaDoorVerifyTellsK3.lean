/- Lemmas for VerifyTells, part 3: walks of the functions that it reaches, and the plain laws behind them. -/
import Derived.Laws.RangeString
import Derived.Deep.DeepCutAuto
import Derived.Test.YtahmacnmphjhgaaDoorVerifyTellsK2
set_option linter.unusedSimpArgs false
set_option linter.unusedVariables false
namespace Go.Proofs.YtahmacnmphjhgaaDoor
open Go.RowKit Oct
attribute [local irreducible] wpG

section
variable {nt inp : Nat} {role : UInt8} {bl : List Vb} {a : UInt8}
theorem th1 : thereV nt inp role bl (1, a) = if nt ≤ a.toNat then 3 else 0 := by unfold thereV; simp
theorem th3 : thereV nt inp role bl (3, a) = if inp ≤ a.toNat then 3 else 0 := by unfold thereV; simp
theorem th17 : thereV nt inp role bl (17, a) = if 8 ≤ a.toNat then 3 else 0 := by unfold thereV; simp
theorem th18 : thereV nt inp role bl (18, a) = if 8 ≤ a.toNat then 3 else 0 := by unfold thereV; simp
theorem th23 : thereV nt inp role bl (23, a) = if role = 1 then 0 else 133 := by unfold thereV; by_cases h : role = 1 <;> simp [h]
theorem th20 : thereV nt inp role bl (20, a) = if elseBad bl.getLast? = true then 132 else 0 := by unfold thereV; simp
theorem th21 : thereV nt inp role bl (21, a) = if bl = [] then 132 else 0 := by unfold thereV; simp
theorem th19 : thereV nt inp role bl (19, a) = if 8 ≤ bl.length then 132 else 0 := by unfold thereV; simp
theorem th22 : thereV nt inp role bl (22, a) = if 8 ≤ bl.length then 132 else 0 := by unfold thereV; simp
theorem thN {p : UInt8} (h1 : p ≠ 1) (h3 : p ≠ 3) (h17 : p ≠ 17) (h18 : p ≠ 18) (h23 : p ≠ 23) (h20 : p ≠ 20) (h21 : p ≠ 21) (h19 : p ≠ 19) (h22 : p ≠ 22) : thereV nt inp role bl (p, a) = 0 := by unfold thereV; simp [h1, h3, h17, h18, h23, h20, h21, h19, h22]
end
theorem u8_ne {p : UInt8} {k : Nat} (hk : k < 256) (h : p ≠ UInt8.ofNat k) : ((p.toNat : Int) == (k : Int)) = false := by
  rw [beq_eq_false_iff_ne]
  intro e
  have e2 : p.toNat = k := by omega
  exact h (UInt8.toNat_inj.1 (by rw [e2]; show k = k % 256; omega))
section
variable {w : World} {base G : Nat} {tv cv bv sv ev : Value} {inp : Nat} {role : UInt8} {s : Vs}
/-- the cells of the innermost block -/
theorem VG.last (h : VG w base G tv cv inp role s bv sv ev) {g c m : Nat} (hv : bv = .slice (some ⟨g, 0, none⟩) s.blocks.length c) (hm : s.blocks.length = m + 1) : ∃ b, s.blocks.getLast? = some b ∧ s.blocks[m]? = some b ∧ w.cell? ⟨g, m * 5, none⟩ = some (.int .u8 (b.op.toNat : Int)) ∧ w.cell? ⟨g, m * 5 + 1, none⟩ = some (.string (bs b.want)) ∧
    w.cell? ⟨g, m * 5 + 2, none⟩ = some (.string (bs b.opn)) ∧ w.cell? ⟨g, m * 5 + 3, none⟩ = some (.int .i64 (b.at_ : Int)) ∧ w.cell? ⟨g, m * 5 + 4, none⟩ = some (.bool b.did) := by
  have hml : m < s.blocks.length := by omega
  obtain ⟨a, c', hv', _, hc⟩ := h.ob.row.open
  rw [hv] at hv'
  injection hv' with e1 _ _
  obtain ⟨b', off, ha, hu⟩ := hc m hml
  rw [← e1] at ha
  injection ha with ha
  injection ha with e2 e3 _
  subst e2 e3
  have u0 := hu 0 _ rfl
  have u1 := hu 1 _ rfl
  have u2 := hu 2 _ rfl
  have u3 := hu 3 _ rfl
  have u4 := hu 4 _ rfl
  rw [Nat.zero_add] at u0 u1 u2 u3 u4
  exact ⟨s.blocks[m], by rw [List.getLast?_eq_getElem?, hm]; simp [hml], List.getElem?_eq_getElem hml, u0, u1, u2, u3, u4⟩
end

section
variable {w : World} {base G : Nat} {cv bv sv ev : Value} {inp : Nat} {role : UInt8} {s : Vs} {nt ct : Nat} {at_ : Option Addr}
set_option maxRecDepth 100000 in
set_option maxHeartbeats 8000000 in
theorem there_any (h : VG w base G (.slice at_ nt ct) cv inp role s bv sv ev) (p a : UInt8) (hl : s.blocks.length ≤ 1000) (hn : nt ≤ 1000) (hi : inp ≤ 1000) :
    Calls Tryd.prog 37 #[.pointer (some ⟨G, 0, none⟩), .agg #[.int .u8 (p.toNat : Int), .int .u8 (a.toNat : Int)]] w fun e w' => e = .returned (.int .i64 ((thereV nt inp role s.blocks (p, a) : Nat) : Int)) ∧ Below w.heap.size w w' := by
  have HH := Lib.hid h
  have hgw : G < w.heap.size := h.blk.lt
  obtain ⟨W1, hW1⟩ : ∃ W1, W1 = w.alloc (.cells #[.int .u8 (p.toNat : Int), .int .u8 (a.toNat : Int)] 33) := ⟨_, rfl⟩
  have hb1 : Below w.heap.size w W1 := by rw [hW1]; exact b_alloc _ _
  have hx : Blk W1 w.heap.size 33 [.int .u8 (p.toNat : Int), .int .u8 (a.toNat : Int)] := by rw [hW1]; exact Blk.new w _ _
  have h1 := h.below hb1
  have x0 := hx.cell (k := 0) rfl
  have x1 := hx.cell (k := 1) rfl
  have g0 := h1.cell (k := 0) rfl
  have g2 := h1.cell (k := 2) rfl
  have g3 := h1.cell (k := 3) rfl
  have HB1 := Lib.hid hb1
  have HT := Lib.hid (fun w' (hB : Below W1.heap.size W1 w') => stop_any (h1.below hB) hl)
  have HLN := Lib.hid (fun w' (hB : Below W1.heap.size W1 w') => slen_any (h1.below hB))
  have HLA := Lib.hid (fun w' (hB : Below W1.heap.size W1 w') {g c m : Nat} (hv : bv = .slice (some ⟨g, 0, none⟩) s.blocks.length c) (hm : s.blocks.length = m + 1) => (h1.below hB).last hv hm)
  have a1 : (a.toNat : Int) < 256 := by have := a.toNat_lt; omega
  have a0 : (0 : Int) ≤ (a.toNat : Int) := by omega
  have n1 : (nt : Int) ≤ 1000 := by omega
  have n2 : (inp : Int) ≤ 1000 := by omega
  have n3 : (s.blocks.length : Int) ≤ 1000 := by omega
  clear h h1 hx hb1
  by_cases h1 : p = 1
  · subst h1
    rw [show (((1 : UInt8).toNat : Nat) : Int) = 1 from rfl] at hW1 x0 ⊢
    by_cases hq : nt ≤ a.toNat
    · have q1 : (nt : Int) ≤ (a.toNat : Int) := by omega
      have HE := Lib.hid (show thereV nt inp role s.blocks (1, a) = 3 by rw [th1, if_pos hq])
      clear hq
      go_enter Tryd.func37, Tryd.ntmps37
      go_upto_region 1 with fail
      rw [← hW1]
      clear hW1
      refine region_known [(1, .exact _ (.int .u8 1)), (5, .exact _ (.int .u8 (a.toNat : Int))), (11, .exact _ (.slice at_ nt ct)), (17, .exact _ (.int .u8 1)), (21, .exact _ (.int .u8 (a.toNat : Int))), (26, .exact _ (.int .i64 (inp : Int))), (32, .exact _ (.int .u8 1)), (36, .exact _ (.int .u8 1)), (41, .exact _ (.int .u8 (a.toNat : Int)))] (by kernel_rfl) (by kernel_rfl) ?_
      (repeat (first | (refine wpG_skip (by kernel_rfl) (fun K hK => ?_); go_big_quiet_skip; refine wpQuiet_nil (hK _ ?_); clear hK K) | (refine wpG_quiet (by rfl) (by rfl) (fun K hK => ?_); go_big_quiet_want; go_big_quiet_op; go_big_quiet_on; refine wpQuiet_nil (hK _ ?_); clear hK K) | (refine wpG_nilOk rfl rfl rfl (by kernel_rfl) (fun K hK => ?_); go_simp; refine hK _ ?_; clear hK K)))
      repeat (refine wpG_exact rfl (by kernel_rfl) (fun w' G hB hS hG => ?_) (fun K hK => ?_); (have y0 := Below.keeps hB x0; have y1 := Below.keeps hB x1; have y2 := Below.keeps hB g0; have y3 := Below.keeps hB g2; go_simp; exact hG _ (Bel.refl _)); go_simp; refine hK _ ?_; clear hK K; (repeat (first | (refine wpG_skip (by kernel_rfl) (fun K hK => ?_); go_big_quiet_skip; refine wpQuiet_nil (hK _ ?_); clear hK K) | (refine wpG_quiet (by rfl) (by rfl) (fun K hK => ?_); go_big_quiet_want; go_big_quiet_op; go_big_quiet_on; refine wpQuiet_nil (hK _ ?_); clear hK K) | (refine wpG_nilOk rfl rfl rfl (by kernel_rfl) (fun K hK => ?_); go_simp; refine hK _ ?_; clear hK K))))
      refine wpG_nilV3 ?_
      intro w2 hB2 hA2
      have z0 := Below.keeps hB2 x0
      have z1 := Below.keeps hB2 x1
      have z3 := Below.keeps hB2 g3
      have HB2 := Lib.hid hB2
      clear hB2 hA2 x0 x1 g0 g2 g3
      go_wp2_with fail
      refine (HT.out _ HB2.out).mono ?_
      rintro e w3 ⟨htop, hB3⟩
      have HTOP := Lib.hid htop
      have HB3 := Lib.hid (bt HB2.out hB3)
      have u0 := Below.keeps hB3 z0
      have u1 := Below.keeps hB3 z1
      have u3 := Below.keeps hB3 z3
      clear htop hB3 z0 z1 z3
      obtain ⟨tp, rfl⟩ : ∃ tp, e = .returned tp := by rcases HTOP.out with ⟨_, rfl⟩ | ⟨_, _, _, _, _, rfl⟩ <;> exact ⟨_, rfl⟩
      clear HTOP
      go_wp2_with fail
      go_ret
      exact ⟨by rw [HE.out]; rfl, bt HB1.out HB3.out⟩
    · have q1 : ¬ (nt : Int) ≤ (a.toNat : Int) := by omega
      have HE := Lib.hid (show thereV nt inp role s.blocks (1, a) = 0 by rw [th1, if_neg hq])
      clear hq
      go_enter Tryd.func37, Tryd.ntmps37
      go_upto_region 1 with fail
      rw [← hW1]
      clear hW1
      refine region_known [(1, .exact _ (.int .u8 1)), (5, .exact _ (.int .u8 (a.toNat : Int))), (11, .exact _ (.slice at_ nt ct)), (17, .exact _ (.int .u8 1)), (21, .exact _ (.int .u8 (a.toNat : Int))), (26, .exact _ (.int .i64 (inp : Int))), (32, .exact _ (.int .u8 1)), (36, .exact _ (.int .u8 1)), (41, .exact _ (.int .u8 (a.toNat : Int)))] (by kernel_rfl) (by kernel_rfl) ?_
      (repeat (first | (refine wpG_skip (by kernel_rfl) (fun K hK => ?_); go_big_quiet_skip; refine wpQuiet_nil (hK _ ?_); clear hK K) | (refine wpG_quiet (by rfl) (by rfl) (fun K hK => ?_); go_big_quiet_want; go_big_quiet_op; go_big_quiet_on; refine wpQuiet_nil (hK _ ?_); clear hK K) | (refine wpG_nilOk rfl rfl rfl (by kernel_rfl) (fun K hK => ?_); go_simp; refine hK _ ?_; clear hK K)))
      repeat (refine wpG_exact rfl (by kernel_rfl) (fun w' G hB hS hG => ?_) (fun K hK => ?_); (have y0 := Below.keeps hB x0; have y1 := Below.keeps hB x1; have y2 := Below.keeps hB g0; have y3 := Below.keeps hB g2; go_simp; exact hG _ (Bel.refl _)); go_simp; refine hK _ ?_; clear hK K; (repeat (first | (refine wpG_skip (by kernel_rfl) (fun K hK => ?_); go_big_quiet_skip; refine wpQuiet_nil (hK _ ?_); clear hK K) | (refine wpG_quiet (by rfl) (by rfl) (fun K hK => ?_); go_big_quiet_want; go_big_quiet_op; go_big_quiet_on; refine wpQuiet_nil (hK _ ?_); clear hK K) | (refine wpG_nilOk rfl rfl rfl (by kernel_rfl) (fun K hK => ?_); go_simp; refine hK _ ?_; clear hK K))))
      refine wpG_nilV3 ?_
      intro w2 hB2 hA2
      have z0 := Below.keeps hB2 x0
      have z1 := Below.keeps hB2 x1
      have z3 := Below.keeps hB2 g3
      have HB2 := Lib.hid hB2
      clear hB2 hA2 x0 x1 g0 g2 g3
      go_wp2_with fail
      refine (HT.out _ HB2.out).mono ?_
      rintro e w3 ⟨htop, hB3⟩
      have HTOP := Lib.hid htop
      have HB3 := Lib.hid (bt HB2.out hB3)
      have u0 := Below.keeps hB3 z0
      have u1 := Below.keeps hB3 z1
      have u3 := Below.keeps hB3 z3
      clear htop hB3 z0 z1 z3
      obtain ⟨tp, rfl⟩ : ∃ tp, e = .returned tp := by rcases HTOP.out with ⟨_, rfl⟩ | ⟨_, _, _, _, _, rfl⟩ <;> exact ⟨_, rfl⟩
      clear HTOP
      go_wp2_with fail
      go_ret
      exact ⟨by rw [HE.out]; rfl, bt HB1.out HB3.out⟩
  by_cases h3 : p = 3
  · subst h3
    rw [show (((3 : UInt8).toNat : Nat) : Int) = 3 from rfl] at hW1 x0 ⊢
    by_cases hq : inp ≤ a.toNat
    · have q1 : (inp : Int) ≤ (a.toNat : Int) := by omega
      have HE := Lib.hid (show thereV nt inp role s.blocks (3, a) = 3 by rw [th3, if_pos hq])
      clear hq
      go_enter Tryd.func37, Tryd.ntmps37
      go_upto_region 1 with fail
      rw [← hW1]
      clear hW1
      refine region_known [(1, .exact _ (.int .u8 3)), (5, .exact _ (.int .u8 (a.toNat : Int))), (11, .exact _ (.slice at_ nt ct)), (17, .exact _ (.int .u8 3)), (21, .exact _ (.int .u8 (a.toNat : Int))), (26, .exact _ (.int .i64 (inp : Int))), (32, .exact _ (.int .u8 3)), (36, .exact _ (.int .u8 3)), (41, .exact _ (.int .u8 (a.toNat : Int)))] (by kernel_rfl) (by kernel_rfl) ?_
      (repeat (first | (refine wpG_skip (by kernel_rfl) (fun K hK => ?_); go_big_quiet_skip; refine wpQuiet_nil (hK _ ?_); clear hK K) | (refine wpG_quiet (by rfl) (by rfl) (fun K hK => ?_); go_big_quiet_want; go_big_quiet_op; go_big_quiet_on; refine wpQuiet_nil (hK _ ?_); clear hK K) | (refine wpG_nilOk rfl rfl rfl (by kernel_rfl) (fun K hK => ?_); go_simp; refine hK _ ?_; clear hK K)))
      repeat (refine wpG_exact rfl (by kernel_rfl) (fun w' G hB hS hG => ?_) (fun K hK => ?_); (have y0 := Below.keeps hB x0; have y1 := Below.keeps hB x1; have y2 := Below.keeps hB g0; have y3 := Below.keeps hB g2; go_simp; exact hG _ (Bel.refl _)); go_simp; refine hK _ ?_; clear hK K; (repeat (first | (refine wpG_skip (by kernel_rfl) (fun K hK => ?_); go_big_quiet_skip; refine wpQuiet_nil (hK _ ?_); clear hK K) | (refine wpG_quiet (by rfl) (by rfl) (fun K hK => ?_); go_big_quiet_want; go_big_quiet_op; go_big_quiet_on; refine wpQuiet_nil (hK _ ?_); clear hK K) | (refine wpG_nilOk rfl rfl rfl (by kernel_rfl) (fun K hK => ?_); go_simp; refine hK _ ?_; clear hK K))))
      refine wpG_nilV3 ?_
      intro w2 hB2 hA2
      have z0 := Below.keeps hB2 x0
      have z1 := Below.keeps hB2 x1
      have z3 := Below.keeps hB2 g3
      have HB2 := Lib.hid hB2
      clear hB2 hA2 x0 x1 g0 g2 g3
      go_wp2_with fail
      refine (HT.out _ HB2.out).mono ?_
      rintro e w3 ⟨htop, hB3⟩
      have HTOP := Lib.hid htop
      have HB3 := Lib.hid (bt HB2.out hB3)
      have u0 := Below.keeps hB3 z0
      have u1 := Below.keeps hB3 z1
      have u3 := Below.keeps hB3 z3
      clear htop hB3 z0 z1 z3
      obtain ⟨tp, rfl⟩ : ∃ tp, e = .returned tp := by rcases HTOP.out with ⟨_, rfl⟩ | ⟨_, _, _, _, _, rfl⟩ <;> exact ⟨_, rfl⟩
      clear HTOP
      go_wp2_with fail
      go_ret
      exact ⟨by rw [HE.out]; rfl, bt HB1.out HB3.out⟩
    · have q1 : ¬ (inp : Int) ≤ (a.toNat : Int) := by omega
      have HE := Lib.hid (show thereV nt inp role s.blocks (3, a) = 0 by rw [th3, if_neg hq])
      clear hq
      go_enter Tryd.func37, Tryd.ntmps37
      go_upto_region 1 with fail
      rw [← hW1]
      clear hW1
      refine region_known [(1, .exact _ (.int .u8 3)), (5, .exact _ (.int .u8 (a.toNat : Int))), (11, .exact _ (.slice at_ nt ct)), (17, .exact _ (.int .u8 3)), (21, .exact _ (.int .u8 (a.toNat : Int))), (26, .exact _ (.int .i64 (inp : Int))), (32, .exact _ (.int .u8 3)), (36, .exact _ (.int .u8 3)), (41, .exact _ (.int .u8 (a.toNat : Int)))] (by kernel_rfl) (by kernel_rfl) ?_
      (repeat (first | (refine wpG_skip (by kernel_rfl) (fun K hK => ?_); go_big_quiet_skip; refine wpQuiet_nil (hK _ ?_); clear hK K) | (refine wpG_quiet (by rfl) (by rfl) (fun K hK => ?_); go_big_quiet_want; go_big_quiet_op; go_big_quiet_on; refine wpQuiet_nil (hK _ ?_); clear hK K) | (refine wpG_nilOk rfl rfl rfl (by kernel_rfl) (fun K hK => ?_); go_simp; refine hK _ ?_; clear hK K)))
      repeat (refine wpG_exact rfl (by kernel_rfl) (fun w' G hB hS hG => ?_) (fun K hK => ?_); (have y0 := Below.keeps hB x0; have y1 := Below.keeps hB x1; have y2 := Below.keeps hB g0; have y3 := Below.keeps hB g2; go_simp; exact hG _ (Bel.refl _)); go_simp; refine hK _ ?_; clear hK K; (repeat (first | (refine wpG_skip (by kernel_rfl) (fun K hK => ?_); go_big_quiet_skip; refine wpQuiet_nil (hK _ ?_); clear hK K) | (refine wpG_quiet (by rfl) (by rfl) (fun K hK => ?_); go_big_quiet_want; go_big_quiet_op; go_big_quiet_on; refine wpQuiet_nil (hK _ ?_); clear hK K) | (refine wpG_nilOk rfl rfl rfl (by kernel_rfl) (fun K hK => ?_); go_simp; refine hK _ ?_; clear hK K))))
      refine wpG_nilV3 ?_
      intro w2 hB2 hA2
      have z0 := Below.keeps hB2 x0
      have z1 := Below.keeps hB2 x1
      have z3 := Below.keeps hB2 g3
      have HB2 := Lib.hid hB2
      clear hB2 hA2 x0 x1 g0 g2 g3
      go_wp2_with fail
      refine (HT.out _ HB2.out).mono ?_
      rintro e w3 ⟨htop, hB3⟩
      have HTOP := Lib.hid htop
      have HB3 := Lib.hid (bt HB2.out hB3)
      have u0 := Below.keeps hB3 z0
      have u1 := Below.keeps hB3 z1
      have u3 := Below.keeps hB3 z3
      clear htop hB3 z0 z1 z3
      obtain ⟨tp, rfl⟩ : ∃ tp, e = .returned tp := by rcases HTOP.out with ⟨_, rfl⟩ | ⟨_, _, _, _, _, rfl⟩ <;> exact ⟨_, rfl⟩
      clear HTOP
      go_wp2_with fail
      go_ret
      exact ⟨by rw [HE.out]; rfl, bt HB1.out HB3.out⟩
  by_cases h17 : p = 17
  · subst h17
    rw [show (((17 : UInt8).toNat : Nat) : Int) = 17 from rfl] at hW1 x0 ⊢
    by_cases hq : 8 ≤ a.toNat
    · have q1 : (8 : Int) ≤ (a.toNat : Int) := by omega
      have HE := Lib.hid (show thereV nt inp role s.blocks (17, a) = 3 by rw [th17, if_pos hq])
      clear hq
      go_enter Tryd.func37, Tryd.ntmps37
      go_upto_region 1 with fail
      rw [← hW1]
      clear hW1
      refine region_known [(1, .exact _ (.int .u8 17)), (5, .exact _ (.int .u8 (a.toNat : Int))), (11, .exact _ (.slice at_ nt ct)), (17, .exact _ (.int .u8 17)), (21, .exact _ (.int .u8 (a.toNat : Int))), (26, .exact _ (.int .i64 (inp : Int))), (32, .exact _ (.int .u8 17)), (36, .exact _ (.int .u8 17)), (41, .exact _ (.int .u8 (a.toNat : Int)))] (by kernel_rfl) (by kernel_rfl) ?_
      (repeat (first | (refine wpG_skip (by kernel_rfl) (fun K hK => ?_); go_big_quiet_skip; refine wpQuiet_nil (hK _ ?_); clear hK K) | (refine wpG_quiet (by rfl) (by rfl) (fun K hK => ?_); go_big_quiet_want; go_big_quiet_op; go_big_quiet_on; refine wpQuiet_nil (hK _ ?_); clear hK K) | (refine wpG_nilOk rfl rfl rfl (by kernel_rfl) (fun K hK => ?_); go_simp; refine hK _ ?_; clear hK K)))
      repeat (refine wpG_exact rfl (by kernel_rfl) (fun w' G hB hS hG => ?_) (fun K hK => ?_); (have y0 := Below.keeps hB x0; have y1 := Below.keeps hB x1; have y2 := Below.keeps hB g0; have y3 := Below.keeps hB g2; go_simp; exact hG _ (Bel.refl _)); go_simp; refine hK _ ?_; clear hK K; (repeat (first | (refine wpG_skip (by kernel_rfl) (fun K hK => ?_); go_big_quiet_skip; refine wpQuiet_nil (hK _ ?_); clear hK K) | (refine wpG_quiet (by rfl) (by rfl) (fun K hK => ?_); go_big_quiet_want; go_big_quiet_op; go_big_quiet_on; refine wpQuiet_nil (hK _ ?_); clear hK K) | (refine wpG_nilOk rfl rfl rfl (by kernel_rfl) (fun K hK => ?_); go_simp; refine hK _ ?_; clear hK K))))
      refine wpG_nilV3 ?_
      intro w2 hB2 hA2
      have z0 := Below.keeps hB2 x0
      have z1 := Below.keeps hB2 x1
      have z3 := Below.keeps hB2 g3
      have HB2 := Lib.hid hB2
      clear hB2 hA2 x0 x1 g0 g2 g3
      go_wp2_with fail
      refine (HT.out _ HB2.out).mono ?_
      rintro e w3 ⟨htop, hB3⟩
      have HTOP := Lib.hid htop
      have HB3 := Lib.hid (bt HB2.out hB3)
      have u0 := Below.keeps hB3 z0
      have u1 := Below.keeps hB3 z1
      have u3 := Below.keeps hB3 z3
      clear htop hB3 z0 z1 z3
      obtain ⟨tp, rfl⟩ : ∃ tp, e = .returned tp := by rcases HTOP.out with ⟨_, rfl⟩ | ⟨_, _, _, _, _, rfl⟩ <;> exact ⟨_, rfl⟩
      clear HTOP
      go_wp2_with fail
      go_ret
      exact ⟨by rw [HE.out]; rfl, bt HB1.out HB3.out⟩
    · have q1 : ¬ (8 : Int) ≤ (a.toNat : Int) := by omega
      have HE := Lib.hid (show thereV nt inp role s.blocks (17, a) = 0 by rw [th17, if_neg hq])
      clear hq
      go_enter Tryd.func37, Tryd.ntmps37
      go_upto_region 1 with fail
      rw [← hW1]
      clear hW1
      refine region_known [(1, .exact _ (.int .u8 17)), (5, .exact _ (.int .u8 (a.toNat : Int))), (11, .exact _ (.slice at_ nt ct)), (17, .exact _ (.int .u8 17)), (21, .exact _ (.int .u8 (a.toNat : Int))), (26, .exact _ (.int .i64 (inp : Int))), (32, .exact _ (.int .u8 17)), (36, .exact _ (.int .u8 17)), (41, .exact _ (.int .u8 (a.toNat : Int)))] (by kernel_rfl) (by kernel_rfl) ?_
      (repeat (first | (refine wpG_skip (by kernel_rfl) (fun K hK => ?_); go_big_quiet_skip; refine wpQuiet_nil (hK _ ?_); clear hK K) | (refine wpG_quiet (by rfl) (by rfl) (fun K hK => ?_); go_big_quiet_want; go_big_quiet_op; go_big_quiet_on; refine wpQuiet_nil (hK _ ?_); clear hK K) | (refine wpG_nilOk rfl rfl rfl (by kernel_rfl) (fun K hK => ?_); go_simp; refine hK _ ?_; clear hK K)))
      repeat (refine wpG_exact rfl (by kernel_rfl) (fun w' G hB hS hG => ?_) (fun K hK => ?_); (have y0 := Below.keeps hB x0; have y1 := Below.keeps hB x1; have y2 := Below.keeps hB g0; have y3 := Below.keeps hB g2; go_simp; exact hG _ (Bel.refl _)); go_simp; refine hK _ ?_; clear hK K; (repeat (first | (refine wpG_skip (by kernel_rfl) (fun K hK => ?_); go_big_quiet_skip; refine wpQuiet_nil (hK _ ?_); clear hK K) | (refine wpG_quiet (by rfl) (by rfl) (fun K hK => ?_); go_big_quiet_want; go_big_quiet_op; go_big_quiet_on; refine wpQuiet_nil (hK _ ?_); clear hK K) | (refine wpG_nilOk rfl rfl rfl (by kernel_rfl) (fun K hK => ?_); go_simp; refine hK _ ?_; clear hK K))))
      refine wpG_nilV3 ?_
      intro w2 hB2 hA2
      have z0 := Below.keeps hB2 x0
      have z1 := Below.keeps hB2 x1
      have z3 := Below.keeps hB2 g3
      have HB2 := Lib.hid hB2
      clear hB2 hA2 x0 x1 g0 g2 g3
      go_wp2_with fail
      refine (HT.out _ HB2.out).mono ?_
      rintro e w3 ⟨htop, hB3⟩
      have HTOP := Lib.hid htop
      have HB3 := Lib.hid (bt HB2.out hB3)
      have u0 := Below.keeps hB3 z0
      have u1 := Below.keeps hB3 z1
      have u3 := Below.keeps hB3 z3
      clear htop hB3 z0 z1 z3
      obtain ⟨tp, rfl⟩ : ∃ tp, e = .returned tp := by rcases HTOP.out with ⟨_, rfl⟩ | ⟨_, _, _, _, _, rfl⟩ <;> exact ⟨_, rfl⟩
      clear HTOP
      go_wp2_with fail
      go_ret
      exact ⟨by rw [HE.out]; rfl, bt HB1.out HB3.out⟩
  by_cases h18 : p = 18
  · subst h18
    rw [show (((18 : UInt8).toNat : Nat) : Int) = 18 from rfl] at hW1 x0 ⊢
    by_cases hq : 8 ≤ a.toNat
    · have q1 : (8 : Int) ≤ (a.toNat : Int) := by omega
      have HE := Lib.hid (show thereV nt inp role s.blocks (18, a) = 3 by rw [th18, if_pos hq])
      clear hq
      go_enter Tryd.func37, Tryd.ntmps37
      go_upto_region 1 with fail
      rw [← hW1]
      clear hW1
      refine region_known [(1, .exact _ (.int .u8 18)), (5, .exact _ (.int .u8 (a.toNat : Int))), (11, .exact _ (.slice at_ nt ct)), (17, .exact _ (.int .u8 18)), (21, .exact _ (.int .u8 (a.toNat : Int))), (26, .exact _ (.int .i64 (inp : Int))), (32, .exact _ (.int .u8 18)), (36, .exact _ (.int .u8 18)), (41, .exact _ (.int .u8 (a.toNat : Int)))] (by kernel_rfl) (by kernel_rfl) ?_
      (repeat (first | (refine wpG_skip (by kernel_rfl) (fun K hK => ?_); go_big_quiet_skip; refine wpQuiet_nil (hK _ ?_); clear hK K) | (refine wpG_quiet (by rfl) (by rfl) (fun K hK => ?_); go_big_quiet_want; go_big_quiet_op; go_big_quiet_on; refine wpQuiet_nil (hK _ ?_); clear hK K) | (refine wpG_nilOk rfl rfl rfl (by kernel_rfl) (fun K hK => ?_); go_simp; refine hK _ ?_; clear hK K)))
      repeat (refine wpG_exact rfl (by kernel_rfl) (fun w' G hB hS hG => ?_) (fun K hK => ?_); (have y0 := Below.keeps hB x0; have y1 := Below.keeps hB x1; have y2 := Below.keeps hB g0; have y3 := Below.keeps hB g2; go_simp; exact hG _ (Bel.refl _)); go_simp; refine hK _ ?_; clear hK K; (repeat (first | (refine wpG_skip (by kernel_rfl) (fun K hK => ?_); go_big_quiet_skip; refine wpQuiet_nil (hK _ ?_); clear hK K) | (refine wpG_quiet (by rfl) (by rfl) (fun K hK => ?_); go_big_quiet_want; go_big_quiet_op; go_big_quiet_on; refine wpQuiet_nil (hK _ ?_); clear hK K) | (refine wpG_nilOk rfl rfl rfl (by kernel_rfl) (fun K hK => ?_); go_simp; refine hK _ ?_; clear hK K))))
      refine wpG_nilV3 ?_
      intro w2 hB2 hA2
      have z0 := Below.keeps hB2 x0
      have z1 := Below.keeps hB2 x1
      have z3 := Below.keeps hB2 g3
      have HB2 := Lib.hid hB2
      clear hB2 hA2 x0 x1 g0 g2 g3
      go_wp2_with fail
      refine (HT.out _ HB2.out).mono ?_
      rintro e w3 ⟨htop, hB3⟩
      have HTOP := Lib.hid htop
      have HB3 := Lib.hid (bt HB2.out hB3)
      have u0 := Below.keeps hB3 z0
      have u1 := Below.keeps hB3 z1
      have u3 := Below.keeps hB3 z3
      clear htop hB3 z0 z1 z3
      obtain ⟨tp, rfl⟩ : ∃ tp, e = .returned tp := by rcases HTOP.out with ⟨_, rfl⟩ | ⟨_, _, _, _, _, rfl⟩ <;> exact ⟨_, rfl⟩
      clear HTOP
      go_wp2_with fail
      go_ret
      exact ⟨by rw [HE.out]; rfl, bt HB1.out HB3.out⟩
    · have q1 : ¬ (8 : Int) ≤ (a.toNat : Int) := by omega
      have HE := Lib.hid (show thereV nt inp role s.blocks (18, a) = 0 by rw [th18, if_neg hq])
      clear hq
      go_enter Tryd.func37, Tryd.ntmps37
      go_upto_region 1 with fail
      rw [← hW1]
      clear hW1
      refine region_known [(1, .exact _ (.int .u8 18)), (5, .exact _ (.int .u8 (a.toNat : Int))), (11, .exact _ (.slice at_ nt ct)), (17, .exact _ (.int .u8 18)), (21, .exact _ (.int .u8 (a.toNat : Int))), (26, .exact _ (.int .i64 (inp : Int))), (32, .exact _ (.int .u8 18)), (36, .exact _ (.int .u8 18)), (41, .exact _ (.int .u8 (a.toNat : Int)))] (by kernel_rfl) (by kernel_rfl) ?_
      (repeat (first | (refine wpG_skip (by kernel_rfl) (fun K hK => ?_); go_big_quiet_skip; refine wpQuiet_nil (hK _ ?_); clear hK K) | (refine wpG_quiet (by rfl) (by rfl) (fun K hK => ?_); go_big_quiet_want; go_big_quiet_op; go_big_quiet_on; refine wpQuiet_nil (hK _ ?_); clear hK K) | (refine wpG_nilOk rfl rfl rfl (by kernel_rfl) (fun K hK => ?_); go_simp; refine hK _ ?_; clear hK K)))
      repeat (refine wpG_exact rfl (by kernel_rfl) (fun w' G hB hS hG => ?_) (fun K hK => ?_); (have y0 := Below.keeps hB x0; have y1 := Below.keeps hB x1; have y2 := Below.keeps hB g0; have y3 := Below.keeps hB g2; go_simp; exact hG _ (Bel.refl _)); go_simp; refine hK _ ?_; clear hK K; (repeat (first | (refine wpG_skip (by kernel_rfl) (fun K hK => ?_); go_big_quiet_skip; refine wpQuiet_nil (hK _ ?_); clear hK K) | (refine wpG_quiet (by rfl) (by rfl) (fun K hK => ?_); go_big_quiet_want; go_big_quiet_op; go_big_quiet_on; refine wpQuiet_nil (hK _ ?_); clear hK K) | (refine wpG_nilOk rfl rfl rfl (by kernel_rfl) (fun K hK => ?_); go_simp; refine hK _ ?_; clear hK K))))
      refine wpG_nilV3 ?_
      intro w2 hB2 hA2
      have z0 := Below.keeps hB2 x0
      have z1 := Below.keeps hB2 x1
      have z3 := Below.keeps hB2 g3
      have HB2 := Lib.hid hB2
      clear hB2 hA2 x0 x1 g0 g2 g3
      go_wp2_with fail
      refine (HT.out _ HB2.out).mono ?_
      rintro e w3 ⟨htop, hB3⟩
      have HTOP := Lib.hid htop
      have HB3 := Lib.hid (bt HB2.out hB3)
      have u0 := Below.keeps hB3 z0
      have u1 := Below.keeps hB3 z1
      have u3 := Below.keeps hB3 z3
      clear htop hB3 z0 z1 z3
      obtain ⟨tp, rfl⟩ : ∃ tp, e = .returned tp := by rcases HTOP.out with ⟨_, rfl⟩ | ⟨_, _, _, _, _, rfl⟩ <;> exact ⟨_, rfl⟩
      clear HTOP
      go_wp2_with fail
      go_ret
      exact ⟨by rw [HE.out]; rfl, bt HB1.out HB3.out⟩
  by_cases h23 : p = 23
  · subst h23
    rw [show (((23 : UInt8).toNat : Nat) : Int) = 23 from rfl] at hW1 x0 ⊢
    by_cases hq : role = 1
    · have q1 : ((role.toNat : Int) != 1) = false := by rw [hq]; rfl
      have HE := Lib.hid (show thereV nt inp role s.blocks (23, a) = 0 by rw [th23, if_pos hq])
      clear hq
      go_enter Tryd.func37, Tryd.ntmps37
      go_upto_region 1 with fail
      rw [← hW1]
      clear hW1
      refine region_known [(1, .exact _ (.int .u8 23)), (5, .exact _ (.int .u8 (a.toNat : Int))), (11, .exact _ (.slice at_ nt ct)), (17, .exact _ (.int .u8 23)), (21, .exact _ (.int .u8 (a.toNat : Int))), (26, .exact _ (.int .i64 (inp : Int))), (32, .exact _ (.int .u8 23)), (36, .exact _ (.int .u8 23)), (41, .exact _ (.int .u8 (a.toNat : Int)))] (by kernel_rfl) (by kernel_rfl) ?_
      (repeat (first | (refine wpG_skip (by kernel_rfl) (fun K hK => ?_); go_big_quiet_skip; refine wpQuiet_nil (hK _ ?_); clear hK K) | (refine wpG_quiet (by rfl) (by rfl) (fun K hK => ?_); go_big_quiet_want; go_big_quiet_op; go_big_quiet_on; refine wpQuiet_nil (hK _ ?_); clear hK K) | (refine wpG_nilOk rfl rfl rfl (by kernel_rfl) (fun K hK => ?_); go_simp; refine hK _ ?_; clear hK K)))
      repeat (refine wpG_exact rfl (by kernel_rfl) (fun w' G hB hS hG => ?_) (fun K hK => ?_); (have y0 := Below.keeps hB x0; have y1 := Below.keeps hB x1; have y2 := Below.keeps hB g0; have y3 := Below.keeps hB g2; go_simp; exact hG _ (Bel.refl _)); go_simp; refine hK _ ?_; clear hK K; (repeat (first | (refine wpG_skip (by kernel_rfl) (fun K hK => ?_); go_big_quiet_skip; refine wpQuiet_nil (hK _ ?_); clear hK K) | (refine wpG_quiet (by rfl) (by rfl) (fun K hK => ?_); go_big_quiet_want; go_big_quiet_op; go_big_quiet_on; refine wpQuiet_nil (hK _ ?_); clear hK K) | (refine wpG_nilOk rfl rfl rfl (by kernel_rfl) (fun K hK => ?_); go_simp; refine hK _ ?_; clear hK K))))
      refine wpG_nilV3 ?_
      intro w2 hB2 hA2
      have z0 := Below.keeps hB2 x0
      have z1 := Below.keeps hB2 x1
      have z3 := Below.keeps hB2 g3
      have HB2 := Lib.hid hB2
      clear hB2 hA2 x0 x1 g0 g2 g3
      go_wp2_with fail
      refine (HT.out _ HB2.out).mono ?_
      rintro e w3 ⟨htop, hB3⟩
      have HTOP := Lib.hid htop
      have HB3 := Lib.hid (bt HB2.out hB3)
      have u0 := Below.keeps hB3 z0
      have u1 := Below.keeps hB3 z1
      have u3 := Below.keeps hB3 z3
      clear htop hB3 z0 z1 z3
      obtain ⟨tp, rfl⟩ : ∃ tp, e = .returned tp := by rcases HTOP.out with ⟨_, rfl⟩ | ⟨_, _, _, _, _, rfl⟩ <;> exact ⟨_, rfl⟩
      clear HTOP
      go_wp2_with fail
      go_ret
      exact ⟨by rw [HE.out]; rfl, bt HB1.out HB3.out⟩
    · have q1 : ((role.toNat : Int) != 1) = true := by
        have := u8_ne (p := role) (k := 1) (by decide) hq
        simpa [bne] using this
      have HE := Lib.hid (show thereV nt inp role s.blocks (23, a) = 133 by rw [th23, if_neg hq])
      clear hq
      go_enter Tryd.func37, Tryd.ntmps37
      go_upto_region 1 with fail
      rw [← hW1]
      clear hW1
      refine region_known [(1, .exact _ (.int .u8 23)), (5, .exact _ (.int .u8 (a.toNat : Int))), (11, .exact _ (.slice at_ nt ct)), (17, .exact _ (.int .u8 23)), (21, .exact _ (.int .u8 (a.toNat : Int))), (26, .exact _ (.int .i64 (inp : Int))), (32, .exact _ (.int .u8 23)), (36, .exact _ (.int .u8 23)), (41, .exact _ (.int .u8 (a.toNat : Int)))] (by kernel_rfl) (by kernel_rfl) ?_
      (repeat (first | (refine wpG_skip (by kernel_rfl) (fun K hK => ?_); go_big_quiet_skip; refine wpQuiet_nil (hK _ ?_); clear hK K) | (refine wpG_quiet (by rfl) (by rfl) (fun K hK => ?_); go_big_quiet_want; go_big_quiet_op; go_big_quiet_on; refine wpQuiet_nil (hK _ ?_); clear hK K) | (refine wpG_nilOk rfl rfl rfl (by kernel_rfl) (fun K hK => ?_); go_simp; refine hK _ ?_; clear hK K)))
      repeat (refine wpG_exact rfl (by kernel_rfl) (fun w' G hB hS hG => ?_) (fun K hK => ?_); (have y0 := Below.keeps hB x0; have y1 := Below.keeps hB x1; have y2 := Below.keeps hB g0; have y3 := Below.keeps hB g2; go_simp; exact hG _ (Bel.refl _)); go_simp; refine hK _ ?_; clear hK K; (repeat (first | (refine wpG_skip (by kernel_rfl) (fun K hK => ?_); go_big_quiet_skip; refine wpQuiet_nil (hK _ ?_); clear hK K) | (refine wpG_quiet (by rfl) (by rfl) (fun K hK => ?_); go_big_quiet_want; go_big_quiet_op; go_big_quiet_on; refine wpQuiet_nil (hK _ ?_); clear hK K) | (refine wpG_nilOk rfl rfl rfl (by kernel_rfl) (fun K hK => ?_); go_simp; refine hK _ ?_; clear hK K))))
      refine wpG_nilV3 ?_
      intro w2 hB2 hA2
      have z0 := Below.keeps hB2 x0
      have z1 := Below.keeps hB2 x1
      have z3 := Below.keeps hB2 g3
      have HB2 := Lib.hid hB2
      clear hB2 hA2 x0 x1 g0 g2 g3
      go_wp2_with fail
      refine (HT.out _ HB2.out).mono ?_
      rintro e w3 ⟨htop, hB3⟩
      have HTOP := Lib.hid htop
      have HB3 := Lib.hid (bt HB2.out hB3)
      have u0 := Below.keeps hB3 z0
      have u1 := Below.keeps hB3 z1
      have u3 := Below.keeps hB3 z3
      clear htop hB3 z0 z1 z3
      obtain ⟨tp, rfl⟩ : ∃ tp, e = .returned tp := by rcases HTOP.out with ⟨_, rfl⟩ | ⟨_, _, _, _, _, rfl⟩ <;> exact ⟨_, rfl⟩
      clear HTOP
      go_wp2_with fail
      go_ret
      exact ⟨by rw [HE.out]; rfl, bt HB1.out HB3.out⟩
  by_cases h19 : p = 19
  · subst h19
    rw [show (((19 : UInt8).toNat : Nat) : Int) = 19 from rfl] at hW1 x0 ⊢
    by_cases hq : 8 ≤ s.blocks.length
    · have q1 : (8 : Int) ≤ (s.blocks.length : Int) := by omega
      have HE := Lib.hid (show thereV nt inp role s.blocks (19, a) = 132 by rw [th19, if_pos hq])
      clear hq
      go_enter Tryd.func37, Tryd.ntmps37
      go_upto_region 1 with fail
      rw [← hW1]
      clear hW1
      refine region_known [(1, .exact _ (.int .u8 19)), (5, .exact _ (.int .u8 (a.toNat : Int))), (11, .exact _ (.slice at_ nt ct)), (17, .exact _ (.int .u8 19)), (21, .exact _ (.int .u8 (a.toNat : Int))), (26, .exact _ (.int .i64 (inp : Int))), (32, .exact _ (.int .u8 19)), (36, .exact _ (.int .u8 19)), (41, .exact _ (.int .u8 (a.toNat : Int)))] (by kernel_rfl) (by kernel_rfl) ?_
      (repeat (first | (refine wpG_skip (by kernel_rfl) (fun K hK => ?_); go_big_quiet_skip; refine wpQuiet_nil (hK _ ?_); clear hK K) | (refine wpG_quiet (by rfl) (by rfl) (fun K hK => ?_); go_big_quiet_want; go_big_quiet_op; go_big_quiet_on; refine wpQuiet_nil (hK _ ?_); clear hK K) | (refine wpG_nilOk rfl rfl rfl (by kernel_rfl) (fun K hK => ?_); go_simp; refine hK _ ?_; clear hK K)))
      repeat (refine wpG_exact rfl (by kernel_rfl) (fun w' G hB hS hG => ?_) (fun K hK => ?_); (have y0 := Below.keeps hB x0; have y1 := Below.keeps hB x1; have y2 := Below.keeps hB g0; have y3 := Below.keeps hB g2; go_simp; exact hG _ (Bel.refl _)); go_simp; refine hK _ ?_; clear hK K; (repeat (first | (refine wpG_skip (by kernel_rfl) (fun K hK => ?_); go_big_quiet_skip; refine wpQuiet_nil (hK _ ?_); clear hK K) | (refine wpG_quiet (by rfl) (by rfl) (fun K hK => ?_); go_big_quiet_want; go_big_quiet_op; go_big_quiet_on; refine wpQuiet_nil (hK _ ?_); clear hK K) | (refine wpG_nilOk rfl rfl rfl (by kernel_rfl) (fun K hK => ?_); go_simp; refine hK _ ?_; clear hK K))))
      refine wpG_nilV3 ?_
      intro w2 hB2 hA2
      have z0 := Below.keeps hB2 x0
      have z1 := Below.keeps hB2 x1
      have z3 := Below.keeps hB2 g3
      have HB2 := Lib.hid hB2
      clear hB2 hA2 x0 x1 g0 g2 g3
      go_wp2_with fail
      refine (HT.out _ HB2.out).mono ?_
      rintro e w3 ⟨htop, hB3⟩
      have HTOP := Lib.hid htop
      have HB3 := Lib.hid (bt HB2.out hB3)
      have u0 := Below.keeps hB3 z0
      have u1 := Below.keeps hB3 z1
      have u3 := Below.keeps hB3 z3
      clear htop hB3 z0 z1 z3
      obtain ⟨tp, rfl⟩ : ∃ tp, e = .returned tp := by rcases HTOP.out with ⟨_, rfl⟩ | ⟨_, _, _, _, _, rfl⟩ <;> exact ⟨_, rfl⟩
      clear HTOP
      go_wp2_with fail
      refine (HLN.out _ HB3.out).mono ?_
      rintro e w4 ⟨rfl, rfl⟩
      go_wp2_with fail
      go_ret
      exact ⟨by rw [HE.out]; rfl, bt HB1.out HB3.out⟩
    · have q1 : ¬ (8 : Int) ≤ (s.blocks.length : Int) := by omega
      have HE := Lib.hid (show thereV nt inp role s.blocks (19, a) = 0 by rw [th19, if_neg hq])
      clear hq
      go_enter Tryd.func37, Tryd.ntmps37
      go_upto_region 1 with fail
      rw [← hW1]
      clear hW1
      refine region_known [(1, .exact _ (.int .u8 19)), (5, .exact _ (.int .u8 (a.toNat : Int))), (11, .exact _ (.slice at_ nt ct)), (17, .exact _ (.int .u8 19)), (21, .exact _ (.int .u8 (a.toNat : Int))), (26, .exact _ (.int .i64 (inp : Int))), (32, .exact _ (.int .u8 19)), (36, .exact _ (.int .u8 19)), (41, .exact _ (.int .u8 (a.toNat : Int)))] (by kernel_rfl) (by kernel_rfl) ?_
      (repeat (first | (refine wpG_skip (by kernel_rfl) (fun K hK => ?_); go_big_quiet_skip; refine wpQuiet_nil (hK _ ?_); clear hK K) | (refine wpG_quiet (by rfl) (by rfl) (fun K hK => ?_); go_big_quiet_want; go_big_quiet_op; go_big_quiet_on; refine wpQuiet_nil (hK _ ?_); clear hK K) | (refine wpG_nilOk rfl rfl rfl (by kernel_rfl) (fun K hK => ?_); go_simp; refine hK _ ?_; clear hK K)))
      repeat (refine wpG_exact rfl (by kernel_rfl) (fun w' G hB hS hG => ?_) (fun K hK => ?_); (have y0 := Below.keeps hB x0; have y1 := Below.keeps hB x1; have y2 := Below.keeps hB g0; have y3 := Below.keeps hB g2; go_simp; exact hG _ (Bel.refl _)); go_simp; refine hK _ ?_; clear hK K; (repeat (first | (refine wpG_skip (by kernel_rfl) (fun K hK => ?_); go_big_quiet_skip; refine wpQuiet_nil (hK _ ?_); clear hK K) | (refine wpG_quiet (by rfl) (by rfl) (fun K hK => ?_); go_big_quiet_want; go_big_quiet_op; go_big_quiet_on; refine wpQuiet_nil (hK _ ?_); clear hK K) | (refine wpG_nilOk rfl rfl rfl (by kernel_rfl) (fun K hK => ?_); go_simp; refine hK _ ?_; clear hK K))))
      refine wpG_nilV3 ?_
      intro w2 hB2 hA2
      have z0 := Below.keeps hB2 x0
      have z1 := Below.keeps hB2 x1
      have z3 := Below.keeps hB2 g3
      have HB2 := Lib.hid hB2
      clear hB2 hA2 x0 x1 g0 g2 g3
      go_wp2_with fail
      refine (HT.out _ HB2.out).mono ?_
      rintro e w3 ⟨htop, hB3⟩
      have HTOP := Lib.hid htop
      have HB3 := Lib.hid (bt HB2.out hB3)
      have u0 := Below.keeps hB3 z0
      have u1 := Below.keeps hB3 z1
      have u3 := Below.keeps hB3 z3
      clear htop hB3 z0 z1 z3
      obtain ⟨tp, rfl⟩ : ∃ tp, e = .returned tp := by rcases HTOP.out with ⟨_, rfl⟩ | ⟨_, _, _, _, _, rfl⟩ <;> exact ⟨_, rfl⟩
      clear HTOP
      go_wp2_with fail
      refine (HLN.out _ HB3.out).mono ?_
      rintro e w4 ⟨rfl, rfl⟩
      go_wp2_with fail
      go_ret
      exact ⟨by rw [HE.out]; rfl, bt HB1.out HB3.out⟩
  by_cases h22 : p = 22
  · subst h22
    rw [show (((22 : UInt8).toNat : Nat) : Int) = 22 from rfl] at hW1 x0 ⊢
    by_cases hq : 8 ≤ s.blocks.length
    · have q1 : (8 : Int) ≤ (s.blocks.length : Int) := by omega
      have HE := Lib.hid (show thereV nt inp role s.blocks (22, a) = 132 by rw [th22, if_pos hq])
      clear hq
      go_enter Tryd.func37, Tryd.ntmps37
      go_upto_region 1 with fail
      rw [← hW1]
      clear hW1
      refine region_known [(1, .exact _ (.int .u8 22)), (5, .exact _ (.int .u8 (a.toNat : Int))), (11, .exact _ (.slice at_ nt ct)), (17, .exact _ (.int .u8 22)), (21, .exact _ (.int .u8 (a.toNat : Int))), (26, .exact _ (.int .i64 (inp : Int))), (32, .exact _ (.int .u8 22)), (36, .exact _ (.int .u8 22)), (41, .exact _ (.int .u8 (a.toNat : Int)))] (by kernel_rfl) (by kernel_rfl) ?_
      (repeat (first | (refine wpG_skip (by kernel_rfl) (fun K hK => ?_); go_big_quiet_skip; refine wpQuiet_nil (hK _ ?_); clear hK K) | (refine wpG_quiet (by rfl) (by rfl) (fun K hK => ?_); go_big_quiet_want; go_big_quiet_op; go_big_quiet_on; refine wpQuiet_nil (hK _ ?_); clear hK K) | (refine wpG_nilOk rfl rfl rfl (by kernel_rfl) (fun K hK => ?_); go_simp; refine hK _ ?_; clear hK K)))
      repeat (refine wpG_exact rfl (by kernel_rfl) (fun w' G hB hS hG => ?_) (fun K hK => ?_); (have y0 := Below.keeps hB x0; have y1 := Below.keeps hB x1; have y2 := Below.keeps hB g0; have y3 := Below.keeps hB g2; go_simp; exact hG _ (Bel.refl _)); go_simp; refine hK _ ?_; clear hK K; (repeat (first | (refine wpG_skip (by kernel_rfl) (fun K hK => ?_); go_big_quiet_skip; refine wpQuiet_nil (hK _ ?_); clear hK K) | (refine wpG_quiet (by rfl) (by rfl) (fun K hK => ?_); go_big_quiet_want; go_big_quiet_op; go_big_quiet_on; refine wpQuiet_nil (hK _ ?_); clear hK K) | (refine wpG_nilOk rfl rfl rfl (by kernel_rfl) (fun K hK => ?_); go_simp; refine hK _ ?_; clear hK K))))
      refine wpG_nilV3 ?_
      intro w2 hB2 hA2
      have z0 := Below.keeps hB2 x0
      have z1 := Below.keeps hB2 x1
      have z3 := Below.keeps hB2 g3
      have HB2 := Lib.hid hB2
      clear hB2 hA2 x0 x1 g0 g2 g3
      go_wp2_with fail
      refine (HT.out _ HB2.out).mono ?_
      rintro e w3 ⟨htop, hB3⟩
      have HTOP := Lib.hid htop
      have HB3 := Lib.hid (bt HB2.out hB3)
      have u0 := Below.keeps hB3 z0
      have u1 := Below.keeps hB3 z1
      have u3 := Below.keeps hB3 z3
      clear htop hB3 z0 z1 z3
      obtain ⟨tp, rfl⟩ : ∃ tp, e = .returned tp := by rcases HTOP.out with ⟨_, rfl⟩ | ⟨_, _, _, _, _, rfl⟩ <;> exact ⟨_, rfl⟩
      clear HTOP
      go_wp2_with fail
      refine (HLN.out _ HB3.out).mono ?_
      rintro e w4 ⟨rfl, rfl⟩
      go_wp2_with fail
      go_ret
      exact ⟨by rw [HE.out]; rfl, bt HB1.out HB3.out⟩
    · have q1 : ¬ (8 : Int) ≤ (s.blocks.length : Int) := by omega
      have HE := Lib.hid (show thereV nt inp role s.blocks (22, a) = 0 by rw [th22, if_neg hq])
      clear hq
      go_enter Tryd.func37, Tryd.ntmps37
      go_upto_region 1 with fail
      rw [← hW1]
      clear hW1
      refine region_known [(1, .exact _ (.int .u8 22)), (5, .exact _ (.int .u8 (a.toNat : Int))), (11, .exact _ (.slice at_ nt ct)), (17, .exact _ (.int .u8 22)), (21, .exact _ (.int .u8 (a.toNat : Int))), (26, .exact _ (.int .i64 (inp : Int))), (32, .exact _ (.int .u8 22)), (36, .exact _ (.int .u8 22)), (41, .exact _ (.int .u8 (a.toNat : Int)))] (by kernel_rfl) (by kernel_rfl) ?_
      (repeat (first | (refine wpG_skip (by kernel_rfl) (fun K hK => ?_); go_big_quiet_skip; refine wpQuiet_nil (hK _ ?_); clear hK K) | (refine wpG_quiet (by rfl) (by rfl) (fun K hK => ?_); go_big_quiet_want; go_big_quiet_op; go_big_quiet_on; refine wpQuiet_nil (hK _ ?_); clear hK K) | (refine wpG_nilOk rfl rfl rfl (by kernel_rfl) (fun K hK => ?_); go_simp; refine hK _ ?_; clear hK K)))
      repeat (refine wpG_exact rfl (by kernel_rfl) (fun w' G hB hS hG => ?_) (fun K hK => ?_); (have y0 := Below.keeps hB x0; have y1 := Below.keeps hB x1; have y2 := Below.keeps hB g0; have y3 := Below.keeps hB g2; go_simp; exact hG _ (Bel.refl _)); go_simp; refine hK _ ?_; clear hK K; (repeat (first | (refine wpG_skip (by kernel_rfl) (fun K hK => ?_); go_big_quiet_skip; refine wpQuiet_nil (hK _ ?_); clear hK K) | (refine wpG_quiet (by rfl) (by rfl) (fun K hK => ?_); go_big_quiet_want; go_big_quiet_op; go_big_quiet_on; refine wpQuiet_nil (hK _ ?_); clear hK K) | (refine wpG_nilOk rfl rfl rfl (by kernel_rfl) (fun K hK => ?_); go_simp; refine hK _ ?_; clear hK K))))
      refine wpG_nilV3 ?_
      intro w2 hB2 hA2
      have z0 := Below.keeps hB2 x0
      have z1 := Below.keeps hB2 x1
      have z3 := Below.keeps hB2 g3
      have HB2 := Lib.hid hB2
      clear hB2 hA2 x0 x1 g0 g2 g3
      go_wp2_with fail
      refine (HT.out _ HB2.out).mono ?_
      rintro e w3 ⟨htop, hB3⟩
      have HTOP := Lib.hid htop
      have HB3 := Lib.hid (bt HB2.out hB3)
      have u0 := Below.keeps hB3 z0
      have u1 := Below.keeps hB3 z1
      have u3 := Below.keeps hB3 z3
      clear htop hB3 z0 z1 z3
      obtain ⟨tp, rfl⟩ : ∃ tp, e = .returned tp := by rcases HTOP.out with ⟨_, rfl⟩ | ⟨_, _, _, _, _, rfl⟩ <;> exact ⟨_, rfl⟩
      clear HTOP
      go_wp2_with fail
      refine (HLN.out _ HB3.out).mono ?_
      rintro e w4 ⟨rfl, rfl⟩
      go_wp2_with fail
      go_ret
      exact ⟨by rw [HE.out]; rfl, bt HB1.out HB3.out⟩
  by_cases h21 : p = 21
  · subst h21
    rw [show (((21 : UInt8).toNat : Nat) : Int) = 21 from rfl] at hW1 x0 ⊢
    go_enter Tryd.func37, Tryd.ntmps37
    go_upto_region 1 with fail
    rw [← hW1]
    clear hW1
    refine region_known [(1, .exact _ (.int .u8 21)), (5, .exact _ (.int .u8 (a.toNat : Int))), (11, .exact _ (.slice at_ nt ct)), (17, .exact _ (.int .u8 21)), (21, .exact _ (.int .u8 (a.toNat : Int))), (26, .exact _ (.int .i64 (inp : Int))), (32, .exact _ (.int .u8 21)), (36, .exact _ (.int .u8 21)), (41, .exact _ (.int .u8 (a.toNat : Int)))] (by kernel_rfl) (by kernel_rfl) ?_
    (repeat (first | (refine wpG_skip (by kernel_rfl) (fun K hK => ?_); go_big_quiet_skip; refine wpQuiet_nil (hK _ ?_); clear hK K) | (refine wpG_quiet (by rfl) (by rfl) (fun K hK => ?_); go_big_quiet_want; go_big_quiet_op; go_big_quiet_on; refine wpQuiet_nil (hK _ ?_); clear hK K) | (refine wpG_nilOk rfl rfl rfl (by kernel_rfl) (fun K hK => ?_); go_simp; refine hK _ ?_; clear hK K)))
    repeat (refine wpG_exact rfl (by kernel_rfl) (fun w' G hB hS hG => ?_) (fun K hK => ?_); (have y0 := Below.keeps hB x0; have y1 := Below.keeps hB x1; have y2 := Below.keeps hB g0; have y3 := Below.keeps hB g2; go_simp; exact hG _ (Bel.refl _)); go_simp; refine hK _ ?_; clear hK K; (repeat (first | (refine wpG_skip (by kernel_rfl) (fun K hK => ?_); go_big_quiet_skip; refine wpQuiet_nil (hK _ ?_); clear hK K) | (refine wpG_quiet (by rfl) (by rfl) (fun K hK => ?_); go_big_quiet_want; go_big_quiet_op; go_big_quiet_on; refine wpQuiet_nil (hK _ ?_); clear hK K) | (refine wpG_nilOk rfl rfl rfl (by kernel_rfl) (fun K hK => ?_); go_simp; refine hK _ ?_; clear hK K))))
    refine wpG_nilV3 ?_
    intro w2 hB2 hA2
    have z0 := Below.keeps hB2 x0
    have z1 := Below.keeps hB2 x1
    have z3 := Below.keeps hB2 g3
    have HB2 := Lib.hid hB2
    clear hB2 hA2 x0 x1 g0 g2 g3
    go_wp2_with fail
    refine (HT.out _ HB2.out).mono ?_
    rintro e w3 ⟨htop, hB3⟩
    have HTOP := Lib.hid htop
    have HB3 := Lib.hid (bt HB2.out hB3)
    have u0 := Below.keeps hB3 z0
    have u1 := Below.keeps hB3 z1
    have u3 := Below.keeps hB3 z3
    clear htop hB3 z0 z1 z3
    rcases HTOP.out with ⟨hb, rfl⟩ | ⟨g, c, m, hv, hm, rfl⟩
    · have HE := Lib.hid (show thereV nt inp role s.blocks (21, a) = 132 by rw [th21, if_pos hb])
      clear HTOP hb
      go_wp2_with fail
      go_ret
      exact ⟨by rw [HE.out]; rfl, bt HB1.out HB3.out⟩
    · have HE := Lib.hid (show thereV nt inp role s.blocks (21, a) = 0 by rw [th21, if_neg (fun e => by rw [e] at hm; simp at hm)])
      clear HTOP hv hm
      go_wp2_with fail
      go_ret
      exact ⟨by rw [HE.out]; rfl, bt HB1.out HB3.out⟩
  by_cases h20 : p = 20
  · subst h20
    rw [show (((20 : UInt8).toNat : Nat) : Int) = 20 from rfl] at hW1 x0 ⊢
    go_enter Tryd.func37, Tryd.ntmps37
    go_upto_region 1 with fail
    rw [← hW1]
    clear hW1
    refine region_known [(1, .exact _ (.int .u8 20)), (5, .exact _ (.int .u8 (a.toNat : Int))), (11, .exact _ (.slice at_ nt ct)), (17, .exact _ (.int .u8 20)), (21, .exact _ (.int .u8 (a.toNat : Int))), (26, .exact _ (.int .i64 (inp : Int))), (32, .exact _ (.int .u8 20)), (36, .exact _ (.int .u8 20)), (41, .exact _ (.int .u8 (a.toNat : Int)))] (by kernel_rfl) (by kernel_rfl) ?_
    (repeat (first | (refine wpG_skip (by kernel_rfl) (fun K hK => ?_); go_big_quiet_skip; refine wpQuiet_nil (hK _ ?_); clear hK K) | (refine wpG_quiet (by rfl) (by rfl) (fun K hK => ?_); go_big_quiet_want; go_big_quiet_op; go_big_quiet_on; refine wpQuiet_nil (hK _ ?_); clear hK K) | (refine wpG_nilOk rfl rfl rfl (by kernel_rfl) (fun K hK => ?_); go_simp; refine hK _ ?_; clear hK K)))
    repeat (refine wpG_exact rfl (by kernel_rfl) (fun w' G hB hS hG => ?_) (fun K hK => ?_); (have y0 := Below.keeps hB x0; have y1 := Below.keeps hB x1; have y2 := Below.keeps hB g0; have y3 := Below.keeps hB g2; go_simp; exact hG _ (Bel.refl _)); go_simp; refine hK _ ?_; clear hK K; (repeat (first | (refine wpG_skip (by kernel_rfl) (fun K hK => ?_); go_big_quiet_skip; refine wpQuiet_nil (hK _ ?_); clear hK K) | (refine wpG_quiet (by rfl) (by rfl) (fun K hK => ?_); go_big_quiet_want; go_big_quiet_op; go_big_quiet_on; refine wpQuiet_nil (hK _ ?_); clear hK K) | (refine wpG_nilOk rfl rfl rfl (by kernel_rfl) (fun K hK => ?_); go_simp; refine hK _ ?_; clear hK K))))
    refine wpG_nilV3 ?_
    intro w2 hB2 hA2
    have z0 := Below.keeps hB2 x0
    have z1 := Below.keeps hB2 x1
    have z3 := Below.keeps hB2 g3
    have HB2 := Lib.hid hB2
    clear hB2 hA2 x0 x1 g0 g2 g3
    go_wp2_with fail
    refine (HT.out _ HB2.out).mono ?_
    rintro e w3 ⟨htop, hB3⟩
    have HTOP := Lib.hid htop
    have HB3 := Lib.hid (bt HB2.out hB3)
    have u0 := Below.keeps hB3 z0
    have u1 := Below.keeps hB3 z1
    have u3 := Below.keeps hB3 z3
    clear htop hB3 z0 z1 z3
    rcases HTOP.out with ⟨hb, rfl⟩ | ⟨g, c, m, hv, hm, rfl⟩
    · have HE := Lib.hid (show thereV nt inp role s.blocks (20, a) = 132 by rw [th20, hb]; rfl)
      clear HTOP hb
      go_wp2_with fail
      go_ret
      exact ⟨by rw [HE.out]; rfl, bt HB1.out HB3.out⟩
    · obtain ⟨b, hb, _, l0, _, _, _, l4⟩ := HLA.out _ HB3.out hv hm
      clear HTOP hv hm
      by_cases h1 : b.op = 19
      · have q1 : ((b.op.toNat : Int) != 19) = false := by rw [h1]; rfl
        cases hd : b.did with
        | true =>
          rw [hd] at l4
          have HE := Lib.hid (show thereV nt inp role s.blocks (20, a) = 132 by rw [th20, hb]; simp [elseBad, hd])
          clear hb hd h1
          go_wp2_with fail
          go_ret
          exact ⟨by rw [HE.out]; rfl, bt HB1.out HB3.out⟩
        | false =>
          rw [hd] at l4
          have HE := Lib.hid (show thereV nt inp role s.blocks (20, a) = 0 by rw [th20, hb]; simp [elseBad, hd, h1])
          clear hb hd h1
          go_wp2_with fail
          go_ret
          exact ⟨by rw [HE.out]; rfl, bt HB1.out HB3.out⟩
      · have q1 : ((b.op.toNat : Int) != 19) = true := by
          have := u8_ne (p := b.op) (k := 19) (by decide) h1
          simpa [bne] using this
        have HE := Lib.hid (show thereV nt inp role s.blocks (20, a) = 132 by rw [th20, hb]; simp [elseBad, h1])
        clear hb h1
        go_wp2_with fail
        go_ret
        exact ⟨by rw [HE.out]; rfl, bt HB1.out HB3.out⟩
  have HE := Lib.hid (thN (nt := nt) (inp := inp) (role := role) (bl := s.blocks) (a := a) h1 h3 h17 h18 h23 h20 h21 h19 h22)
  have e1 : ((p.toNat : Int) == 1) = false := u8_ne (k := 1) (by decide) h1
  have e3 : ((p.toNat : Int) == 3) = false := u8_ne (k := 3) (by decide) h3
  have e17 : ((p.toNat : Int) == 17) = false := u8_ne (k := 17) (by decide) h17
  have e18 : ((p.toNat : Int) == 18) = false := u8_ne (k := 18) (by decide) h18
  have e23 : ((p.toNat : Int) == 23) = false := u8_ne (k := 23) (by decide) h23
  have e20 : ((p.toNat : Int) == 20) = false := u8_ne (k := 20) (by decide) h20
  have e21 : ((p.toNat : Int) == 21) = false := u8_ne (k := 21) (by decide) h21
  have e19 : ((p.toNat : Int) == 19) = false := u8_ne (k := 19) (by decide) h19
  have e22 : ((p.toNat : Int) == 22) = false := u8_ne (k := 22) (by decide) h22
  clear h1 h3 h17 h18 h23 h20 h21 h19 h22
  go_enter Tryd.func37, Tryd.ntmps37
  go_upto_region 1 with fail
  rw [← hW1]
  clear hW1
  refine region_known [(1, .exact _ (.int .u8 (p.toNat : Int))), (5, .exact _ (.int .u8 (a.toNat : Int))), (11, .exact _ (.slice at_ nt ct)), (17, .exact _ (.int .u8 (p.toNat : Int))), (21, .exact _ (.int .u8 (a.toNat : Int))), (26, .exact _ (.int .i64 (inp : Int))), (32, .exact _ (.int .u8 (p.toNat : Int))), (36, .exact _ (.int .u8 (p.toNat : Int))), (41, .exact _ (.int .u8 (a.toNat : Int)))] (by kernel_rfl) (by kernel_rfl) ?_
  (repeat (first | (refine wpG_skip (by kernel_rfl) (fun K hK => ?_); go_big_quiet_skip; refine wpQuiet_nil (hK _ ?_); clear hK K) | (refine wpG_quiet (by rfl) (by rfl) (fun K hK => ?_); go_big_quiet_want; go_big_quiet_op; go_big_quiet_on; refine wpQuiet_nil (hK _ ?_); clear hK K) | (refine wpG_nilOk rfl rfl rfl (by kernel_rfl) (fun K hK => ?_); go_simp; refine hK _ ?_; clear hK K)))
  repeat (refine wpG_exact rfl (by kernel_rfl) (fun w' G hB hS hG => ?_) (fun K hK => ?_); (have y0 := Below.keeps hB x0; have y1 := Below.keeps hB x1; have y2 := Below.keeps hB g0; have y3 := Below.keeps hB g2; go_simp; exact hG _ (Bel.refl _)); go_simp; refine hK _ ?_; clear hK K; (repeat (first | (refine wpG_skip (by kernel_rfl) (fun K hK => ?_); go_big_quiet_skip; refine wpQuiet_nil (hK _ ?_); clear hK K) | (refine wpG_quiet (by rfl) (by rfl) (fun K hK => ?_); go_big_quiet_want; go_big_quiet_op; go_big_quiet_on; refine wpQuiet_nil (hK _ ?_); clear hK K) | (refine wpG_nilOk rfl rfl rfl (by kernel_rfl) (fun K hK => ?_); go_simp; refine hK _ ?_; clear hK K))))
  refine wpG_nilV3 ?_
  intro w2 hB2 hA2
  have z0 := Below.keeps hB2 x0
  have z1 := Below.keeps hB2 x1
  have z3 := Below.keeps hB2 g3
  have HB2 := Lib.hid hB2
  clear hB2 hA2 x0 x1 g0 g2 g3
  go_wp2_with fail
  refine (HT.out _ HB2.out).mono ?_
  rintro e w3 ⟨htop, hB3⟩
  have HTOP := Lib.hid htop
  have HB3 := Lib.hid (bt HB2.out hB3)
  have u0 := Below.keeps hB3 z0
  have u1 := Below.keeps hB3 z1
  have u3 := Below.keeps hB3 z3
  clear htop hB3 z0 z1 z3
  obtain ⟨tp, rfl⟩ : ∃ tp, e = .returned tp := by rcases HTOP.out with ⟨_, rfl⟩ | ⟨_, _, _, _, _, rfl⟩ <;> exact ⟨_, rfl⟩
  clear HTOP
  go_wp2_with fail
  go_ret
  exact ⟨by rw [HE.out]; rfl, bt HB1.out HB3.out⟩
end
end Go.Proofs.YtahmacnmphjhgaaDoor
namespace Go.Proofs.YtahmacnmphjhgaaDoor
open Go.RowKit Oct
attribute [local irreducible] wpG

theorem run_next_at {P : Program} (w : World) (I : Nat) (s : ByteArray) (pos : Nat) (ty : TypeId) (hI : w.heap[I]? = some (.stringIter s pos)) (h : pos < s.size) (ha : (s[pos]'h).toNat < 128) :
    (Instr.next (.pointer (some ⟨I, 0, none⟩)) true ty).run P w = .ok (.tuple #[.bool true, .int .i64 pos, .int .i32 (s[pos]'h).toNat]) (w.putObj I (.stringIter s (pos + 1))) := by
  simp only [Instr.next, getObj, setObj, Sem.run_bind, Sem.run, hI, Result.andThen, h, if_true, decode_ascii s pos h ha]
  simp [goInt, Sem.run, hI, World.putObj]
theorem run_next_out {P : Program} (w : World) (I : Nat) (s : ByteArray) (pos : Nat) (ty : TypeId) (hI : w.heap[I]? = some (.stringIter s pos)) (h : ¬ pos < s.size) :
    (Instr.next (.pointer (some ⟨I, 0, none⟩)) true ty).run P w = .ok (.tuple #[.bool false]) w := by
  simp [Instr.next, getObj, Sem.run, hI, h]
theorem iterPos_at {w : World} {I : Nat} {s : ByteArray} {pos : Nat} (hI : w.heap[I]? = some (.stringIter s pos)) : w.iterPos I = pos := by
  simp [World.iterPos, hI]
theorem next_bs {P : Program} (w : World) (I : Nat) (l : List UInt8) (pos : Nat) (ty : TypeId) (hI : w.heap[I]? = some (.stringIter (bs l) pos)) (h : pos < l.length) (ha : l[pos].toNat < 128) :
    (Instr.next (.pointer (some ⟨I, 0, none⟩)) true ty).run P w = .ok (.tuple #[.bool true, .int .i64 (pos : Int), .int .i32 (l[pos].toNat : Int)]) (w.putObj I (.stringIter (bs l) (pos + 1))) := by
  have hs : pos < (bs l).size := by rw [bs_size]; exact h
  have := run_next_at (P := P) w I (bs l) pos ty hI hs (by rw [bs_get]; exact ha)
  rw [bs_get] at this
  exact this
theorem next_bs_out {P : Program} (w : World) (I : Nat) (l : List UInt8) (pos : Nat) (ty : TypeId) (hI : w.heap[I]? = some (.stringIter (bs l) pos)) (h : ¬ pos < l.length) :
    (Instr.next (.pointer (some ⟨I, 0, none⟩)) true ty).run P w = .ok (.tuple #[.bool false]) w := run_next_out w I (bs l) pos ty hI (by rw [bs_size]; exact h)

/-- the table of effects lies there -/
def EffM (w : World) : Prop := ∀ k, k < 24 → w.cell? ⟨0, k * 2, none⟩ = some (.string (bs (effs.getD k ([], [])).1)) ∧ w.cell? ⟨0, k * 2 + 1, none⟩ = some (.string (bs (effs.getD k ([], [])).2))
theorem EffM.below {w w' : World} {base : Nat} (h : EffM w) (hB : Below base w w') (hg : 0 < base) : EffM w' := fun k hk => by
  obtain ⟨h1, h2⟩ := h k hk
  exact ⟨(World.cell?_of_block (hB.block _ hg)).trans h1, (World.cell?_of_block (hB.block _ hg)).trans h2⟩
theorem effs_repl : ∀ k, k < 24 → (Lib.countByte (effs.getD k ([], [])).1 82 = 0 ∨ (effs.getD k ([], [])).1 = [82]) ∧ (Lib.countByte (effs.getD k ([], [])).2 82 = 0 ∨ (effs.getD k ([], [])).2 = [82]) := by decide
theorem regV_two (a : UInt8) : regV a = [84] ∨ regV a = [78] := by unfold regV; split <;> simp
theorem replV_mem {s r : List UInt8} {c : UInt8} (h : c ∈ replV s r) : c ∈ s ∨ (s = [82] ∧ c ∈ r) := by
  unfold replV at h
  split at h
  · rename_i e; exact .inr ⟨e, h⟩
  · exact .inl h
theorem effs_f1 : ∀ k, k < 24 → (∀ c ∈ (effs.getD k ([], [])).1, c.toNat < 128) := by decide
theorem effs_f2 : ∀ k, k < 24 → (∀ c ∈ (effs.getD k ([], [])).2, c = 49 ∨ c = 50 ∨ c = 84 ∨ c = 78 ∨ c = 82) := by decide
theorem effs_f3 : ∀ k, k < 24 → (82 ∈ (effs.getD k ([], [])).2 → (effs.getD k ([], [])).2 = [82]) := by decide
theorem effs_f4 : ∀ k, k < 24 → (49 ∈ (effs.getD k ([], [])).2 → 1 ≤ (effs.getD k ([], [])).1.length) := by decide
theorem effs_f5 : ∀ k, k < 24 → (50 ∈ (effs.getD k ([], [])).2 → 2 ≤ (effs.getD k ([], [])).1.length) := by decide
theorem effs_f6 : ∀ k, k < 24 → ((effs.getD k ([], [])).1.length ≤ 3) := by decide
theorem effs_f7 : ∀ k, k < 24 → ((effs.getD k ([], [])).2.length ≤ 2) := by decide
theorem eff_facts (x : VI) (hx : x.1.toNat < 24) : (∀ c ∈ (effV x).1, c.toNat < 128) ∧ (∀ c ∈ (effV x).2, c = 49 ∨ c = 50 ∨ c = 84 ∨ c = 78) ∧ (49 ∈ (effV x).2 → 1 ≤ (effV x).1.length) ∧ (50 ∈ (effV x).2 → 2 ≤ (effV x).1.length) ∧ (effV x).1.length ≤ 3 ∧ (effV x).2.length ≤ 2 := by
  have f1 := effs_f1 x.1.toNat hx
  have f2 := effs_f2 x.1.toNat hx
  have f3 := effs_f3 x.1.toNat hx
  have f4 := effs_f4 x.1.toNat hx
  have f5 := effs_f5 x.1.toNat hx
  have f6 := effs_f6 x.1.toNat hx
  have f7 := effs_f7 x.1.toNat hx
  have hl : ∀ s : List UInt8, (replV s (regV x.2)).length = s.length := fun s => by
    unfold replV
    split
    · rename_i h; rw [h]; rcases regV_two x.2 with e | e <;> rw [e] <;> rfl
    · rfl
  unfold effV
  refine ⟨fun c hc => ?_, fun c hc => ?_, fun hc => ?_, fun hc => ?_, by rw [hl]; exact f6, by rw [hl]; exact f7⟩
  · rcases replV_mem hc with h | ⟨_, h⟩
    · exact f1 c h
    · rcases regV_two x.2 with e | e <;> (rw [e, List.mem_singleton] at h; subst h; decide)
  · rcases replV_mem hc with h | ⟨_, h⟩
    · rcases f2 c h with h1 | h1 | h1 | h1 | h1
      · exact .inl h1
      · exact .inr (.inl h1)
      · exact .inr (.inr (.inl h1))
      · exact .inr (.inr (.inr h1))
      · exfalso
        subst h1
        have := f3 h
        unfold replV at hc
        rw [if_pos this] at hc
        rcases regV_two x.2 with e | e <;> (rw [e] at hc; simp at hc)
    · rcases regV_two x.2 with e | e <;> (rw [e, List.mem_singleton] at h; subst h; simp)
  · rw [hl]
    rcases replV_mem hc with h | ⟨_, h⟩
    · exact f4 h
    · rcases regV_two x.2 with e | e <;> (rw [e] at h; simp at h)
  · rw [hl]
    rcases replV_mem hc with h | ⟨_, h⟩
    · exact f5 h
    · rcases regV_two x.2 with e | e <;> (rw [e] at h; simp at h)
theorem fitV_iff : ∀ (t u : List UInt8), t.length ≤ u.length → (fitV t u = true ↔ ∀ j (h : j < t.length) (h' : j < u.length), t[j] = 63 ∨ t[j] = u[j])
  | [], u, _ => by simp [fitV]
  | a :: t, [], h => by simp at h
  | a :: t, b :: u, h => by
    rw [fitV, Bool.and_eq_true, fitV_iff t u (by simpa using h)]
    constructor
    · rintro ⟨h1, h2⟩ j hj hj'
      cases j with
      | zero => simpa using h1
      | succ j => exact h2 j (by simpa using hj) (by simpa using hj')
    · intro h3
      have h4 : a = 63 ∨ a = b := h3 0 (by simp) (by simp)
      refine ⟨by simpa using h4, fun j hj hj' => ?_⟩
      exact h3 (j + 1) (by simpa using hj) (by simpa using hj')
theorem givesV_succ {top g : List UInt8} {k : Nat} (h : k < g.length) : givesV top (g.take (k + 1)) = givesV top (g.take k) ++ (if g[k] = 49 then top.take 1 else if g[k] = 50 then (top.drop 1).take 1 else [g[k]]) := by
  unfold givesV
  rw [List.take_succ_eq_append_getElem h, List.flatMap_append]
  simp
theorem givesV_len (top : List UInt8) : ∀ g : List UInt8, (givesV top g).length ≤ g.length
  | [] => by simp [givesV]
  | c :: g => by
    have ih := givesV_len top g
    unfold givesV at ih ⊢
    rw [List.flatMap_cons, List.length_append, List.length_cons]
    have : (if c = 49 then top.take 1 else if c = 50 then (top.drop 1).take 1 else [c]).length ≤ 1 := by
      split
      · rw [List.length_take]; omega
      · split
        · rw [List.length_take]; omega
        · simp
    omega
end Go.Proofs.YtahmacnmphjhgaaDoor
namespace Go.Proofs.YtahmacnmphjhgaaDoor
open Go.RowKit Oct
attribute [local irreducible] wpG

section
variable {w : World} {base G : Nat} {tv cv bv sv ev : Value} {inp : Nat} {role : UInt8} {s : Vs}
set_option maxRecDepth 100000 in
set_option maxHeartbeats 8000000 in
theorem values_any (h : VG w base G tv cv inp role s bv sv ev) (hE : EffM w) (hg : 0 < base) (p a : UInt8) (hp : p.toNat < 24) (hk : s.kinds.length ≤ 1000) :
    Calls Tryd.prog 38 #[.pointer (some ⟨G, 0, none⟩), .agg #[.int .u8 (p.toNat : Int), .int .u8 (a.toNat : Int)]] w fun e w' => e = .returned (.int .i64 (((valuesV s.kinds (p, a)).1 : Nat) : Int)) ∧ VG w' base G tv cv inp role { s with kinds := (valuesV s.kinds (p, a)).2 } bv sv ev ∧ Chg (fun x => x = G) w w' := by
  have HH := Lib.hid h
  have hgw : G < w.heap.size := h.blk.lt
  have hbw : base ≤ w.heap.size := Nat.le_trans h.gb (Nat.le_of_lt hgw)
  obtain ⟨W1, hW1⟩ : ∃ W1, W1 = w.alloc (.cells #[.int .u8 (p.toNat : Int), .int .u8 (a.toNat : Int)] 33) := ⟨_, rfl⟩
  have hb1 : Below w.heap.size w W1 := by rw [hW1]; exact b_alloc _ _
  have hx : Blk W1 w.heap.size 33 [.int .u8 (p.toNat : Int), .int .u8 (a.toNat : Int)] := by rw [hW1]; exact Blk.new w _ _
  have h1 := h.below hb1
  have x0 := hx.cell (k := 0) rfl
  have x1 := hx.cell (k := 1) rfl
  have g4 := h1.cell (k := 4) rfl
  obtain ⟨q1, q2⟩ := hE p.toNat hp
  have t1 := Below.keeps hb1 q1
  have t2 := Below.keeps hb1 q2
  obtain ⟨r1, r2⟩ := effs_repl p.toNat hp
  have hfacts := eff_facts (p, a) hp
  have HB1 := Lib.hid hb1
  have HBW := Lib.hid hbw
  have HGW := Lib.hid hgw
  have hrp := regV_two a
  have HRP := Lib.hid hrp
  have R1 := Lib.hid r1
  have R2 := Lib.hid r2
  obtain ⟨T0, hT0⟩ : ∃ T0, T0 = (effs.getD p.toNat ([], [])).1 := ⟨_, rfl⟩
  obtain ⟨E0, hE0⟩ : ∃ E0, E0 = (effs.getD p.toNat ([], [])).2 := ⟨_, rfl⟩
  obtain ⟨R, hR⟩ : ∃ R, R = regV a := ⟨_, rfl⟩
  obtain ⟨T, hT⟩ : ∃ T, T = (effV (p, a)).1 := ⟨_, rfl⟩
  obtain ⟨E, hEE⟩ : ∃ E, E = (effV (p, a)).2 := ⟨_, rfl⟩
  rw [← hT0] at t1 R1
  rw [← hE0] at t2 R2
  rw [← hR] at HRP
  have HTR := Lib.hid (show T = replV T0 R by rw [hT, hT0, hR]; rfl)
  have HER := Lib.hid (show E = replV E0 R by rw [hEE, hE0, hR]; rfl)
  have HR := Lib.hid hR
  have HT := Lib.hid hT
  have HEE := Lib.hid hEE
  rw [← hT, ← hEE] at hfacts
  have HF := Lib.hid hfacts
  have hTl : T.length ≤ 3 := hfacts.2.2.2.2.1
  have a1 : (a.toNat : Int) < 256 := by have := a.toNat_lt; omega
  have a0 : (0 : Int) ≤ (a.toNat : Int) := by omega
  have p0 : (0 : Int) ≤ (p.toNat : Int) := by omega
  have p1 : (p.toNat : Int) < 24 := by omega
  have k1 : (s.kinds.length : Int) ≤ 1000 := by omega
  have k2 : (T.length : Int) ≤ 3 := by omega
  clear h h1 hx hb1 hE q1 q2 r1 r2 hfacts hrp hT0 hE0 hR hT hEE
  go_enter Tryd.func38, Tryd.ntmps38
  go_upto_region 2 with fail
  rw [← hW1]
  clear hW1
  go_upto_if 16 with fail
  go_cut [5] (fun t wx => t = .string (bs R) ∧ wx = W1)
  case first =>
    by_cases hq : 4 ≤ a.toNat
    · have hq1 : (4 : Int) ≤ (a.toNat : Int) := by omega
      have HR84 := Lib.hid (show R = [84] by rw [HR.out]; unfold regV; rw [if_pos hq])
      clear hq
      go_wp2_with fail
      go_meet
      case rel => exact ⟨by rw [HR84.out]; rfl, rfl⟩
    · have hq1 : ¬ (4 : Int) ≤ (a.toNat : Int) := by omega
      have HR78 := Lib.hid (show R = [78] by rw [HR.out]; unfold regV; rw [if_neg hq])
      clear hq
      go_wp2_with fail
      go_meet
      case rel => exact ⟨by rw [HR78.out]; rfl, rfl⟩
  case rest =>
    obtain ⟨rfl, rfl⟩ := hcut
    go_upto_region 4 with fail
    refine region_known [(1, .exact _ (.int .u8 (p.toNat : Int))), (4, .exact _ (.string (bs T0))), (6, .exact _ (.string (bs T))), (8, .exact _ (.int .u8 (p.toNat : Int))), (11, .exact _ (.string (bs E0))), (13, .exact _ (.string (bs E)))] (by kernel_rfl) (by kernel_rfl) ?_
    (repeat (first | (refine wpG_skip (by kernel_rfl) (fun K hK => ?_); go_big_quiet_skip; refine wpQuiet_nil (hK _ ?_); clear hK K) | (refine wpG_quiet (by rfl) (by rfl) (fun K hK => ?_); go_big_quiet_want; go_big_quiet_op; go_big_quiet_on; refine wpQuiet_nil (hK _ ?_); clear hK K) | (refine wpG_nilOk rfl rfl rfl (by kernel_rfl) (fun K hK => ?_); go_simp; refine hK _ ?_; clear hK K)))
    refine wpG_exact rfl (by kernel_rfl) (fun w' G hB hS hG => ?_) (fun K hK => ?_)
    · have y := Below.keeps hB x0
      go_simp; exact hG _ (Bel.refl _)
    go_simp; refine hK _ ?_; clear hK K; (repeat (first | (refine wpG_skip (by kernel_rfl) (fun K hK => ?_); go_big_quiet_skip; refine wpQuiet_nil (hK _ ?_); clear hK K) | (refine wpG_quiet (by rfl) (by rfl) (fun K hK => ?_); go_big_quiet_want; go_big_quiet_op; go_big_quiet_on; refine wpQuiet_nil (hK _ ?_); clear hK K) | (refine wpG_nilOk rfl rfl rfl (by kernel_rfl) (fun K hK => ?_); go_simp; refine hK _ ?_; clear hK K)))
    refine wpG_exact rfl (by kernel_rfl) (fun w' G hB hS hG => ?_) (fun K hK => ?_)
    · have y := Below.keeps hB t1
      go_simp; exact hG _ (Bel.refl _)
    go_simp; refine hK _ ?_; clear hK K; (repeat (first | (refine wpG_skip (by kernel_rfl) (fun K hK => ?_); go_big_quiet_skip; refine wpQuiet_nil (hK _ ?_); clear hK K) | (refine wpG_quiet (by rfl) (by rfl) (fun K hK => ?_); go_big_quiet_want; go_big_quiet_op; go_big_quiet_on; refine wpQuiet_nil (hK _ ?_); clear hK K) | (refine wpG_nilOk rfl rfl rfl (by kernel_rfl) (fun K hK => ?_); go_simp; refine hK _ ?_; clear hK K)))
    refine wpG_exact rfl (by kernel_rfl) (fun w' G hB hS hG => ?_) (fun K hK => ?_)
    · have hr := ReplaceAll_any T0 R w' R1.out HRP.out
      rw [← HTR.out] at hr
      go_simp
      exact calls_told hG hr
    go_simp; refine hK _ ?_; clear hK K; (repeat (first | (refine wpG_skip (by kernel_rfl) (fun K hK => ?_); go_big_quiet_skip; refine wpQuiet_nil (hK _ ?_); clear hK K) | (refine wpG_quiet (by rfl) (by rfl) (fun K hK => ?_); go_big_quiet_want; go_big_quiet_op; go_big_quiet_on; refine wpQuiet_nil (hK _ ?_); clear hK K) | (refine wpG_nilOk rfl rfl rfl (by kernel_rfl) (fun K hK => ?_); go_simp; refine hK _ ?_; clear hK K)))
    refine wpG_exact rfl (by kernel_rfl) (fun w' G hB hS hG => ?_) (fun K hK => ?_)
    · have y := Below.keeps hB x0
      go_simp; exact hG _ (Bel.refl _)
    go_simp; refine hK _ ?_; clear hK K; (repeat (first | (refine wpG_skip (by kernel_rfl) (fun K hK => ?_); go_big_quiet_skip; refine wpQuiet_nil (hK _ ?_); clear hK K) | (refine wpG_quiet (by rfl) (by rfl) (fun K hK => ?_); go_big_quiet_want; go_big_quiet_op; go_big_quiet_on; refine wpQuiet_nil (hK _ ?_); clear hK K) | (refine wpG_nilOk rfl rfl rfl (by kernel_rfl) (fun K hK => ?_); go_simp; refine hK _ ?_; clear hK K)))
    refine wpG_exact rfl (by kernel_rfl) (fun w' G hB hS hG => ?_) (fun K hK => ?_)
    · have y := Below.keeps hB t2
      go_simp; exact hG _ (Bel.refl _)
    go_simp; refine hK _ ?_; clear hK K; (repeat (first | (refine wpG_skip (by kernel_rfl) (fun K hK => ?_); go_big_quiet_skip; refine wpQuiet_nil (hK _ ?_); clear hK K) | (refine wpG_quiet (by rfl) (by rfl) (fun K hK => ?_); go_big_quiet_want; go_big_quiet_op; go_big_quiet_on; refine wpQuiet_nil (hK _ ?_); clear hK K) | (refine wpG_nilOk rfl rfl rfl (by kernel_rfl) (fun K hK => ?_); go_simp; refine hK _ ?_; clear hK K)))
    refine wpG_exact rfl (by kernel_rfl) (fun w' G hB hS hG => ?_) (fun K hK => ?_)
    · have hr := ReplaceAll_any E0 R w' R2.out HRP.out
      rw [← HER.out] at hr
      go_simp
      exact calls_told hG hr
    go_simp; refine hK _ ?_; clear hK K; (repeat (first | (refine wpG_skip (by kernel_rfl) (fun K hK => ?_); go_big_quiet_skip; refine wpQuiet_nil (hK _ ?_); clear hK K) | (refine wpG_quiet (by rfl) (by rfl) (fun K hK => ?_); go_big_quiet_want; go_big_quiet_op; go_big_quiet_on; refine wpQuiet_nil (hK _ ?_); clear hK K) | (refine wpG_nilOk rfl rfl rfl (by kernel_rfl) (fun K hK => ?_); go_simp; refine hK _ ?_; clear hK K)))
    refine wpG_nilV3 ?_
    intro w2 hB2 hA2
    have z0 := Below.keeps hB2 x0
    have z4 := Below.keeps hB2 g4
    have HB2 := Lib.hid (bt HB1.out hB2)
    clear hB2 hA2 x0 x1 g4 t1 t2
    by_cases hlt : s.kinds.length < T.length
    · have n1 : (s.kinds.length : Int) - (T.length : Int) < 0 := by omega
      have HV := Lib.hid (show valuesV s.kinds (p, a) = (130, s.kinds) by unfold valuesV; rw [← HT.out, if_pos hlt])
      clear hlt
      go_wp2_with fail
      go_ret
      exact ⟨by rw [HV.out]; rfl, by rw [HV.out]; exact HH.out.below HB2.out, Chg.of_below HB2.out⟩
    · obtain ⟨m, hm⟩ : ∃ m : Nat, s.kinds.length = m + T.length := ⟨s.kinds.length - T.length, by omega⟩
      have n1 : (s.kinds.length : Int) - (T.length : Int) = (m : Int) := by omega
      have n2 : ¬ (m : Int) < 0 := by omega
      have n3 : (0 : Int) ≤ (m : Int) := by omega
      have n4 : (m : Int) ≤ (s.kinds.length : Int) := by omega
      obtain ⟨K, hK⟩ : ∃ K, K = s.kinds := ⟨_, rfl⟩
      have HM := Lib.hid hm
      have HK := Lib.hid hK
      clear hlt hm
      go_upto_region 8 with fail
      refine region_known [(3, .exact _ (.string (bs s.kinds))), (9, .exact _ (.string (bs s.kinds)))] (by kernel_rfl) (by kernel_rfl) ?_
      (repeat (first | (refine wpG_skip (by kernel_rfl) (fun K hK => ?_); go_big_quiet_skip; refine wpQuiet_nil (hK _ ?_); clear hK K) | (refine wpG_quiet (by rfl) (by rfl) (fun K hK => ?_); go_big_quiet_want; go_big_quiet_op; go_big_quiet_on; refine wpQuiet_nil (hK _ ?_); clear hK K) | (refine wpG_nilOk rfl rfl rfl (by kernel_rfl) (fun K hK => ?_); go_simp; refine hK _ ?_; clear hK K)))
      refine wpG_exact rfl (by kernel_rfl) (fun w' G hB hS hG => ?_) (fun K hK => ?_)
      · have y := Below.keeps hB z4
        go_simp; exact hG _ (Bel.refl _)
      go_simp; refine hK _ ?_; clear hK K; (repeat (first | (refine wpG_skip (by kernel_rfl) (fun K hK => ?_); go_big_quiet_skip; refine wpQuiet_nil (hK _ ?_); clear hK K) | (refine wpG_quiet (by rfl) (by rfl) (fun K hK => ?_); go_big_quiet_want; go_big_quiet_op; go_big_quiet_on; refine wpQuiet_nil (hK _ ?_); clear hK K) | (refine wpG_nilOk rfl rfl rfl (by kernel_rfl) (fun K hK => ?_); go_simp; refine hK _ ?_; clear hK K)))
      refine wpG_exact rfl (by kernel_rfl) (fun w' G hB hS hG => ?_) (fun K hK => ?_)
      · have y := Below.keeps hB z4
        go_simp; exact hG _ (Bel.refl _)
      go_simp; refine hK _ ?_; clear hK K; (repeat (first | (refine wpG_skip (by kernel_rfl) (fun K hK => ?_); go_big_quiet_skip; refine wpQuiet_nil (hK _ ?_); clear hK K) | (refine wpG_quiet (by rfl) (by rfl) (fun K hK => ?_); go_big_quiet_want; go_big_quiet_op; go_big_quiet_on; refine wpQuiet_nil (hK _ ?_); clear hK K) | (refine wpG_nilOk rfl rfl rfl (by kernel_rfl) (fun K hK => ?_); go_simp; refine hK _ ?_; clear hK K)))
      refine wpG_nilV3 ?_
      intro w3 hB3 hA3
      have y0 := Below.keeps hB3 z0
      have HB3 := Lib.hid (bt HB2.out hB3)
      clear hB3 hA3 z0 z4
      obtain ⟨U, hU⟩ : ∃ U, U = s.kinds.drop m := ⟨_, rfl⟩
      obtain ⟨Pk, hPk⟩ : ∃ Pk, Pk = s.kinds.take m := ⟨_, rfl⟩
      have hUl : U.length = T.length := by rw [hU, List.length_drop]; have := HM.out; omega
      rw [← hU, ← hPk]
      have HU := Lib.hid hU
      have HPK := Lib.hid hPk
      have HUL := Lib.hid hUl
      have u1 : (U.length : Int) ≤ 3 := by omega
      clear hU hPk hUl
      go_wp2_with fail
      obtain ⟨I, hI⟩ : ∃ I, I = w3.heap.size := ⟨_, rfl⟩
      have hit := World.iter_heap w3 (bs T) 0
      have hbi : Below w3.heap.size w3 (w3.iter (bs T) 0) := b_alloc w3 _
      rw [← hI] at hit
      have HI := Lib.hid hI
      have HIT := Lib.hid hit
      have HBI := Lib.hid hbi
      rw [← hI]
      clear hI hit hbi
      go_loopw [11] (fun _ wx => ∃ pos : Nat, pos ≤ T.length ∧ Hid (wx.heap[I]? = some (.stringIter (bs T) pos)) ∧ Hid (Below w3.heap.size w3 wx) ∧ Hid (∀ j (h : j < T.length) (h' : j < U.length), j < pos → T[j] = 63 ∨ T[j] = U[j])) (fun _ wx => T.length - wx.iterPos I)
      case atStart => exact ⟨0, Nat.zero_le _, HIT.out, HBI.out, fun j _ _ h => by omega⟩
      case round =>
        obtain ⟨pos, hpos, HIt, HBx, HFit⟩ := hrel
        by_cases hp : pos < T.length
        · have hpu : pos < U.length := by rw [HUL.out]; exact hp
          have hasc := HF.out.1 T[pos] (List.getElem_mem hp)
          have hnx : ∀ ty, (Instr.next (.pointer (some ⟨I, 0, none⟩)) true ty).run Tryd.prog wr = .ok (.tuple #[.bool true, .int .i64 (pos : Int), .int .i32 (T[pos].toNat : Int)]) (wr.putObj I (.stringIter (bs T) (pos + 1))) := fun ty => next_bs wr I T pos ty HIt.out hp hasc
          have hIlt : I < wr.heap.size := (Array.getElem?_eq_some_iff.1 HIt.out).1
          have hbp : Below w3.heap.size w3 (wr.putObj I (.stringIter (bs T) (pos + 1))) := HBx.out.trans ((Chg.putObj (X := fun k => k = I) wr I _ rfl).below (fun k hk => by rw [hk, HI.out]; exact Nat.le_refl _) HBx.out.size)
          have hit2 : (wr.putObj I (.stringIter (bs T) (pos + 1))).heap[I]? = some (.stringIter (bs T) (pos + 1)) := World.putObj_heap_same hIlt
          have HBP := Lib.hid hbp
          have HI2 := Lib.hid hit2
          have j0 : (0 : Int) ≤ (pos : Int) := by omega
          have j1 : (pos : Int) < (T.length : Int) := by omega
          have j2 : (pos : Int) < (U.length : Int) := by omega
          have hms : T.length - (pos + 1) < T.length - wr.iterPos I := by rw [iterPos_at HIt.out]; omega
          have HMS := Lib.hid hms
          have HP := Lib.hid hp
          have HPU := Lib.hid hpu
          clear hasc hIlt hbp hit2 hms
          go_upto_region 12 with fail
          obtain ⟨X, hX⟩ : ∃ X, X = wr.putObj I (.stringIter (bs T) (pos + 1)) := ⟨_, rfl⟩
          rw [← hX] at HBP HI2 ⊢
          clear hX hnx
          obtain ⟨c, hc⟩ : ∃ c, c = T[pos] := ⟨_, rfl⟩
          obtain ⟨d, hd⟩ : ∃ d, d = U[pos] := ⟨_, rfl⟩
          have HCC := Lib.hid hc
          have HDD := Lib.hid hd
          by_cases h63 : c = 63
          · have e1 : ((c.toNat : Int) != 63) = false := by rw [h63]; rfl
            have hf : ∀ j (h : j < T.length) (h' : j < U.length), j < pos + 1 → T[j] = 63 ∨ T[j] = U[j] := fun j h h' hj => by
              by_cases e : j = pos
              · subst e; exact .inl (HCC.out.symm.trans h63)
              · exact HFit.out j h h' (by omega)
            have HF2 := Lib.hid hf
            clear h63 hf hc hd
            refine region_known [(2, .exact _ (.int .u8 (c.toNat : Int))), (7, .exact _ (.int .u8 (c.toNat : Int))), (10, .exact _ (.int .u8 (d.toNat : Int)))] (by kernel_rfl) (by kernel_rfl) ?_
            (repeat (first | (refine wpG_skip (by kernel_rfl) (fun K hK => ?_); go_big_quiet_skip; refine wpQuiet_nil (hK _ ?_); clear hK K) | (refine wpG_quiet (by rfl) (by rfl) (fun K hK => ?_); go_big_quiet_want; go_big_quiet_op; go_big_quiet_on; refine wpQuiet_nil (hK _ ?_); clear hK K) | (refine wpG_nilOk rfl rfl rfl (by kernel_rfl) (fun K hK => ?_); go_simp; refine hK _ ?_; clear hK K)))
            repeat (refine wpG_exact rfl (by kernel_rfl) (fun w' G hB hS hG => ?_) (fun K hK => ?_); (go_simp; first | exact HCC.out ▸ hG _ (Bel.refl _) | exact HDD.out ▸ hG _ (Bel.refl _)); go_simp; refine hK _ ?_; clear hK K; (repeat (first | (refine wpG_skip (by kernel_rfl) (fun K hK => ?_); go_big_quiet_skip; refine wpQuiet_nil (hK _ ?_); clear hK K) | (refine wpG_quiet (by rfl) (by rfl) (fun K hK => ?_); go_big_quiet_want; go_big_quiet_op; go_big_quiet_on; refine wpQuiet_nil (hK _ ?_); clear hK K) | (refine wpG_nilOk rfl rfl rfl (by kernel_rfl) (fun K hK => ?_); go_simp; refine hK _ ?_; clear hK K))))
            refine wpG_nilV3 ?_
            intro w5 hB5 hA5
            have HB5 := Lib.hid (HBP.out.trans (hB5.mono HBP.out.size))
            have HI5 := Lib.hid (show w5.heap[I]? = some (.stringIter (bs T) (pos + 1)) from (hB5.block I (Array.getElem?_eq_some_iff.1 HI2.out).1).trans HI2.out)
            clear hB5 hA5
            go_wp2
            exact ⟨⟨pos + 1, HP.out, HI5.out, HB5.out, HF2.out⟩, by rw [iterPos_at HI5.out]; exact HMS.out⟩
          · have e1 : ((c.toNat : Int) != 63) = true := by
              have := u8_ne (p := c) (k := 63) (by decide) h63
              simpa [bne] using this
            by_cases heq : c = d
            · have e2 : ((c.toNat : Int) != (d.toNat : Int)) = false := by rw [heq]; simp
              have hf : ∀ j (h : j < T.length) (h' : j < U.length), j < pos + 1 → T[j] = 63 ∨ T[j] = U[j] := fun j h h' hj => by
                by_cases e : j = pos
                · subst e; exact .inr ((HCC.out.symm.trans heq).trans HDD.out)
                · exact HFit.out j h h' (by omega)
              have HF2 := Lib.hid hf
              clear h63 hf heq hc hd
              refine region_known [(2, .exact _ (.int .u8 (c.toNat : Int))), (7, .exact _ (.int .u8 (c.toNat : Int))), (10, .exact _ (.int .u8 (d.toNat : Int)))] (by kernel_rfl) (by kernel_rfl) ?_
              (repeat (first | (refine wpG_skip (by kernel_rfl) (fun K hK => ?_); go_big_quiet_skip; refine wpQuiet_nil (hK _ ?_); clear hK K) | (refine wpG_quiet (by rfl) (by rfl) (fun K hK => ?_); go_big_quiet_want; go_big_quiet_op; go_big_quiet_on; refine wpQuiet_nil (hK _ ?_); clear hK K) | (refine wpG_nilOk rfl rfl rfl (by kernel_rfl) (fun K hK => ?_); go_simp; refine hK _ ?_; clear hK K)))
              repeat (refine wpG_exact rfl (by kernel_rfl) (fun w' G hB hS hG => ?_) (fun K hK => ?_); (go_simp; first | exact HCC.out ▸ hG _ (Bel.refl _) | exact HDD.out ▸ hG _ (Bel.refl _)); go_simp; refine hK _ ?_; clear hK K; (repeat (first | (refine wpG_skip (by kernel_rfl) (fun K hK => ?_); go_big_quiet_skip; refine wpQuiet_nil (hK _ ?_); clear hK K) | (refine wpG_quiet (by rfl) (by rfl) (fun K hK => ?_); go_big_quiet_want; go_big_quiet_op; go_big_quiet_on; refine wpQuiet_nil (hK _ ?_); clear hK K) | (refine wpG_nilOk rfl rfl rfl (by kernel_rfl) (fun K hK => ?_); go_simp; refine hK _ ?_; clear hK K))))
              refine wpG_nilV3 ?_
              intro w5 hB5 hA5
              have HB5 := Lib.hid (HBP.out.trans (hB5.mono HBP.out.size))
              have HI5 := Lib.hid (show w5.heap[I]? = some (.stringIter (bs T) (pos + 1)) from (hB5.block I (Array.getElem?_eq_some_iff.1 HI2.out).1).trans HI2.out)
              clear hB5 hA5
              go_wp2
              exact ⟨⟨pos + 1, HP.out, HI5.out, HB5.out, HF2.out⟩, by rw [iterPos_at HI5.out]; exact HMS.out⟩
            · have e2 : ((c.toNat : Int) != (d.toNat : Int)) = true := by
                rw [bne_iff_ne]
                intro e
                exact heq (UInt8.toNat_inj.1 (by omega))
              have hv : valuesV s.kinds (p, a) = (131, s.kinds) := by
                have hnf : fitV T U = false := by
                  rw [← Bool.not_eq_true]
                  intro hft
                  rcases (fitV_iff T U (by rw [HUL.out]; exact Nat.le_refl _)).1 hft pos HP.out HPU.out with h | h
                  · exact h63 (HCC.out.trans h)
                  · exact heq ((HCC.out.trans h).trans HDD.out.symm)
                unfold valuesV
                rw [← HT.out, if_neg (by have := HM.out; omega), show s.kinds.length - T.length = m by have := HM.out; omega, ← HU.out, hnf]
                rfl
              have HV := Lib.hid hv
              clear h63 heq hv hc hd
              refine region_known [(2, .exact _ (.int .u8 (c.toNat : Int))), (7, .exact _ (.int .u8 (c.toNat : Int))), (10, .exact _ (.int .u8 (d.toNat : Int)))] (by kernel_rfl) (by kernel_rfl) ?_
              (repeat (first | (refine wpG_skip (by kernel_rfl) (fun K hK => ?_); go_big_quiet_skip; refine wpQuiet_nil (hK _ ?_); clear hK K) | (refine wpG_quiet (by rfl) (by rfl) (fun K hK => ?_); go_big_quiet_want; go_big_quiet_op; go_big_quiet_on; refine wpQuiet_nil (hK _ ?_); clear hK K) | (refine wpG_nilOk rfl rfl rfl (by kernel_rfl) (fun K hK => ?_); go_simp; refine hK _ ?_; clear hK K)))
              repeat (refine wpG_exact rfl (by kernel_rfl) (fun w' G hB hS hG => ?_) (fun K hK => ?_); (go_simp; first | exact HCC.out ▸ hG _ (Bel.refl _) | exact HDD.out ▸ hG _ (Bel.refl _)); go_simp; refine hK _ ?_; clear hK K; (repeat (first | (refine wpG_skip (by kernel_rfl) (fun K hK => ?_); go_big_quiet_skip; refine wpQuiet_nil (hK _ ?_); clear hK K) | (refine wpG_quiet (by rfl) (by rfl) (fun K hK => ?_); go_big_quiet_want; go_big_quiet_op; go_big_quiet_on; refine wpQuiet_nil (hK _ ?_); clear hK K) | (refine wpG_nilOk rfl rfl rfl (by kernel_rfl) (fun K hK => ?_); go_simp; refine hK _ ?_; clear hK K))))
              refine wpG_nilV3 ?_
              intro w5 hB5 hA5
              have HB5 := Lib.hid (HB3.out.trans ((HBP.out.trans (hB5.mono HBP.out.size)).mono HB3.out.size))
              clear hB5 hA5
              go_wp2_with fail
              go_ret
              exact ⟨by rw [HV.out]; rfl, by rw [HV.out]; exact HH.out.below HB5.out, Chg.of_below HB5.out⟩
        · obtain rfl : pos = T.length := by omega
          have hft : fitV T U = true := (fitV_iff T U (by rw [HUL.out]; exact Nat.le_refl _)).2 fun j h h' => HFit.out j h h' h
          have hnx : ∀ ty, (Instr.next (.pointer (some ⟨I, 0, none⟩)) true ty).run Tryd.prog wr = .ok (.tuple #[.bool false]) wr := fun ty => next_bs_out wr I T T.length ty HIt.out (by omega)
          have HFT := Lib.hid hft
          clear hft
          go_upto_region 14 with fail
          clear hnx
          obtain ⟨W4, hW4⟩ : ∃ W, W = wr := ⟨_, rfl⟩
          subst hW4
          have y4 := Below.keeps HBx.out y0
          go_wp2_with fail
          obtain ⟨J, hJ⟩ : ∃ J, J = W4.heap.size := ⟨_, rfl⟩
          have hjt := World.iter_heap W4 (bs E) 0
          have hbj : Below W4.heap.size W4 (W4.iter (bs E) 0) := b_alloc W4 _
          rw [← hJ] at hjt
          have HJ := Lib.hid hJ
          have HJT := Lib.hid hjt
          have HBJ := Lib.hid hbj
          have HEL := Lib.hid HF.out.2.2.2.2.2
          rw [← hJ]
          clear hJ hjt hbj
          go_loopw [9] (fun t9 wx => ∃ k : Nat, t9 = .string (bs (Pk ++ givesV U (E.take k))) ∧ k ≤ E.length ∧ Hid (wx.heap[J]? = some (.stringIter (bs E) k)) ∧ Hid (Below W4.heap.size W4 wx)) (fun _ wx => E.length - wx.iterPos J)
          case atStart => exact ⟨0, by simp [givesV], Nat.zero_le _, HJT.out, HBJ.out⟩
          case round =>
            obtain ⟨k, rfl, hke0, HJt, HBy⟩ := hrel
            by_cases hke : k < E.length
            · have hmem := HF.out.2.1 E[k] (List.getElem_mem hke)
              have h49 := HF.out.2.2.1
              have h50 := HF.out.2.2.2.1
              have hJlt : J < wr.heap.size := (Array.getElem?_eq_some_iff.1 HJt.out).1
              have hjb : Below W4.heap.size W4 (wr.putObj J (.stringIter (bs E) (k + 1))) := HBy.out.trans ((Chg.putObj (X := fun x => x = J) wr J _ rfl).below (fun x hx => by rw [hx, HJ.out]; exact Nat.le_refl _) HBy.out.size)
              have hj2 : (wr.putObj J (.stringIter (bs E) (k + 1))).heap[J]? = some (.stringIter (bs E) (k + 1)) := World.putObj_heap_same hJlt
              have HJB := Lib.hid hjb
              have HJ2 := Lib.hid hj2
              have hb1 : Pk.length ≤ 1000 := by rw [HPK.out, List.length_take]; omega
              have hb2 : (givesV U (E.take k)).length ≤ 2 := Nat.le_trans (givesV_len _ _) (by rw [List.length_take]; have := HEL.out; omega)
              have hms : E.length - (k + 1) < E.length - wr.iterPos J := by rw [iterPos_at HJt.out]; omega
              have HMS := Lib.hid hms
              clear hJlt hjb hj2 hms
              rcases hmem with hc | hc | hc | hc
              · have hnx : ∀ ty, (Instr.next (.pointer (some ⟨J, 0, none⟩)) true ty).run Tryd.prog wr = .ok (.tuple #[.bool true, .int .i64 (k : Int), .int .i32 49]) (wr.putObj J (.stringIter (bs E) (k + 1))) := fun ty => by
                  have := next_bs (P := Tryd.prog) wr J E k ty HJt.out hke (by rw [hc]; decide)
                  rw [hc] at this
                  exact this
                have hgs : givesV U (E.take (k + 1)) = givesV U (E.take k) ++ U.take 1 := by rw [givesV_succ hke, hc]; rfl
                have hu1 : 1 ≤ U.length := by rw [HUL.out]; exact h49 (by rw [← hc]; exact List.getElem_mem hke)
                have hu2 : (1 : Int) ≤ (U.length : Int) := by omega
                clear hu1 h49 h50
                have HGS := Lib.hid hgs
                clear hgs hc
                go_wp2
                exact ⟨⟨k + 1, by rw [HGS.out] <;> simp, hke, HJ2.out, HJB.out⟩, by rw [iterPos_at HJ2.out]; exact HMS.out⟩
              · have hnx : ∀ ty, (Instr.next (.pointer (some ⟨J, 0, none⟩)) true ty).run Tryd.prog wr = .ok (.tuple #[.bool true, .int .i64 (k : Int), .int .i32 50]) (wr.putObj J (.stringIter (bs E) (k + 1))) := fun ty => by
                  have := next_bs (P := Tryd.prog) wr J E k ty HJt.out hke (by rw [hc]; decide)
                  rw [hc] at this
                  exact this
                have hgs : givesV U (E.take (k + 1)) = givesV U (E.take k) ++ (U.drop 1).take 1 := by rw [givesV_succ hke, hc]; rfl
                have hu1 : 2 ≤ U.length := by rw [HUL.out]; exact h50 (by rw [← hc]; exact List.getElem_mem hke)
                have hu2 : (2 : Int) ≤ (U.length : Int) := by omega
                clear hu1 h49 h50
                have HGS := Lib.hid hgs
                clear hgs hc
                go_wp2
                exact ⟨⟨k + 1, by rw [HGS.out] <;> simp, hke, HJ2.out, HJB.out⟩, by rw [iterPos_at HJ2.out]; exact HMS.out⟩
              · have hnx : ∀ ty, (Instr.next (.pointer (some ⟨J, 0, none⟩)) true ty).run Tryd.prog wr = .ok (.tuple #[.bool true, .int .i64 (k : Int), .int .i32 84]) (wr.putObj J (.stringIter (bs E) (k + 1))) := fun ty => by
                  have := next_bs (P := Tryd.prog) wr J E k ty HJt.out hke (by rw [hc]; decide)
                  rw [hc] at this
                  exact this
                have hgs : givesV U (E.take (k + 1)) = givesV U (E.take k) ++ [84] := by rw [givesV_succ hke, hc]; rfl
                have hcv : ∀ w, (convert 21 9 (.int .i32 84)).run Tryd.prog w = .ok (.string (bs [84])) w := by intro w; kernel_rfl
                clear h49 h50
                have HGS := Lib.hid hgs
                clear hgs hc
                go_wp2
                exact ⟨⟨k + 1, by rw [HGS.out] <;> simp, hke, HJ2.out, HJB.out⟩, by rw [iterPos_at HJ2.out]; exact HMS.out⟩
              · have hnx : ∀ ty, (Instr.next (.pointer (some ⟨J, 0, none⟩)) true ty).run Tryd.prog wr = .ok (.tuple #[.bool true, .int .i64 (k : Int), .int .i32 78]) (wr.putObj J (.stringIter (bs E) (k + 1))) := fun ty => by
                  have := next_bs (P := Tryd.prog) wr J E k ty HJt.out hke (by rw [hc]; decide)
                  rw [hc] at this
                  exact this
                have hgs : givesV U (E.take (k + 1)) = givesV U (E.take k) ++ [78] := by rw [givesV_succ hke, hc]; rfl
                have hcv : ∀ w, (convert 21 9 (.int .i32 78)).run Tryd.prog w = .ok (.string (bs [78])) w := by intro w; kernel_rfl
                clear h49 h50
                have HGS := Lib.hid hgs
                clear hgs hc
                go_wp2
                exact ⟨⟨k + 1, by rw [HGS.out] <;> simp, hke, HJ2.out, HJB.out⟩, by rw [iterPos_at HJ2.out]; exact HMS.out⟩
            · obtain rfl : k = E.length := by omega
              have hnx : ∀ ty, (Instr.next (.pointer (some ⟨J, 0, none⟩)) true ty).run Tryd.prog wr = .ok (.tuple #[.bool false]) wr := fun ty => next_bs_out wr J E E.length ty HJt.out (by omega)
              rw [List.take_length]
              obtain ⟨RS, hRS⟩ : ∃ RS, RS = Pk ++ givesV U E := ⟨_, rfl⟩
              rw [← hRS]
              have y5 := Below.keeps HBy.out y4
              have hbF : Below w.heap.size w wr := (HB3.out.trans (HBx.out.mono HB3.out.size)).trans (HBy.out.mono (Nat.le_trans HB3.out.size HBx.out.size))
              have hvg := HH.out.below hbF
              have f4 := hvg.free (k := 4) (by decide)
              have c4 := hvg.cell (k := 4) rfl
              have hvk := hvg.kinds RS
              have HVK := Lib.hid hvk
              have HVG := Lib.hid hvg
              have HBF := Lib.hid hbF
              have hval : valuesV s.kinds (p, a) = if (p = 22 ∧ 16 ≤ RS.length) ∨ 16 < RS.length then (130, s.kinds) else (0, RS) := by
                unfold valuesV
                rw [← HT.out, ← HEE.out, if_neg (by have := HM.out; omega), show s.kinds.length - T.length = m by have := HM.out; omega, ← HU.out, ← HPK.out, if_neg (by rw [HFT.out]; simp), ← hRS]
              have HVAL := Lib.hid hval
              clear hvg hvk hbF hRS hval
              by_cases h22 : p = 22
              · have e22 : ((p.toNat : Int) == 22) = true := by rw [h22]; rfl
                by_cases h16 : 16 ≤ RS.length
                · have f16 : (16 : Int) ≤ (RS.length : Int) := by omega
                  rw [if_pos (.inl ⟨h22, h16⟩)] at HVAL
                  clear h22 h16
                  go_wp2_with fail
                  go_ret
                  exact ⟨by rw [HVAL.out]; rfl, by rw [HVAL.out]; exact HVG.out, Chg.of_below HBF.out⟩
                · have f16 : ¬ (16 : Int) ≤ (RS.length : Int) := by omega
                  have f17 : ¬ (16 : Int) < (RS.length : Int) := by omega
                  rw [if_neg (by omega)] at HVAL
                  clear h22 h16
                  go_wp2_with fail
                  go_ret
                  exact ⟨by rw [HVAL.out]; rfl, by rw [HVAL.out]; exact HVK.out.1, (Chg.of_below HBF.out).trans (Chg.setCell _ _ _ rfl)⟩
              · have e22 : ((p.toNat : Int) == 22) = false := u8_ne (k := 22) (by decide) h22
                by_cases h16 : 16 < RS.length
                · have f16 : (16 : Int) < (RS.length : Int) := by omega
                  rw [if_pos (.inr h16)] at HVAL
                  clear h22 h16
                  go_wp2_with fail
                  go_ret
                  exact ⟨by rw [HVAL.out]; rfl, by rw [HVAL.out]; exact HVG.out, Chg.of_below HBF.out⟩
                · have f16 : ¬ (16 : Int) < (RS.length : Int) := by omega
                  rw [if_neg (by rintro (h | h); exact h22 h.1; exact h16 h)] at HVAL
                  clear h22 h16
                  go_wp2_with fail
                  go_ret
                  exact ⟨by rw [HVAL.out]; rfl, by rw [HVAL.out]; exact HVK.out.1, (Chg.of_below HBF.out).trans (Chg.setCell _ _ _ rfl)⟩
end
end Go.Proofs.YtahmacnmphjhgaaDoor
