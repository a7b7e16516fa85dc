/- Lemmas for TreeTells, part 10: walks of the functions that it reaches, and the plain laws behind them. -/
import Derived.Maps.Own
import Derived.Maps.OwnOps
import Derived.Maps.OwnSet
import Derived.WalkKit
import Derived.ProofKit
import Derived.OpenShut
import Derived.ShutString
import Derived.ChangeOld
import Derived.SizedLaws
import Derived.SliceStrings
import Derived.Test.YtahmacnmphjhgaaTreeTellsK9
set_option linter.unusedSimpArgs false
set_option linter.unusedVariables false
namespace Go.Proofs.Ytahmacnmphjhgaa
open Go.RowKit Oct
attribute [local irreducible] wpG

set_option maxRecDepth 100000 in
set_option maxHeartbeats 4000000 in
theorem rUnder_any (nv : Value) (n0 : Int) (nodes : List Nd) (hl : nodes.length ≤ 1000000) (hks : ∀ x ∈ nodes, x.2.length ≤ 1000000) (hk : KidsOk nodes) : ∀ (i : Nat) (w : World), i < nodes.length → NR w nv nodes →
    Calls Try.prog 65 #[.agg #[nv, .int .i64 n0], .int .i64 (i : Int)] w fun e w' => e = .returned (spV (under nodes i)) ∧ Below w.heap.size w w' := by
  intro i
  induction i using Nat.strongRecOn with
  | _ i ih =>
    intro w hi hn
    obtain ⟨a, c, b, off, ak, nk, ck, rfl, rfl, d1, d2, d3⟩ := hn.at hi
    have IH := Lib.hid ih
    have HN := Lib.hid hn
    obtain ⟨k1, k2, k3⟩ := two_new w (.cells #[.slice (some ⟨b, off, none⟩) nodes.length c, .int .i64 n0] 44) (.cells #[.int .i64 0, .int .i64 0] 53)
    obtain ⟨cT, cL, _, _⟩ := two_cells k1
    have e2 := Below.keeps k3 d2
    have i0 : (0 : Int) ≤ (i : Int) := by omega
    have i1 : (i : Int) < (nodes.length : Int) := by omega
    have i2 : (nodes.length : Int) ≤ 1000000 := by omega
    obtain ⟨ka, kc, hkv, _, hkc⟩ := recI_open d3
    injection hkv with f1 f2 f3
    subst f1 f2 f3
    have HBA := Lib.hid k3
    have HS1 := Lib.hid k2
    clear ih hn d1 d3 d2 k1 k2 k3
    by_cases h0 : (kidsOf nodes i).length = 0
    · have h1 : (((kidsOf nodes i).length : Int) == 0) = true := by rw [beq_iff_eq]; omega
      have HUL := Lib.hid (under_leaf h0)
      clear hkc h0
      go_enter Try.func65, Try.ntmps65
      go_upto_region 1 with fail
      obtain ⟨W1, hW1⟩ : ∃ W1, W1 = (w.alloc (.cells #[.slice (some ⟨b, off, none⟩) nodes.length c, .int .i64 n0] 44)).alloc (.cells #[.int .i64 0, .int .i64 0] 53) := ⟨_, rfl⟩
      rw [← hW1] at HBA HS1 cT cL e2 ⊢
      obtain ⟨c1, c2, f1, f2⟩ := two_cells HS1.out
      clear hW1
      go_wp2_with fail
      refine bodyPost_ret (results_cell_row rfl _ _ (w.heap.size + 1) 53 _ (0, 0) _ rfl (two_set HS1.out) Try.underlying53 rfl (by kernel_rfl)) rfl ?_
      exact ⟨by rw [HUL.out]; unfold spV; simp, HBA.out.trans ((two_chg W1 (w.heap.size + 1) _ _).below (fun k hk => by omega) HBA.out.size)⟩
    · have h1 : (((kidsOf nodes i).length : Int) == 0) = false := by rw [beq_eq_false_iff_ne]; omega
      have HUN := Lib.hid (under_node hk hi h0)
      have a0 := hk i hi _ (getD_mem (l := kidsOf nodes i) (j := 0) (by omega))
      have a1 := hk i hi _ (getD_mem (l := kidsOf nodes i) (j := (kidsOf nodes i).length - 1) (by omega))
      have hkl : (kidsOf nodes i).length ≤ 1000000 := by
        have := hks nodes[i] (List.getElem_mem hi)
        unfold kidsOf; rw [List.getD, List.getElem?_eq_getElem hi]; exact this
      obtain ⟨kb, koff, rfl, x0⟩ := hkc 0 (by omega)
      obtain ⟨_, _, hkb, x1⟩ := hkc ((kidsOf nodes i).length - 1) (by omega)
      injection hkb with hkb
      injection hkb with g1 g2 _
      subst g1 g2
      rw [Nat.add_zero] at x0
      obtain ⟨q0, hq0⟩ : ∃ q : Nat, (q : Int) = (kidsOf nodes i).getD 0 0 := ⟨_, Int.toNat_of_nonneg a0.1⟩
      obtain ⟨q1, hq1⟩ : ∃ q : Nat, (q : Int) = (kidsOf nodes i).getD ((kidsOf nodes i).length - 1) 0 := ⟨_, Int.toNat_of_nonneg a1.1⟩
      have z0 : (kidsOf nodes i)[0]'(by omega) = (q0 : Int) := by rw [hq0]; simp [List.getD, show 0 < (kidsOf nodes i).length by omega]
      have z1 : (kidsOf nodes i)[(kidsOf nodes i).length - 1]'(by omega) = (q1 : Int) := by rw [hq1]; simp [List.getD, show (kidsOf nodes i).length - 1 < (kidsOf nodes i).length by omega]
      rw [z0] at x0
      rw [z1] at x1
      rw [← hq0, ← hq1, Int.toNat_natCast, Int.toNat_natCast] at HUN
      rw [← hq0] at a0
      rw [← hq1] at a1
      have b0 : q0 < i := by omega
      have b1 : q1 < i := by omega
      obtain ⟨m, hm⟩ : ∃ m, m = (kidsOf nodes i).length - 1 := ⟨_, rfl⟩
      rw [← hm] at x1
      have hm1 : ((kidsOf nodes i).length : Int) - 1 = (m : Int) := by omega
      have hm2 : (m : Int) < ((kidsOf nodes i).length : Int) := by omega
      have hm3 : (0 : Int) ≤ (m : Int) := by omega
      have hm4 : (0 : Int) < ((kidsOf nodes i).length : Int) := by omega
      have hm5 : ((kidsOf nodes i).length : Int) ≤ 1000000 := by omega
      have HX0 := Lib.hid (Below.keeps HBA.out x0)
      have HX1 := Lib.hid (Below.keeps HBA.out x1)
      obtain ⟨u0, hu0⟩ : ∃ u, u = under nodes q0 := ⟨_, rfl⟩
      obtain ⟨u1, hu1⟩ : ∃ u, u = under nodes q1 := ⟨_, rfl⟩
      have hc0 := fun w' (hB : Below w.heap.size w w') => IH.out q0 b0 w' (by omega) (HN.out.below hB)
      have hc1 := fun w' (hB : Below w.heap.size w w') => IH.out q1 b1 w' (by omega) (HN.out.below hB)
      rw [← hu0] at hc0
      rw [← hu1] at hc1
      rw [← hu0, ← hu1] at HUN
      have HC0 := Lib.hid hc0
      have HC1 := Lib.hid hc1
      clear hkc a0 a1 x0 x1 hq0 hq1 z0 z1 b0 b1 hm hu0 hu1 hc0 hc1 h0
      go_enter Try.func65, Try.ntmps65
      go_upto_region 1 with fail
      obtain ⟨W1, hW1⟩ : ∃ W1, W1 = (w.alloc (.cells #[.slice (some ⟨b, off, none⟩) nodes.length c, .int .i64 n0] 44)).alloc (.cells #[.int .i64 0, .int .i64 0] 53) := ⟨_, rfl⟩
      rw [← hW1] at HBA HS1 HX0 HX1 cT cL e2 ⊢
      clear hW1
      have fa := fun wx => field_sp0 (u0.1 : Int) (u0.2 : Int) wx
      have fb := fun wx => field_sp1 (u1.1 : Int) (u1.2 : Int) wx
      go_upto_region 4 with fail
      refine region_tail 16 [(0, .exact _ (.agg #[.slice (some ⟨b, off, none⟩) nodes.length c, .int .i64 n0])), (3, .exact _ (.int .i64 (q0 : Int))), (4, .exact _ (spV u0)), (6, .exact _ (.agg #[.slice (some ⟨b, off, none⟩) nodes.length c, .int .i64 n0])), (12, .exact _ (.int .i64 (q1 : Int))), (13, .exact _ (spV u1))] (by kernel_rfl) (by kernel_rfl) ?_
      simp only [List.take_succ_cons, List.take_zero, List.drop_succ_cons, List.drop_zero]
      (repeat (first | (refine wpG_skip (by kernel_rfl) (fun K hK => ?_); go_big_quiet_skip; refine wpQuiet_nil (hK _ ?_); clear hK K) | (refine wpG_quiet (by rfl) (by rfl) (fun K hK => ?_); go_big_quiet_want; go_big_quiet_op; go_big_quiet_on; refine wpQuiet_nil (hK _ ?_); clear hK K)))
      refine wpG_exact rfl (by kernel_rfl) (fun w' G hB hS hG => ?_) (fun K hK => ?_)
      · have y1 := Below.keeps hB cT
        have y2 := Below.keeps hB cL
        go_simp; exact hG _ (Bel.refl _)
      go_simp; refine hK _ ?_; clear hK K; (repeat (first | (refine wpG_skip (by kernel_rfl) (fun K hK => ?_); go_big_quiet_skip; refine wpQuiet_nil (hK _ ?_); clear hK K) | (refine wpG_quiet (by rfl) (by rfl) (fun K hK => ?_); go_big_quiet_want; go_big_quiet_op; go_big_quiet_on; refine wpQuiet_nil (hK _ ?_); clear hK K)))
      refine wpG_exact rfl (by kernel_rfl) (fun w' G hB hS hG => ?_) (fun K hK => ?_)
      · have c' := Below.keeps hB HX0.out
        go_simp; exact hG _ (Bel.refl _)
      go_simp; refine hK _ ?_; clear hK K; (repeat (first | (refine wpG_skip (by kernel_rfl) (fun K hK => ?_); go_big_quiet_skip; refine wpQuiet_nil (hK _ ?_); clear hK K) | (refine wpG_quiet (by rfl) (by rfl) (fun K hK => ?_); go_big_quiet_want; go_big_quiet_op; go_big_quiet_on; refine wpQuiet_nil (hK _ ?_); clear hK K)))
      refine wpG_exact rfl (by kernel_rfl) (fun w' G hB hS hG => ?_) (fun K hK => ?_)
      · go_simp
        exact calls_told hG (HC0.out w' (bt HBA.out hB))
      rw [spV_mk]
      go_simp; refine hK _ ?_; clear hK K; (repeat (first | (refine wpG_skip (by kernel_rfl) (fun K hK => ?_); go_big_quiet_skip; refine wpQuiet_nil (hK _ ?_); clear hK K) | (refine wpG_quiet (by rfl) (by rfl) (fun K hK => ?_); go_big_quiet_want; go_big_quiet_op; go_big_quiet_on; refine wpQuiet_nil (hK _ ?_); clear hK K)))
      refine wpG_exact rfl (by kernel_rfl) (fun w' G hB hS hG => ?_) (fun K hK => ?_)
      · have y1 := Below.keeps hB cT
        have y2 := Below.keeps hB cL
        go_simp; exact hG _ (Bel.refl _)
      go_simp; refine hK _ ?_; clear hK K; (repeat (first | (refine wpG_skip (by kernel_rfl) (fun K hK => ?_); go_big_quiet_skip; refine wpQuiet_nil (hK _ ?_); clear hK K) | (refine wpG_quiet (by rfl) (by rfl) (fun K hK => ?_); go_big_quiet_want; go_big_quiet_op; go_big_quiet_on; refine wpQuiet_nil (hK _ ?_); clear hK K)))
      refine wpG_exact rfl (by kernel_rfl) (fun w' G hB hS hG => ?_) (fun K hK => ?_)
      · have c' := Below.keeps hB HX1.out
        go_simp; exact hG _ (Bel.refl _)
      go_simp; refine hK _ ?_; clear hK K; (repeat (first | (refine wpG_skip (by kernel_rfl) (fun K hK => ?_); go_big_quiet_skip; refine wpQuiet_nil (hK _ ?_); clear hK K) | (refine wpG_quiet (by rfl) (by rfl) (fun K hK => ?_); go_big_quiet_want; go_big_quiet_op; go_big_quiet_on; refine wpQuiet_nil (hK _ ?_); clear hK K)))
      refine wpG_exact rfl (by kernel_rfl) (fun w' G hB hS hG => ?_) (fun K hK => ?_)
      · go_simp
        exact calls_told hG (HC1.out w' (bt HBA.out hB))
      rw [spV_mk]
      go_simp; refine hK _ ?_; clear hK K; (repeat (first | (refine wpG_skip (by kernel_rfl) (fun K hK => ?_); go_big_quiet_skip; refine wpQuiet_nil (hK _ ?_); clear hK K) | (refine wpG_quiet (by rfl) (by rfl) (fun K hK => ?_); go_big_quiet_want; go_big_quiet_op; go_big_quiet_on; refine wpQuiet_nil (hK _ ?_); clear hK K)))
      refine wpG_nilYK ?_
      intro w' hB hA
      have hs2 : w'.heap[w.heap.size + 1]? = some (.cells #[.int .i64 0, .int .i64 0] 53 (0, 0)) := by rw [hB.block (w.heap.size + 1) (Array.getElem?_eq_some_iff.1 HS1.out).1]; exact HS1.out
      obtain ⟨k1, k2, k3, k4⟩ := two_cells hs2
      have HS2 := Lib.hid hs2
      have HB' := Lib.hid hB
      clear hB hA hs2
      go_wp2_with fail
      refine bodyPost_ret (results_cell_row rfl _ _ (w.heap.size + 1) 53 _ (0, 0) _ rfl (two_set HS2.out) Try.underlying53 rfl (by kernel_rfl)) rfl ?_
      refine ⟨by rw [HUN.out]; rfl, (bt HBA.out HB'.out).trans ((two_chg w' (w.heap.size + 1) _ _).below (fun k hk => by omega) (bt HBA.out HB'.out).size)⟩
end Go.Proofs.Ytahmacnmphjhgaa
namespace Go.Proofs.Ytahmacnmphjhgaa
open Go.RowKit Oct
attribute [local irreducible] wpG

theorem may_check {nodes : List Nd} {n0 : Int} (h : checkF nodes n0 = true) : ∀ x ∈ nodes, x.2.length ≤ 8 := by
  obtain ⟨m, _, _, _, h4, h5⟩ := checkF_true h
  have := (buildF_sizes h4).2.2.2
  rwa [h5] at this

set_option maxRecDepth 100000 in
set_option maxHeartbeats 4000000 in
theorem told23_any (nv : Value) (n0 n : Int) (nodes : List Nd) (w : World) (hn : NR w nv nodes) (hl : nodes.length ≤ 120) (hks : ∀ x ∈ nodes, x.2.length ≤ 140737488355328) (his : ∀ x ∈ nodes, x.1.length ≤ 140737488355328) :
    Calls Try.prog 37 #[.agg #[nv, .int .i64 n0], .int .i64 n] w fun e w' => e = .returned (.bool true) ∧ Below w.heap.size w w' := by
  obtain ⟨a, cap, rfl, _, _⟩ := NR_open hn
  have HN := Lib.hid hn
  have HM := Lib.hid (fun w' (hB : Below w.heap.size w w') => rMay_any _ n0 nodes w' (hn.below hB) (by omega) hks his)
  have HC := Lib.hid (fun w' (hB : Below w.heap.size w w') => Check23_any _ n0 nodes w' (hn.below hB) (by omega) hks his)
  have HR := Lib.hid (fun w' (hB : Below w.heap.size w w') => Root23_any _ n0 nodes w' (hn.below hB) (by omega) hks his)
  have HU := Lib.hid (fun w' (hB : Below w.heap.size w w') => Under23_any _ n0 n nodes w' (hn.below hB) (by omega) hks his)
  clear hn hks his
  obtain ⟨q, hq⟩ : ∃ q, q = checkF nodes n0 := ⟨_, rfl⟩
  rw [← hq] at HM HC HR HU
  have HQ := Lib.hid hq
  have hl1 : (nodes.length : Int) ≤ 120 := by omega
  clear hq
  go_enter Try.func37, Try.ntmps37
  go_upto_region 1 with fail
  obtain ⟨W1, hW1⟩ : ∃ W1, W1 = w.alloc (.cells #[.slice a nodes.length cap, .int .i64 n0] 44) := ⟨_, rfl⟩
  have hb1 : Below w.heap.size w W1 := by rw [hW1]; exact b_alloc _ _
  have ht1 : W1.heap[w.heap.size]? = some (.cells #[.slice a nodes.length cap, .int .i64 n0] 44 (0, 0)) := by rw [hW1]; exact World.alloc_heap_new w _
  obtain ⟨p1, p2, _, _⟩ := two_cells ht1
  have HB1 := Lib.hid hb1
  rw [← hW1]
  clear hW1 hb1 ht1
  cases q with
  | false =>
    go_wp2_with fail
    refine (HM.out _ HB1.out).mono ?_
    rintro e w2 ⟨rfl, hB2⟩
    have a1 := Below.keeps hB2 p1
    have a2 := Below.keeps hB2 p2
    have HB2 := Lib.hid (bt HB1.out hB2)
    clear hB2 p1 p2
    go_wp2_with fail
    refine (HC.out _ HB2.out).mono ?_
    rintro e w3 ⟨rfl, hB3⟩
    rw [show chkV false = 7 from rfl]
    have b1 := Below.keeps hB3 a1
    have b2 := Below.keeps hB3 a2
    have HB3 := Lib.hid (bt HB2.out hB3)
    clear hB3 a1 a2
    go_wp2_with fail
    refine (HR.out _ HB3.out).mono ?_
    rintro e w4 ⟨rfl, hB4⟩
    rw [show rootF nodes (false && decide (0 < nodes.length)) = (0, false) from rfl]
    have c1 := Below.keeps hB4 b1
    have c2 := Below.keeps hB4 b2
    have HB4 := Lib.hid (bt HB3.out hB4)
    clear hB4 b1 b2
    go_wp2_with fail
    refine (HU.out _ HB4.out).mono ?_
    rintro e w5 ⟨rfl, hB5⟩
    rw [show underE nodes n false = ((0, 0), 7) from rfl, spV_mk]
    have d1 := Below.keeps hB5 c1
    have d2 := Below.keeps hB5 c2
    have HB5 := Lib.hid (bt HB4.out hB5)
    have hlt : w.heap.size < w5.heap.size := lt_of_cell d1
    clear hB5 c1 c2
    go_wp2_with fail
    go_ret
    exact ⟨rfl, bt HB5.out (b_alloc _ _)⟩
  | true =>
    have HK8 := Lib.hid (may_check HQ.out.symm)
    have HKO := Lib.hid (checkF_kids HQ.out.symm)
    by_cases hz : nodes.length = 0
    · have z1 : ¬ 0 < nodes.length := by omega
      have z2 : ¬ (0 : Int) < (nodes.length : Int) := by omega
      have z3 : (nodes.length : Int) = 0 := by omega
      have HUE := Lib.hid (underE_out (nodes := nodes) (n := n) (by omega))
      clear hz
      by_cases hn : n < 0
      · go_wp2_with fail
        refine (HM.out _ HB1.out).mono ?_
        rintro e w2 ⟨rfl, hB2⟩
        have a1 := Below.keeps hB2 p1
        have a2 := Below.keeps hB2 p2
        have HB2 := Lib.hid (bt HB1.out hB2)
        clear hB2 p1 p2
        go_wp2_with fail
        refine (HC.out _ HB2.out).mono ?_
        rintro e w3 ⟨rfl, hB3⟩
        rw [show chkV true = 0 from rfl]
        have b1 := Below.keeps hB3 a1
        have b2 := Below.keeps hB3 a2
        have HB3 := Lib.hid (bt HB2.out hB3)
        clear hB3 a1 a2
        go_wp2_with fail
        refine (HR.out _ HB3.out).mono ?_
        rintro e w4 ⟨rfl, hB4⟩
        rw [decide_eq_false z1, show rootF nodes (true && false) = (0, false) from rfl]
        have c1 := Below.keeps hB4 b1
        have c2 := Below.keeps hB4 b2
        have HB4 := Lib.hid (bt HB3.out hB4)
        clear hB4 b1 b2
        go_wp2_with fail
        refine (HU.out _ HB4.out).mono ?_
        rintro e w5 ⟨rfl, hB5⟩
        rw [HUE.out, spV_mk]
        have d1 := Below.keeps hB5 c1
        have d2 := Below.keeps hB5 c2
        have HB5 := Lib.hid (bt HB4.out hB5)
        have hlt : w.heap.size < w5.heap.size := lt_of_cell d1
        clear hB5 c1 c2
        go_wp2_with fail
        go_ret
        exact ⟨rfl, bt HB5.out (b_alloc _ _)⟩
      · have hn2 : (nodes.length : Int) ≤ n := by omega
        go_wp2_with fail
        refine (HM.out _ HB1.out).mono ?_
        rintro e w2 ⟨rfl, hB2⟩
        have a1 := Below.keeps hB2 p1
        have a2 := Below.keeps hB2 p2
        have HB2 := Lib.hid (bt HB1.out hB2)
        clear hB2 p1 p2
        go_wp2_with fail
        refine (HC.out _ HB2.out).mono ?_
        rintro e w3 ⟨rfl, hB3⟩
        rw [show chkV true = 0 from rfl]
        have b1 := Below.keeps hB3 a1
        have b2 := Below.keeps hB3 a2
        have HB3 := Lib.hid (bt HB2.out hB3)
        clear hB3 a1 a2
        go_wp2_with fail
        refine (HR.out _ HB3.out).mono ?_
        rintro e w4 ⟨rfl, hB4⟩
        rw [decide_eq_false z1, show rootF nodes (true && false) = (0, false) from rfl]
        have c1 := Below.keeps hB4 b1
        have c2 := Below.keeps hB4 b2
        have HB4 := Lib.hid (bt HB3.out hB4)
        clear hB4 b1 b2
        go_wp2_with fail
        refine (HU.out _ HB4.out).mono ?_
        rintro e w5 ⟨rfl, hB5⟩
        rw [HUE.out, spV_mk]
        have d1 := Below.keeps hB5 c1
        have d2 := Below.keeps hB5 c2
        have HB5 := Lib.hid (bt HB4.out hB5)
        have hlt : w.heap.size < w5.heap.size := lt_of_cell d1
        clear hB5 c1 c2
        go_wp2_with fail
        go_ret
        exact ⟨rfl, bt HB5.out (b_alloc _ _)⟩
    · have z1 : 0 < nodes.length := by omega
      have z2 : (0 : Int) < (nodes.length : Int) := by omega
      obtain ⟨m, hm⟩ : ∃ m : Nat, (nodes.length : Int) - 1 = (m : Int) := ⟨nodes.length - 1, by omega⟩
      by_cases hn : n < 0
      · have HUE := Lib.hid (underE_out (nodes := nodes) (n := n) (by omega))
        go_wp2_with fail
        refine (HM.out _ HB1.out).mono ?_
        rintro e w2 ⟨rfl, hB2⟩
        have a1 := Below.keeps hB2 p1
        have a2 := Below.keeps hB2 p2
        have HB2 := Lib.hid (bt HB1.out hB2)
        clear hB2 p1 p2
        go_wp2_with fail
        refine (HC.out _ HB2.out).mono ?_
        rintro e w3 ⟨rfl, hB3⟩
        rw [show chkV true = 0 from rfl]
        have b1 := Below.keeps hB3 a1
        have b2 := Below.keeps hB3 a2
        have HB3 := Lib.hid (bt HB2.out hB3)
        clear hB3 a1 a2
        go_wp2_with fail
        refine (HR.out _ HB3.out).mono ?_
        rintro e w4 ⟨rfl, hB4⟩
        rw [decide_eq_true z1, show rootF nodes (true && true) = ((nodes.length : Int) - 1, true) from rfl, hm]
        have c1 := Below.keeps hB4 b1
        have c2 := Below.keeps hB4 b2
        have HB4 := Lib.hid (bt HB3.out hB4)
        clear hB4 b1 b2
        go_wp2_with fail
        refine (HU.out _ HB4.out).mono ?_
        rintro e w5 ⟨rfl, hB5⟩
        rw [HUE.out, spV_mk]
        have d1 := Below.keeps hB5 c1
        have d2 := Below.keeps hB5 c2
        have HB5 := Lib.hid (bt HB4.out hB5)
        have hlt : w.heap.size < w5.heap.size := lt_of_cell d1
        clear hB5 c1 c2
        go_wp2_with fail
        go_ret
        exact ⟨rfl, bt HB5.out (b_alloc _ _)⟩
      · by_cases hn2 : (nodes.length : Int) ≤ n
        · have HUE := Lib.hid (underE_out (nodes := nodes) (n := n) (by omega))
          go_wp2_with fail
          refine (HM.out _ HB1.out).mono ?_
          rintro e w2 ⟨rfl, hB2⟩
          have a1 := Below.keeps hB2 p1
          have a2 := Below.keeps hB2 p2
          have HB2 := Lib.hid (bt HB1.out hB2)
          clear hB2 p1 p2
          go_wp2_with fail
          refine (HC.out _ HB2.out).mono ?_
          rintro e w3 ⟨rfl, hB3⟩
          rw [show chkV true = 0 from rfl]
          have b1 := Below.keeps hB3 a1
          have b2 := Below.keeps hB3 a2
          have HB3 := Lib.hid (bt HB2.out hB3)
          clear hB3 a1 a2
          go_wp2_with fail
          refine (HR.out _ HB3.out).mono ?_
          rintro e w4 ⟨rfl, hB4⟩
          rw [decide_eq_true z1, show rootF nodes (true && true) = ((nodes.length : Int) - 1, true) from rfl, hm]
          have c1 := Below.keeps hB4 b1
          have c2 := Below.keeps hB4 b2
          have HB4 := Lib.hid (bt HB3.out hB4)
          clear hB4 b1 b2
          go_wp2_with fail
          refine (HU.out _ HB4.out).mono ?_
          rintro e w5 ⟨rfl, hB5⟩
          rw [HUE.out, spV_mk]
          have d1 := Below.keeps hB5 c1
          have d2 := Below.keeps hB5 c2
          have HB5 := Lib.hid (bt HB4.out hB5)
          have hlt : w.heap.size < w5.heap.size := lt_of_cell d1
          clear hB5 c1 c2
          go_wp2_with fail
          go_ret
          exact ⟨rfl, bt HB5.out (b_alloc _ _)⟩
        · obtain ⟨i, rfl⟩ : ∃ i : Nat, n = (i : Int) := ⟨n.toNat, by omega⟩
          have hi : i < nodes.length := by omega
          have HUE := Lib.hid (underE_in hi)
          have HI := Lib.hid hi
          obtain ⟨u, hu⟩ : ∃ u, u = under nodes i := ⟨_, rfl⟩
          rw [← hu] at HUE
          have HUU := Lib.hid hu
          clear hu hi
          go_wp2_with fail
          refine (HM.out _ HB1.out).mono ?_
          rintro e w2 ⟨rfl, hB2⟩
          have a1 := Below.keeps hB2 p1
          have a2 := Below.keeps hB2 p2
          have HB2 := Lib.hid (bt HB1.out hB2)
          clear hB2 p1 p2
          go_wp2_with fail
          refine (HC.out _ HB2.out).mono ?_
          rintro e w3 ⟨rfl, hB3⟩
          rw [show chkV true = 0 from rfl]
          have b1 := Below.keeps hB3 a1
          have b2 := Below.keeps hB3 a2
          have HB3 := Lib.hid (bt HB2.out hB3)
          clear hB3 a1 a2
          go_wp2_with fail
          refine (HR.out _ HB3.out).mono ?_
          rintro e w4 ⟨rfl, hB4⟩
          rw [decide_eq_true z1, show rootF nodes (true && true) = ((nodes.length : Int) - 1, true) from rfl, hm]
          have c1 := Below.keeps hB4 b1
          have c2 := Below.keeps hB4 b2
          have HB4 := Lib.hid (bt HB3.out hB4)
          clear hB4 b1 b2
          go_wp2_with fail
          refine (HU.out _ HB4.out).mono ?_
          rintro e w5 ⟨rfl, hB5⟩
          rw [HUE.out, spV_mk]
          have d1 := Below.keeps hB5 c1
          have d2 := Below.keeps hB5 c2
          have HB5 := Lib.hid (bt HB4.out hB5)
          have hlt : w.heap.size < w5.heap.size := lt_of_cell d1
          clear hB5 c1 c2
          go_upto_region 5 with fail
          obtain ⟨V, hV⟩ : ∃ V, V = w5.alloc (.cells #[.int .i64 (u.1 : Int), .int .i64 (u.2 : Int)] 53) := ⟨_, rfl⟩
          obtain ⟨S, hS⟩ : ∃ S, S = w5.heap.size := ⟨_, rfl⟩
          have hsv : V.heap[S]? = some (.cells #[.int .i64 (u.1 : Int), .int .i64 (u.2 : Int)] 53 (0, 0)) := by rw [hV, hS]; exact World.alloc_heap_new w5 _
          have hbv : Below w5.heap.size w5 V := by rw [hV]; exact b_alloc w5 _
          obtain ⟨v1, v2, _, _⟩ := two_cells hsv
          have f1 := Below.keeps hbv d1
          have f2 := Below.keeps hbv d2
          have HBV := Lib.hid (bt HB5.out hbv)
          rw [← hV, ← hS]
          clear hV hS hsv hbv d1 d2
          go_upto_region 11 with fail
          refine region_known [(3, .exact _ (.agg #[.int .i64 (u.1 : Int), .int .i64 (u.2 : Int)])), (4, .exact _ (.agg #[.slice a nodes.length cap, .int .i64 n0])), (6, .exact _ (.agg #[.int .i64 (u.1 : Int), .int .i64 (u.2 : Int)]))] (by kernel_rfl) (by kernel_rfl) ?_
          (repeat (first | (refine wpG_skip (by kernel_rfl) (fun K hK => ?_); go_big_quiet_skip; refine wpQuiet_nil (hK _ ?_); clear hK K) | (refine wpG_quiet (by rfl) (by rfl) (fun K hK => ?_); go_big_quiet_want; go_big_quiet_op; go_big_quiet_on; refine wpQuiet_nil (hK _ ?_); clear hK K)))
          refine wpG_exact rfl (by kernel_rfl) (fun w' G hB hS hG => ?_) (fun K hK => ?_)
          · have y1 := Below.keeps hB v1
            have y2 := Below.keeps hB v2
            go_simp; exact hG _ (Bel.refl _)
          go_simp; refine hK _ ?_; clear hK K; (repeat (first | (refine wpG_skip (by kernel_rfl) (fun K hK => ?_); go_big_quiet_skip; refine wpQuiet_nil (hK _ ?_); clear hK K) | (refine wpG_quiet (by rfl) (by rfl) (fun K hK => ?_); go_big_quiet_want; go_big_quiet_op; go_big_quiet_on; refine wpQuiet_nil (hK _ ?_); clear hK K)))
          refine wpG_exact rfl (by kernel_rfl) (fun w' G hB hS hG => ?_) (fun K hK => ?_)
          · have y1 := Below.keeps hB f1
            have y2 := Below.keeps hB f2
            go_simp; exact hG _ (Bel.refl _)
          go_simp; refine hK _ ?_; clear hK K; (repeat (first | (refine wpG_skip (by kernel_rfl) (fun K hK => ?_); go_big_quiet_skip; refine wpQuiet_nil (hK _ ?_); clear hK K) | (refine wpG_quiet (by rfl) (by rfl) (fun K hK => ?_); go_big_quiet_want; go_big_quiet_op; go_big_quiet_on; refine wpQuiet_nil (hK _ ?_); clear hK K)))
          refine wpG_exact rfl (by kernel_rfl) (fun w' G hB hS hG => ?_) (fun K hK => ?_)
          · have hu := rUnder_any _ n0 nodes (by omega) (fun x hx => by have := HK8.out x hx; omega) HKO.out i w' HI.out (HN.out.below (bt HBV.out hB))
            rw [← HUU.out, spV_mk] at hu
            go_simp
            exact calls_told hG hu
          go_simp; refine hK _ ?_; clear hK K; (repeat (first | (refine wpG_skip (by kernel_rfl) (fun K hK => ?_); go_big_quiet_skip; refine wpQuiet_nil (hK _ ?_); clear hK K) | (refine wpG_quiet (by rfl) (by rfl) (fun K hK => ?_); go_big_quiet_want; go_big_quiet_op; go_big_quiet_on; refine wpQuiet_nil (hK _ ?_); clear hK K)))
          refine wpG_nilYK ?_
          intro w' hB hA
          go_wp2
          go_ret
          exact ⟨rfl, bt HBV.out hB⟩
end Go.Proofs.Ytahmacnmphjhgaa
namespace Go.Proofs.Ytahmacnmphjhgaa
open Go.RowKit Oct Go.WideMaps Go.Maps

theorem lawS : Keyed Try.prog 9 := string_keyed Try.underlying9
theorem zeroInt (w : World) : (zeroValue 3).run Try.prog w = .ok (.int .i64 0) w := by kernel_rfl
theorem keyS (s : List UInt8) (hs : s.length ≤ 140737488355328) : keyOf Try.prog 9 (.string (bs s)) = some (.string s) := by
  have := keyOf_string_mk (P := Try.prog) Try.underlying9 (s := bs s) (by simp; unfold maxLen; omega)
  simpa using this
def hasId (old : List Nd) (s : List UInt8) : Bool := old.any fun x => x.1 == s
def cntId (old : List Nd) (s : List UInt8) : Nat := old.countP fun x => x.1 == s
theorem cntId_zero (old : List Nd) (s : List UInt8) : (cntId old s = 0) ↔ hasId old s = false := by
  unfold cntId hasId
  rw [List.countP_eq_zero, List.any_eq_false]
theorem cntId_succ {old : List Nd} {k : Nat} (h : k < old.length) (s : List UInt8) : cntId (old.take (k + 1)) s = cntId (old.take k) s + (if old[k].1 = s then 1 else 0) := by
  unfold cntId
  rw [List.take_succ_eq_append_getElem h, List.countP_append]
  simp [List.countP_cons]
/-- which nodes are new -/
def freshF (old now : List Nd) (k : Nat) : List Int := ((List.range k).filter fun i => !hasId old (now.getD i ([], [])).1).map Int.ofNat
theorem freshF_succ (old now : List Nd) (k : Nat) (h : k < now.length) : freshF old now (k + 1) = if hasId old now[k].1 = true then freshF old now k else freshF old now k ++ [(k : Int)] := by
  unfold freshF
  rw [List.range_succ, List.filter_append]
  have e : (now.getD k ([], [])) = now[k] := by simp [List.getD, h]
  have e' : now[k]?.getD ([], []) = now[k] := by simp [h]
  cases hh : hasId old now[k].1 <;> simp [List.filter_cons, e', hh]
theorem freshF_le (old now : List Nd) (k : Nat) : (freshF old now k).length ≤ k := by
  unfold freshF
  rw [List.length_map]
  exact Nat.le_trans (List.length_filter_le _ _) (by simp)
theorem ownsMap_below {w w' : World} {M n : Nat} {D : DataW Unit} (h : w.ownsMap Try.prog 9 (plainElem Try.prog 3) M n D) (hB : Below w.heap.size w w') : w'.ownsMap Try.prog 9 (plainElem Try.prog 3) M n D :=
  h.kept (row := none) ⟨hB.os, hB.tape, hB.output, hB.size, fun k hk _ => hB.block k hk⟩ (by simp)
theorem ownsMap_chg {w w' : World} {M n : Nat} {D : DataW Unit} {row : Option Nat} (h : w.ownsMap Try.prog 9 (plainElem Try.prog 3) M n D) (hc : Chg (fun k => row = some k) w w') (hne : some M ≠ row) : w'.ownsMap Try.prog 9 (plainElem Try.prog 3) M n D :=
  h.kept (row := row) ⟨hc.os, hc.tape, hc.output, hc.size, fun k hk hn => hc.block k hk (fun e => hn (by rw [e]))⟩ hne

set_option maxRecDepth 100000 in
set_option maxHeartbeats 4000000 in
theorem Fresh23_any (va vb : Value) (n0 m0 : Int) (old now : List Nd) (w : World) (ha : NR w va old) (hb : NR w vb now) (hla : old.length ≤ 1000000) (hlb : now.length ≤ 1000000) (hia : ∀ x ∈ old, x.1.length ≤ 140737488355328) (hib : ∀ x ∈ now, x.1.length ≤ 140737488355328) :
    Calls Try.prog 29 #[.agg #[va, .int .i64 n0], .agg #[vb, .int .i64 m0]] w fun e w' => (∃ u, e = .returned u ∧ recI.Own w' w.heap.size u (freshF old now now.length)) ∧ Below w.heap.size w w' := by
  obtain ⟨aa, ca, rfl, _, hca⟩ := NR_open ha
  obtain ⟨ab, cb, rfl, _, hcb⟩ := NR_open hb
  have HCA := Lib.hid hca
  have HCB := Lib.hid hcb
  have HIA := Lib.hid hia
  have HIB := Lib.hid hib
  clear hca hcb ha hb hia hib
  have hmm := @run_makeMap Try.prog
  go_enter Try.func29, Try.ntmps29
  go_wp2_with fail
  obtain ⟨W0, hW0⟩ : ∃ W0, W0 = (w.alloc (.cells #[.slice aa old.length ca, .int .i64 n0] 44)).alloc (.cells #[.slice ab now.length cb, .int .i64 m0] 44) := ⟨_, rfl⟩
  obtain ⟨k1, k2, k3⟩ := two_new w (.cells #[.slice aa old.length ca, .int .i64 n0] 44) (.cells #[.slice ab now.length cb, .int .i64 m0] 44)
  obtain ⟨M, hM⟩ : ∃ M, M = w.heap.size + 1 + 1 := ⟨_, rfl⟩
  have hs0 : W0.heap.size = M := by rw [hW0, hM]; simp
  rw [← hW0] at k1 k2 k3 ⊢
  rw [← hM]
  obtain ⟨W1, hW1⟩ : ∃ W1, W1 = W0.alloc (.map #[] 0) := ⟨_, rfl⟩
  have hown0 : W1.ownsMap Try.prog 9 (plainElem (H := Unit) Try.prog 3) M 0 (.map []) := by rw [hW1, ← hs0]; exact World.ownsMap_made _ _ _ _
  have hb1 : Below w.heap.size w W1 := by rw [hW1]; exact bt k3 (b_alloc W0 _)
  have x1 : W1.heap[w.heap.size]? = some (.cells #[.slice aa old.length ca, .int .i64 n0] 44 (0, 0)) := by rw [hW1, Below.heap_alloc _ _ _ (Array.getElem?_eq_some_iff.1 k1).1]; exact k1
  have x2 : W1.heap[w.heap.size + 1]? = some (.cells #[.slice ab now.length cb, .int .i64 m0] 44 (0, 0)) := by rw [hW1, Below.heap_alloc _ _ _ (Array.getElem?_eq_some_iff.1 k2).1]; exact k2
  rw [← hW1]
  have hMlt := hown0.lt
  have HO0 := Lib.hid hown0
  have HB1 := Lib.hid hb1
  have X1 := Lib.hid x1
  have X2 := Lib.hid x2
  have HM := Lib.hid hM
  clear hW0 k1 k2 k3 hs0 hW1 hown0 hb1 x1 x2 hM
  have j9 : (old.length : Int) ≤ 1000000 := by omega
  have j8 : (now.length : Int) ≤ 1000000 := by omega
  go_loopw [14] (fun i wr => ∃ k : Nat, k ≤ old.length ∧ i = .int .i64 k ∧ Hid (∃ D : DataW Unit, wr.ownsMap Try.prog 9 (plainElem Try.prog 3) M k D ∧ ∀ s, D.atKey (.string s) (.lit (.int .i64 0)) = .lit (.int .i64 ((cntId (old.take k) s : Nat) : Int))) ∧ Hid (Chg (fun b => b = M) W1 wr)) (fun i _ => old.length - (intOf i).toNat)
  case atStart => exact ⟨0, by omega, rfl, ⟨_, HO0, fun s => rfl⟩, Chg.refl _ _⟩
  case round =>
    obtain ⟨k, hk, rfl, HD, HC⟩ := hrel
    by_cases h0 : k < old.length
    · obtain ⟨b1, o1, ak, nk, ck, rfl, hc1, hc2, _⟩ := HCA.out k h0
      have hMw : w.heap.size < M := by have := HM.out; omega
      have g1 := HC.out.cell (Below.keeps HB1.out hc1) (by have := lt_of_cell hc1; show ¬ b1 = M; simp at this; omega)
      have g2 := HC.out.cell (Below.keeps HB1.out hc2) (by have := lt_of_cell hc2; show ¬ b1 = M; simp at this; omega)
      have i0 : (0 : Int) ≤ (k : Int) := by omega
      have i1 : (k : Int) < (old.length : Int) := by omega
      have hlen := HIA.out old[k] (List.getElem_mem h0)
      have HCS := Lib.hid (fun s => cntId_succ h0 s)
      obtain ⟨s, hs⟩ : ∃ s, s = old[k].1 := ⟨_, rfl⟩
      rw [← hs] at g1 hlen HCS
      obtain ⟨D, hown, hat⟩ := HD.out
      have hkey := keyS s hlen
      have hba := b_alloc wr (.cells #[.string (bs s), .slice ak nk ck] 51)
      have hownA := ownsMap_below hown hba
      have HBA := Lib.hid hba
      have HAT := Lib.hid hat
      have HS := Lib.hid hs
      have hkm : k < maxLen := by unfold maxLen; omega
      have hcnt : cntId (old.take k) s ≤ k := by unfold cntId; exact Nat.le_trans List.countP_le_length (by rw [List.length_take]; omega)
      clear hc1 hc2 hs hown hat hba HD
      go_wp2_with (first
        | (at_lookup; refine wpList_lookup_own_int _ rfl _ _ 99 rfl 9 3 .i64 lawS Try.underlying99 Try.underlying3 (zeroInt _) M k D rfl hownA _ _ rfl hkey ?_; intro c hat2 hwc; have hce : c = ((cntId (old.take k) s : Nat) : Int) := (by have := (HAT.out s).symm.trans hat2; injection this with h; injection h with _ h2; exact h2.symm); clear hat2 hwc; subst hce)
        | (at_mapUpdate; refine wpList_mapUpdate_own _ rfl _ _ _ 99 rfl 9 3 lawS Try.underlying99 _ M k _ rfl hownA hkm _ _ _ rfl rfl hkey _ [] (plainElem_int Try.underlying3 (WalkArith.wf_i64 (by omega))) ?_; intro w1 hown1 hgrow1))
      refine ⟨⟨k + 1, by omega, by go_num, ⟨_, hown1, fun t => ?_⟩, (HC.out.trans (Chg.of_below HBA.out)).trans ⟨hgrow1.os, hgrow1.tape, hgrow1.output, hgrow1.size, fun b hb hn => hgrow1.block b hb (fun e => hn (Option.some.inj e))⟩⟩, by simp [intOf]; omega⟩
      rw [HCS.out t]
      by_cases hts : s = t
      · subst hts
        rw [if_pos rfl, atKey_put_same hownA.isMap (by trivial)]
        rfl
      · rw [if_neg hts, atKey_put_other (by intro e; injection e with e; exact hts e.symm), HAT.out t]
        rfl
    · obtain rfl : k = old.length := by omega
      obtain ⟨D, hown, hat⟩ := HD.out
      rw [List.take_length] at hat
      have HOWN := Lib.hid hown
      have HAT := Lib.hid hat
      have hMw : w.heap.size + 1 < M := by have := HM.out; omega
      have x2 := HC.out.at X2.out (by omega)
      obtain ⟨y1, y2, _, _⟩ := two_cells x2
      have hbw : Below w.heap.size w wr := HB1.out.trans (HC.out.below (fun k hk => by omega) HB1.out.size)
      have HBW := Lib.hid hbw
      have hMl := hown.lt
      clear hown hat x2 hbw HD
      obtain ⟨V, hV⟩ : ∃ V, V = wr := ⟨_, rfl⟩
      subst hV
      go_wp2
      go_loopw [4, 27] (fun vo vi ux => ∃ k : Nat, ∃ av cv, vo = .slice av (freshF old now k).length cv ∧ vi = .int .i64 (k : Int) ∧ k ≤ now.length ∧ Hid (recI.Own ux V.heap.size (.slice av (freshF old now k).length cv) (freshF old now k)) ∧ Hid (Below V.heap.size V ux)) (fun _ vi _ => now.length - (intOf vi).toNat)
      case atStart => exact ⟨0, none, 0, rfl, rfl, by omega, Rec.Own.nil _ _, Below.refl _ _⟩
      case round =>
        obtain ⟨k, av, cv, rfl, rfl, hk, HO, HB⟩ := hrel
        by_cases h0 : k < now.length
        · obtain ⟨b1, o1, ak, nk, ck, rfl, hc1, hc2, _⟩ := HCB.out k h0
          have g1 := Below.keeps HB.out (Below.keeps HBW.out hc1)
          have g2 := Below.keeps HB.out (Below.keeps HBW.out hc2)
          have i0 : (0 : Int) ≤ (k : Int) := by omega
          have i1 : (k : Int) < (now.length : Int) := by omega
          have hlen := HIB.out now[k] (List.getElem_mem h0)
          have HFS := Lib.hid (freshF_succ old now k h0)
          have HFL := Lib.hid (freshF_le old now k)
          obtain ⟨s, hs⟩ : ∃ s, s = now[k].1 := ⟨_, rfl⟩
          rw [← hs] at g1 hlen HFS
          have hkey := keyS s hlen
          have hba := b_alloc wr (.cells #[.string (bs s), .slice ak nk ck] 51)
          have hownA := ownsMap_below (ownsMap_below HOWN.out HB.out) hba
          have hsz : V.heap.size ≤ (wr.alloc (.cells #[.string (bs s), .slice ak nk ck] 51)).heap.size := Nat.le_trans HB.out.size hba.size
          have HBA := Lib.hid (Below.trans HB.out (hba.mono HB.out.size))
          have HO' := Lib.hid (HO.out.below hba)
          have hz := cntId_zero old s
          obtain ⟨c0, hc0⟩ : ∃ c0, c0 = cntId old s := ⟨_, rfl⟩
          have hats := HAT.out s
          rw [← hc0] at hz hats
          have HATS := Lib.hid hats
          clear hba hs hc0 hc1 hc2 hats
          cases hh : hasId old s with
          | true =>
            have e1 : ((c0 : Int) == 0) = false := by rw [beq_eq_false_iff_ne]; intro e; have := hz.1 (by omega); rw [hh] at this; cases this
            have HFS' := Lib.hid (show freshF old now (k + 1) = freshF old now k by rw [HFS.out, if_pos hh])
            clear hz hh
            go_wp2_with (first
              | (at_lookup; refine wpList_lookup_own_int _ rfl _ _ 99 rfl 9 3 .i64 lawS Try.underlying99 Try.underlying3 (zeroInt _) M old.length D rfl hownA _ _ rfl hkey ?_; intro c hat2 hwc; have hce : c = (c0 : Int) := (by have := HATS.out.symm.trans hat2; injection this with h; injection h with _ h2; exact h2.symm); clear hat2 hwc; subst hce))
            go_roundw
            case rel => exact ⟨k + 1, av, cv, by rw [HFS'.out], by go_num, by omega, by rw [HFS'.out]; exact HO'.out, HBA.out⟩
            case measure => simp [intOf]; omega
          | false =>
            have e1 : ((c0 : Int) == 0) = true := by rw [beq_iff_eq]; have := hz.2 hh; omega
            have HFS' := Lib.hid (show freshF old now (k + 1) = freshF old now k ++ [(k : Int)] by rw [HFS.out, if_neg (by rw [hh]; simp)])
            clear hz hh
            go_wp2_with (first
              | (at_lookup; refine wpList_lookup_own_int _ rfl _ _ 99 rfl 9 3 .i64 lawS Try.underlying99 Try.underlying3 (zeroInt _) M old.length D rfl hownA _ _ rfl hkey ?_; intro c hat2 hwc; have hce : c = (c0 : Int) := (by have := HATS.out.symm.trans hat2; injection this with h; injection h with _ h2; exact h2.symm); clear hat2 hwc; subst hce)
              | (at_builtin; go_must (refine recI.append1C _ (k : Int) rfl _ _ 49 rfl Try.underlying49 V.heap.size _ (freshF old now k) HO'.out rfl 1 (by rw [size_al]; rfl) _ rfl _ rfl (by have := HFL.out; show _ * 8 ≤ _; omega) hsz ?_); intro g cap3 w3 hown3 hc3 hg3; have HO3 := Lib.hid hown3; have hb3 : Below V.heap.size V w3 := HBA.out.trans (hc3.below (fun j hj => (HO'.out.lt j hj).1) hsz); have HB3 := Lib.hid hb3; clear hown3 hc3 hg3 hb3))
            go_roundw
            case rel => exact ⟨k + 1, some ⟨g, 0, none⟩, cap3, by rw [HFS'.out, List.length_append]; rfl, by go_num, by omega, by rw [HFS'.out, List.length_append]; exact HO3.out, HB3.out⟩
            case measure => simp [intOf]; omega
        · obtain rfl : k = now.length := by omega
          go_wp2
          go_ret
          exact ⟨⟨_, rfl, HO.out.mono HBW.out.size⟩, bt HBW.out HB.out⟩
end Go.Proofs.Ytahmacnmphjhgaa
namespace Go.Proofs.Ytahmacnmphjhgaa
open Go.RowKit Oct
attribute [local irreducible] wpG

theorem hasId_succ {old : List Nd} {k : Nat} (h : k < old.length) (s : List UInt8) : hasId (old.take (k + 1)) s = (hasId (old.take k) s || (old[k].1 == s)) := by
  unfold hasId
  rw [List.take_succ_eq_append_getElem h, List.any_append]
  simp
set_option maxRecDepth 100000 in
set_option maxHeartbeats 4000000 in
theorem rFresh_any (va vb : Value) (n0 m0 : Int) (old now : List Nd) (w : World) (ha : NR w va old) (hb : NR w vb now) (hla : old.length ≤ 1000000) (hlb : now.length ≤ 1000000) :
    Calls Try.prog 36 #[.agg #[va, .int .i64 n0], .agg #[vb, .int .i64 m0]] w fun e w' => (∃ u, e = .returned u ∧ recI.Own w' w.heap.size u (freshF old now now.length)) ∧ Below w.heap.size w w' := by
  obtain ⟨aa, ca, rfl, _, hca⟩ := NR_open ha
  obtain ⟨ab, cb, rfl, _, hcb⟩ := NR_open hb
  have HA := Lib.hid ha
  have HB := Lib.hid hb
  clear hca hcb ha hb
  go_enter Try.func36, Try.ntmps36
  go_wp2_with fail
  obtain ⟨W0, hW0⟩ : ∃ W0, W0 = (w.alloc (.cells #[.slice aa old.length ca, .int .i64 n0] 44)).alloc (.cells #[.slice ab now.length cb, .int .i64 m0] 44) := ⟨_, rfl⟩
  obtain ⟨k1, k2, k3⟩ := two_new w (.cells #[.slice aa old.length ca, .int .i64 n0] 44) (.cells #[.slice ab now.length cb, .int .i64 m0] 44)
  rw [← hW0] at k1 k2 k3 ⊢
  obtain ⟨p1, _, _, _⟩ := two_cells k1
  obtain ⟨p2, _, _, _⟩ := two_cells k2
  have HW := Lib.hid k3
  have HNA := Lib.hid (HA.out.below k3)
  have HNB := Lib.hid (HB.out.below k3)
  clear hW0 k1 k2 k3
  have j1 : (old.length : Int) ≤ 1000000 := by omega
  have j2 : (now.length : Int) ≤ 1000000 := by omega
  go_loopw [5, 6] (fun tl ti wr => ∃ i : Nat, ∃ av cv, tl = .slice av (freshF old now i).length cv ∧ ti = .int .i64 (i : Int) ∧ i ≤ now.length ∧ Hid (recI.Own wr W0.heap.size (.slice av (freshF old now i).length cv) (freshF old now i)) ∧ Hid (Below W0.heap.size W0 wr)) (fun _ ti _ => now.length - (intOf ti).toNat)
  case atStart => exact ⟨0, none, 0, rfl, rfl, Nat.zero_le _, Rec.Own.nil _ _, Below.refl _ _⟩
  case round =>
    obtain ⟨i, av, cv, rfl, rfl, hi, HO, HBW⟩ := hrel
    have r2 := Below.keeps HBW.out p2
    by_cases hin : i < now.length
    · obtain ⟨W1, hW1⟩ : ∃ W, W = wr := ⟨_, rfl⟩
      subst hW1
      obtain ⟨x, hx⟩ : ∃ x, x = now[i].1 := ⟨_, rfl⟩
      have HX := Lib.hid hx
      have hfs := freshF_succ old now i hin
      rw [← hx] at hfs
      have HFS := Lib.hid hfs
      have i0 : (0 : Int) ≤ (i : Int) := by omega
      have i1 : (i : Int) < (now.length : Int) := by omega
      clear hx hfs
      go_wp2
      go_loopw [7, 8] (fun tb tk wx => ∃ k : Nat, tb = .bool (hasId (old.take k) x) ∧ tk = .int .i64 (k : Int) ∧ k ≤ old.length ∧ Hid (Below W1.heap.size W1 wx)) (fun _ tk _ => old.length - (intOf tk).toNat)
      case atStart => exact ⟨0, rfl, rfl, Nat.zero_le _, Below.refl _ _⟩
      case round =>
        obtain ⟨k, rfl, rfl, hk, HBx⟩ := hrel
        have s1 := Below.keeps HBx.out (Below.keeps HBW.out p1)
        have s2 := Below.keeps HBx.out r2
        by_cases hkk : k < old.length
        · obtain ⟨_, _, b1, o1, _, _, _, hv1, rfl, d1, _, _⟩ := ((HNA.out.below HBW.out).below HBx.out).at hkk
          injection hv1 with e1 _ e3
          subst e1 e3
          obtain ⟨_, _, b2, o2, _, _, _, hv2, rfl, d2, _, _⟩ := ((HNB.out.below HBW.out).below HBx.out).at hin
          injection hv2 with e1 _ e3
          subst e1 e3
          rw [← HX.out] at d2
          obtain ⟨y, hy⟩ : ∃ y, y = old[k].1 := ⟨_, rfl⟩
          have hsn := hasId_succ hkk x
          rw [← hy] at d1 hsn
          have HSN := Lib.hid hsn
          have k0 : (0 : Int) ≤ (k : Int) := by omega
          have k1 : (k : Int) < (old.length : Int) := by omega
          obtain ⟨q, hq⟩ : ∃ q, q = hasId (old.take k) x := ⟨_, rfl⟩
          rw [← hq] at HSN ⊢
          clear hy hsn hq
          cases q with
          | true =>
            go_wp2
            refine region_known [] (by kernel_rfl) (by kernel_rfl) ?_
            (repeat (first | (refine wpG_skip (by kernel_rfl) (fun K hK => ?_); go_big_quiet_skip; refine wpQuiet_nil (hK _ ?_); clear hK K) | (refine wpG_quiet (by rfl) (by rfl) (fun K hK => ?_); go_big_quiet_want; go_big_quiet_op; go_big_quiet_on; refine wpQuiet_nil (hK _ ?_); clear hK K)))
            refine wpG_nilYK ?_
            intro w' hB hA
            have HB' := Lib.hid (bt HBx.out hB)
            clear hB hA d1 d2 s1 s2
            go_wp2
            go_roundw
            case rel => exact ⟨k + 1, by rw [HSN.out]; rfl, by go_num, by omega, HB'.out⟩
            case measure => simp [intOf]; omega
          | false =>
            go_wp2
            refine region_known [(3, .exact _ (.slice (some ⟨b1, o1, none⟩) old.length ca)), (7, .exact _ (.string (bs y))), (9, .exact _ (.slice (some ⟨b2, o2, none⟩) now.length cb)), (13, .exact _ (.string (bs x)))] (by kernel_rfl) (by kernel_rfl) ?_
            (repeat (first | (refine wpG_skip (by kernel_rfl) (fun K hK => ?_); go_big_quiet_skip; refine wpQuiet_nil (hK _ ?_); clear hK K) | (refine wpG_quiet (by rfl) (by rfl) (fun K hK => ?_); go_big_quiet_want; go_big_quiet_op; go_big_quiet_on; refine wpQuiet_nil (hK _ ?_); clear hK K)))
            refine wpG_exact rfl (by kernel_rfl) (fun w' G hB hS hG => ?_) (fun K hK => ?_)
            · have c' := Below.keeps hB s1
              go_simp; exact hG _ (Bel.refl _)
            go_simp; refine hK _ ?_; clear hK K; (repeat (first | (refine wpG_skip (by kernel_rfl) (fun K hK => ?_); go_big_quiet_skip; refine wpQuiet_nil (hK _ ?_); clear hK K) | (refine wpG_quiet (by rfl) (by rfl) (fun K hK => ?_); go_big_quiet_want; go_big_quiet_op; go_big_quiet_on; refine wpQuiet_nil (hK _ ?_); clear hK K)))
            refine wpG_exact rfl (by kernel_rfl) (fun w' G hB hS hG => ?_) (fun K hK => ?_)
            · have c' := Below.keeps hB d1
              go_simp; exact hG _ (Bel.refl _)
            go_simp; refine hK _ ?_; clear hK K; (repeat (first | (refine wpG_skip (by kernel_rfl) (fun K hK => ?_); go_big_quiet_skip; refine wpQuiet_nil (hK _ ?_); clear hK K) | (refine wpG_quiet (by rfl) (by rfl) (fun K hK => ?_); go_big_quiet_want; go_big_quiet_op; go_big_quiet_on; refine wpQuiet_nil (hK _ ?_); clear hK K)))
            refine wpG_exact rfl (by kernel_rfl) (fun w' G hB hS hG => ?_) (fun K hK => ?_)
            · have c' := Below.keeps hB s2
              go_simp; exact hG _ (Bel.refl _)
            go_simp; refine hK _ ?_; clear hK K; (repeat (first | (refine wpG_skip (by kernel_rfl) (fun K hK => ?_); go_big_quiet_skip; refine wpQuiet_nil (hK _ ?_); clear hK K) | (refine wpG_quiet (by rfl) (by rfl) (fun K hK => ?_); go_big_quiet_want; go_big_quiet_op; go_big_quiet_on; refine wpQuiet_nil (hK _ ?_); clear hK K)))
            refine wpG_exact rfl (by kernel_rfl) (fun w' G hB hS hG => ?_) (fun K hK => ?_)
            · have c' := Below.keeps hB d2
              go_simp; exact hG _ (Bel.refl _)
            go_simp; refine hK _ ?_; clear hK K; (repeat (first | (refine wpG_skip (by kernel_rfl) (fun K hK => ?_); go_big_quiet_skip; refine wpQuiet_nil (hK _ ?_); clear hK K) | (refine wpG_quiet (by rfl) (by rfl) (fun K hK => ?_); go_big_quiet_want; go_big_quiet_op; go_big_quiet_on; refine wpQuiet_nil (hK _ ?_); clear hK K)))
            refine wpG_nilYK ?_
            intro w' hB hA
            have HB' := Lib.hid (bt HBx.out hB)
            clear hB hA d1 d2 s1 s2
            go_wp2
            go_roundw
            case rel => exact ⟨k + 1, by rw [HSN.out]; simp, by go_num, by omega, HB'.out⟩
            case measure => simp [intOf]; omega
        · obtain rfl : k = old.length := by omega
          rw [List.take_length]
          have HO' := Lib.hid (HO.out.below HBx.out)
          have HB' := Lib.hid (HBW.out.trans (HBx.out.mono HBW.out.size))
          have HFL := Lib.hid (freshF_le old now i)
          cases hh : hasId old x with
          | true =>
            rw [hh] at HFS
            go_wp2
            go_roundw
            case rel => exact ⟨i + 1, av, cv, by rw [HFS.out]; rfl, by go_num, by omega, by rw [HFS.out]; exact HO'.out, HB'.out⟩
            case measure => simp [intOf]; omega
          | false =>
            rw [hh] at HFS
            go_wp2_with (at_builtin; go_must (refine recI.append1C _ (i : Int) rfl _ _ 49 rfl Try.underlying49 W0.heap.size _ (freshF old now i) HO'.out rfl 1 rfl _ rfl _ rfl (by have := HFL.out; show _ * 8 ≤ _; omega) HB'.out.size ?_); intro g cap2 w3 hown3 hc3 hg3; have HO3 := Lib.hid hown3; have hb3 : Below W0.heap.size W0 w3 := HB'.out.trans (hc3.below (fun j hj => (HO'.out.lt j hj).1) HB'.out.size); have HB3 := Lib.hid hb3; clear hown3 hc3 hg3 hb3)
            exact ⟨⟨i + 1, _, _, by rw [HFS.out, if_neg (by simp), List.length_append]; rfl, by go_num, by omega, by rw [HFS.out, if_neg (by simp), List.length_append]; exact HO3.out, HB3.out⟩, by simp [intOf]; omega⟩
    · obtain rfl : i = now.length := by omega
      go_wp2
      go_ret
      exact ⟨⟨_, rfl, HO.out.mono HW.out.size⟩, HW.out.trans (HBW.out.mono HW.out.size)⟩
end Go.Proofs.Ytahmacnmphjhgaa
namespace Go.Proofs.Ytahmacnmphjhgaa
open Go.RowKit Oct

theorem sp_ne_of {a b : List (Nat × Nat)} (k : Nat) (h : k < a.length) (h' : k < b.length) (hne : a[k] ≠ b[k]) : a ≠ b := by
  rintro rfl; exact hne rfl
theorem sp_eq (p q : Nat × Nat) : (((p.1 : Int) == (q.1 : Int)) && ((p.2 : Int) == (q.2 : Int))) = decide (p = q) := by
  rw [Bool.eq_iff_iff]; simp [Prod.ext_iff]; omega

set_option maxRecDepth 100000 in
set_option maxHeartbeats 1000000 in
theorem spans_any (va vb : Value) (a b : List (Nat × Nat)) (w : World) (ha : recSp.Row w va a) (hb : recSp.Row w vb b) (hla : a.length ≤ 140737488355328) (hlb : b.length ≤ 140737488355328) :
    Calls Try.prog 33 #[va, vb] w fun e w' => e = .returned (.bool (decide (a = b))) ∧ Below w.heap.size w w' := by
  obtain ⟨aa, ca, rfl, _, hca⟩ := recSp_open ha
  obtain ⟨ab, cb, rfl, _, hcb⟩ := recSp_open hb
  by_cases hl : a.length = b.length
  · have hL := Lib.hid hl
    have t1 : ((a.length : Int) != (b.length : Int)) = false := by rw [bne_eq_false_iff_eq]; omega
    clear hl
    go_enter Try.func33, Try.ntmps33
    go_wp2
    go_loopw [5] (fun i wr => ∃ k : Nat, k ≤ a.length ∧ i = .int .i64 k ∧ Hid (∀ j (h : j < a.length) (h' : j < b.length), j < k → a[j] = b[j]) ∧ Below w.heap.size w wr) (fun i _ => a.length - (intOf i).toNat)
    case atStart => exact ⟨0, by omega, rfl, by intro j _ _ h; omega, Below.refl _ _⟩
    case round =>
      obtain ⟨k, hk, rfl, hH, hB⟩ := hrel
      by_cases h0 : k < a.length
      · have h0b : k < b.length := by have := hL.out; omega
        obtain ⟨b1, o1, rfl, hc1, hc2⟩ := hca k h0
        obtain ⟨b2, o2, rfl, hc3, hc4⟩ := hcb k h0b
        have hd1 := Below.keeps hB hc1
        have hd2 := Below.keeps hB hc2
        have hd3 := Below.keeps hB hc3
        have hd4 := Below.keeps hB hc4
        have kk1 : (k : Int) < (a.length : Int) := by omega
        have kk2 : (k : Int) < (b.length : Int) := by omega
        clear hca hcb
        by_cases he : a[k] = b[k]
        · have he2 : ((a[k].1 : Int) == (b[k].1 : Int)) = true := by simp [he]
          have he3 : ((a[k].2 : Int) == (b[k].2 : Int)) = true := by simp [he]
          have HE := Lib.hid he
          clear he
          go_wp2
          go_quiet (fail)
          go_wp2
          go_roundw
          case rel =>
            refine ⟨k + 1, by omega, by go_num, ?_, bt hB (Below.drewN' _ _)⟩
            intro j h h' hj
            by_cases hjk : j = k
            · subst hjk; exact HE.out
            · exact hH.out j h h' (by omega)
          case measure => simp [intOf]; omega
        · have HE := Lib.hid he
          have he4 := sp_eq a[k] b[k]
          rw [decide_eq_false he] at he4
          clear he
          cases he2 : ((a[k].1 : Int) == (b[k].1 : Int))
          · go_wp2
            go_quiet (fail)
            go_wp2
            go_ret
            exact ⟨by rw [decide_eq_false (sp_ne_of k h0 h0b HE.out)]; rfl, bt hB (Below.drewN' _ _)⟩
          · have he3 : ((a[k].2 : Int) == (b[k].2 : Int)) = false := by rw [he2, Bool.true_and] at he4; exact he4
            clear he4
            go_wp2
            go_quiet (fail)
            go_wp2
            go_ret
            exact ⟨by rw [decide_eq_false (sp_ne_of k h0 h0b HE.out)]; rfl, bt hB (Below.drewN' _ _)⟩
      · obtain rfl : k = a.length := by omega
        go_wp2
        go_ret
        exact ⟨by rw [decide_eq_true (List.ext_getElem hL.out (fun j h h' => hH.out j h h' h))]; rfl, hB⟩
  · have t1 : ((a.length : Int) != (b.length : Int)) = true := by rw [bne_iff_ne]; omega
    go_enter Try.func33, Try.ntmps33
    go_wp2
    go_ret
    exact ⟨by rw [decide_eq_false (fun e => hl (by rw [e]))]; rfl, Below.refl _ _⟩

end Go.Proofs.Ytahmacnmphjhgaa
namespace Go.Proofs.Ytahmacnmphjhgaa
open Go.RowKit Oct
attribute [local irreducible] wpG

theorem build_yesS {w' : World} {l : List (List UInt8)} {e : Ending} (h : b23R w' l e) (hid : allIds l = true) (hl : l.length ≤ 4096) : ∃ a c, e = .returned (.tuple #[.agg #[.slice a (buildF l).length c, .int .i64 (l.length : Int)], .int .i64 0]) ∧ NR w' (.slice a (buildF l).length c) (buildF l) := by
  obtain ⟨v, he, hn⟩ := build_good h hid hl
  obtain ⟨a, c, rfl, _, _⟩ := NR_open hn
  exact ⟨a, c, he, hn⟩
/-- Groups' answer, both ways -/
theorem groups_ways {w w' : World} {l : List (List UInt8)} {e : Ending} (h : g23R w w' l e) : ∃ a n c k, e = .returned (.tuple #[.slice a n c, .int .i64 k]) ∧
    ((allIds l = true ∧ k = 0 ∧ n = (groups23 l).length ∧ recSp.Own w' w.heap.size (.slice a (groups23 l).length c) (groups23 l)) ∨ (allIds l = false ∧ k = 2 ∧ n = 0)) := by
  unfold g23R at h
  split at h
  · rename_i hq
    obtain ⟨v, rfl, ho⟩ := h
    obtain ⟨a, c, rfl⟩ := owns_slice ho
    exact ⟨a, _, c, 0, rfl, .inl ⟨hq, rfl, rfl, ho⟩⟩
  · rename_i hq
    exact ⟨none, 0, 0, 2, h, .inr ⟨by simpa using hq, rfl, rfl⟩⟩
/-- Build's answer, both ways -/
theorem build_ways {w' : World} {l : List (List UInt8)} {e : Ending} (h : b23R w' l e) (hl : l.length ≤ 4096) : ∃ a n c m k, e = .returned (.tuple #[.agg #[.slice a n c, .int .i64 m], .int .i64 k]) ∧
    ((allIds l = true ∧ k = 0 ∧ n = (buildF l).length ∧ m = (l.length : Int) ∧ NR w' (.slice a (buildF l).length c) (buildF l)) ∨ (allIds l = false ∧ k = 2 ∧ n = 0)) := by
  cases hq : allIds l with
  | true =>
    obtain ⟨a, c, rfl, hn⟩ := build_yesS h hq hl
    exact ⟨a, _, c, _, 0, rfl, .inl ⟨rfl, rfl, rfl, rfl, hn⟩⟩
  | false =>
    unfold b23R at h
    rw [if_neg (by rw [hq]; simp)] at h
    exact ⟨none, 0, 0, 0, 2, h, .inr ⟨rfl, rfl, rfl⟩⟩
/-- a row that a call made, read -/
def kRow23 {α : Type} (R : Rec α) (l : List α) : Known Bel :=
  ⟨Option Addr × Nat, fun x => .slice x.1 l.length x.2, fun x => some fun w => R.Row w (.slice x.1 l.length x.2) l, fun _ _ h _ _ hφ hB => by cases h; exact hφ.below hB⟩
@[go_sem] theorem kRow23_val {α : Type} (R : Rec α) (l : List α) (a : Option Addr) (c : Nat) : (kRow23 R l).val (a, c) = .slice a l.length c := rfl
theorem groups23_le' (l : List (List UInt8)) : (groups23 l).length ≤ l.length := spansF_le l _ 0 0

set_option maxRecDepth 100000 in
set_option maxHeartbeats 8000000 in
theorem TreeTells_any (v1 : Value) (a : List (List UInt8)) (v2 : Value) (b : List (List UInt8)) (v3 : Value) (c : List (List UInt8)) (nv : Value) (n0 : Int) (t : List Nd) (n : Int) (w : World) (hr1 : recS.Row w v1 a) (hl1 : a.length ≤ 140737488355328) (hm1 : ∀ s ∈ a, s.length ≤ 140737488355328)
    (hr2 : recS.Row w v2 b) (hl2 : b.length ≤ 140737488355328) (hm2 : ∀ s ∈ b, s.length ≤ 140737488355328) (hr3 : recS.Row w v3 c) (hl3 : c.length ≤ 140737488355328) (hm3 : ∀ s ∈ c, s.length ≤ 140737488355328)
    (hr4 : NR w nv t) (hb4 : ∀ y ∈ t, y.1.length ≤ 140737488355328 ∧ y.2.length ≤ 140737488355328) (_hn : (Lit.int .i64 n).wf = true) :
    Calls Try.prog 8 #[v1, v2, v3, .agg #[nv, .int .i64 n0], .int .i64 n] w fun e w' => e = .returned (.bool true) ∧ Below w.heap.size w w' := by
  obtain ⟨a1, c1, rfl, _⟩ := hr1.2
  obtain ⟨a2, c2, rfl, _⟩ := hr2.2
  obtain ⟨a3, c3, rfl, _⟩ := hr3.2
  obtain ⟨a4, c4, rfl, _⟩ := NR_open hr4
  have HR1 := Lib.hid hr1
  have HR2 := Lib.hid hr2
  have HR3 := Lib.hid hr3
  have HR4 := Lib.hid hr4
  have HB4 := Lib.hid hb4
  have HM1 := Lib.hid hm1
  have HM2 := Lib.hid hm2
  have HM3 := Lib.hid hm3
  clear hr1 hr2 hr3 hr4 hb4 hm1 hm2 hm3 _hn
  go_enter Try.func8, Try.ntmps8
  go_upto_region 1 with fail
  obtain ⟨W1, hW1⟩ : ∃ W1, W1 = w.alloc (.cells #[.slice a4 t.length c4, .int .i64 n0] 44) := ⟨_, rfl⟩
  have hb1 : Below w.heap.size w W1 := by rw [hW1]; exact b_alloc _ _
  have ht1 : W1.heap[w.heap.size]? = some (.cells #[.slice a4 t.length c4, .int .i64 n0] 44 (0, 0)) := by rw [hW1]; exact World.alloc_heap_new w _
  obtain ⟨p1, p2, _, _⟩ := two_cells ht1
  have HB1 := Lib.hid hb1
  rw [← hW1]
  clear hW1 ht1
  have HL1 := Lib.hid (long23_any _ a W1 (HR1.out.below hb1) hl1 HM1.out)
  have HL2 := Lib.hid (long23_any _ b W1 (HR2.out.below hb1) hl2 HM2.out)
  have HL3 := Lib.hid (long23_any _ c W1 (HR3.out.below hb1) hl3 HM3.out)
  clear hb1
  cases h1 : long23 a with
  | true =>
    rw [h1] at HL1
    clear h1
    go_wp2_with fail
    refine HL1.out.mono ?_
    rintro e w1 ⟨rfl, rfl⟩
    go_wp2_with fail
    refine (alive23 _).mono ?_
    rintro e w1 ⟨rfl, hB1⟩
    go_wp2_with fail
    go_ret
    exact ⟨rfl, bt HB1.out hB1⟩
  | false =>
    cases h2 : long23 b with
    | true =>
      rw [h1] at HL1
      rw [h2] at HL2
      clear h1 h2
      go_wp2_with fail
      refine HL1.out.mono ?_
      rintro e w1 ⟨rfl, rfl⟩
      go_wp2_with fail
      refine HL2.out.mono ?_
      rintro e w1 ⟨rfl, rfl⟩
      go_wp2_with fail
      refine (alive23 _).mono ?_
      rintro e w1 ⟨rfl, hB1⟩
      go_wp2_with fail
      go_ret
      exact ⟨rfl, bt HB1.out hB1⟩
    | false =>
      cases h3 : long23 c with
      | true =>
        rw [h1] at HL1
        rw [h2] at HL2
        rw [h3] at HL3
        clear h1 h2 h3
        go_wp2_with fail
        refine HL1.out.mono ?_
        rintro e w1 ⟨rfl, rfl⟩
        go_wp2_with fail
        refine HL2.out.mono ?_
        rintro e w1 ⟨rfl, rfl⟩
        go_wp2_with fail
        refine HL3.out.mono ?_
        rintro e w1 ⟨rfl, rfl⟩
        go_wp2_with fail
        refine (alive23 _).mono ?_
        rintro e w1 ⟨rfl, hB1⟩
        go_wp2_with fail
        go_ret
        exact ⟨rfl, bt HB1.out hB1⟩
      | false =>
        by_cases h4 : (60 : Int) < (t.length : Int)
        · rw [h1] at HL1
          rw [h2] at HL2
          rw [h3] at HL3
          clear h1 h2 h3
          go_wp2_with fail
          refine HL1.out.mono ?_
          rintro e w1 ⟨rfl, rfl⟩
          go_wp2_with fail
          refine HL2.out.mono ?_
          rintro e w1 ⟨rfl, rfl⟩
          go_wp2_with fail
          refine HL3.out.mono ?_
          rintro e w1 ⟨rfl, rfl⟩
          go_wp2_with fail
          refine (alive23 _).mono ?_
          rintro e w1 ⟨rfl, hB1⟩
          go_wp2_with fail
          go_ret
          exact ⟨rfl, bt HB1.out hB1⟩
        · obtain ⟨n1, m1⟩ := long23_no h1
          obtain ⟨n2, m2⟩ := long23_no h2
          obtain ⟨n3, m3⟩ := long23_no h3
          rw [h1] at HL1
          rw [h2] at HL2
          rw [h3] at HL3
          have M2 := Lib.hid m2
          have M3 := Lib.hid m3
          clear h1 h2 h3 m1 m2 m3
          have nt : t.length ≤ 60 := by omega
          go_wp2_with fail
          refine HL1.out.mono ?_
          rintro e w1 ⟨rfl, rfl⟩
          go_wp2_with fail
          refine HL2.out.mono ?_
          rintro e w1 ⟨rfl, rfl⟩
          go_wp2_with fail
          refine HL3.out.mono ?_
          rintro e w1 ⟨rfl, rfl⟩
          have HS1 := Lib.hid (HR1.out.below HB1.out)
          go_upto_region 3 with fail
          go_wp2_with (at_builtin; refine recS.append W1 rfl _ _ 40 rfl Try.underlying40 W1.heap.size (.slice none 0 0) [] (Rec.Own.nil _ _) rfl (.slice a1 a.length c1) a HS1.out rfl (by show (0 + a.length) * 16 ≤ _; omega) (Nat.le_refl _) ?_; intro v4 w4 hown4 hB4; rw [List.nil_append] at hown4; obtain ⟨a5, c5, rfl⟩ := owns_slice hown4; have HO4 := Lib.hid hown4; have HB4' := Lib.hid hB4; clear hown4 hB4)
          refine (Groups23_any _ a _ HO4.out.row (fun b hb => (HO4.out.lt b hb).2) (by omega) HM1.out).mono ?_
          rintro e w5 ⟨hg, hB5⟩
          obtain ⟨ag, ng, cg, kg, rfl, hgw⟩ := groups_ways hg
          have HGW := Lib.hid hgw
          have HB5 := Lib.hid (bt HB4'.out hB5)
          clear hg hgw hB5
          have HS5 := Lib.hid (HS1.out.below HB5.out)
          go_upto_region 4 with fail
          go_wp2_with (at_builtin; refine recS.append w5 rfl _ _ 40 rfl Try.underlying40 w5.heap.size (.slice none 0 0) [] (Rec.Own.nil _ _) rfl (.slice a1 a.length c1) a HS5.out rfl (by show (0 + a.length) * 16 ≤ _; omega) (Nat.le_refl _) ?_; intro v6 w6 hown6 hB6; rw [List.nil_append] at hown6; obtain ⟨a6, c6, rfl⟩ := owns_slice hown6; have HO6 := Lib.hid hown6; have HB6 := Lib.hid hB6; clear hown6 hB6)
          refine (Build_any _ a _ HO6.out.row (fun b hb => (HO6.out.lt b hb).2) (by omega) HM1.out).mono ?_
          rintro e w7 ⟨hb, hB7⟩
          obtain ⟨ab, nb, cb, mb, kb, rfl, hbw⟩ := build_ways hb (by omega)
          have HBW := Lib.hid hbw
          have HB57 := Lib.hid (bt HB6.out hB7)
          clear hb hbw hB7
          go_upto_region 5 with fail
          obtain ⟨V, hV⟩ : ∃ V, V = w7.alloc (.cells #[.slice ab nb cb, .int .i64 mb] 44) := ⟨_, rfl⟩
          obtain ⟨B, hB⟩ : ∃ B, B = w7.heap.size := ⟨_, rfl⟩
          have hbv : V.heap[B]? = some (.cells #[.slice ab nb cb, .int .i64 mb] 44 (0, 0)) := by rw [hV, hB]; exact World.alloc_heap_new w7 _
          have hvb : Below w7.heap.size w7 V := by rw [hV]; exact b_alloc w7 _
          obtain ⟨x1, x2, _, _⟩ := two_cells hbv
          have HVB := Lib.hid hvb
          have HB5V := Lib.hid (bt HB57.out hvb)
          have HBV := Lib.hid (bt HB5.out HB5V.out)
          rw [← hV, ← hB]
          clear hV hB hbv hvb
          have HSV := Lib.hid (HS1.out.below HBV.out)
          obtain ⟨q, hq⟩ : ∃ q, q = allIds a := ⟨_, rfl⟩
          have HIA := Lib.hid (rIds_any _ a V HSV.out hl1 HM1.out)
          rw [← hq] at HGW HBW HIA
          have HQ := Lib.hid hq
          clear hq
          go_upto_if 53 with fail
          refine HIA.out.mono ?_
          rintro e w8 ⟨rfl, rfl⟩
          go_upto_if 53 with fail
          go_cut [] (fun wx => Below V.heap.size V wx)
          case first =>
            cases q with
            | false =>
              rcases HGW.out with ⟨h, _⟩ | ⟨_, rfl, rfl⟩
              · cases h
              rcases HBW.out with ⟨h, _⟩ | ⟨_, rfl, rfl⟩
              · cases h
              go_wp2_with fail
              go_meet
              case rel => exact Below.refl _ _
            | true =>
              rcases HGW.out with ⟨_, rfl, rfl, hog⟩ | ⟨h, _⟩
              rotate_left
              · cases h
              rcases HBW.out with ⟨_, rfl, rfl, rfl, hnb⟩ | ⟨h, _⟩
              rotate_left
              · cases h
              have hgl := groups23_le' a
              have hsz := buildF_sizes HQ.out.symm
              have HSZ := Lib.hid hsz
              have HOG := Lib.hid (hog.row.below HB5V.out)
              have HNB := Lib.hid (hnb.below HVB.out)
              have HGL := Lib.hid hgl
              have HQ2 := Lib.hid (show allIds a = true from HQ.out.symm)
              clear hog hnb hsz hgl
              go_wp2_with fail
              refine region_known [(9, kRow23 recSp (groups23 a)), (10, .exact _ (.bool true)), (14, .exact _ (.agg #[.slice ab (buildF a).length cb, .int .i64 (a.length : Int)])), (16, kTree a (a.length : Int)), (17, .exact _ (.bool true))] (by kernel_rfl) (by kernel_rfl) ?_
              (repeat (first | (refine wpG_skip (by kernel_rfl) (fun K hK => ?_); go_big_quiet_skip; refine wpQuiet_nil (hK _ ?_); clear hK K) | (refine wpG_quiet (by rfl) (by rfl) (fun K hK => ?_); go_big_quiet_want; go_big_quiet_op; go_big_quiet_on; refine wpQuiet_nil (hK _ ?_); clear hK K)))
              refine wpG_known (kRow23 recSp (groups23 a)) rfl (by kernel_rfl) (fun w' G hB hS hG => ?_) (fun x K hK => ?_)
              · have hc := rGroups23_any _ a w' (HSV.out.below hB) (by omega) HQ2.out
                go_simp
                refine hc.mono ?_
                rintro e w'' ⟨⟨u, rfl, hown⟩, hB''⟩
                obtain ⟨a9, c9, rfl⟩ := owns_slice hown
                exact ⟨_, rfl, hG (a9, c9) w'' hB'' (fun φ h => by cases h; exact hown.row)⟩
              obtain ⟨a9, c9⟩ := x
              go_simp; refine hK _ ?_; clear hK K; (repeat (first | (refine wpG_skip (by kernel_rfl) (fun K hK => ?_); go_big_quiet_skip; refine wpQuiet_nil (hK _ ?_); clear hK K) | (refine wpG_quiet (by rfl) (by rfl) (fun K hK => ?_); go_big_quiet_want; go_big_quiet_op; go_big_quiet_on; refine wpQuiet_nil (hK _ ?_); clear hK K)))
              refine wpG_exact rfl (by kernel_rfl) (fun w' G hB hS hG => ?_) (fun K hK => ?_)
              · have hrow : recSp.Row w' (.slice a9 (groups23 a).length c9) (groups23 a) := at0 hS (by kernel_rfl)
                have hc := spans_any _ _ (groups23 a) (groups23 a) w' (HOG.out.below hB) hrow (by have := HGL.out; omega) (by have := HGL.out; omega)
                rw [decide_eq_true rfl] at hc
                clear hS hrow
                go_simp
                exact calls_told hG hc
              go_simp; refine hK _ ?_; clear hK K; (repeat (first | (refine wpG_skip (by kernel_rfl) (fun K hK => ?_); go_big_quiet_skip; refine wpQuiet_nil (hK _ ?_); clear hK K) | (refine wpG_quiet (by rfl) (by rfl) (fun K hK => ?_); go_big_quiet_want; go_big_quiet_op; go_big_quiet_on; refine wpQuiet_nil (hK _ ?_); clear hK K)))
              refine wpG_exact rfl (by kernel_rfl) (fun w' G hB hS hG => ?_) (fun K hK => ?_)
              · have y1 := Below.keeps hB x1
                have y2 := Below.keeps hB x2
                clear hS
                go_simp; exact hG _ (Bel.refl _)
              go_simp; refine hK _ ?_; clear hK K; (repeat (first | (refine wpG_skip (by kernel_rfl) (fun K hK => ?_); go_big_quiet_skip; refine wpQuiet_nil (hK _ ?_); clear hK K) | (refine wpG_quiet (by rfl) (by rfl) (fun K hK => ?_); go_big_quiet_want; go_big_quiet_op; go_big_quiet_on; refine wpQuiet_nil (hK _ ?_); clear hK K)))
              refine wpG_known (kTree a (a.length : Int)) rfl (by kernel_rfl) (fun w' G hB hS hG => ?_) (fun x K hK => ?_)
              · have hc := rBuild_any _ a w' (HSV.out.below hB) (by omega) HQ2.out
                clear hS
                go_simp
                refine hc.mono ?_
                rintro e w'' ⟨⟨u, rfl, hnr⟩, hB''⟩
                obtain ⟨a8, c8, rfl, _, _⟩ := NR_open hnr
                exact ⟨_, rfl, hG (a8, c8) w'' hB'' (fun φ h => by cases h; exact hnr)⟩
              obtain ⟨a8, c8⟩ := x
              go_simp; refine hK _ ?_; clear hK K; (repeat (first | (refine wpG_skip (by kernel_rfl) (fun K hK => ?_); go_big_quiet_skip; refine wpQuiet_nil (hK _ ?_); clear hK K) | (refine wpG_quiet (by rfl) (by rfl) (fun K hK => ?_); go_big_quiet_want; go_big_quiet_op; go_big_quiet_on; refine wpQuiet_nil (hK _ ?_); clear hK K)))
              refine wpG_exact rfl (by kernel_rfl) (fun w' G hB hS hG => ?_) (fun K hK => ?_)
              · have hnr : NR w' (.slice a8 (buildF a).length c8) (buildF a) := at0 hS (by kernel_rfl)
                have hc := rSame23_any _ _ (a.length : Int) (a.length : Int) (buildF a) (buildF a) w' (HNB.out.below hB) hnr (by have := HSZ.out.2.1; omega) (by have := HSZ.out.2.1; omega) (fun x hx => by have := HSZ.out.2.2.2 x hx; omega) (fun x hx => by have := HSZ.out.2.2.2 x hx; omega)
                rw [decide_eq_true ⟨rfl, rfl⟩] at hc
                clear hS hnr
                go_simp
                exact calls_told hG hc
              go_simp; refine hK _ ?_; clear hK K; (repeat (first | (refine wpG_skip (by kernel_rfl) (fun K hK => ?_); go_big_quiet_skip; refine wpQuiet_nil (hK _ ?_); clear hK K) | (refine wpG_quiet (by rfl) (by rfl) (fun K hK => ?_); go_big_quiet_want; go_big_quiet_op; go_big_quiet_on; refine wpQuiet_nil (hK _ ?_); clear hK K)))
              refine wpG_nilYK ?_
              intro w9 hB9 hA9
              go_wp2_with fail
              go_meet
              case rel => exact hB9
          case rest =>
            have HBC := Lib.hid (bt HBV.out hcut)
            have HC2 := Lib.hid ((HR2.out.below HB1.out).below HBC.out)
            have q1 := Below.keeps HBC.out p1
            have q2 := Below.keeps HBC.out p2
            clear hcut x1 x2 p1 p2
            obtain ⟨I1, hI1⟩ : ∃ I, I = idsF b := ⟨_, rfl⟩
            have HA1 := Lib.hid (show allIds I1 = true by rw [hI1]; exact idsF_all b)
            have HLI1 := Lib.hid (show I1.length = b.length by rw [hI1]; exact idsF_len b)
            have HI1 := Lib.hid hI1
            have HZ1 := Lib.hid (buildF_sizes HA1.out)
            clear hI1
            go_wp2_with fail
            refine (Ids23_any _ b _ HC2.out (by omega) M2.out).mono ?_
            rintro e wi1 ⟨⟨u, rfl, hown⟩, hBi⟩
            obtain ⟨ai1, ci1, rfl⟩ := owns_slice hown
            rw [← HI1.out] at hown ⊢
            have HOI1 := Lib.hid hown
            have HBI1 := Lib.hid hBi
            clear hown hBi
            go_wp2_with fail
            refine (Build_any _ I1 _ HOI1.out.row (fun b hb => (HOI1.out.lt b hb).2) (by rw [HLI1.out]; omega) (all_len HA1.out)).mono ?_
            rintro e wb1 ⟨hres, hBb⟩
            obtain ⟨ab1, cb1, rfl, hnb⟩ := build_yesS hres HA1.out (by rw [HLI1.out]; omega)
            obtain ⟨V1, hV1⟩ : ∃ V, V = wb1.alloc (.cells #[.slice ab1 (buildF I1).length cb1, .int .i64 (I1.length : Int)] 44) := ⟨_, rfl⟩
            obtain ⟨A1, hA1⟩ : ∃ A, A = wb1.heap.size := ⟨_, rfl⟩
            have hbv : V1.heap[A1]? = some (.cells #[.slice ab1 (buildF I1).length cb1, .int .i64 (I1.length : Int)] 44 (0, 0)) := by rw [hV1, hA1]; exact World.alloc_heap_new wb1 _
            have hvb : Below wb1.heap.size wb1 V1 := by rw [hV1]; exact b_alloc wb1 _
            have HNV1 := Lib.hid (hnb.below hvb)
            have HBB1 := Lib.hid (bt (bt HBI1.out hBb) hvb)
            clear hres hBb hnb hvb
            go_upto_region 11 with fail
            rw [← hV1, ← hA1]
            obtain ⟨g11, g12, _, _⟩ := two_cells hbv
            clear hV1 hA1 hbv
            have HBC1 := Lib.hid (bt HBC.out HBB1.out)
            have HC3 := Lib.hid ((HR3.out.below HB1.out).below HBC1.out)
            have r1 := Below.keeps HBB1.out q1
            have r2 := Below.keeps HBB1.out q2
            clear q1 q2
            obtain ⟨I2, hI2⟩ : ∃ I, I = idsF c := ⟨_, rfl⟩
            have HA2 := Lib.hid (show allIds I2 = true by rw [hI2]; exact idsF_all c)
            have HLI2 := Lib.hid (show I2.length = c.length by rw [hI2]; exact idsF_len c)
            have HI2 := Lib.hid hI2
            have HZ2 := Lib.hid (buildF_sizes HA2.out)
            clear hI2
            go_wp2_with fail
            refine (Ids23_any _ c _ HC3.out (by omega) M3.out).mono ?_
            rintro e wi2 ⟨⟨u, rfl, hown⟩, hBi⟩
            obtain ⟨ai2, ci2, rfl⟩ := owns_slice hown
            rw [← HI2.out] at hown ⊢
            have HOI2 := Lib.hid hown
            have HBI2 := Lib.hid hBi
            clear hown hBi
            go_wp2_with fail
            refine (Build_any _ I2 _ HOI2.out.row (fun b hb => (HOI2.out.lt b hb).2) (by rw [HLI2.out]; omega) (all_len HA2.out)).mono ?_
            rintro e wb2 ⟨hres, hBb⟩
            obtain ⟨ab2, cb2, rfl, hnb⟩ := build_yesS hres HA2.out (by rw [HLI2.out]; omega)
            obtain ⟨V2, hV2⟩ : ∃ V, V = wb2.alloc (.cells #[.slice ab2 (buildF I2).length cb2, .int .i64 (I2.length : Int)] 44) := ⟨_, rfl⟩
            obtain ⟨A2, hA2⟩ : ∃ A, A = wb2.heap.size := ⟨_, rfl⟩
            have hbv : V2.heap[A2]? = some (.cells #[.slice ab2 (buildF I2).length cb2, .int .i64 (I2.length : Int)] 44 (0, 0)) := by rw [hV2, hA2]; exact World.alloc_heap_new wb2 _
            have hvb : Below wb2.heap.size wb2 V2 := by rw [hV2]; exact b_alloc wb2 _
            have HNV2 := Lib.hid (hnb.below hvb)
            have HBB2 := Lib.hid (bt (bt HBI2.out hBb) hvb)
            clear hres hBb hnb hvb
            go_upto_region 12 with fail
            rw [← hV2, ← hA2]
            obtain ⟨g21, g22, _, _⟩ := two_cells hbv
            clear hV2 hA2 hbv
            have HBC2 := Lib.hid (bt HBC1.out HBB2.out)
            have HCB := Lib.hid ((HR2.out.below HB1.out).below HBC2.out)
            have HNA := Lib.hid (HNV1.out.below HBB2.out)
            have s1 := Below.keeps HBB2.out r1
            have s2 := Below.keeps HBB2.out r2
            have s3 := Below.keeps HBB2.out g11
            have s4 := Below.keeps HBB2.out g12
            have lz1 : (buildF I1).length ≤ 120 := by have := HZ1.out.2.1; have := HLI1.out; omega
            have lz2 : (buildF I2).length ≤ 120 := by have := HZ2.out.2.1; have := HLI2.out; omega
            have LZ1 := Lib.hid lz1
            have LZ2 := Lib.hid lz2
            clear r1 r2 g11 g12 lz1 lz2
            go_wp2
            refine region_known [(7, .exact _ (.agg #[.slice ab1 (buildF I1).length cb1, .int .i64 (I1.length : Int)])), (9, kRow23 recS I1), (10, kTree I1 (I1.length : Int)), (11, .exact _ (.bool true))] (by kernel_rfl) (by kernel_rfl) ?_
            (repeat (first | (refine wpG_skip (by kernel_rfl) (fun K hK => ?_); go_big_quiet_skip; refine wpQuiet_nil (hK _ ?_); clear hK K) | (refine wpG_quiet (by rfl) (by rfl) (fun K hK => ?_); go_big_quiet_want; go_big_quiet_op; go_big_quiet_on; refine wpQuiet_nil (hK _ ?_); clear hK K)))
            refine wpG_exact rfl (by kernel_rfl) (fun w' G hB hS hG => ?_) (fun K hK => ?_)
            · have y1 := Below.keeps hB s3
              have y2 := Below.keeps hB s4
              go_simp; exact hG _ (Bel.refl _)
            go_simp; refine hK _ ?_; clear hK K; (repeat (first | (refine wpG_skip (by kernel_rfl) (fun K hK => ?_); go_big_quiet_skip; refine wpQuiet_nil (hK _ ?_); clear hK K) | (refine wpG_quiet (by rfl) (by rfl) (fun K hK => ?_); go_big_quiet_want; go_big_quiet_op; go_big_quiet_on; refine wpQuiet_nil (hK _ ?_); clear hK K)))
            refine wpG_known (kRow23 recS I1) rfl (by kernel_rfl) (fun w' G hB hS hG => ?_) (fun x K hK => ?_)
            · have hc := Ids23_any _ b w' (HCB.out.below hB) (by omega) M2.out
              rw [← HI1.out] at hc
              clear hS
              go_simp
              refine hc.mono ?_
              rintro e w'' ⟨⟨u, rfl, hown⟩, hB''⟩
              obtain ⟨a9, c9, rfl⟩ := owns_slice hown
              exact ⟨_, rfl, hG (a9, c9) w'' hB'' (fun φ h => by cases h; exact hown.row)⟩
            obtain ⟨a9, c9⟩ := x
            go_simp; refine hK _ ?_; clear hK K; (repeat (first | (refine wpG_skip (by kernel_rfl) (fun K hK => ?_); go_big_quiet_skip; refine wpQuiet_nil (hK _ ?_); clear hK K) | (refine wpG_quiet (by rfl) (by rfl) (fun K hK => ?_); go_big_quiet_want; go_big_quiet_op; go_big_quiet_on; refine wpQuiet_nil (hK _ ?_); clear hK K)))
            refine wpG_known (kTree I1 (I1.length : Int)) rfl (by kernel_rfl) (fun w' G hB hS hG => ?_) (fun x K hK => ?_)
            · have hrow : recS.Row w' (.slice a9 I1.length c9) I1 := at0 hS (by kernel_rfl)
              have hc := rBuild_any _ I1 w' hrow (by have := HLI1.out; omega) HA1.out
              clear hS hrow
              go_simp
              refine hc.mono ?_
              rintro e w'' ⟨⟨u, rfl, hnr⟩, hB''⟩
              obtain ⟨a8, c8, rfl, _, _⟩ := NR_open hnr
              exact ⟨_, rfl, hG (a8, c8) w'' hB'' (fun φ h => by cases h; exact hnr)⟩
            obtain ⟨a8, c8⟩ := x
            go_simp; refine hK _ ?_; clear hK K; (repeat (first | (refine wpG_skip (by kernel_rfl) (fun K hK => ?_); go_big_quiet_skip; refine wpQuiet_nil (hK _ ?_); clear hK K) | (refine wpG_quiet (by rfl) (by rfl) (fun K hK => ?_); go_big_quiet_want; go_big_quiet_op; go_big_quiet_on; refine wpQuiet_nil (hK _ ?_); clear hK K)))
            refine wpG_exact rfl (by kernel_rfl) (fun w' G hB hS hG => ?_) (fun K hK => ?_)
            · have hnr : NR w' (.slice a8 (buildF I1).length c8) (buildF I1) := at0 hS (by kernel_rfl)
              have hc := rSame23_any _ _ (I1.length : Int) (I1.length : Int) (buildF I1) (buildF I1) w' (HNA.out.below hB) hnr (by have := LZ1.out; omega) (by have := LZ1.out; omega) (fun x hx => by have := HZ1.out.2.2.2 x hx; omega) (fun x hx => by have := HZ1.out.2.2.2 x hx; omega)
              rw [decide_eq_true ⟨rfl, rfl⟩] at hc
              clear hS hnr
              go_simp
              exact calls_told hG hc
            go_simp; refine hK _ ?_; clear hK K; (repeat (first | (refine wpG_skip (by kernel_rfl) (fun K hK => ?_); go_big_quiet_skip; refine wpQuiet_nil (hK _ ?_); clear hK K) | (refine wpG_quiet (by rfl) (by rfl) (fun K hK => ?_); go_big_quiet_want; go_big_quiet_op; go_big_quiet_on; refine wpQuiet_nil (hK _ ?_); clear hK K)))
            refine wpG_nilYK ?_
            intro w12 hB12 hA12
            have t1 := Below.keeps hB12 s1
            have t2 := Below.keeps hB12 s2
            have t3 := Below.keeps hB12 s3
            have t4 := Below.keeps hB12 s4
            have t5 := Below.keeps hB12 g21
            have t6 := Below.keeps hB12 g22
            have HBC3 := Lib.hid (bt HBC2.out hB12)
            have HNA' := Lib.hid (HNA.out.below hB12)
            have HNB' := Lib.hid (HNV2.out.below hB12)
            obtain ⟨F, hF⟩ : ∃ F, F = freshF (buildF I1) (buildF I2) (buildF I2).length := ⟨_, rfl⟩
            have HF := Lib.hid hF
            have hfl : F.length ≤ 120 := by rw [hF]; exact Nat.le_trans (freshF_le _ _ _) LZ2.out
            clear hB12 hA12 s1 s2 s3 s4 g21 g22 hF
            go_wp2
            refine region_known [(0, .exact _ (.agg #[.slice ab1 (buildF I1).length cb1, .int .i64 (I1.length : Int)])), (1, .exact _ (.agg #[.slice ab2 (buildF I2).length cb2, .int .i64 (I2.length : Int)])), (2, kRow23 recI F), (3, .exact _ (.agg #[.slice ab1 (buildF I1).length cb1, .int .i64 (I1.length : Int)])), (4, .exact _ (.agg #[.slice ab2 (buildF I2).length cb2, .int .i64 (I2.length : Int)])), (5, kRow23 recI F)] (by kernel_rfl) (by kernel_rfl) ?_
            (repeat (first | (refine wpG_skip (by kernel_rfl) (fun K hK => ?_); go_big_quiet_skip; refine wpQuiet_nil (hK _ ?_); clear hK K) | (refine wpG_quiet (by rfl) (by rfl) (fun K hK => ?_); go_big_quiet_want; go_big_quiet_op; go_big_quiet_on; refine wpQuiet_nil (hK _ ?_); clear hK K)))
            refine wpG_exact rfl (by kernel_rfl) (fun w' G hB hS hG => ?_) (fun K hK => ?_)
            · have y1 := Below.keeps hB t3
              have y2 := Below.keeps hB t4
              go_simp; exact hG _ (Bel.refl _)
            go_simp; refine hK _ ?_; clear hK K; (repeat (first | (refine wpG_skip (by kernel_rfl) (fun K hK => ?_); go_big_quiet_skip; refine wpQuiet_nil (hK _ ?_); clear hK K) | (refine wpG_quiet (by rfl) (by rfl) (fun K hK => ?_); go_big_quiet_want; go_big_quiet_op; go_big_quiet_on; refine wpQuiet_nil (hK _ ?_); clear hK K)))
            refine wpG_exact rfl (by kernel_rfl) (fun w' G hB hS hG => ?_) (fun K hK => ?_)
            · have y1 := Below.keeps hB t5
              have y2 := Below.keeps hB t6
              go_simp; exact hG _ (Bel.refl _)
            go_simp; refine hK _ ?_; clear hK K; (repeat (first | (refine wpG_skip (by kernel_rfl) (fun K hK => ?_); go_big_quiet_skip; refine wpQuiet_nil (hK _ ?_); clear hK K) | (refine wpG_quiet (by rfl) (by rfl) (fun K hK => ?_); go_big_quiet_want; go_big_quiet_op; go_big_quiet_on; refine wpQuiet_nil (hK _ ?_); clear hK K)))
            refine wpG_known (kRow23 recI F) rfl (by kernel_rfl) (fun w' G hB hS hG => ?_) (fun x K hK => ?_)
            · have hc := Fresh23_any _ _ (I1.length : Int) (I2.length : Int) (buildF I1) (buildF I2) w' (HNA'.out.below hB) (HNB'.out.below hB) (by have := LZ1.out; omega) (by have := LZ2.out; omega) (fun x hx => by have := HZ1.out.2.2.1 x hx; omega) (fun x hx => by have := HZ2.out.2.2.1 x hx; omega)
              rw [← HF.out] at hc
              clear hS
              go_simp
              refine hc.mono ?_
              rintro e w'' ⟨⟨u, rfl, hown⟩, hB''⟩
              obtain ⟨a9, c9, rfl⟩ := owns_slice hown
              exact ⟨_, rfl, hG (a9, c9) w'' hB'' (fun φ h => by cases h; exact hown.row)⟩
            obtain ⟨af1, cf1⟩ := x
            go_simp; refine hK _ ?_; clear hK K; (repeat (first | (refine wpG_skip (by kernel_rfl) (fun K hK => ?_); go_big_quiet_skip; refine wpQuiet_nil (hK _ ?_); clear hK K) | (refine wpG_quiet (by rfl) (by rfl) (fun K hK => ?_); go_big_quiet_want; go_big_quiet_op; go_big_quiet_on; refine wpQuiet_nil (hK _ ?_); clear hK K)))
            refine wpG_exact rfl (by kernel_rfl) (fun w' G hB hS hG => ?_) (fun K hK => ?_)
            · have y1 := Below.keeps hB t3
              have y2 := Below.keeps hB t4
              clear hS
              go_simp; exact hG _ (Bel.refl _)
            go_simp; refine hK _ ?_; clear hK K; (repeat (first | (refine wpG_skip (by kernel_rfl) (fun K hK => ?_); go_big_quiet_skip; refine wpQuiet_nil (hK _ ?_); clear hK K) | (refine wpG_quiet (by rfl) (by rfl) (fun K hK => ?_); go_big_quiet_want; go_big_quiet_op; go_big_quiet_on; refine wpQuiet_nil (hK _ ?_); clear hK K)))
            refine wpG_exact rfl (by kernel_rfl) (fun w' G hB hS hG => ?_) (fun K hK => ?_)
            · have y1 := Below.keeps hB t5
              have y2 := Below.keeps hB t6
              clear hS
              go_simp; exact hG _ (Bel.refl _)
            go_simp; refine hK _ ?_; clear hK K; (repeat (first | (refine wpG_skip (by kernel_rfl) (fun K hK => ?_); go_big_quiet_skip; refine wpQuiet_nil (hK _ ?_); clear hK K) | (refine wpG_quiet (by rfl) (by rfl) (fun K hK => ?_); go_big_quiet_want; go_big_quiet_op; go_big_quiet_on; refine wpQuiet_nil (hK _ ?_); clear hK K)))
            refine wpG_known (kRow23 recI F) rfl (by kernel_rfl) (fun w' G hB hS hG => ?_) (fun x K hK => ?_)
            · have hc := rFresh_any _ _ (I1.length : Int) (I2.length : Int) (buildF I1) (buildF I2) w' (HNA'.out.below hB) (HNB'.out.below hB) (by have := LZ1.out; omega) (by have := LZ2.out; omega)
              rw [← HF.out] at hc
              clear hS
              go_simp
              refine hc.mono ?_
              rintro e w'' ⟨⟨u, rfl, hown⟩, hB''⟩
              obtain ⟨a9, c9, rfl⟩ := owns_slice hown
              exact ⟨_, rfl, hG (a9, c9) w'' hB'' (fun φ h => by cases h; exact hown.row)⟩
            obtain ⟨af2, cf2⟩ := x
            go_simp; refine hK _ ?_; clear hK K; (repeat (first | (refine wpG_skip (by kernel_rfl) (fun K hK => ?_); go_big_quiet_skip; refine wpQuiet_nil (hK _ ?_); clear hK K) | (refine wpG_quiet (by rfl) (by rfl) (fun K hK => ?_); go_big_quiet_want; go_big_quiet_op; go_big_quiet_on; refine wpQuiet_nil (hK _ ?_); clear hK K)))
            refine wpG_nilYK ?_
            intro w14 hB14 hA14
            have hf2 : recI.Row w14 (.slice af2 F.length cf2) F := all0 hA14
            have hf1 : recI.Row w14 (.slice af1 F.length cf1) F := all1 hA14
            have u1 := Below.keeps hB14 t1
            have u2 := Below.keeps hB14 t2
            have u3 := Below.keeps hB14 t3
            have u4 := Below.keeps hB14 t4
            have HF1 := Lib.hid hf1
            have HF2 := Lib.hid hf2
            have HBC4 := Lib.hid (bt HBC3.out hB14)
            have HNA4 := Lib.hid (HNA'.out.below hB14)
            have HR44 := Lib.hid ((HR4.out.below HB1.out).below HBC4.out)
            have fl : (F.length : Int) ≤ 120 := by omega
            clear hB14 hA14 hf1 hf2 t1 t2 t3 t4 t5 t6
            go_wp2
            go_loopw [21] (fun ti wr => ∃ m : Nat, ti = .int .i64 (m : Int) ∧ m ≤ F.length ∧ Hid (Below w14.heap.size w14 wr)) (fun ti _ => F.length - (intOf ti).toNat)
            case atStart => exact ⟨0, rfl, Nat.zero_le _, Below.refl _ _⟩
            case round =>
              obtain ⟨m, rfl, hm, HBM⟩ := hrel
              by_cases hmf : m < F.length
              · obtain ⟨_, _, hv1, _, hc1⟩ := recI_open (HF1.out.below HBM.out)
                injection hv1 with e1 _ e3
                subst e1 e3
                obtain ⟨b1, o1, rfl, d1⟩ := hc1 m hmf
                obtain ⟨_, _, hv2, _, hc2⟩ := recI_open (HF2.out.below HBM.out)
                injection hv2 with e1 _ e3
                subst e1 e3
                obtain ⟨b2, o2, rfl, d2⟩ := hc2 m hmf
                obtain ⟨z, hz⟩ : ∃ z, z = F[m] := ⟨_, rfl⟩
                rw [← hz] at d1 d2
                have j0 : (0 : Int) ≤ (m : Int) := by omega
                have j1 : (m : Int) < (F.length : Int) := by omega
                clear hz hc1 hc2
                go_wp2
                refine region_known [(3, .exact _ (.int .i64 z)), (7, .exact _ (.int .i64 z))] (by kernel_rfl) (by kernel_rfl) ?_
                (repeat (first | (refine wpG_skip (by kernel_rfl) (fun K hK => ?_); go_big_quiet_skip; refine wpQuiet_nil (hK _ ?_); clear hK K) | (refine wpG_quiet (by rfl) (by rfl) (fun K hK => ?_); go_big_quiet_want; go_big_quiet_op; go_big_quiet_on; refine wpQuiet_nil (hK _ ?_); clear hK K)))
                refine wpG_exact rfl (by kernel_rfl) (fun w' G hB hS hG => ?_) (fun K hK => ?_)
                · have c' := Below.keeps hB d1
                  go_simp; exact hG _ (Bel.refl _)
                go_simp; refine hK _ ?_; clear hK K; (repeat (first | (refine wpG_skip (by kernel_rfl) (fun K hK => ?_); go_big_quiet_skip; refine wpQuiet_nil (hK _ ?_); clear hK K) | (refine wpG_quiet (by rfl) (by rfl) (fun K hK => ?_); go_big_quiet_want; go_big_quiet_op; go_big_quiet_on; refine wpQuiet_nil (hK _ ?_); clear hK K)))
                refine wpG_exact rfl (by kernel_rfl) (fun w' G hB hS hG => ?_) (fun K hK => ?_)
                · have c' := Below.keeps hB d2
                  go_simp; exact hG _ (Bel.refl _)
                go_simp; refine hK _ ?_; clear hK K; (repeat (first | (refine wpG_skip (by kernel_rfl) (fun K hK => ?_); go_big_quiet_skip; refine wpQuiet_nil (hK _ ?_); clear hK K) | (refine wpG_quiet (by rfl) (by rfl) (fun K hK => ?_); go_big_quiet_want; go_big_quiet_op; go_big_quiet_on; refine wpQuiet_nil (hK _ ?_); clear hK K)))
                refine wpG_nilYK ?_
                intro w' hB hA
                have HB' := Lib.hid (bt HBM.out hB)
                clear hB hA d1 d2
                go_wp2
                go_roundw
                case rel => exact ⟨m + 1, by go_num, by omega, HB'.out⟩
                case measure => simp [intOf]; omega
              · obtain rfl : m = F.length := by omega
                have y1 := Below.keeps HBM.out u1
                have y2 := Below.keeps HBM.out u2
                have y3 := Below.keeps HBM.out u3
                have y4 := Below.keeps HBM.out u4
                go_wp2_with fail
                refine (told23_any _ n0 n t _ (HR44.out.below HBM.out) (by omega) (fun y hy => (HB4.out y hy).2) (fun y hy => (HB4.out y hy).1)).mono ?_
                rintro e w15 ⟨rfl, hB15⟩
                have y5 := Below.keeps hB15 y3
                have y6 := Below.keeps hB15 y4
                have HB15 := Lib.hid hB15
                clear hB15 y1 y2 y3 y4
                go_wp2_with fail
                refine (told23_any _ (I1.length : Int) n (buildF I1) _ ((HNA4.out.below HBM.out).below HB15.out) LZ1.out (fun y hy => by have := HZ1.out.2.2.2 y hy; omega) (fun y hy => by have := HZ1.out.2.2.1 y hy; omega)).mono ?_
                rintro e w16 ⟨rfl, hB16⟩
                have HB16 := Lib.hid hB16
                clear hB16
                go_wp2_with fail
                refine (alive23 _).mono ?_
                rintro e w17 ⟨rfl, hB17⟩
                go_wp2_with fail
                go_ret
                exact ⟨rfl, bt HB1.out (bt (bt (bt (bt HBC4.out HBM.out) HB15.out) HB16.out) hB17)⟩
end Go.Proofs.Ytahmacnmphjhgaa
namespace Go.Proofs.Ytahmacnmphjhgaa
open Go.ChangeShapes Go.WideShapes Go.ChangeAt Go.RowKit Oct
open Go.ChangeMaps (open_string shut_string)

theorem u64_nat {a : Int} (h : (Lit.int .u64 a).wf = true) : ∃ n : Nat, a = (n : Int) ∧ n < 18446744073709551616 := by
  have h2 : 0 ≤ a ∧ a < 18446744073709551616 := by
    have := bounds_u64 h; omega
  exact ⟨a.toNat, by omega, by omega⟩

section
variable {P : Program} {H : Type} {enc : TypeId × Value → H} {W : World} {base : Nat}
theorem open_str {t j : Nat} {v : Value} {d : DataW H} {ps : List MemPlace} {ts : List TypeId} {ds : List (DataW H)} (ht : P.underlying t = some .string) (hv : Value.okWide P W .any base t v)
    (h : DataW.Trod enc P W 0 (fun _ => true) true t v d ps) (hsz : (DataW.weightsEach P ts ds).all (· ≤ reachBytes) = true) (hj : ts[j]? = some t) (hd : ds[j]? = some d) :
    ∃ l : List UInt8, v = .string (bs l) ∧ l.length ≤ 140737488355328 := by
  obtain ⟨s, rfl, rfl, _, _⟩ := open_string ht hv h
  refine ⟨s.data.toList, by rw [bs_of], ?_⟩
  have := sized_string hsz hj hd
  have h2 := reachBytes_lt
  omega

theorem weights_strs (e : TypeId) : ∀ (ss : List ByteArray) (s : ByteArray), s ∈ ss → s.data.toList.length ∈ DataW.weightsAll (H := H) P e (strs ss)
  | [], _, h => by simp at h
  | x :: ss, s, h => by
    have hx : strs (H := H) (x :: ss) = DataW.lit (.string x.data.toList) :: strs ss := rfl
    rw [hx, DataW.weightsAll]
    rcases List.mem_cons.1 h with rfl | h
    · simp [DataW.weights]
    · exact List.mem_append.2 (.inr (weights_strs e ss s h))
theorem add_cell {w : World} {a : Addr} {i : Nat} {u : Value} (h : w.cell? (a.add i) = some u) : a.add i = ⟨a.block, a.off + i, none⟩ := by
  unfold Addr.add at h ⊢
  split
  · rename_i hi
    rw [if_pos hi] at h
    subst hi
    cases a with
    | mk b o sp =>
      cases sp with
      | none => rfl
      | some x => exfalso; revert h; simp only [World.cell?]; split <;> simp
  · rfl
theorem open_texts {t e j : Nat} {v : Value} {d : DataW H} {ps : List MemPlace} {ts : List TypeId} {ds : List (DataW H)} (ht : P.underlying t = some (.slice e)) (he : P.underlying e = some .string) (hc : P.cellsOf e = 1) (hby : P.bytesOf e = 16)
    (hv : Value.okWide P W .any base t v) (h : DataW.Trod enc P W 0 (fun _ => true) true t v d ps) (hsz : (DataW.weightsEach P ts ds).all (· ≤ reachBytes) = true) (hj : ts[j]? = some t) (hd : ds[j]? = some d) :
    ∃ r : List (List UInt8), Reads W v r.length (tcells r) ∧ r.length ≤ 140737488355328 ∧ ∀ l ∈ r, l.length ≤ 140737488355328 := by
  have h47 := reachBytes_lt
  obtain ⟨a0, len, cap, rfl⟩ := okWide_slice ht hv
  obtain ⟨fuel, hf⟩ := h
  rcases open_strings ht he hc hf with ⟨hcs, hx⟩ | ⟨a, len', cap', ss, hcs, _, hl, hm, hz, hx, hcell, hws⟩
  · simp [Value.cells] at hcs
    obtain ⟨rfl, rfl, rfl⟩ := hcs
    exact ⟨[], Reads.nil _, by simp, by simp⟩
  · simp [Value.cells] at hcs
    obtain ⟨rfl, rfl, rfl⟩ := hcs
    simp at hz
    simp only [Prod.mk.injEq] at hx
    have hd2 := hx.1
    subst hd2
    have s1 := sized_slice hsz hj hd ht
    rw [hby] at s1
    simp only [strs, List.length_map, List.length_take, List.length_drop] at s1
    have hlen : (ss.take len).length = len := by simp; omega
    refine ⟨(ss.take len).map fun s => s.data.toList, ?_, ?_, ?_⟩
    · refine ⟨some a, cap, by rw [List.length_map, hlen], by simp, fun i u hu => ?_⟩
      have hi : i < len := by
        rcases Nat.lt_or_ge i len with h | h
        · exact h
        · rw [List.getElem?_eq_none (by simp [tcells]; omega)] at hu; simp at hu
      have hcl := hcell i (by omega)
      have e1 := add_cell hcl
      have e2 : a = ⟨a.block, a.off, none⟩ := by
        have h0 := add_cell (hcell 0 (by omega))
        simpa [Addr.add] using h0
      rw [e1] at hcl
      refine ⟨a.block, a.off, by rw [← e2], ?_⟩
      rw [hcl, ← hu]
      have hss : i < ss.length := by omega
      simp [tcells, List.getElem?_take, hi, hss, bs_of, List.getD]
    · simp; omega
    · intro l hl
      obtain ⟨s, hs, rfl⟩ := List.mem_map.1 hl
      have hin : s.data.toList.length ∈ DataW.weightsEach P ts ds := by
        refine DataW.weights_mem_each hj hd _ ?_
        simp only [DataW.weights, ht]
        exact List.mem_cons.2 (.inr (List.mem_append.2 (.inl (weights_strs e _ s hs))))
      have := List.all_eq_true.1 hsz _ hin
      simp at this
      simp
      omega
end
end Go.Proofs.Ytahmacnmphjhgaa
