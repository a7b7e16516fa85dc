/- Lemmas for DeltaTells, part 3: walks of the functions that it reaches, and the plain laws behind them. -/
import Derived.Test.YtahmacnmphjhgaaDeltaTellsK2
set_option linter.unusedSimpArgs false
set_option linter.unusedVariables false
namespace Go.Proofs.Ytahmacnmphjhgaa
open Go.RowKit Oct

theorem wpG_nil {P : Program} {ops : Array Oper} {C : World → Prop} {R : World → World → Prop} {F : Nat → Option (Known R)} {Q : Facts → Act → Prop} {k : Nat} {S : Facts} {a : Act} (h : Q S a) : wpG P ops C R F Q k [] S a := h
attribute [local irreducible] wpG

/-- two rows, gone through by keys, side by side -/
def steps {α β : Type} (ka : α → List UInt8) (kb : β → List UInt8) : List α → List β → List (Option α × Option β)
  | [], [] => []
  | x :: a, [] => (some x, none) :: steps ka kb a []
  | [], y :: b => (none, some y) :: steps ka kb [] b
  | x :: a, y :: b => if lt (ka x) (kb y) then (some x, none) :: steps ka kb a (y :: b) else if lt (kb y) (ka x) then (none, some y) :: steps ka kb (x :: a) b else (some x, some y) :: steps ka kb a b
termination_by a b => a.length + b.length
/-- the turns of two rows -/
def ofF (a b : List PR) : List TR := (steps Prod.fst Prod.fst a b).flatMap fun s => turnOf s.1 s.2
theorem ofF_nil : ofF [] [] = [] := by rw [ofF, steps]; rfl
theorem ofF_left (x : PR) (a : List PR) : ofF (x :: a) [] = turnOf (some x) none ++ ofF a [] := by rw [ofF, steps, List.flatMap_cons]; rfl
theorem ofF_right (y : PR) (b : List PR) : ofF [] (y :: b) = turnOf none (some y) ++ ofF [] b := by rw [ofF, steps, List.flatMap_cons]; rfl
theorem ofF_lt (x y : PR) (a b : List PR) (h : lt x.1 y.1 = true) : ofF (x :: a) (y :: b) = turnOf (some x) none ++ ofF a (y :: b) := by rw [ofF, steps, if_pos h, List.flatMap_cons]; rfl
theorem ofF_gt (x y : PR) (a b : List PR) (h : lt x.1 y.1 = false) (h2 : lt y.1 x.1 = true) : ofF (x :: a) (y :: b) = turnOf none (some y) ++ ofF (x :: a) b := by rw [ofF, steps, if_neg (by rw [h]; simp), if_pos h2, List.flatMap_cons]; rfl
theorem ofF_eq (x y : PR) (a b : List PR) (h : lt x.1 y.1 = false) (h2 : lt y.1 x.1 = false) : ofF (x :: a) (y :: b) = turnOf (some x) (some y) ++ ofF a b := by rw [ofF, steps, if_neg (by rw [h]; simp), if_neg (by rw [h2]; simp), List.flatMap_cons]; rfl
theorem turnOf_le (o p : Option PR) : (turnOf o p).length ≤ 1 := by
  cases o <;> cases p <;> simp [turnOf]
  split <;> simp
theorem b56 {d na nb m : Nat} (h : d + na + nb ≤ m) (hm : (m + 1) * 56 ≤ 140737488355328) : (d + 1) * 56 ≤ 140737488355328 := by omega
theorem len_step {d t : List TR} {na nb na' nb' m : Nat} (h : d.length + na + nb ≤ m) (ht : t.length ≤ 1) (h2 : na' + nb' + 1 ≤ na + nb) : (d ++ t).length + na' + nb' ≤ m := by rw [List.length_append]; omega
theorem meas_eq (n m : Nat) : n + m < (n + 1) + (m + 1) := by omega
theorem nat_l (n : Nat) : n + 0 + 1 ≤ n + 1 + 0 := by omega
theorem nat_r (n : Nat) : 0 + n + 1 ≤ 0 + (n + 1) := by omega
theorem nat_lt (n m : Nat) : n + (m + 1) + 1 ≤ (n + 1) + (m + 1) := by omega
theorem nat_gt (n m : Nat) : (n + 1) + m + 1 ≤ (n + 1) + (m + 1) := by omega
theorem nat_eq (n m : Nat) : n + m + 1 ≤ (n + 1) + (m + 1) := by omega
theorem RP.uncons {w : World} {a : Option Addr} {m c : Nat} {x : PR} {r : List PR} (h : RP w (.slice a (m + 1) c) (x :: r)) (hm : m = r.length) :
    ∃ b off A C, a = some ⟨b, off, none⟩ ∧ w.cell? ⟨b, off, none⟩ = some (.string (bs x.1)) ∧ w.cell? ⟨b, off + 1, none⟩ = some (.string (bs x.2)) ∧
      (∀ wx, (Instr.slice 22 (.slice a (m + 1) c) (some (.int .i64 1)) none none).run Try.prog wx = .ok (.slice A m C) wx) ∧ RP w (.slice A m C) r := by
  subst hm
  have h' : RP w (.slice a (x :: r).length c) (x :: r) := h
  obtain ⟨A, C, hrun, hr⟩ := h'.cutRun 1 1 rfl (by simp)
  obtain ⟨a', c', hv, _, hc⟩ := h'.open
  injection hv with e1 _ _
  subst e1
  obtain ⟨b, off, ha, h1, h2⟩ := hc 0 (by simp)
  rw [Nat.zero_mul, Nat.add_zero] at h1 h2
  simp only [List.length_cons, Nat.add_sub_cancel, List.drop_succ_cons, List.drop_zero] at hrun hr
  exact ⟨b, off, A, C, ha, h1, h2, hrun, hr⟩

set_option maxRecDepth 100000 in
set_option maxHeartbeats 16000000 in
theorem bothOf_any (v1 v2 : Value) (a b : List PR) (w0 w : World) (hr1 : RP w0 v1 a) (hr2 : RP w0 v2 b) (hbox : BoxT w0.heap.size w []) (hB : Below w0.heap.size w0 w) (hl : (a.length + b.length + 1) * 56 ≤ 140737488355328) :
    Calls Try.prog 39 #[v1, v2, .func (.func 40) #[] #[], .func (.func 40) #[] #[], .func (.func 41) #[] #[.pointer (some ⟨w0.heap.size, 0, none⟩)]] w
      fun e w' => e = .returned (.tuple #[]) ∧ BoxT w0.heap.size w' (ofF a b) ∧ Below w0.heap.size w0 w' := by
  obtain ⟨a1, c1, rfl, _, _⟩ := hr1.open
  obtain ⟨a2, c2, rfl, _, _⟩ := hr2.open
  have HR1 := Lib.hid hr1
  have HR2 := Lib.hid hr2
  have HBX := Lib.hid hbox
  have HBW := Lib.hid hB
  have HLB := Lib.hid hl
  clear hr1 hr2 hbox hB hl
  go_enter Try.func39, Try.ntmps39
  go_wp2
  go_loopw [0, 1] (fun v0 v1 wr => ∃ ra rb done, ∃ n0 n1 : Nat, ∃ A0 C0 A1 C1, v0 = .slice A0 n0 C0 ∧ v1 = .slice A1 n1 C1 ∧ n0 = ra.length ∧ n1 = rb.length ∧ Hid (RP w0 (.slice A0 n0 C0) ra) ∧ Hid (RP w0 (.slice A1 n1 C1) rb) ∧ Hid (done ++ ofF ra rb = ofF a b) ∧ Hid (done.length + ra.length + rb.length ≤ a.length + b.length) ∧ Hid (BoxT w0.heap.size wr done) ∧ Hid (Below w0.heap.size w0 wr)) (fun v0 v1 _ => slen v0 + slen v1)
  case atStart => exact ⟨a, b, [], _, _, _, _, _, _, rfl, rfl, rfl, rfl, HR1.out, HR2.out, rfl, by simp [Hid], HBX.out, HBW.out⟩
  case round =>
    clear HR1 HR2 HBX HBW
    obtain ⟨ra, rb, done, n0, n1, A0, C0, A1, C1, rfl, rfl, hn0, hn1, HRA, HRB, HEQ0, HLEN, HBX, HBW⟩ := hrel
    obtain ⟨Wr, hWr⟩ : ∃ Wr, Wr = wr := ⟨_, rfl⟩
    subst hWr
    cases ra with
    | nil =>
      obtain rfl : n0 = 0 := hn0
      cases rb with
      | nil =>
        obtain rfl : n1 = 0 := hn1
        go_wp2
        refine bodyPost_end (results_none rfl _ _ _) rfl ?_
        have := HEQ0.out
        rw [ofF_nil, List.append_nil] at this
        exact ⟨rfl, by rw [← this]; exact HBX.out, HBW.out⟩
      | cons y r2 =>
        obtain ⟨m1, rfl⟩ : ∃ m, n1 = m + 1 := ⟨r2.length, by simpa using hn1⟩
        have HM1 := Lib.hid (show m1 = r2.length by simpa using hn1)
        clear hn1
        obtain ⟨b2, o2, A3, C3, rfl, cy1, cy2, ry, hry⟩ := RP.uncons HRB.out HM1.out
        have HY1 := Lib.hid (Below.keeps HBW.out cy1)
        have HY2 := Lib.hid (Below.keeps HBW.out cy2)
        have HR2 := Lib.hid hry
        clear cy1 cy2 hry
        have j0 : (0 : Int) < (m1 : Int) + 1 := by omega
        have j1 : (1 : Int) ≤ (m1 : Int) + 1 := by omega
        have j2 : (((m1 : Int) + 1) == 0) = false := by rw [beq_eq_false_iff_ne]; omega
        have HB2 := Lib.hid (b_refl Wr)
        go_wp2
        refine region_known [] (by kernel_rfl) (by kernel_rfl) ?_
        (repeat (first | (refine wpG_skip (by kernel_rfl) (fun K hK => ?_); go_big_quiet_skip; refine wpQuiet_nil (hK _ ?_); clear hK K) | (refine wpG_quiet (by rfl) (by rfl) (fun K hK => ?_); go_big_quiet_want; go_big_quiet_op; go_big_quiet_on; refine wpQuiet_nil (hK _ ?_); clear hK K)))
        refine wpG_nil ?_
        intro w3 hB3 hA3
        have HB3 := Lib.hid (bt HB2.out hB3)
        clear hB3 hA3
        have zy1 := Below.keeps HB3.out HY1.out
        have zy2 := Below.keeps HB3.out HY2.out
        have HC := Lib.hid (of1_right w0.heap.size _ _ y done _ zy1 zy2 (HBX.out.below HB3.out) (b56 HLEN.out HLB.out))
        clear zy1 zy2
        go_wp2_with fail
        refine HC.out.mono ?_
        rintro e w6 ⟨rfl, hbox6, hB6⟩
        have HBX6 := Lib.hid hbox6
        have HB6 := Lib.hid (HBW.out.trans ((HB3.out.mono HBW.out.size).trans hB6))
        clear hbox6 hB6 HC
        go_wp2
        have HEQ : (done ++ turnOf none (some y)) ++ ofF ([] : List PR) r2 = ofF a b := by
          have := HEQ0.out
          rw [ofF_right] at this
          rw [← this, List.append_assoc]
        have HLE : (done ++ turnOf none (some y)).length + ([] : List PR).length + r2.length ≤ a.length + b.length := len_step HLEN.out (turnOf_le none (some y)) (nat_r r2.length)
        have HREL := Lib.hid (And.intro HEQ HLE)
        clear HEQ HLE
        go_roundw
        case rel => exact ⟨([] : List PR), r2, done ++ turnOf none (some y), 0, m1, _, _, _, _, rfl, rfl, rfl, HM1.out, HRA.out, HR2.out, HREL.out.1, HREL.out.2, HBX6.out, HB6.out⟩
        case measure => simp [slen]
    | cons x r1 =>
      obtain ⟨m0, rfl⟩ : ∃ m, n0 = m + 1 := ⟨r1.length, by simpa using hn0⟩
      have HM0 := Lib.hid (show m0 = r1.length by simpa using hn0)
      obtain ⟨b1, o1, A2, C2, rfl, cx1, cx2, rx, hrx⟩ := RP.uncons HRA.out HM0.out
      have HX1 := Lib.hid (Below.keeps HBW.out cx1)
      have HX2 := Lib.hid (Below.keeps HBW.out cx2)
      have HR1 := Lib.hid hrx
      clear cx1 cx2 hrx
      have i0 : (0 : Int) < (m0 : Int) + 1 := by omega
      have i1 : (1 : Int) ≤ (m0 : Int) + 1 := by omega
      have i2 : (((m0 : Int) + 1) == 0) = false := by rw [beq_eq_false_iff_ne]; omega
      cases rb with
      | nil =>
        obtain rfl : n1 = 0 := hn1
        clear hn0
        have HB2 := Lib.hid (b_refl Wr)
        go_wp2
        refine region_known [] (by kernel_rfl) (by kernel_rfl) ?_
        (repeat (first | (refine wpG_skip (by kernel_rfl) (fun K hK => ?_); go_big_quiet_skip; refine wpQuiet_nil (hK _ ?_); clear hK K) | (refine wpG_quiet (by rfl) (by rfl) (fun K hK => ?_); go_big_quiet_want; go_big_quiet_op; go_big_quiet_on; refine wpQuiet_nil (hK _ ?_); clear hK K)))
        refine wpG_nil ?_
        intro w3 hB3 hA3
        have HB3 := Lib.hid (bt HB2.out hB3)
        clear hB3 hA3
        have zx1 := Below.keeps HB3.out HX1.out
        have zx2 := Below.keeps HB3.out HX2.out
        have HC := Lib.hid (of1_left w0.heap.size _ _ x done _ zx1 zx2 (HBX.out.below HB3.out) (b56 HLEN.out HLB.out))
        clear zx1 zx2
        go_wp2_with fail
        refine HC.out.mono ?_
        rintro e w6 ⟨rfl, hbox6, hB6⟩
        have HBX6 := Lib.hid hbox6
        have HB6 := Lib.hid (HBW.out.trans ((HB3.out.mono HBW.out.size).trans hB6))
        clear hbox6 hB6 HC
        go_wp2
        have HEQ : (done ++ turnOf (some x) none) ++ ofF r1 ([] : List PR) = ofF a b := by
          have := HEQ0.out
          rw [ofF_left] at this
          rw [← this, List.append_assoc]
        have HLE : (done ++ turnOf (some x) none).length + r1.length + ([] : List PR).length ≤ a.length + b.length := len_step HLEN.out (turnOf_le (some x) none) (nat_l r1.length)
        have HREL := Lib.hid (And.intro HEQ HLE)
        clear HEQ HLE
        go_roundw
        case rel => exact ⟨r1, ([] : List PR), done ++ turnOf (some x) none, m0, 0, _, _, _, _, rfl, rfl, HM0.out, rfl, HR1.out, HRB.out, HREL.out.1, HREL.out.2, HBX6.out, HB6.out⟩
        case measure => simp [slen]
      | cons y r2 =>
        obtain ⟨m1, rfl⟩ : ∃ m, n1 = m + 1 := ⟨r2.length, by simpa using hn1⟩
        have HM1 := Lib.hid (show m1 = r2.length by simpa using hn1)
        clear hn0 hn1
        obtain ⟨b2, o2, A3, C3, rfl, cy1, cy2, ry, hry⟩ := RP.uncons HRB.out HM1.out
        have HY1 := Lib.hid (Below.keeps HBW.out cy1)
        have HY2 := Lib.hid (Below.keeps HBW.out cy2)
        have HR2 := Lib.hid hry
        clear cy1 cy2 hry
        have j0 : (0 : Int) < (m1 : Int) + 1 := by omega
        have j1 : (1 : Int) ≤ (m1 : Int) + 1 := by omega
        have j2 : (((m1 : Int) + 1) == 0) = false := by rw [beq_eq_false_iff_ne]; omega
        cases hlt : lt x.1 y.1 with
        | true =>
          have HL1 := Lib.hid hlt
          clear hlt
          have hcf : cmpF x.1 y.1 = (-1) := by unfold cmpF; rw [HL1.out]; rfl
          have HCF := Lib.hid hcf
          clear hcf
          go_wp2
          refine region_known [(3, .exact Bel (.agg #[.string (bs x.1), .string (bs x.2)])), (4, .exact Bel (.string (bs x.1))), (8, .exact Bel (.agg #[.string (bs y.1), .string (bs y.2)])), (9, .exact Bel (.string (bs y.1))), (10, .exact Bel (.int .i64 (-1)))] (by kernel_rfl) (by kernel_rfl) ?_
          (repeat (first | (refine wpG_skip (by kernel_rfl) (fun K hK => ?_); go_big_quiet_skip; refine wpQuiet_nil (hK _ ?_); clear hK K) | (refine wpG_quiet (by rfl) (by rfl) (fun K hK => ?_); go_big_quiet_want; go_big_quiet_op; go_big_quiet_on; refine wpQuiet_nil (hK _ ?_); clear hK K)))
          refine wpG_exact rfl (by kernel_rfl) (fun w' G hB hS hG => ?_) (fun K hK => ?_)
          · have c1 := Below.keeps hB HX1.out
            have c2 := Below.keeps hB HX2.out
            go_simp
            exact hG _ (Bel.refl _)
          go_simp; refine hK _ ?_; clear hK K; (repeat (first | (refine wpG_skip (by kernel_rfl) (fun K hK => ?_); go_big_quiet_skip; refine wpQuiet_nil (hK _ ?_); clear hK K) | (refine wpG_quiet (by rfl) (by rfl) (fun K hK => ?_); go_big_quiet_want; go_big_quiet_op; go_big_quiet_on; refine wpQuiet_nil (hK _ ?_); clear hK K)))
          refine wpG_exact rfl (by kernel_rfl) (fun w' G hB hS hG => ?_) (fun K hK => ?_)
          · go_simp
            exact calls_told hG (key_any x w')
          go_simp; refine hK _ ?_; clear hK K; (repeat (first | (refine wpG_skip (by kernel_rfl) (fun K hK => ?_); go_big_quiet_skip; refine wpQuiet_nil (hK _ ?_); clear hK K) | (refine wpG_quiet (by rfl) (by rfl) (fun K hK => ?_); go_big_quiet_want; go_big_quiet_op; go_big_quiet_on; refine wpQuiet_nil (hK _ ?_); clear hK K)))
          refine wpG_exact rfl (by kernel_rfl) (fun w' G hB hS hG => ?_) (fun K hK => ?_)
          · have c1 := Below.keeps hB HY1.out
            have c2 := Below.keeps hB HY2.out
            go_simp
            exact hG _ (Bel.refl _)
          go_simp; refine hK _ ?_; clear hK K; (repeat (first | (refine wpG_skip (by kernel_rfl) (fun K hK => ?_); go_big_quiet_skip; refine wpQuiet_nil (hK _ ?_); clear hK K) | (refine wpG_quiet (by rfl) (by rfl) (fun K hK => ?_); go_big_quiet_want; go_big_quiet_op; go_big_quiet_on; refine wpQuiet_nil (hK _ ?_); clear hK K)))
          refine wpG_exact rfl (by kernel_rfl) (fun w' G hB hS hG => ?_) (fun K hK => ?_)
          · go_simp
            exact calls_told hG (key_any y w')
          go_simp; refine hK _ ?_; clear hK K; (repeat (first | (refine wpG_skip (by kernel_rfl) (fun K hK => ?_); go_big_quiet_skip; refine wpQuiet_nil (hK _ ?_); clear hK K) | (refine wpG_quiet (by rfl) (by rfl) (fun K hK => ?_); go_big_quiet_want; go_big_quiet_op; go_big_quiet_on; refine wpQuiet_nil (hK _ ?_); clear hK K)))
          refine wpG_exact rfl (by kernel_rfl) (fun w' G hB hS hG => ?_) (fun K hK => ?_)
          · go_simp
            exact (compare_any x.1 y.1 w').mono fun _ _ ⟨he, hw⟩ => ⟨_, by rw [he, HCF.out], hG _ (by rw [← hw]; exact Bel.refl _)⟩
          go_simp; refine hK _ ?_; clear hK K; (repeat (first | (refine wpG_skip (by kernel_rfl) (fun K hK => ?_); go_big_quiet_skip; refine wpQuiet_nil (hK _ ?_); clear hK K) | (refine wpG_quiet (by rfl) (by rfl) (fun K hK => ?_); go_big_quiet_want; go_big_quiet_op; go_big_quiet_on; refine wpQuiet_nil (hK _ ?_); clear hK K)))
          refine wpG_nil ?_
          intro w2 hB2 hA2
          have HB2 := Lib.hid hB2
          clear hB2 hA2
          go_wp2
          refine region_known [] (by kernel_rfl) (by kernel_rfl) ?_
          (repeat (first | (refine wpG_skip (by kernel_rfl) (fun K hK => ?_); go_big_quiet_skip; refine wpQuiet_nil (hK _ ?_); clear hK K) | (refine wpG_quiet (by rfl) (by rfl) (fun K hK => ?_); go_big_quiet_want; go_big_quiet_op; go_big_quiet_on; refine wpQuiet_nil (hK _ ?_); clear hK K)))
          refine wpG_nil ?_
          intro w3 hB3 hA3
          have HB3 := Lib.hid (bt HB2.out hB3)
          clear hB3 hA3
          have zx1 := Below.keeps HB3.out HX1.out
          have zx2 := Below.keeps HB3.out HX2.out
          have HC := Lib.hid (of1_left w0.heap.size _ _ x done _ zx1 zx2 (HBX.out.below HB3.out) (b56 HLEN.out HLB.out))
          clear zx1 zx2
          go_wp2_with fail
          refine HC.out.mono ?_
          rintro e w6 ⟨rfl, hbox6, hB6⟩
          have HBX6 := Lib.hid hbox6
          have HB6 := Lib.hid (HBW.out.trans ((HB3.out.mono HBW.out.size).trans hB6))
          clear hbox6 hB6 HC
          go_wp2
          have HEQ : (done ++ turnOf (some x) none) ++ ofF r1 (y :: r2) = ofF a b := by
            have := HEQ0.out
            rw [ofF_lt _ _ _ _ HL1.out] at this
            rw [← this, List.append_assoc]
          have HLE : (done ++ turnOf (some x) none).length + r1.length + (y :: r2).length ≤ a.length + b.length := len_step HLEN.out (turnOf_le (some x) none) (nat_lt r1.length r2.length)
          have HREL := Lib.hid (And.intro HEQ HLE)
          clear HEQ HLE
          go_roundw
          case rel => exact ⟨r1, (y :: r2), done ++ turnOf (some x) none, m0, (m1 + 1), _, _, _, _, rfl, rfl, HM0.out, (by rw [List.length_cons, ← HM1.out]), HR1.out, HRB.out, HREL.out.1, HREL.out.2, HBX6.out, HB6.out⟩
          case measure => simp [slen]
        | false =>
          have HL1 := Lib.hid hlt
          clear hlt
          cases hgt : lt y.1 x.1 with
          | true =>
            have HL2 := Lib.hid hgt
            clear hgt
            have hcf : cmpF x.1 y.1 = 1 := by unfold cmpF; rw [HL1.out, HL2.out]; rfl
            have HCF := Lib.hid hcf
            clear hcf
            go_wp2
            refine region_known [(3, .exact Bel (.agg #[.string (bs x.1), .string (bs x.2)])), (4, .exact Bel (.string (bs x.1))), (8, .exact Bel (.agg #[.string (bs y.1), .string (bs y.2)])), (9, .exact Bel (.string (bs y.1))), (10, .exact Bel (.int .i64 1))] (by kernel_rfl) (by kernel_rfl) ?_
            (repeat (first | (refine wpG_skip (by kernel_rfl) (fun K hK => ?_); go_big_quiet_skip; refine wpQuiet_nil (hK _ ?_); clear hK K) | (refine wpG_quiet (by rfl) (by rfl) (fun K hK => ?_); go_big_quiet_want; go_big_quiet_op; go_big_quiet_on; refine wpQuiet_nil (hK _ ?_); clear hK K)))
            refine wpG_exact rfl (by kernel_rfl) (fun w' G hB hS hG => ?_) (fun K hK => ?_)
            · have c1 := Below.keeps hB HX1.out
              have c2 := Below.keeps hB HX2.out
              go_simp
              exact hG _ (Bel.refl _)
            go_simp; refine hK _ ?_; clear hK K; (repeat (first | (refine wpG_skip (by kernel_rfl) (fun K hK => ?_); go_big_quiet_skip; refine wpQuiet_nil (hK _ ?_); clear hK K) | (refine wpG_quiet (by rfl) (by rfl) (fun K hK => ?_); go_big_quiet_want; go_big_quiet_op; go_big_quiet_on; refine wpQuiet_nil (hK _ ?_); clear hK K)))
            refine wpG_exact rfl (by kernel_rfl) (fun w' G hB hS hG => ?_) (fun K hK => ?_)
            · go_simp
              exact calls_told hG (key_any x w')
            go_simp; refine hK _ ?_; clear hK K; (repeat (first | (refine wpG_skip (by kernel_rfl) (fun K hK => ?_); go_big_quiet_skip; refine wpQuiet_nil (hK _ ?_); clear hK K) | (refine wpG_quiet (by rfl) (by rfl) (fun K hK => ?_); go_big_quiet_want; go_big_quiet_op; go_big_quiet_on; refine wpQuiet_nil (hK _ ?_); clear hK K)))
            refine wpG_exact rfl (by kernel_rfl) (fun w' G hB hS hG => ?_) (fun K hK => ?_)
            · have c1 := Below.keeps hB HY1.out
              have c2 := Below.keeps hB HY2.out
              go_simp
              exact hG _ (Bel.refl _)
            go_simp; refine hK _ ?_; clear hK K; (repeat (first | (refine wpG_skip (by kernel_rfl) (fun K hK => ?_); go_big_quiet_skip; refine wpQuiet_nil (hK _ ?_); clear hK K) | (refine wpG_quiet (by rfl) (by rfl) (fun K hK => ?_); go_big_quiet_want; go_big_quiet_op; go_big_quiet_on; refine wpQuiet_nil (hK _ ?_); clear hK K)))
            refine wpG_exact rfl (by kernel_rfl) (fun w' G hB hS hG => ?_) (fun K hK => ?_)
            · go_simp
              exact calls_told hG (key_any y w')
            go_simp; refine hK _ ?_; clear hK K; (repeat (first | (refine wpG_skip (by kernel_rfl) (fun K hK => ?_); go_big_quiet_skip; refine wpQuiet_nil (hK _ ?_); clear hK K) | (refine wpG_quiet (by rfl) (by rfl) (fun K hK => ?_); go_big_quiet_want; go_big_quiet_op; go_big_quiet_on; refine wpQuiet_nil (hK _ ?_); clear hK K)))
            refine wpG_exact rfl (by kernel_rfl) (fun w' G hB hS hG => ?_) (fun K hK => ?_)
            · go_simp
              exact (compare_any x.1 y.1 w').mono fun _ _ ⟨he, hw⟩ => ⟨_, by rw [he, HCF.out], hG _ (by rw [← hw]; exact Bel.refl _)⟩
            go_simp; refine hK _ ?_; clear hK K; (repeat (first | (refine wpG_skip (by kernel_rfl) (fun K hK => ?_); go_big_quiet_skip; refine wpQuiet_nil (hK _ ?_); clear hK K) | (refine wpG_quiet (by rfl) (by rfl) (fun K hK => ?_); go_big_quiet_want; go_big_quiet_op; go_big_quiet_on; refine wpQuiet_nil (hK _ ?_); clear hK K)))
            refine wpG_nil ?_
            intro w2 hB2 hA2
            have HB2 := Lib.hid hB2
            clear hB2 hA2
            go_wp2
            refine region_known [] (by kernel_rfl) (by kernel_rfl) ?_
            (repeat (first | (refine wpG_skip (by kernel_rfl) (fun K hK => ?_); go_big_quiet_skip; refine wpQuiet_nil (hK _ ?_); clear hK K) | (refine wpG_quiet (by rfl) (by rfl) (fun K hK => ?_); go_big_quiet_want; go_big_quiet_op; go_big_quiet_on; refine wpQuiet_nil (hK _ ?_); clear hK K)))
            refine wpG_nil ?_
            intro w3 hB3 hA3
            have HB3 := Lib.hid (bt HB2.out hB3)
            clear hB3 hA3
            have zy1 := Below.keeps HB3.out HY1.out
            have zy2 := Below.keeps HB3.out HY2.out
            have HC := Lib.hid (of1_right w0.heap.size _ _ y done _ zy1 zy2 (HBX.out.below HB3.out) (b56 HLEN.out HLB.out))
            clear zy1 zy2
            go_wp2_with fail
            refine HC.out.mono ?_
            rintro e w6 ⟨rfl, hbox6, hB6⟩
            have HBX6 := Lib.hid hbox6
            have HB6 := Lib.hid (HBW.out.trans ((HB3.out.mono HBW.out.size).trans hB6))
            clear hbox6 hB6 HC
            go_wp2
            have HEQ : (done ++ turnOf none (some y)) ++ ofF (x :: r1) r2 = ofF a b := by
              have := HEQ0.out
              rw [ofF_gt _ _ _ _ HL1.out HL2.out] at this
              rw [← this, List.append_assoc]
            have HLE : (done ++ turnOf none (some y)).length + (x :: r1).length + r2.length ≤ a.length + b.length := len_step HLEN.out (turnOf_le none (some y)) (nat_gt r1.length r2.length)
            have HREL := Lib.hid (And.intro HEQ HLE)
            clear HEQ HLE
            go_roundw
            case rel => exact ⟨(x :: r1), r2, done ++ turnOf none (some y), (m0 + 1), m1, _, _, _, _, rfl, rfl, (by rw [List.length_cons, ← HM0.out]), HM1.out, HRA.out, HR2.out, HREL.out.1, HREL.out.2, HBX6.out, HB6.out⟩
            case measure => simp [slen]
          | false =>
            have HL2 := Lib.hid hgt
            clear hgt
            have hcf : cmpF x.1 y.1 = 0 := by unfold cmpF; rw [HL1.out, HL2.out]; rfl
            have HCF := Lib.hid hcf
            clear hcf
            go_wp2
            refine region_known [(3, .exact Bel (.agg #[.string (bs x.1), .string (bs x.2)])), (4, .exact Bel (.string (bs x.1))), (8, .exact Bel (.agg #[.string (bs y.1), .string (bs y.2)])), (9, .exact Bel (.string (bs y.1))), (10, .exact Bel (.int .i64 0))] (by kernel_rfl) (by kernel_rfl) ?_
            (repeat (first | (refine wpG_skip (by kernel_rfl) (fun K hK => ?_); go_big_quiet_skip; refine wpQuiet_nil (hK _ ?_); clear hK K) | (refine wpG_quiet (by rfl) (by rfl) (fun K hK => ?_); go_big_quiet_want; go_big_quiet_op; go_big_quiet_on; refine wpQuiet_nil (hK _ ?_); clear hK K)))
            refine wpG_exact rfl (by kernel_rfl) (fun w' G hB hS hG => ?_) (fun K hK => ?_)
            · have c1 := Below.keeps hB HX1.out
              have c2 := Below.keeps hB HX2.out
              go_simp
              exact hG _ (Bel.refl _)
            go_simp; refine hK _ ?_; clear hK K; (repeat (first | (refine wpG_skip (by kernel_rfl) (fun K hK => ?_); go_big_quiet_skip; refine wpQuiet_nil (hK _ ?_); clear hK K) | (refine wpG_quiet (by rfl) (by rfl) (fun K hK => ?_); go_big_quiet_want; go_big_quiet_op; go_big_quiet_on; refine wpQuiet_nil (hK _ ?_); clear hK K)))
            refine wpG_exact rfl (by kernel_rfl) (fun w' G hB hS hG => ?_) (fun K hK => ?_)
            · go_simp
              exact calls_told hG (key_any x w')
            go_simp; refine hK _ ?_; clear hK K; (repeat (first | (refine wpG_skip (by kernel_rfl) (fun K hK => ?_); go_big_quiet_skip; refine wpQuiet_nil (hK _ ?_); clear hK K) | (refine wpG_quiet (by rfl) (by rfl) (fun K hK => ?_); go_big_quiet_want; go_big_quiet_op; go_big_quiet_on; refine wpQuiet_nil (hK _ ?_); clear hK K)))
            refine wpG_exact rfl (by kernel_rfl) (fun w' G hB hS hG => ?_) (fun K hK => ?_)
            · have c1 := Below.keeps hB HY1.out
              have c2 := Below.keeps hB HY2.out
              go_simp
              exact hG _ (Bel.refl _)
            go_simp; refine hK _ ?_; clear hK K; (repeat (first | (refine wpG_skip (by kernel_rfl) (fun K hK => ?_); go_big_quiet_skip; refine wpQuiet_nil (hK _ ?_); clear hK K) | (refine wpG_quiet (by rfl) (by rfl) (fun K hK => ?_); go_big_quiet_want; go_big_quiet_op; go_big_quiet_on; refine wpQuiet_nil (hK _ ?_); clear hK K)))
            refine wpG_exact rfl (by kernel_rfl) (fun w' G hB hS hG => ?_) (fun K hK => ?_)
            · go_simp
              exact calls_told hG (key_any y w')
            go_simp; refine hK _ ?_; clear hK K; (repeat (first | (refine wpG_skip (by kernel_rfl) (fun K hK => ?_); go_big_quiet_skip; refine wpQuiet_nil (hK _ ?_); clear hK K) | (refine wpG_quiet (by rfl) (by rfl) (fun K hK => ?_); go_big_quiet_want; go_big_quiet_op; go_big_quiet_on; refine wpQuiet_nil (hK _ ?_); clear hK K)))
            refine wpG_exact rfl (by kernel_rfl) (fun w' G hB hS hG => ?_) (fun K hK => ?_)
            · go_simp
              exact (compare_any x.1 y.1 w').mono fun _ _ ⟨he, hw⟩ => ⟨_, by rw [he, HCF.out], hG _ (by rw [← hw]; exact Bel.refl _)⟩
            go_simp; refine hK _ ?_; clear hK K; (repeat (first | (refine wpG_skip (by kernel_rfl) (fun K hK => ?_); go_big_quiet_skip; refine wpQuiet_nil (hK _ ?_); clear hK K) | (refine wpG_quiet (by rfl) (by rfl) (fun K hK => ?_); go_big_quiet_want; go_big_quiet_op; go_big_quiet_on; refine wpQuiet_nil (hK _ ?_); clear hK K)))
            refine wpG_nil ?_
            intro w2 hB2 hA2
            have HB2 := Lib.hid hB2
            clear hB2 hA2
            go_wp2
            refine region_known [] (by kernel_rfl) (by kernel_rfl) ?_
            (repeat (first | (refine wpG_skip (by kernel_rfl) (fun K hK => ?_); go_big_quiet_skip; refine wpQuiet_nil (hK _ ?_); clear hK K) | (refine wpG_quiet (by rfl) (by rfl) (fun K hK => ?_); go_big_quiet_want; go_big_quiet_op; go_big_quiet_on; refine wpQuiet_nil (hK _ ?_); clear hK K)))
            refine wpG_nil ?_
            intro w3 hB3 hA3
            have HB3 := Lib.hid (bt HB2.out hB3)
            clear hB3 hA3
            go_wp2
            refine region_known [] (by kernel_rfl) (by kernel_rfl) ?_
            (repeat (first | (refine wpG_skip (by kernel_rfl) (fun K hK => ?_); go_big_quiet_skip; refine wpQuiet_nil (hK _ ?_); clear hK K) | (refine wpG_quiet (by rfl) (by rfl) (fun K hK => ?_); go_big_quiet_want; go_big_quiet_op; go_big_quiet_on; refine wpQuiet_nil (hK _ ?_); clear hK K)))
            refine wpG_nil ?_
            intro w4 hB4 hA4
            have HB4 := Lib.hid (bt HB3.out hB4)
            clear hB4 hA4
            have zx1 := Below.keeps HB4.out HX1.out
            have zx2 := Below.keeps HB4.out HX2.out
            have zy1 := Below.keeps HB4.out HY1.out
            have zy2 := Below.keeps HB4.out HY2.out
            have HC := Lib.hid (of1_both w0.heap.size _ _ _ _ x y done _ zx1 zx2 zy1 zy2 (HBX.out.below HB4.out) (b56 HLEN.out HLB.out))
            clear zx1 zx2 zy1 zy2
            go_wp2_with fail
            refine HC.out.mono ?_
            rintro e w6 ⟨rfl, hbox6, hB6⟩
            have HBX6 := Lib.hid hbox6
            have HB6 := Lib.hid (HBW.out.trans ((HB4.out.mono HBW.out.size).trans hB6))
            clear hbox6 hB6 HC
            go_wp2
            have HEQ : (done ++ turnOf (some x) (some y)) ++ ofF r1 r2 = ofF a b := by
              have := HEQ0.out
              rw [ofF_eq _ _ _ _ HL1.out HL2.out] at this
              rw [← this, List.append_assoc]
            have HLE : (done ++ turnOf (some x) (some y)).length + r1.length + r2.length ≤ a.length + b.length := len_step HLEN.out (turnOf_le (some x) (some y)) (nat_eq r1.length r2.length)
            have HREL := Lib.hid (And.intro HEQ HLE)
            clear HEQ HLE
            go_roundw
            case rel => exact ⟨r1, r2, done ++ turnOf (some x) (some y), m0, m1, _, _, _, _, rfl, rfl, HM0.out, HM1.out, HR1.out, HR2.out, HREL.out.1, HREL.out.2, HBX6.out, HB6.out⟩
            case measure => exact meas_eq m0 m1
end Go.Proofs.Ytahmacnmphjhgaa
namespace Go.Proofs.Ytahmacnmphjhgaa
open Go.RowKit Oct

theorem results_cell_tmp {P : Program} {fn : Func} {p u : Tmp} {ty : TypeId} {tmps : Array Value} {w : World} {v : Value} {b : Nat} (hr : fn.results = #[.cell p ty, .tmp u]) (hp : tmps.getD p undef = .pointer (some ⟨b, 0, none⟩))
    (hl : (loadVar ty ⟨b, 0, none⟩).run P w = .ok v w) : (results fn tmps).run P w = .ok (.tuple #[v, tmps.getD u undef]) w := by
  simp only [Array.getD_eq_getD_getElem?] at hp ⊢
  simp [results, hr, Sem.run_bind, Result.andThen, hp, asAddr, hl]
theorem results_cell_cell {P : Program} {fn : Func} {p q : Tmp} {ty tq : TypeId} {tmps : Array Value} {w : World} {v u : Value} {b c : Nat} (hr : fn.results = #[.cell p ty, .cell q tq]) (hp : tmps.getD p undef = .pointer (some ⟨b, 0, none⟩))
    (hq : tmps.getD q undef = .pointer (some ⟨c, 0, none⟩)) (hl : (loadVar ty ⟨b, 0, none⟩).run P w = .ok v w) (hl2 : (loadVar tq ⟨c, 0, none⟩).run P w = .ok u w) : (results fn tmps).run P w = .ok (.tuple #[v, u]) w := by
  simp only [Array.getD_eq_getD_getElem?] at hp hq ⊢
  simp [results, hr, Sem.run_bind, Result.andThen, hp, hq, asAddr, hl, hl2]
theorem load_turns {w : World} {b : Nat} {v : Value} (h : w.cell? ⟨b, 0, none⟩ = some v) : (loadVar 23 ⟨b, 0, none⟩).run Try.prog w = .ok v w := by simp [go_sem, h]
theorem load_pairs {w : World} {b : Nat} {v : Value} (h : w.cell? ⟨b, 0, none⟩ = some v) : (loadVar 22 ⟨b, 0, none⟩).run Try.prog w = .ok v w := by simp [go_sem, h]
theorem load_errno {w : World} {b : Nat} {v : Value} (h : w.cell? ⟨b, 0, none⟩ = some v) : (loadVar 28 ⟨b, 0, none⟩).run Try.prog w = .ok v w := by simp [go_sem, h]

/-- what delta.Of gives -/
def OfRes (a b : List PR) (n : Nat) (e : Ending) (w : World) : Prop :=
  match once a && once b with
  | false => e = .returned (.tuple #[.slice none 0 0, .int .i64 2])
  | true => ∃ v, e = .returned (.tuple #[v, .int .i64 0]) ∧ recT.Own w n v (ofF a b)
theorem OfRes.bad {a b : List PR} {n : Nat} {e : Ending} {w : World} (h : OfRes a b n e w) (hh : (once a && once b) = false) : e = .returned (.tuple #[.slice none 0 0, .int .i64 2]) := by
  unfold OfRes at h; rw [hh] at h; exact h
theorem OfRes.good {a b : List PR} {n : Nat} {e : Ending} {w : World} (h : OfRes a b n e w) (hh : (once a && once b) = true) : ∃ v, e = .returned (.tuple #[v, .int .i64 0]) ∧ recT.Own w n v (ofF a b) := by
  unfold OfRes at h; rw [hh] at h; exact h

theorem BoxT.set0 {p : Nat} {w : World} {l : List TR} (h : BoxT p w l) (u : Value) : (w.setCell ⟨p, 0, none⟩ u).cell? ⟨p, 0, none⟩ = some u := by
  obtain ⟨v, hh, _⟩ := h
  exact cell_of_one (one_setCell (v := v) hh)
set_option maxRecDepth 100000 in
set_option maxHeartbeats 4000000 in
theorem Of_any (v1 v2 : Value) (a b : List PR) (w : World) (hr1 : RP w v1 a) (hr2 : RP w v2 b) (hl : (a.length + b.length + 1) * 56 ≤ 140737488355328) :
    Calls Try.prog 12 #[v1, v2] w fun e w' => OfRes a b w.heap.size e w' ∧ Below w.heap.size w w' := by
  obtain ⟨a1, c1, rfl, _, _⟩ := hr1.open
  obtain ⟨a2, c2, rfl, _, _⟩ := hr2.open
  have hla : a.length ≤ 140737488355328 := by omega
  have hlb : b.length ≤ 140737488355328 := by omega
  have HR1 := Lib.hid hr1
  have HR2 := Lib.hid hr2
  have HLB := Lib.hid hl
  have HLA := Lib.hid hla
  have HLB2 := Lib.hid hlb
  clear hr1 hr2 hl hla hlb
  have hmf : ∀ (fn : Fn) (first cap : Array Value) (w : World), (Instr.makeFunc fn first cap).run Try.prog w = .ok (.func fn first cap) w := fun _ _ _ _ => rfl
  obtain ⟨w1, hw1⟩ : ∃ w1, w1 = w.alloc (.cells #[.slice none 0 0] 23) := ⟨_, rfl⟩
  have hb1 : w1.heap[w.heap.size]? = some (.cells #[.slice none 0 0] 23 (0, 0)) := by rw [hw1]; exact World.alloc_heap_new w _
  have hB1 : Below w.heap.size w w1 := by rw [hw1]; exact b_alloc w _
  have HBX1 := Lib.hid (show BoxT w.heap.size w1 [] from ⟨_, hb1, World.ownsRow_nil _ _ _ _⟩)
  have HB1 := Lib.hid hB1
  clear hB1 hb1
  go_enter Try.func12, Try.ntmps12
  go_wp2_with fail
  rw [← hw1]
  clear hw1
  cases hoa : once a with
  | false =>
    have HOA := Lib.hid hoa
    clear hoa
    refine (once_any _ a w1 (HR1.out.below HB1.out) HLA.out).mono ?_
    rw [HOA.out]
    rintro e w2 ⟨rfl, hB2⟩
    have HB2 := Lib.hid (bt HB1.out hB2)
    have HBX2 := Lib.hid (HBX1.out.below hB2)
    clear hB2
    obtain ⟨av, cv, cc, ff, _, _⟩ := HBX2.out.open
    go_wp2
    refine bodyPost_ret (results_cell_tmp (v := .slice none 0 0) rfl rfl (load_turns (HBX2.out.set0 _))) rfl ?_
    refine ⟨?_, Below.setCell HB2.out (p := ⟨w.heap.size, 0, none⟩) (Nat.le_refl _) _⟩
    unfold OfRes
    rw [HOA.out, Bool.false_and]
    rfl
  | true =>
    have HOA := Lib.hid hoa
    clear hoa
    refine (once_any _ a w1 (HR1.out.below HB1.out) HLA.out).mono ?_
    rw [HOA.out]
    rintro e w2 ⟨rfl, hB2⟩
    have HB2 := Lib.hid (bt HB1.out hB2)
    have HBX2 := Lib.hid (HBX1.out.below hB2)
    clear hB2
    go_wp2_with fail
    cases hob : once b with
    | false =>
      have HOB := Lib.hid hob
      clear hob
      refine (once_any _ b w2 (HR2.out.below HB2.out) HLB2.out).mono ?_
      rw [HOB.out]
      rintro e w3 ⟨rfl, hB3⟩
      have HB3 := Lib.hid (bt HB2.out hB3)
      have HBX3 := Lib.hid (HBX2.out.below hB3)
      clear hB3
      obtain ⟨av, cv, cc, ff, _, _⟩ := HBX3.out.open
      go_wp2
      refine bodyPost_ret (results_cell_tmp (v := .slice none 0 0) rfl rfl (load_turns (HBX3.out.set0 _))) rfl ?_
      refine ⟨?_, Below.setCell HB3.out (p := ⟨w.heap.size, 0, none⟩) (Nat.le_refl _) _⟩
      unfold OfRes
      rw [HOB.out, Bool.and_false]
      rfl
    | true =>
      have HOB := Lib.hid hob
      clear hob
      refine (once_any _ b w2 (HR2.out.below HB2.out) HLB2.out).mono ?_
      rw [HOB.out]
      rintro e w3 ⟨rfl, hB3⟩
      have HB3 := Lib.hid (bt HB2.out hB3)
      have HBX3 := Lib.hid (HBX2.out.below hB3)
      clear hB3
      go_wp2_with fail
      refine (bothOf_any _ _ a b w w3 HR1.out HR2.out HBX3.out HB3.out HLB.out).mono ?_
      rintro e w4 ⟨rfl, hbox4, hB4⟩
      have HB4 := Lib.hid hB4
      have HBX4 := Lib.hid hbox4
      clear hbox4 hB4
      obtain ⟨av, cv, cc, ff, hown, _⟩ := HBX4.out.open
      have HO := Lib.hid hown
      clear hown
      go_wp2
      refine bodyPost_ret (results_cell_tmp (v := .slice av (ofF a b).length cv) rfl rfl (load_turns (HBX4.out.set0 _))) rfl ?_
      refine ⟨?_, Below.setCell HB4.out (p := ⟨w.heap.size, 0, none⟩) (Nat.le_refl _) _⟩
      unfold OfRes
      rw [HOA.out, HOB.out]
      exact ⟨_, rfl, Rec.Own.mono (ownsRow_setCell_below HO.out (by simp) _) (Nat.le_succ _)⟩
end Go.Proofs.Ytahmacnmphjhgaa
namespace Go.Proofs.Ytahmacnmphjhgaa
open Go.RowKit Oct

/-- may a turn be of what is there? -/
def fitsF (o : Option PR) (t : TR) : Bool :=
  (match o with | none => ([] == t.was) && !t.had | some x => (x.2 == t.was) && t.had) && (t.had != t.has || t.was != t.now) && (t.has || t.now == [])

set_option maxRecDepth 100000 in
set_option maxHeartbeats 16000000 in
theorem fits_some (b off : Nat) (x : PR) (t : TR) (w : World) (h1 : w.cell? ⟨b, off, none⟩ = some (.string (bs x.1))) (h2 : w.cell? ⟨b, off + 1, none⟩ = some (.string (bs x.2))) :
    Calls Try.prog 48 #[.pointer (some ⟨b, off, none⟩), .agg #[.string (bs t.key), .string (bs t.was), .string (bs t.now), .bool t.had, .bool t.has]] w fun e w' => e = .returned (.bool (fitsF (some x) t)) ∧ Below w.heap.size w w' := by
  have hb := lt_of_cell h1
  obtain ⟨key, was, now, had, has⟩ := t
  cases hw : (x.2 == was) with
  | false =>
    have HF := Lib.hid (show fitsF (some x) ⟨key, was, now, had, has⟩ = false by unfold fitsF; simp only [hw, Bool.false_and])
    go_enter Try.func48, Try.ntmps48
    go_wp2
    go_ret
    exact ⟨by rw [HF.out]; rfl, bt (b_alloc _ _) (b_alloc _ _)⟩
  | true =>
    cases had with
    | false =>
      have HF := Lib.hid (show fitsF (some x) ⟨key, was, now, false, has⟩ = false by unfold fitsF; simp only [hw, Bool.true_and, Bool.not_true, Bool.false_and])
      go_enter Try.func48, Try.ntmps48
      go_wp2
      go_ret
      exact ⟨by rw [HF.out]; rfl, bt (b_alloc _ _) (b_alloc _ _)⟩
    | true =>
      cases has with
      | false =>
        cases hn : (now == []) with
        | false =>
          have HF := Lib.hid (show fitsF (some x) ⟨key, was, now, true, false⟩ = false by unfold fitsF; simp [hw, hn])
          go_enter Try.func48, Try.ntmps48
          go_wp2
          go_ret
          exact ⟨by rw [HF.out]; rfl, bt (b_alloc _ _) (b_alloc _ _)⟩
        | true =>
          have HF := Lib.hid (show fitsF (some x) ⟨key, was, now, true, false⟩ = true by unfold fitsF; simp [hw, hn])
          go_enter Try.func48, Try.ntmps48
          go_wp2
          go_ret
          exact ⟨by rw [HF.out]; rfl, bt (b_alloc _ _) (b_alloc _ _)⟩
      | true =>
        cases hwn : (was == now) with
        | true =>
          have HF := Lib.hid (show fitsF (some x) ⟨key, was, now, true, true⟩ = false by unfold fitsF; simp [hw, bne, hwn])
          go_enter Try.func48, Try.ntmps48
          go_wp2
          go_ret
          exact ⟨by rw [HF.out]; rfl, bt (b_alloc _ _) (b_alloc _ _)⟩
        | false =>
          have HF := Lib.hid (show fitsF (some x) ⟨key, was, now, true, true⟩ = true by unfold fitsF; simp [hw, bne, hwn])
          go_enter Try.func48, Try.ntmps48
          go_wp2
          go_ret
          exact ⟨by rw [HF.out]; rfl, bt (b_alloc _ _) (b_alloc _ _)⟩
set_option maxRecDepth 100000 in
set_option maxHeartbeats 16000000 in
theorem fits_none (t : TR) (w : World) :
    Calls Try.prog 48 #[.pointer none, .agg #[.string (bs t.key), .string (bs t.was), .string (bs t.now), .bool t.had, .bool t.has]] w fun e w' => e = .returned (.bool (fitsF none t)) ∧ Below w.heap.size w w' := by
  obtain ⟨key, was, now, had, has⟩ := t
  cases hw : ([] == was) with
  | false =>
    have HF := Lib.hid (show fitsF none ⟨key, was, now, had, has⟩ = false by unfold fitsF; simp only [hw, Bool.false_and])
    go_enter Try.func48, Try.ntmps48
    go_wp2
    go_ret
    exact ⟨by rw [HF.out]; rfl, bt (b_alloc _ _) (b_alloc _ _)⟩
  | true =>
    cases had with
    | true =>
      have HF := Lib.hid (show fitsF none ⟨key, was, now, true, has⟩ = false by unfold fitsF; simp only [hw, Bool.true_and, Bool.not_true, Bool.false_and])
      go_enter Try.func48, Try.ntmps48
      go_wp2
      go_ret
      exact ⟨by rw [HF.out]; rfl, bt (b_alloc _ _) (b_alloc _ _)⟩
    | false =>
      cases has with
      | false =>
        cases hwn : (was == now) with
        | true =>
          have HF := Lib.hid (show fitsF none ⟨key, was, now, false, false⟩ = false by unfold fitsF; simp [hw, bne, hwn])
          go_enter Try.func48, Try.ntmps48
          go_wp2
          go_ret
          exact ⟨by rw [HF.out]; rfl, bt (b_alloc _ _) (b_alloc _ _)⟩
        | false =>
          cases hn : (now == []) with
          | false =>
            have HF := Lib.hid (show fitsF none ⟨key, was, now, false, false⟩ = false by unfold fitsF; simp [hw, hn, bne, hwn])
            go_enter Try.func48, Try.ntmps48
            go_wp2
            go_ret
            exact ⟨by rw [HF.out]; rfl, bt (b_alloc _ _) (b_alloc _ _)⟩
          | true =>
            have HF := Lib.hid (show fitsF none ⟨key, was, now, false, false⟩ = true by unfold fitsF; simp [hw, hn, bne, hwn])
            go_enter Try.func48, Try.ntmps48
            go_wp2
            go_ret
            exact ⟨by rw [HF.out]; rfl, bt (b_alloc _ _) (b_alloc _ _)⟩
      | true =>
        have HF := Lib.hid (show fitsF none ⟨key, was, now, false, true⟩ = true by unfold fitsF; simp [hw])
        go_enter Try.func48, Try.ntmps48
        go_wp2
        go_ret
        exact ⟨by rw [HF.out]; rfl, bt (b_alloc _ _) (b_alloc _ _)⟩
end Go.Proofs.Ytahmacnmphjhgaa
namespace Go.Proofs.Ytahmacnmphjhgaa
open Go.RowKit Oct

theorem fits_any (v : Value) (o : Option PR) (t : TR) (w : World) (h : PtrP w v o) :
    Calls Try.prog 48 #[v, .agg #[.string (bs t.key), .string (bs t.was), .string (bs t.now), .bool t.had, .bool t.has]] w fun e w' => e = .returned (.bool (fitsF o t)) ∧ Below w.heap.size w w' := by
  cases o with
  | none => obtain rfl := h; exact fits_none t w
  | some x => obtain ⟨b, off, rfl, h1, h2⟩ := h; exact fits_some b off x t w h1 h2
theorem PtrP.below {w w' : World} {v : Value} {o : Option PR} (h : PtrP w v o) (hB : Below w.heap.size w w') : PtrP w' v o := by
  cases o with
  | none => exact h
  | some x => obtain ⟨b, off, hv, h1, h2⟩ := h; exact ⟨b, off, hv, Below.keeps hB h1, Below.keeps hB h2⟩
/-- v points to a turn that lies in memory -/
def PtrT (w : World) (v : Value) (t : TR) : Prop := ∃ b off, v = .pointer (some ⟨b, off, none⟩) ∧ w.cell? ⟨b, off, none⟩ = some (.string (bs t.key)) ∧ w.cell? ⟨b, off + 1, none⟩ = some (.string (bs t.was)) ∧
  w.cell? ⟨b, off + 2, none⟩ = some (.string (bs t.now)) ∧ w.cell? ⟨b, off + 3, none⟩ = some (.bool t.had) ∧ w.cell? ⟨b, off + 4, none⟩ = some (.bool t.has)
theorem PtrT.below {w w' : World} {v : Value} {t : TR} (h : PtrT w v t) (hB : Below w.heap.size w w') : PtrT w' v t := by
  obtain ⟨b, off, hv, h1, h2, h3, h4, h5⟩ := h
  exact ⟨b, off, hv, Below.keeps hB h1, Below.keeps hB h2, Below.keeps hB h3, Below.keeps hB h4, Below.keeps hB h5⟩

/-- one step of Apply: what is out, and whether something does not fit -/
def stepA (s : List PR × Bool) (o : Option PR × Option TR) : List PR × Bool :=
  match o.2 with
  | none => (s.1 ++ o.1.toList, s.2)
  | some t => if fitsF o.1 t then (if t.has then (s.1 ++ [(t.key, t.now)], s.2) else s) else (s.1, true)
def errOf (b : Bool) : Int := if b then 2 else 0
/-- the boxes: what is out, and the error -/
def BoxA (p : Nat) (w : World) (s : List PR × Bool) : Prop :=
  BoxRow p (p + 2) 22 71 2 w s.1.length (pcells s.1) ∧ w.heap[p + 1]? = some (.cells #[.int .i64 (errOf s.2)] 28 (0, 0))
theorem BoxA.below {p : Nat} {w w' : World} {s : List PR × Bool} (h : BoxA p w s) (hB : Below w.heap.size w w') : BoxA p w' s :=
  ⟨BoxRow.chg h.1 (Chg.of_below (X := fun _ => False) hB) (fun _ h => h.elim), (hB.block (p + 1) (by obtain ⟨hh, _⟩ := Array.getElem?_eq_some_iff.1 h.2; exact hh)).trans h.2⟩
theorem BoxA.open {p : Nat} {w : World} {s : List PR × Bool} (h : BoxA p w s) : ∃ a c, w.cell? ⟨p, 0, none⟩ = some (.slice a s.1.length c) ∧ w.frozen? ⟨p, 0, none⟩ = false ∧ OP w (p + 2) (.slice a s.1.length c) s.1 ∧ p + 1 < w.heap.size ∧
    w.cell? ⟨p + 1, 0, none⟩ = some (.int .i64 (errOf s.2)) ∧ w.frozen? ⟨p + 1, 0, none⟩ = false := by
  obtain ⟨⟨v, hh, hown⟩, he⟩ := h
  obtain ⟨a, c, rfl⟩ := owns_slice hown
  exact ⟨a, c, cell_of_one hh, free_of_one hh, hown, lt_of_cell (cell_of_one he), cell_of_one he, free_of_one he⟩
theorem BoxA.stored {p g cap : Nat} {U W : World} {s : List PR × Bool} {l : List PR} (hb : BoxA p U s) (hB : Below (p + 2) U W) (hown : OP W (p + 2) (.slice (some ⟨g, 0, none⟩) l.length cap) l) :
    BoxA p (W.setCell ⟨p, 0, none⟩ (.slice (some ⟨g, 0, none⟩) l.length cap)) (l, s.2) ∧ Below p U (W.setCell ⟨p, 0, none⟩ (.slice (some ⟨g, 0, none⟩) l.length cap)) := by
  obtain ⟨⟨v, hs, _⟩, he⟩ := hb
  refine ⟨⟨(BoxRow.stored (base := p + 2) (by omega) hs hB hown).1, ?_⟩, Below.setCell (hB.mono (Nat.le_add_right p 2)) (p := ⟨p, 0, none⟩) (Nat.le_refl _) _⟩
  rw [Below.heap_setCell _ _ _ _ (by simp)]
  exact (hB.block (p + 1) (by omega)).trans he
theorem BoxA.bad {p : Nat} {U : World} {s : List PR × Bool} (hb : BoxA p U s) : BoxA p (U.setCell ⟨p + 1, 0, none⟩ (.int .i64 2)) (s.1, true) := by
  obtain ⟨⟨v, hs, hown⟩, he⟩ := hb
  exact ⟨⟨v, by rw [Below.heap_setCell _ _ _ _ (by simp)]; exact hs, ownsRow_setCell_below hown (by simp) _⟩, one_setCell (v := .int .i64 (errOf s.2)) he⟩

set_option maxRecDepth 100000 in
set_option maxHeartbeats 4000000 in
theorem ap_left (p : Nat) (b off : Nat) (x : PR) (s : List PR × Bool) (w : World) (h1 : w.cell? ⟨b, off, none⟩ = some (.string (bs x.1))) (h2 : w.cell? ⟨b, off + 1, none⟩ = some (.string (bs x.2))) (hbox : BoxA p w s) (hl : (s.1.length + 1) * 32 ≤ 140737488355328) :
    Calls Try.prog 47 #[.pointer (some ⟨b, off, none⟩), .pointer none, .pointer (some ⟨p, 0, none⟩), .pointer (some ⟨p + 1, 0, none⟩)] w fun e w' => e = .returned (.tuple #[]) ∧ BoxA p w' (stepA s (some x, none)) ∧ Below p w w' := by
  have HBX := Lib.hid hbox
  obtain ⟨av, cv, c, f, hown, hp, c2, f2⟩ := hbox.open
  have hownd := World.ownsRow.drew hown
  have hp0 : p < w.heap.size := by omega
  have hbase : p + 2 ≤ w.drew.heap.size := hp
  clear hbox hown
  go_enter Try.func47, Try.ntmps47
  go_wp2
  go_region_law (refine step_append1P w.drew x rfl _ _ 22 rfl Try.underlying22 (p + 2) _ s.1 rfl hownd _ rfl hl hbase ?_; intro g cap w3 hown3 hB3; have c' := (hB3.cell (p := ⟨p, 0, none⟩) (by simp)).trans c; have f' := (hB3.frozen (p := ⟨p, 0, none⟩) (by simp)).trans f)
  all_goals
    have HO3 := Lib.hid hown3
    have HB3 := Lib.hid (((Below.refl (p + 2) w).drew).trans hB3)
    clear hown3 hB3 hownd c f c' f' c2 f2 h1 h2
    go_wp2
    refine bodyPost_end (results_none rfl _ _ _) rfl ?_
    have hst := HBX.out.stored (l := s.1 ++ [x]) (g := g) (cap := cap) HB3.out (by rw [List.length_append]; exact HO3.out)
    rw [List.length_append] at hst
    exact ⟨rfl, hst.1, hst.2⟩

set_option maxRecDepth 100000 in
set_option maxHeartbeats 4000000 in
theorem ap_turn (p : Nat) (v vt : Value) (o : Option PR) (t : TR) (s : List PR × Bool) (w : World) (hv : PtrP w v o) (ht : PtrT w vt t) (hbox : BoxA p w s) (hl : (s.1.length + 1) * 32 ≤ 140737488355328) :
    Calls Try.prog 47 #[v, vt, .pointer (some ⟨p, 0, none⟩), .pointer (some ⟨p + 1, 0, none⟩)] w fun e w' => e = .returned (.tuple #[]) ∧ BoxA p w' (stepA s (o, some t)) ∧ Below p w w' := by
  have HBX := Lib.hid hbox
  have HV := Lib.hid hv
  have HT := Lib.hid ht
  obtain ⟨b, off, rfl, t1, t2, t3, t4, t5⟩ := ht
  clear hbox hv
  have hmk : ∀ w' (u : Value), (loadVar 73 ⟨b, off, none⟩).run Try.prog w' = .ok u w' → True := fun _ _ _ => trivial
  clear hmk
  cases hf : fitsF o t with
  | false =>
    have HF := Lib.hid hf
    clear hf
    go_enter Try.func47, Try.ntmps47
    go_wp2_with fail
    refine (fits_any v o t w HV.out).mono ?_
    rw [HF.out]
    rintro e w2 ⟨rfl, hB2⟩
    have HBX2 := Lib.hid (HBX.out.below hB2)
    have HB2 := Lib.hid hB2
    obtain ⟨av, cv, c, f, hown, hp, c2, f2⟩ := HBX2.out.open
    have hpw : p ≤ w.heap.size := by obtain ⟨_, _, _, _, _, h, _⟩ := HBX.out.open; omega
    clear hown hB2 t1 t2 t3 t4 t5
    go_wp2
    refine bodyPost_end (results_none rfl _ _ _) rfl ?_
    refine ⟨rfl, ?_, Below.setCell (HB2.out.mono hpw) (p := ⟨p + 1, 0, none⟩) (Nat.le_succ _) _⟩
    unfold stepA
    simp only [HF.out, Bool.false_eq_true, if_false]
    exact HBX2.out.bad
  | true =>
    have HF := Lib.hid hf
    clear hf
    cases hh : t.has with
    | false =>
      have HH := Lib.hid hh
      rw [hh] at t5
      clear hh
      go_enter Try.func47, Try.ntmps47
      go_wp2_with fail
      have hfc := fits_any v o t w HV.out
      rw [HH.out, HF.out] at hfc
      refine hfc.mono ?_
      rintro e w2 ⟨rfl, hB2⟩
      have HBX2 := Lib.hid (HBX.out.below hB2)
      have HB2 := Lib.hid hB2
      have t5' := Below.keeps hB2 t5
      have hpw : p ≤ w.heap.size := by obtain ⟨_, _, _, _, _, h, _⟩ := HBX.out.open; omega
      clear hB2 t1 t2 t3 t4 t5 hfc
      go_wp2
      refine bodyPost_end (results_none rfl _ _ _) rfl ?_
      refine ⟨rfl, ?_, HB2.out.mono hpw⟩
      unfold stepA
      simp only [HF.out, HH.out, if_true, Bool.false_eq_true, if_false]
      exact HBX2.out
    | true =>
      have HH := Lib.hid hh
      rw [hh] at t5
      clear hh
      go_enter Try.func47, Try.ntmps47
      go_wp2_with fail
      have hfc := fits_any v o t w HV.out
      rw [HH.out, HF.out] at hfc
      refine hfc.mono ?_
      rintro e w2 ⟨rfl, hB2⟩
      have HBX2 := Lib.hid (HBX.out.below hB2)
      have HB2 := Lib.hid hB2
      have t1' := Below.keeps hB2 t1
      have t3' := Below.keeps hB2 t3
      have t5' := Below.keeps hB2 t5
      have hpw : p ≤ w.heap.size := by obtain ⟨_, _, _, _, _, h, _⟩ := HBX.out.open; omega
      have hb2 := lt_of_cell t1'
      obtain ⟨av, cv, c, f, hown, hp, c2, f2⟩ := HBX2.out.open
      have hownd := World.ownsRow.drew hown
      have hp0 : p < w2.heap.size := by omega
      have hbase : p + 2 ≤ w2.drew.heap.size := hp
      clear hB2 t1 t2 t3 t4 t5 hfc hown
      go_wp2
      go_region_law (refine step_append1P w2.drew (t.key, t.now) rfl _ _ 22 rfl Try.underlying22 (p + 2) _ s.1 rfl hownd _ rfl hl hbase ?_; intro g cap w3 hown3 hB3; have c' := (hB3.cell (p := ⟨p, 0, none⟩) (by simp)).trans c; have f' := (hB3.frozen (p := ⟨p, 0, none⟩) (by simp)).trans f)
      all_goals
        have HO3 := Lib.hid hown3
        have HB3 := Lib.hid (((Below.refl (p + 2) w2).drew).trans hB3)
        clear hown3 hB3 hownd c f c' f' c2 f2
        go_wp2
        refine bodyPost_end (results_none rfl _ _ _) rfl ?_
        have hst := HBX2.out.stored (l := s.1 ++ [(t.key, t.now)]) (g := g) (cap := cap) HB3.out (by rw [List.length_append]; exact HO3.out)
        rw [List.length_append] at hst
        refine ⟨rfl, ?_, (HB2.out.mono hpw).trans hst.2⟩
        unfold stepA
        simp only [HF.out, HH.out, if_true]
        exact hst.1
end Go.Proofs.Ytahmacnmphjhgaa
namespace Go.Proofs.Ytahmacnmphjhgaa
open Go.RowKit Oct

attribute [local irreducible] wpG

/-- what Apply's steps come to -/
def apF (a : List PR) (b : List TR) (s : List PR × Bool) : List PR × Bool := (steps Prod.fst TR.key a b).foldl stepA s
theorem apF_nil (s : List PR × Bool) : apF [] [] s = s := by rw [apF, steps]; rfl
theorem apF_left (x : PR) (a : List PR) (s : List PR × Bool) : apF (x :: a) [] s = apF a [] (stepA s (some x, none)) := by rw [apF, steps]; rfl
theorem apF_right (y : TR) (b : List TR) (s : List PR × Bool) : apF [] (y :: b) s = apF [] b (stepA s (none, some y)) := by rw [apF, steps]; rfl
theorem apF_lt (x : PR) (y : TR) (a : List PR) (b : List TR) (s : List PR × Bool) (h : lt x.1 y.key = true) : apF (x :: a) (y :: b) s = apF a (y :: b) (stepA s (some x, none)) := by rw [apF, steps, if_pos h]; rfl
theorem apF_gt (x : PR) (y : TR) (a : List PR) (b : List TR) (s : List PR × Bool) (h : lt x.1 y.key = false) (h2 : lt y.key x.1 = true) : apF (x :: a) (y :: b) s = apF (x :: a) b (stepA s (none, some y)) := by rw [apF, steps, if_neg (by rw [h]; simp), if_pos h2]; rfl
theorem apF_eq (x : PR) (y : TR) (a : List PR) (b : List TR) (s : List PR × Bool) (h : lt x.1 y.key = false) (h2 : lt y.key x.1 = false) : apF (x :: a) (y :: b) s = apF a b (stepA s (some x, some y)) := by rw [apF, steps, if_neg (by rw [h]; simp), if_neg (by rw [h2]; simp)]; rfl
theorem stepA_le (s : List PR × Bool) (o : Option PR × Option TR) : (stepA s o).1.length ≤ s.1.length + 1 := by
  obtain ⟨o, t⟩ := o
  unfold stepA
  cases t with
  | none => cases o <;> simp
  | some t => dsimp only; split <;> (try split) <;> simp
theorem b32 {d na nb m : Nat} (h : d + na + nb ≤ m) (hm : (m + 1) * 32 ≤ 140737488355328) : (d + 1) * 32 ≤ 140737488355328 := by omega
theorem lenA_step {d d' na nb na' nb' m : Nat} (h : d + na + nb ≤ m) (ht : d' ≤ d + 1) (h2 : na' + nb' + 1 ≤ na + nb) : d' + na' + nb' ≤ m := by omega
theorem recT_uncons {w : World} {a : Option Addr} {m c : Nat} {x : TR} {r : List TR} (h : recT.Row w (.slice a (m + 1) c) (x :: r)) (hm : m = r.length) :
    ∃ b off A C, a = some ⟨b, off, none⟩ ∧ PtrT w (.pointer (some ⟨b, off, none⟩)) x ∧
      (∀ wx, (Instr.slice 23 (.slice a (m + 1) c) (some (.int .i64 1)) none none).run Try.prog wx = .ok (.slice A m C) wx) ∧ recT.Row w (.slice A m C) r := by
  subst hm
  have h' : recT.Row w (.slice a (x :: r).length c) (x :: r) := h
  obtain ⟨A, C, hrun, hr⟩ := h'.cutRun 23 (by kernel_rfl) (fun wx => by kernel_rfl) 1 1 rfl (by simp)
  obtain ⟨a', c', hv, _, hc⟩ := recT_open h'
  injection hv with e1 _ _
  subst e1
  obtain ⟨b, off, ha, h1, h2, h3, h4, h5⟩ := hc 0 (by simp)
  rw [Nat.zero_mul, Nat.add_zero] at h1 h2 h3 h4 h5
  simp only [List.length_cons, Nat.add_sub_cancel, List.drop_succ_cons, List.drop_zero] at hrun hr
  exact ⟨b, off, A, C, ha, ⟨b, off, rfl, h1, h2, h3, h4, h5⟩, hrun, hr⟩

set_option maxRecDepth 100000 in
set_option maxHeartbeats 16000000 in
theorem bothAp_any (v1 v2 : Value) (a : List PR) (b : List TR) (w0 w : World) (hr1 : RP w0 v1 a) (hr2 : recT.Row w0 v2 b) (hbox : BoxA w0.heap.size w ([], false)) (hB : Below w0.heap.size w0 w) (hl : (a.length + b.length + 1) * 32 ≤ 140737488355328) :
    Calls Try.prog 45 #[v1, v2, .func (.func 40) #[] #[], .func (.func 46) #[] #[], .func (.func 47) #[] #[.pointer (some ⟨w0.heap.size, 0, none⟩), .pointer (some ⟨w0.heap.size + 1, 0, none⟩)]] w
      fun e w' => e = .returned (.tuple #[]) ∧ BoxA w0.heap.size w' (apF a b ([], false)) ∧ Below w0.heap.size w0 w' := by
  obtain ⟨a1, c1, rfl, _, _⟩ := hr1.open
  obtain ⟨a2, c2, rfl, _, _⟩ := recT_open hr2
  have HR1 := Lib.hid hr1
  have HR2 := Lib.hid hr2
  have HBX := Lib.hid hbox
  have HBW := Lib.hid hB
  have HLB := Lib.hid hl
  clear hr1 hr2 hbox hB hl
  go_enter Try.func45, Try.ntmps45
  go_wp2
  go_loopw [0, 1] (fun v0 v1 wr => ∃ ra rb done, ∃ n0 n1 : Nat, ∃ A0 C0 A1 C1, v0 = .slice A0 n0 C0 ∧ v1 = .slice A1 n1 C1 ∧ n0 = ra.length ∧ n1 = rb.length ∧ Hid (RP w0 (.slice A0 n0 C0) ra) ∧ Hid (recT.Row w0 (.slice A1 n1 C1) rb) ∧ Hid (apF ra rb done = apF a b ([], false)) ∧ Hid (done.1.length + ra.length + rb.length ≤ a.length + b.length) ∧ Hid (BoxA w0.heap.size wr done) ∧ Hid (Below w0.heap.size w0 wr)) (fun v0 v1 _ => slen v0 + slen v1)
  case atStart => exact ⟨a, b, ([], false), _, _, _, _, _, _, rfl, rfl, rfl, rfl, HR1.out, HR2.out, rfl, by simp [Hid], HBX.out, HBW.out⟩
  case round =>
    clear HR1 HR2 HBX HBW
    obtain ⟨ra, rb, done, n0, n1, A0, C0, A1, C1, rfl, rfl, hn0, hn1, HRA, HRB, HEQ0, HLEN, HBX, HBW⟩ := hrel
    obtain ⟨Wr, hWr⟩ : ∃ Wr, Wr = wr := ⟨_, rfl⟩
    subst hWr
    cases ra with
    | nil =>
      obtain rfl : n0 = 0 := hn0
      cases rb with
      | nil =>
        obtain rfl : n1 = 0 := hn1
        go_wp2
        refine bodyPost_end (results_none rfl _ _ _) rfl ?_
        have := HEQ0.out
        rw [apF_nil] at this
        exact ⟨rfl, by rw [← this]; exact HBX.out, HBW.out⟩
      | cons y r2 =>
        obtain ⟨m1, rfl⟩ : ∃ m, n1 = m + 1 := ⟨r2.length, by simpa using hn1⟩
        have HM1 := Lib.hid (show m1 = r2.length by simpa using hn1)
        clear hn1
        obtain ⟨b2, o2, A3, C3, rfl, hpt, ry, hry⟩ := recT_uncons HRB.out HM1.out
        have HPT := Lib.hid (hpt.below HBW.out)
        have HR2 := Lib.hid hry
        clear hpt hry
        have j0 : (0 : Int) < (m1 : Int) + 1 := by omega
        have j1 : (1 : Int) ≤ (m1 : Int) + 1 := by omega
        have j2 : (((m1 : Int) + 1) == 0) = false := by rw [beq_eq_false_iff_ne]; omega
        have HB2 := Lib.hid (b_refl Wr)
        go_wp2
        refine region_known [] (by kernel_rfl) (by kernel_rfl) ?_
        (repeat (first | (refine wpG_skip (by kernel_rfl) (fun K hK => ?_); go_big_quiet_skip; refine wpQuiet_nil (hK _ ?_); clear hK K) | (refine wpG_quiet (by rfl) (by rfl) (fun K hK => ?_); go_big_quiet_want; go_big_quiet_op; go_big_quiet_on; refine wpQuiet_nil (hK _ ?_); clear hK K)))
        refine wpG_nil ?_
        intro w3 hB3 hA3
        have HB3 := Lib.hid (bt HB2.out hB3)
        clear hB3 hA3
        have zy := HPT.out.below HB3.out
        have HC := Lib.hid (ap_turn w0.heap.size _ _ none y done _ rfl zy (HBX.out.below HB3.out) (b32 HLEN.out HLB.out))
        clear zy
        go_wp2_with fail
        refine HC.out.mono ?_
        rintro e w6 ⟨rfl, hbox6, hB6⟩
        have HBX6 := Lib.hid hbox6
        have HB6 := Lib.hid (HBW.out.trans ((HB3.out.mono HBW.out.size).trans hB6))
        clear hbox6 hB6 HC
        go_wp2
        have HEQ : apF ([] : List PR) r2 (stepA done (none, some y)) = apF a b ([], false) := by
          have := HEQ0.out
          rw [apF_right] at this
          exact this
        have HLE : (stepA done (none, some y)).1.length + ([] : List PR).length + r2.length ≤ a.length + b.length := lenA_step HLEN.out (stepA_le done (none, some y)) (nat_r r2.length)
        have HREL := Lib.hid (And.intro HEQ HLE)
        clear HEQ HLE
        go_roundw
        case rel => exact ⟨([] : List PR), r2, stepA done (none, some y), 0, m1, _, _, _, _, rfl, rfl, rfl, HM1.out, HRA.out, HR2.out, HREL.out.1, HREL.out.2, HBX6.out, HB6.out⟩
        case measure => simp [slen]
    | cons x r1 =>
      obtain ⟨m0, rfl⟩ : ∃ m, n0 = m + 1 := ⟨r1.length, by simpa using hn0⟩
      have HM0 := Lib.hid (show m0 = r1.length by simpa using hn0)
      obtain ⟨b1, o1, A2, C2, rfl, cx1, cx2, rx, hrx⟩ := RP.uncons HRA.out HM0.out
      have HX1 := Lib.hid (Below.keeps HBW.out cx1)
      have HX2 := Lib.hid (Below.keeps HBW.out cx2)
      have HR1 := Lib.hid hrx
      clear cx1 cx2 hrx
      have i0 : (0 : Int) < (m0 : Int) + 1 := by omega
      have i1 : (1 : Int) ≤ (m0 : Int) + 1 := by omega
      have i2 : (((m0 : Int) + 1) == 0) = false := by rw [beq_eq_false_iff_ne]; omega
      cases rb with
      | nil =>
        obtain rfl : n1 = 0 := hn1
        clear hn0
        have HB2 := Lib.hid (b_refl Wr)
        go_wp2
        refine region_known [] (by kernel_rfl) (by kernel_rfl) ?_
        (repeat (first | (refine wpG_skip (by kernel_rfl) (fun K hK => ?_); go_big_quiet_skip; refine wpQuiet_nil (hK _ ?_); clear hK K) | (refine wpG_quiet (by rfl) (by rfl) (fun K hK => ?_); go_big_quiet_want; go_big_quiet_op; go_big_quiet_on; refine wpQuiet_nil (hK _ ?_); clear hK K)))
        refine wpG_nil ?_
        intro w3 hB3 hA3
        have HB3 := Lib.hid (bt HB2.out hB3)
        clear hB3 hA3
        have zx1 := Below.keeps HB3.out HX1.out
        have zx2 := Below.keeps HB3.out HX2.out
        have HC := Lib.hid (ap_left w0.heap.size _ _ x done _ zx1 zx2 (HBX.out.below HB3.out) (b32 HLEN.out HLB.out))
        clear zx1 zx2
        go_wp2_with fail
        refine HC.out.mono ?_
        rintro e w6 ⟨rfl, hbox6, hB6⟩
        have HBX6 := Lib.hid hbox6
        have HB6 := Lib.hid (HBW.out.trans ((HB3.out.mono HBW.out.size).trans hB6))
        clear hbox6 hB6 HC
        go_wp2
        have HEQ : apF r1 ([] : List TR) (stepA done (some x, none)) = apF a b ([], false) := by
          have := HEQ0.out
          rw [apF_left] at this
          exact this
        have HLE : (stepA done (some x, none)).1.length + r1.length + ([] : List TR).length ≤ a.length + b.length := lenA_step HLEN.out (stepA_le done (some x, none)) (nat_l r1.length)
        have HREL := Lib.hid (And.intro HEQ HLE)
        clear HEQ HLE
        go_roundw
        case rel => exact ⟨r1, ([] : List TR), stepA done (some x, none), m0, 0, _, _, _, _, rfl, rfl, HM0.out, rfl, HR1.out, HRB.out, HREL.out.1, HREL.out.2, HBX6.out, HB6.out⟩
        case measure => simp [slen]
      | cons y r2 =>
        obtain ⟨m1, rfl⟩ : ∃ m, n1 = m + 1 := ⟨r2.length, by simpa using hn1⟩
        have HM1 := Lib.hid (show m1 = r2.length by simpa using hn1)
        clear hn0 hn1
        obtain ⟨b2, o2, A3, C3, rfl, hpt, ry, hry⟩ := recT_uncons HRB.out HM1.out
        have HPT := Lib.hid (hpt.below HBW.out)
        have HR2 := Lib.hid hry
        clear hpt hry
        have j0 : (0 : Int) < (m1 : Int) + 1 := by omega
        have j1 : (1 : Int) ≤ (m1 : Int) + 1 := by omega
        have j2 : (((m1 : Int) + 1) == 0) = false := by rw [beq_eq_false_iff_ne]; omega
        cases hlt : lt x.1 y.1 with
        | true =>
          have HL1 := Lib.hid hlt
          clear hlt
          have hcf : cmpF x.1 y.key = (-1) := by unfold cmpF; rw [HL1.out]; rfl
          have HCF := Lib.hid hcf
          clear hcf
          go_wp2
          refine region_known [(3, .exact Bel (.agg #[.string (bs x.1), .string (bs x.2)])), (4, .exact Bel (.string (bs x.1))), (8, .exact Bel (.agg #[.string (bs y.key), .string (bs y.was), .string (bs y.now), .bool y.had, .bool y.has])), (9, .exact Bel (.string (bs y.key))), (10, .exact Bel (.int .i64 (-1)))] (by kernel_rfl) (by kernel_rfl) ?_
          (repeat (first | (refine wpG_skip (by kernel_rfl) (fun K hK => ?_); go_big_quiet_skip; refine wpQuiet_nil (hK _ ?_); clear hK K) | (refine wpG_quiet (by rfl) (by rfl) (fun K hK => ?_); go_big_quiet_want; go_big_quiet_op; go_big_quiet_on; refine wpQuiet_nil (hK _ ?_); clear hK K)))
          refine wpG_exact rfl (by kernel_rfl) (fun w' G hB hS hG => ?_) (fun K hK => ?_)
          · have c1 := Below.keeps hB HX1.out
            have c2 := Below.keeps hB HX2.out
            go_simp
            exact hG _ (Bel.refl _)
          go_simp; refine hK _ ?_; clear hK K; (repeat (first | (refine wpG_skip (by kernel_rfl) (fun K hK => ?_); go_big_quiet_skip; refine wpQuiet_nil (hK _ ?_); clear hK K) | (refine wpG_quiet (by rfl) (by rfl) (fun K hK => ?_); go_big_quiet_want; go_big_quiet_op; go_big_quiet_on; refine wpQuiet_nil (hK _ ?_); clear hK K)))
          refine wpG_exact rfl (by kernel_rfl) (fun w' G hB hS hG => ?_) (fun K hK => ?_)
          · go_simp
            exact calls_told hG (key_any x w')
          go_simp; refine hK _ ?_; clear hK K; (repeat (first | (refine wpG_skip (by kernel_rfl) (fun K hK => ?_); go_big_quiet_skip; refine wpQuiet_nil (hK _ ?_); clear hK K) | (refine wpG_quiet (by rfl) (by rfl) (fun K hK => ?_); go_big_quiet_want; go_big_quiet_op; go_big_quiet_on; refine wpQuiet_nil (hK _ ?_); clear hK K)))
          refine wpG_exact rfl (by kernel_rfl) (fun w' G hB hS hG => ?_) (fun K hK => ?_)
          · obtain ⟨_, _, hv, c1, c2, c3, c4, c5⟩ := HPT.out.below hB
            cases hv
            go_simp
            exact hG _ (Bel.refl _)
          go_simp; refine hK _ ?_; clear hK K; (repeat (first | (refine wpG_skip (by kernel_rfl) (fun K hK => ?_); go_big_quiet_skip; refine wpQuiet_nil (hK _ ?_); clear hK K) | (refine wpG_quiet (by rfl) (by rfl) (fun K hK => ?_); go_big_quiet_want; go_big_quiet_op; go_big_quiet_on; refine wpQuiet_nil (hK _ ?_); clear hK K)))
          refine wpG_exact rfl (by kernel_rfl) (fun w' G hB hS hG => ?_) (fun K hK => ?_)
          · go_simp
            exact calls_told hG (keyed_any y w')
          go_simp; refine hK _ ?_; clear hK K; (repeat (first | (refine wpG_skip (by kernel_rfl) (fun K hK => ?_); go_big_quiet_skip; refine wpQuiet_nil (hK _ ?_); clear hK K) | (refine wpG_quiet (by rfl) (by rfl) (fun K hK => ?_); go_big_quiet_want; go_big_quiet_op; go_big_quiet_on; refine wpQuiet_nil (hK _ ?_); clear hK K)))
          refine wpG_exact rfl (by kernel_rfl) (fun w' G hB hS hG => ?_) (fun K hK => ?_)
          · go_simp
            exact (compare_any x.1 y.key w').mono fun _ _ ⟨he, hw⟩ => ⟨_, by rw [he, HCF.out], hG _ (by rw [← hw]; exact Bel.refl _)⟩
          go_simp; refine hK _ ?_; clear hK K; (repeat (first | (refine wpG_skip (by kernel_rfl) (fun K hK => ?_); go_big_quiet_skip; refine wpQuiet_nil (hK _ ?_); clear hK K) | (refine wpG_quiet (by rfl) (by rfl) (fun K hK => ?_); go_big_quiet_want; go_big_quiet_op; go_big_quiet_on; refine wpQuiet_nil (hK _ ?_); clear hK K)))
          refine wpG_nil ?_
          intro w2 hB2 hA2
          have HB2 := Lib.hid hB2
          clear hB2 hA2
          go_wp2
          refine region_known [] (by kernel_rfl) (by kernel_rfl) ?_
          (repeat (first | (refine wpG_skip (by kernel_rfl) (fun K hK => ?_); go_big_quiet_skip; refine wpQuiet_nil (hK _ ?_); clear hK K) | (refine wpG_quiet (by rfl) (by rfl) (fun K hK => ?_); go_big_quiet_want; go_big_quiet_op; go_big_quiet_on; refine wpQuiet_nil (hK _ ?_); clear hK K)))
          refine wpG_nil ?_
          intro w3 hB3 hA3
          have HB3 := Lib.hid (bt HB2.out hB3)
          clear hB3 hA3
          have zx1 := Below.keeps HB3.out HX1.out
          have zx2 := Below.keeps HB3.out HX2.out
          have HC := Lib.hid (ap_left w0.heap.size _ _ x done _ zx1 zx2 (HBX.out.below HB3.out) (b32 HLEN.out HLB.out))
          clear zx1 zx2
          go_wp2_with fail
          refine HC.out.mono ?_
          rintro e w6 ⟨rfl, hbox6, hB6⟩
          have HBX6 := Lib.hid hbox6
          have HB6 := Lib.hid (HBW.out.trans ((HB3.out.mono HBW.out.size).trans hB6))
          clear hbox6 hB6 HC
          go_wp2
          have HEQ : apF r1 (y :: r2) (stepA done (some x, none)) = apF a b ([], false) := by
            have := HEQ0.out
            rw [apF_lt _ _ _ _ _ HL1.out] at this
            exact this
          have HLE : (stepA done (some x, none)).1.length + r1.length + (y :: r2).length ≤ a.length + b.length := lenA_step HLEN.out (stepA_le done (some x, none)) (nat_lt r1.length r2.length)
          have HREL := Lib.hid (And.intro HEQ HLE)
          clear HEQ HLE
          go_roundw
          case rel => exact ⟨r1, (y :: r2), stepA done (some x, none), m0, (m1 + 1), _, _, _, _, rfl, rfl, HM0.out, (by rw [List.length_cons, ← HM1.out]), HR1.out, HRB.out, HREL.out.1, HREL.out.2, HBX6.out, HB6.out⟩
          case measure => simp [slen]
        | false =>
          have HL1 := Lib.hid hlt
          clear hlt
          cases hgt : lt y.1 x.1 with
          | true =>
            have HL2 := Lib.hid hgt
            clear hgt
            have hcf : cmpF x.1 y.key = 1 := by unfold cmpF; rw [HL1.out, HL2.out]; rfl
            have HCF := Lib.hid hcf
            clear hcf
            go_wp2
            refine region_known [(3, .exact Bel (.agg #[.string (bs x.1), .string (bs x.2)])), (4, .exact Bel (.string (bs x.1))), (8, .exact Bel (.agg #[.string (bs y.key), .string (bs y.was), .string (bs y.now), .bool y.had, .bool y.has])), (9, .exact Bel (.string (bs y.key))), (10, .exact Bel (.int .i64 1))] (by kernel_rfl) (by kernel_rfl) ?_
            (repeat (first | (refine wpG_skip (by kernel_rfl) (fun K hK => ?_); go_big_quiet_skip; refine wpQuiet_nil (hK _ ?_); clear hK K) | (refine wpG_quiet (by rfl) (by rfl) (fun K hK => ?_); go_big_quiet_want; go_big_quiet_op; go_big_quiet_on; refine wpQuiet_nil (hK _ ?_); clear hK K)))
            refine wpG_exact rfl (by kernel_rfl) (fun w' G hB hS hG => ?_) (fun K hK => ?_)
            · have c1 := Below.keeps hB HX1.out
              have c2 := Below.keeps hB HX2.out
              go_simp
              exact hG _ (Bel.refl _)
            go_simp; refine hK _ ?_; clear hK K; (repeat (first | (refine wpG_skip (by kernel_rfl) (fun K hK => ?_); go_big_quiet_skip; refine wpQuiet_nil (hK _ ?_); clear hK K) | (refine wpG_quiet (by rfl) (by rfl) (fun K hK => ?_); go_big_quiet_want; go_big_quiet_op; go_big_quiet_on; refine wpQuiet_nil (hK _ ?_); clear hK K)))
            refine wpG_exact rfl (by kernel_rfl) (fun w' G hB hS hG => ?_) (fun K hK => ?_)
            · go_simp
              exact calls_told hG (key_any x w')
            go_simp; refine hK _ ?_; clear hK K; (repeat (first | (refine wpG_skip (by kernel_rfl) (fun K hK => ?_); go_big_quiet_skip; refine wpQuiet_nil (hK _ ?_); clear hK K) | (refine wpG_quiet (by rfl) (by rfl) (fun K hK => ?_); go_big_quiet_want; go_big_quiet_op; go_big_quiet_on; refine wpQuiet_nil (hK _ ?_); clear hK K)))
            refine wpG_exact rfl (by kernel_rfl) (fun w' G hB hS hG => ?_) (fun K hK => ?_)
            · obtain ⟨_, _, hv, c1, c2, c3, c4, c5⟩ := HPT.out.below hB
              cases hv
              go_simp
              exact hG _ (Bel.refl _)
            go_simp; refine hK _ ?_; clear hK K; (repeat (first | (refine wpG_skip (by kernel_rfl) (fun K hK => ?_); go_big_quiet_skip; refine wpQuiet_nil (hK _ ?_); clear hK K) | (refine wpG_quiet (by rfl) (by rfl) (fun K hK => ?_); go_big_quiet_want; go_big_quiet_op; go_big_quiet_on; refine wpQuiet_nil (hK _ ?_); clear hK K)))
            refine wpG_exact rfl (by kernel_rfl) (fun w' G hB hS hG => ?_) (fun K hK => ?_)
            · go_simp
              exact calls_told hG (keyed_any y w')
            go_simp; refine hK _ ?_; clear hK K; (repeat (first | (refine wpG_skip (by kernel_rfl) (fun K hK => ?_); go_big_quiet_skip; refine wpQuiet_nil (hK _ ?_); clear hK K) | (refine wpG_quiet (by rfl) (by rfl) (fun K hK => ?_); go_big_quiet_want; go_big_quiet_op; go_big_quiet_on; refine wpQuiet_nil (hK _ ?_); clear hK K)))
            refine wpG_exact rfl (by kernel_rfl) (fun w' G hB hS hG => ?_) (fun K hK => ?_)
            · go_simp
              exact (compare_any x.1 y.key w').mono fun _ _ ⟨he, hw⟩ => ⟨_, by rw [he, HCF.out], hG _ (by rw [← hw]; exact Bel.refl _)⟩
            go_simp; refine hK _ ?_; clear hK K; (repeat (first | (refine wpG_skip (by kernel_rfl) (fun K hK => ?_); go_big_quiet_skip; refine wpQuiet_nil (hK _ ?_); clear hK K) | (refine wpG_quiet (by rfl) (by rfl) (fun K hK => ?_); go_big_quiet_want; go_big_quiet_op; go_big_quiet_on; refine wpQuiet_nil (hK _ ?_); clear hK K)))
            refine wpG_nil ?_
            intro w2 hB2 hA2
            have HB2 := Lib.hid hB2
            clear hB2 hA2
            go_wp2
            refine region_known [] (by kernel_rfl) (by kernel_rfl) ?_
            (repeat (first | (refine wpG_skip (by kernel_rfl) (fun K hK => ?_); go_big_quiet_skip; refine wpQuiet_nil (hK _ ?_); clear hK K) | (refine wpG_quiet (by rfl) (by rfl) (fun K hK => ?_); go_big_quiet_want; go_big_quiet_op; go_big_quiet_on; refine wpQuiet_nil (hK _ ?_); clear hK K)))
            refine wpG_nil ?_
            intro w3 hB3 hA3
            have HB3 := Lib.hid (bt HB2.out hB3)
            clear hB3 hA3
            have zy := HPT.out.below HB3.out
            have HC := Lib.hid (ap_turn w0.heap.size _ _ none y done _ rfl zy (HBX.out.below HB3.out) (b32 HLEN.out HLB.out))
            clear zy
            go_wp2_with fail
            refine HC.out.mono ?_
            rintro e w6 ⟨rfl, hbox6, hB6⟩
            have HBX6 := Lib.hid hbox6
            have HB6 := Lib.hid (HBW.out.trans ((HB3.out.mono HBW.out.size).trans hB6))
            clear hbox6 hB6 HC
            go_wp2
            have HEQ : apF (x :: r1) r2 (stepA done (none, some y)) = apF a b ([], false) := by
              have := HEQ0.out
              rw [apF_gt _ _ _ _ _ HL1.out HL2.out] at this
              exact this
            have HLE : (stepA done (none, some y)).1.length + (x :: r1).length + r2.length ≤ a.length + b.length := lenA_step HLEN.out (stepA_le done (none, some y)) (nat_gt r1.length r2.length)
            have HREL := Lib.hid (And.intro HEQ HLE)
            clear HEQ HLE
            go_roundw
            case rel => exact ⟨(x :: r1), r2, stepA done (none, some y), (m0 + 1), m1, _, _, _, _, rfl, rfl, (by rw [List.length_cons, ← HM0.out]), HM1.out, HRA.out, HR2.out, HREL.out.1, HREL.out.2, HBX6.out, HB6.out⟩
            case measure => simp [slen]
          | false =>
            have HL2 := Lib.hid hgt
            clear hgt
            have hcf : cmpF x.1 y.key = 0 := by unfold cmpF; rw [HL1.out, HL2.out]; rfl
            have HCF := Lib.hid hcf
            clear hcf
            go_wp2
            refine region_known [(3, .exact Bel (.agg #[.string (bs x.1), .string (bs x.2)])), (4, .exact Bel (.string (bs x.1))), (8, .exact Bel (.agg #[.string (bs y.key), .string (bs y.was), .string (bs y.now), .bool y.had, .bool y.has])), (9, .exact Bel (.string (bs y.key))), (10, .exact Bel (.int .i64 0))] (by kernel_rfl) (by kernel_rfl) ?_
            (repeat (first | (refine wpG_skip (by kernel_rfl) (fun K hK => ?_); go_big_quiet_skip; refine wpQuiet_nil (hK _ ?_); clear hK K) | (refine wpG_quiet (by rfl) (by rfl) (fun K hK => ?_); go_big_quiet_want; go_big_quiet_op; go_big_quiet_on; refine wpQuiet_nil (hK _ ?_); clear hK K)))
            refine wpG_exact rfl (by kernel_rfl) (fun w' G hB hS hG => ?_) (fun K hK => ?_)
            · have c1 := Below.keeps hB HX1.out
              have c2 := Below.keeps hB HX2.out
              go_simp
              exact hG _ (Bel.refl _)
            go_simp; refine hK _ ?_; clear hK K; (repeat (first | (refine wpG_skip (by kernel_rfl) (fun K hK => ?_); go_big_quiet_skip; refine wpQuiet_nil (hK _ ?_); clear hK K) | (refine wpG_quiet (by rfl) (by rfl) (fun K hK => ?_); go_big_quiet_want; go_big_quiet_op; go_big_quiet_on; refine wpQuiet_nil (hK _ ?_); clear hK K)))
            refine wpG_exact rfl (by kernel_rfl) (fun w' G hB hS hG => ?_) (fun K hK => ?_)
            · go_simp
              exact calls_told hG (key_any x w')
            go_simp; refine hK _ ?_; clear hK K; (repeat (first | (refine wpG_skip (by kernel_rfl) (fun K hK => ?_); go_big_quiet_skip; refine wpQuiet_nil (hK _ ?_); clear hK K) | (refine wpG_quiet (by rfl) (by rfl) (fun K hK => ?_); go_big_quiet_want; go_big_quiet_op; go_big_quiet_on; refine wpQuiet_nil (hK _ ?_); clear hK K)))
            refine wpG_exact rfl (by kernel_rfl) (fun w' G hB hS hG => ?_) (fun K hK => ?_)
            · obtain ⟨_, _, hv, c1, c2, c3, c4, c5⟩ := HPT.out.below hB
              cases hv
              go_simp
              exact hG _ (Bel.refl _)
            go_simp; refine hK _ ?_; clear hK K; (repeat (first | (refine wpG_skip (by kernel_rfl) (fun K hK => ?_); go_big_quiet_skip; refine wpQuiet_nil (hK _ ?_); clear hK K) | (refine wpG_quiet (by rfl) (by rfl) (fun K hK => ?_); go_big_quiet_want; go_big_quiet_op; go_big_quiet_on; refine wpQuiet_nil (hK _ ?_); clear hK K)))
            refine wpG_exact rfl (by kernel_rfl) (fun w' G hB hS hG => ?_) (fun K hK => ?_)
            · go_simp
              exact calls_told hG (keyed_any y w')
            go_simp; refine hK _ ?_; clear hK K; (repeat (first | (refine wpG_skip (by kernel_rfl) (fun K hK => ?_); go_big_quiet_skip; refine wpQuiet_nil (hK _ ?_); clear hK K) | (refine wpG_quiet (by rfl) (by rfl) (fun K hK => ?_); go_big_quiet_want; go_big_quiet_op; go_big_quiet_on; refine wpQuiet_nil (hK _ ?_); clear hK K)))
            refine wpG_exact rfl (by kernel_rfl) (fun w' G hB hS hG => ?_) (fun K hK => ?_)
            · go_simp
              exact (compare_any x.1 y.key w').mono fun _ _ ⟨he, hw⟩ => ⟨_, by rw [he, HCF.out], hG _ (by rw [← hw]; exact Bel.refl _)⟩
            go_simp; refine hK _ ?_; clear hK K; (repeat (first | (refine wpG_skip (by kernel_rfl) (fun K hK => ?_); go_big_quiet_skip; refine wpQuiet_nil (hK _ ?_); clear hK K) | (refine wpG_quiet (by rfl) (by rfl) (fun K hK => ?_); go_big_quiet_want; go_big_quiet_op; go_big_quiet_on; refine wpQuiet_nil (hK _ ?_); clear hK K)))
            refine wpG_nil ?_
            intro w2 hB2 hA2
            have HB2 := Lib.hid hB2
            clear hB2 hA2
            go_wp2
            refine region_known [] (by kernel_rfl) (by kernel_rfl) ?_
            (repeat (first | (refine wpG_skip (by kernel_rfl) (fun K hK => ?_); go_big_quiet_skip; refine wpQuiet_nil (hK _ ?_); clear hK K) | (refine wpG_quiet (by rfl) (by rfl) (fun K hK => ?_); go_big_quiet_want; go_big_quiet_op; go_big_quiet_on; refine wpQuiet_nil (hK _ ?_); clear hK K)))
            refine wpG_nil ?_
            intro w3 hB3 hA3
            have HB3 := Lib.hid (bt HB2.out hB3)
            clear hB3 hA3
            go_wp2
            refine region_known [] (by kernel_rfl) (by kernel_rfl) ?_
            (repeat (first | (refine wpG_skip (by kernel_rfl) (fun K hK => ?_); go_big_quiet_skip; refine wpQuiet_nil (hK _ ?_); clear hK K) | (refine wpG_quiet (by rfl) (by rfl) (fun K hK => ?_); go_big_quiet_want; go_big_quiet_op; go_big_quiet_on; refine wpQuiet_nil (hK _ ?_); clear hK K)))
            refine wpG_nil ?_
            intro w4 hB4 hA4
            have HB4 := Lib.hid (bt HB3.out hB4)
            clear hB4 hA4
            have zx1 := Below.keeps HB4.out HX1.out
            have zx2 := Below.keeps HB4.out HX2.out
            have zy := HPT.out.below HB4.out
            have HC := Lib.hid (ap_turn w0.heap.size _ _ (some x) y done _ ⟨_, _, rfl, zx1, zx2⟩ zy (HBX.out.below HB4.out) (b32 HLEN.out HLB.out))
            clear zx1 zx2 zy
            go_wp2_with fail
            refine HC.out.mono ?_
            rintro e w6 ⟨rfl, hbox6, hB6⟩
            have HBX6 := Lib.hid hbox6
            have HB6 := Lib.hid (HBW.out.trans ((HB4.out.mono HBW.out.size).trans hB6))
            clear hbox6 hB6 HC
            go_wp2
            have HEQ : apF r1 r2 (stepA done (some x, some y)) = apF a b ([], false) := by
              have := HEQ0.out
              rw [apF_eq _ _ _ _ _ HL1.out HL2.out] at this
              exact this
            have HLE : (stepA done (some x, some y)).1.length + r1.length + r2.length ≤ a.length + b.length := lenA_step HLEN.out (stepA_le done (some x, some y)) (nat_eq r1.length r2.length)
            have HREL := Lib.hid (And.intro HEQ HLE)
            clear HEQ HLE
            go_roundw
            case rel => exact ⟨r1, r2, stepA done (some x, some y), m0, m1, _, _, _, _, rfl, rfl, HM0.out, HM1.out, HR1.out, HR2.out, HREL.out.1, HREL.out.2, HBX6.out, HB6.out⟩
            case measure => exact meas_eq m0 m1
end Go.Proofs.Ytahmacnmphjhgaa
namespace Go.Proofs.Ytahmacnmphjhgaa
open Go.RowKit Oct

theorem Rec.append1At {α : Type} {ops : Array Oper} {rest : List Oper} {o : Oper} {a : Act} {Q : Exit → Act → World → Prop} (R : Rec α) (w : World) (p : α) (hgd : o.guard = none) (s x : Operand) (t : TypeId)
    (ho : o.op = .call { callee := .builtin .append, args := #[s, x], argTypes := #[t, t] }) (ht : Try.prog.underlying t = some (.slice R.e))
    (base : Nat) (v : Value) (xs : List α) (hown : R.Own w base v xs) (nb : Nat) (hnb : w.heap.size = nb) (hs : a.eval s = v) (c : Nat) (hx : a.eval x = .slice (some ⟨nb, 0, none⟩) 1 c)
    (cs : Array Value) (hcs : cs = (R.cell p).toArray) (e : TypeId) (he : e = R.e)
    (hbytes : (xs.length + 1) * R.bytes ≤ 140737488355328) (hbase : base ≤ w.heap.size)
    (h : ∀ g cap w', R.Own w' base (.slice (some ⟨g, 0, none⟩) (xs.length + 1) cap) (xs ++ [p]) → Below base w w' → wpList Try.prog ops Q rest (a.put o.dst (.slice (some ⟨g, 0, none⟩) (xs.length + 1) cap)) w') : wpList Try.prog ops Q (o :: rest) a (w.alloc (.cells cs e)) :=
  R.append1 w p hgd s x t ho ht base v xs hown hs c (by rw [hx, hnb]) cs hcs e he hbytes hbase h

def backT (t : TR) : TR := ⟨t.key, t.now, t.was, t.has, t.had⟩
set_option maxRecDepth 100000 in
set_option maxHeartbeats 4000000 in
theorem Back_any (v : Value) (l : List TR) (w : World) (hr : recT.Row w v l) (hl : (l.length + 1) * 56 ≤ 140737488355328) :
    Calls Try.prog 18 #[v] w fun e w' => (∃ u, e = .returned u ∧ recT.Own w' w.heap.size u (l.map backT)) ∧ Below w.heap.size w w' := by
  obtain ⟨a, cap, rfl, _, hc⟩ := recT_open hr
  have HC := Lib.hid hc
  have HL := Lib.hid hl
  have hll : l.length ≤ 140737488355328 := by omega
  clear hc hr hl
  go_enter Try.func18, Try.ntmps18
  go_wp2
  go_loopw [2, 7] (fun u i wr => ∃ k : Nat, ∃ A C, k ≤ l.length ∧ i = .int .i64 (k : Int) ∧ u = .slice A k C ∧ Hid (recT.Own wr w.heap.size (.slice A k C) ((l.take k).map backT)) ∧ Hid (Below w.heap.size w wr)) (fun _ i _ => l.length - (intOf i).toNat)
  case atStart => exact ⟨0, none, 0, by omega, rfl, rfl, Rec.Own.nil _ _, Below.refl _ _⟩
  case round =>
    obtain ⟨k, A, C, hk, rfl, rfl, HO, HB⟩ := hrel
    by_cases h0 : k < l.length
    · obtain ⟨b, off, rfl, t1, t2, t3, t4, t5⟩ := HC.out k h0
      replace t1 := Below.keeps HB.out t1
      replace t2 := Below.keeps HB.out t2
      replace t3 := Below.keeps HB.out t3
      replace t4 := Below.keeps HB.out t4
      replace t5 := Below.keeps HB.out t5
      have kk0 : (k : Int) < (l.length : Int) := by omega
      have kk1 : (0 : Int) ≤ (k : Int) := by omega
      obtain ⟨Wr, hWr⟩ : ∃ Wr, Wr = wr := ⟨_, rfl⟩
      subst hWr
      obtain ⟨W, hW⟩ : ∃ W, W = Wr.alloc (.cells #[.string (bs l[k].key), .string (bs l[k].was), .string (bs l[k].now), .bool l[k].had, .bool l[k].has] 73) := ⟨_, rfl⟩
      have hBW : Below Wr.heap.size Wr W := by rw [hW]; exact b_alloc _ _
      have hns : W.heap.size = Wr.heap.size + 1 := by rw [hW]; simp
      have HO2 := Lib.hid (HO.out.below hBW)
      have HBW := Lib.hid hBW
      have hsz : w.heap.size ≤ W.heap.size := Nat.le_trans HB.out.size hBW.size
      have hlk : ((l.take k).map backT).length = k := by simp; omega
      have HLK := Lib.hid hlk
      have HNS := Lib.hid hns
      have hby : (((l.take k).map backT).length + 1) * recT.bytes ≤ 140737488355328 := by rw [hlk]; exact Nat.le_trans (Nat.mul_le_mul_right 56 (Nat.succ_le_succ hk)) HL.out
      rw [hW] at HO2 HNS hsz
      clear hBW hlk hns
      go_wp2_with (at_builtin; go_must (refine recT.append1At _ (backT l[k]) rfl _ _ 23 rfl Try.underlying23 w.heap.size _ ((l.take k).map backT) HO2.out _ HNS.out rfl _ rfl _ rfl _ rfl hby hsz ?_); intro g cap w' hown' hB'; rw [HLK.out] at hown'; have HO' := Lib.hid hown'; have HB' := Lib.hid hB'; clear hown' hB' t1 t2 t3 t4 t5; try rw [HLK.out])
      go_roundw
      case rel =>
        refine ⟨k + 1, _, _, by omega, by go_num, rfl, ?_, ?_⟩
        · rw [List.take_succ_eq_append_getElem h0, List.map_append]
          exact HO'.out
        · exact (HB.out.trans (HBW.out.mono HB.out.size)).trans (by rw [hW]; exact HB'.out)
      case measure => simp [intOf]; omega
    · obtain rfl : k = l.length := by omega
      have hfin := HO.out
      rw [List.take_length] at hfin
      have HF := Lib.hid hfin
      clear hfin HO
      go_wp2
      go_ret
      exact ⟨⟨_, rfl, HF.out⟩, HB.out⟩
end Go.Proofs.Ytahmacnmphjhgaa
