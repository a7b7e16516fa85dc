/- Lemmas for DeltaTells, part 6: walks of the functions that it reaches, and the plain laws behind them. -/
import Derived.Test.YtahmacnmphjhgaaDeltaTellsK5
set_option linter.unusedSimpArgs false
set_option linter.unusedVariables false
namespace Go.Proofs.Ytahmacnmphjhgaa
open Go.RowKit Oct

attribute [local irreducible] wpG
theorem by32g {m n : Nat} (h : m ≤ n) (hn : n ≤ 160) : (m + 1) * 32 ≤ 140737488355328 := by omega

set_option maxRecDepth 100000 in
set_option maxHeartbeats 16000000 in
theorem rApply_any (v1 v2 : Value) (a : List PR) (l : List TR) (w : World) (hr1 : RP w v1 a) (hr2 : recT.Row w v2 l) (hla : a.length ≤ 100) (hll : l.length ≤ 60) :
    Calls Try.prog 15 #[v1, v2] w fun e w' => RApRes a l w.heap.size e w' ∧ Below w.heap.size w w' := by
  obtain ⟨a1, c1, rfl, _, hca⟩ := hr1.open
  obtain ⟨a2, c2, rfl, _, hct⟩ := recT_open hr2
  have HR1 := Lib.hid hr1
  have HCA := Lib.hid hca
  have HCT := Lib.hid hct
  have HLA := Lib.hid hla
  clear hr1 hr2 hca hct
  go_enter Try.func15, Try.ntmps15
  go_wp2_with fail
  cases hoa : once a with
  | false =>
    have HOA := Lib.hid hoa
    clear hoa
    refine (once18_any _ a w HR1.out (Nat.le_trans HLA.out (by decide))).mono ?_
    rw [HOA.out]
    rintro e w2 ⟨rfl, hB2⟩
    have HWW := Lib.hid hB2
    clear hB2
    go_wp2
    go_ret2
    refine ⟨?_, HWW.out⟩
    unfold RApRes okA
    rw [HOA.out, Bool.false_and]
    rfl
  | true =>
    have HOA := Lib.hid hoa
    clear hoa
    refine (once18_any _ a w HR1.out (Nat.le_trans HLA.out (by decide))).mono ?_
    rw [HOA.out]
    rintro e w2 ⟨rfl, hB2⟩
    have HB2 := Lib.hid hB2
    clear hB2
    go_wp2
    go_loopw [6] (fun vi wr => ∃ i : Nat, i ≤ l.length ∧ vi = .int .i64 (i : Int) ∧ Hid (∀ j (hj : j < l.length), j < i → fitsR a l[j] = true ∧ (0 < j → lt (l[j - 1]'(by omega)).key l[j].key = true)) ∧ Hid (Below w.heap.size w wr)) (fun i _ => l.length - (intOf i).toNat)
    case atStart => exact ⟨0, by omega, rfl, fun j _ h => absurd h (by omega), HB2.out⟩
    case round =>
      obtain ⟨i, hi, rfl, hH, HB⟩ := hrel
      obtain ⟨Wr, hWr⟩ : ∃ Wr, Wr = wr := ⟨_, rfl⟩
      subst hWr
      by_cases h0 : i < l.length
      · cases i with
        | zero =>
          have i1 : (0 : Int) < (l.length : Int) := by omega
          rw [show ((0 : Nat) : Int) = 0 from rfl]
          as_aux_lemma =>
            obtain ⟨b0, o0, rfl, c1, c2, c3, c4, c5⟩ := HCT.out (0) h0
            replace c1 := Below.keeps HB.out c1
            replace c2 := Below.keeps HB.out c2
            replace c3 := Below.keeps HB.out c3
            replace c4 := Below.keeps HB.out c4
            replace c5 := Below.keeps HB.out c5
            rw [Nat.zero_mul, Nat.add_zero] at c1 c2 c3 c4 c5
            obtain ⟨t, ht⟩ : ∃ t, t = l[0]'h0 := ⟨_, rfl⟩
            rw [← ht] at c1 c2 c3 c4 c5
            have HT := Lib.hid ht
            clear ht
            obtain ⟨W1, hW1⟩ : ∃ x, x = (fnd t.key a).getD [] := ⟨_, rfl⟩
            obtain ⟨b1, hh1⟩ : ∃ x, x = (fnd t.key a).isSome := ⟨_, rfl⟩
            have hf1 := find_any _ a t.key Wr (HR1.out.below HB.out) (Nat.le_trans HLA.out (by decide))
            rw [← hW1, ← hh1] at hf1
            have HF1 := Lib.hid hf1
            have HW1 := Lib.hid hW1
            have HH1 := Lib.hid hh1
            clear hf1 hW1 hh1
            go_wp2_with fail
            refine HF1.out.mono ?_
            rintro e w8 ⟨rfl, rfl⟩
            cases he : (t.had == t.has) with
            | false =>
              go_wp2
              go_quiet (fail)
              cases g2 : (t.had == b1) with
              | false =>
                have g2b : (t.had != b1) = true := by rw [bne, g2]; rfl
                have HBAD := Lib.hid (show okA a l = false from okA_fits (0) h0 (by rw [← HT.out]; unfold fitsR; rw [← HH1.out, ← HW1.out]; simp [g2]))
                go_wp2
                go_quiet (fail)
                go_wp2
                go_ret2
                refine ⟨?_, bt HB.out (by first | exact bt (Below.drewN' _ _) (Below.drewN' _ _) | exact Below.drewN' _ _ | exact b_refl _)⟩
                unfold RApRes
                rw [HBAD.out]
                rfl
              | true =>
                have g2b : (t.had != b1) = false := by rw [bne, g2]; rfl
                cases g3 : (t.was == W1) with
                | false =>
                  have g3b : (t.was != W1) = true := by rw [bne, g3]; rfl
                  have HBAD := Lib.hid (show okA a l = false from okA_fits (0) h0 (by rw [← HT.out]; unfold fitsR; rw [← HH1.out, ← HW1.out]; simp [g3]))
                  go_wp2
                  go_quiet (fail)
                  go_wp2
                  go_ret2
                  refine ⟨?_, bt HB.out (by first | exact bt (Below.drewN' _ _) (Below.drewN' _ _) | exact Below.drewN' _ _ | exact b_refl _)⟩
                  unfold RApRes
                  rw [HBAD.out]
                  rfl
                | true =>
                  have g3b : (t.was != W1) = false := by rw [bne, g3]; rfl
                  cases g4 : t.has with
                  | true =>
                    rw [g4] at c5
                    have HGOOD := Lib.hid (show fitsR a t = true from by unfold fitsR; rw [← HH1.out, ← HW1.out, g2, g3, he]; simp [g4])
                    go_wp2
                    go_quiet (fail)
                    go_wp2
                    refine ⟨⟨0 + 1, by omega, by go_num, ?_, bt HB.out (by first | exact bt (Below.drewN' _ _) (Below.drewN' _ _) | exact Below.drewN' _ _ | exact b_refl _)⟩, by simp [intOf]; omega⟩
                    intro jj hj hlt
                    by_cases hji : jj = 0
                    · subst hji
                      exact ⟨by rw [← HT.out]; exact HGOOD.out, fun hp => absurd hp (by omega)⟩
                    · exact hH.out jj hj (by omega)
                  | false =>
                    rw [g4] at c5
                    cases g5 : (t.now == []) with
                    | true =>
                      have g5b : (t.now != []) = false := by rw [bne, g5]; rfl
                      have HGOOD := Lib.hid (show fitsR a t = true from by unfold fitsR; rw [← HH1.out, ← HW1.out, g2, g3, he]; simp [g4, g5])
                      go_wp2
                      go_quiet (fail)
                      go_wp2
                      refine ⟨⟨0 + 1, by omega, by go_num, ?_, bt HB.out (by first | exact bt (Below.drewN' _ _) (Below.drewN' _ _) | exact Below.drewN' _ _ | exact b_refl _)⟩, by simp [intOf]; omega⟩
                      intro jj hj hlt
                      by_cases hji : jj = 0
                      · subst hji
                        exact ⟨by rw [← HT.out]; exact HGOOD.out, fun hp => absurd hp (by omega)⟩
                      · exact hH.out jj hj (by omega)
                    | false =>
                      have g5b : (t.now != []) = true := by rw [bne, g5]; rfl
                      have HBAD := Lib.hid (show okA a l = false from okA_fits (0) h0 (by rw [← HT.out]; unfold fitsR; rw [← HH1.out, ← HW1.out]; simp [g4, g5]))
                      go_wp2
                      go_quiet (fail)
                      go_wp2
                      go_ret2
                      refine ⟨?_, bt HB.out (by first | exact bt (Below.drewN' _ _) (Below.drewN' _ _) | exact Below.drewN' _ _ | exact b_refl _)⟩
                      unfold RApRes
                      rw [HBAD.out]
                      rfl
            | true =>
              cases hq : (t.was == t.now) with
              | true =>
                go_wp2
                go_quiet (fail)
                cases g2 : (t.had == b1) with
                | false =>
                  have g2b : (t.had != b1) = true := by rw [bne, g2]; rfl
                  have HBAD := Lib.hid (show okA a l = false from okA_fits (0) h0 (by rw [← HT.out]; unfold fitsR; rw [← HH1.out, ← HW1.out]; simp [g2]))
                  go_wp2
                  go_quiet (fail)
                  go_wp2
                  go_ret2
                  refine ⟨?_, bt HB.out (by first | exact bt (Below.drewN' _ _) (Below.drewN' _ _) | exact Below.drewN' _ _ | exact b_refl _)⟩
                  unfold RApRes
                  rw [HBAD.out]
                  rfl
                | true =>
                  have g2b : (t.had != b1) = false := by rw [bne, g2]; rfl
                  cases g3 : (t.was == W1) with
                  | false =>
                    have g3b : (t.was != W1) = true := by rw [bne, g3]; rfl
                    have HBAD := Lib.hid (show okA a l = false from okA_fits (0) h0 (by rw [← HT.out]; unfold fitsR; rw [← HH1.out, ← HW1.out]; simp [g3]))
                    go_wp2
                    go_quiet (fail)
                    go_wp2
                    go_ret2
                    refine ⟨?_, bt HB.out (by first | exact bt (Below.drewN' _ _) (Below.drewN' _ _) | exact Below.drewN' _ _ | exact b_refl _)⟩
                    unfold RApRes
                    rw [HBAD.out]
                    rfl
                  | true =>
                    have g3b : (t.was != W1) = false := by rw [bne, g3]; rfl
                    have HBAD := Lib.hid (show okA a l = false from okA_fits (0) h0 (by rw [← HT.out]; unfold fitsR; rw [← HH1.out, ← HW1.out]; simp [he, hq]))
                    go_wp2
                    go_quiet (fail)
                    go_wp2
                    go_ret2
                    refine ⟨?_, bt HB.out (by first | exact bt (Below.drewN' _ _) (Below.drewN' _ _) | exact Below.drewN' _ _ | exact b_refl _)⟩
                    unfold RApRes
                    rw [HBAD.out]
                    rfl
              | false =>
                go_wp2
                go_quiet (fail)
                cases g2 : (t.had == b1) with
                | false =>
                  have g2b : (t.had != b1) = true := by rw [bne, g2]; rfl
                  have HBAD := Lib.hid (show okA a l = false from okA_fits (0) h0 (by rw [← HT.out]; unfold fitsR; rw [← HH1.out, ← HW1.out]; simp [g2]))
                  go_wp2
                  go_quiet (fail)
                  go_wp2
                  go_ret2
                  refine ⟨?_, bt HB.out (by first | exact bt (Below.drewN' _ _) (Below.drewN' _ _) | exact Below.drewN' _ _ | exact b_refl _)⟩
                  unfold RApRes
                  rw [HBAD.out]
                  rfl
                | true =>
                  have g2b : (t.had != b1) = false := by rw [bne, g2]; rfl
                  cases g3 : (t.was == W1) with
                  | false =>
                    have g3b : (t.was != W1) = true := by rw [bne, g3]; rfl
                    have HBAD := Lib.hid (show okA a l = false from okA_fits (0) h0 (by rw [← HT.out]; unfold fitsR; rw [← HH1.out, ← HW1.out]; simp [g3]))
                    go_wp2
                    go_quiet (fail)
                    go_wp2
                    go_ret2
                    refine ⟨?_, bt HB.out (by first | exact bt (Below.drewN' _ _) (Below.drewN' _ _) | exact Below.drewN' _ _ | exact b_refl _)⟩
                    unfold RApRes
                    rw [HBAD.out]
                    rfl
                  | true =>
                    have g3b : (t.was != W1) = false := by rw [bne, g3]; rfl
                    cases g4 : t.has with
                    | true =>
                      rw [g4] at c5
                      have HGOOD := Lib.hid (show fitsR a t = true from by unfold fitsR; rw [← HH1.out, ← HW1.out, g2, g3, he, hq]; simp [g4])
                      go_wp2
                      go_quiet (fail)
                      go_wp2
                      refine ⟨⟨0 + 1, by omega, by go_num, ?_, bt HB.out (by first | exact bt (Below.drewN' _ _) (Below.drewN' _ _) | exact Below.drewN' _ _ | exact b_refl _)⟩, by simp [intOf]; omega⟩
                      intro jj hj hlt
                      by_cases hji : jj = 0
                      · subst hji
                        exact ⟨by rw [← HT.out]; exact HGOOD.out, fun hp => absurd hp (by omega)⟩
                      · exact hH.out jj hj (by omega)
                    | false =>
                      rw [g4] at c5
                      cases g5 : (t.now == []) with
                      | true =>
                        have g5b : (t.now != []) = false := by rw [bne, g5]; rfl
                        have HGOOD := Lib.hid (show fitsR a t = true from by unfold fitsR; rw [← HH1.out, ← HW1.out, g2, g3, he, hq]; simp [g4, g5])
                        go_wp2
                        go_quiet (fail)
                        go_wp2
                        refine ⟨⟨0 + 1, by omega, by go_num, ?_, bt HB.out (by first | exact bt (Below.drewN' _ _) (Below.drewN' _ _) | exact Below.drewN' _ _ | exact b_refl _)⟩, by simp [intOf]; omega⟩
                        intro jj hj hlt
                        by_cases hji : jj = 0
                        · subst hji
                          exact ⟨by rw [← HT.out]; exact HGOOD.out, fun hp => absurd hp (by omega)⟩
                        · exact hH.out jj hj (by omega)
                      | false =>
                        have g5b : (t.now != []) = true := by rw [bne, g5]; rfl
                        have HBAD := Lib.hid (show okA a l = false from okA_fits (0) h0 (by rw [← HT.out]; unfold fitsR; rw [← HH1.out, ← HW1.out]; simp [g4, g5]))
                        go_wp2
                        go_quiet (fail)
                        go_wp2
                        go_ret2
                        refine ⟨?_, bt HB.out (by first | exact bt (Below.drewN' _ _) (Below.drewN' _ _) | exact Below.drewN' _ _ | exact b_refl _)⟩
                        unfold RApRes
                        rw [HBAD.out]
                        rfl
        | succ j =>
          have i1 : (j : Int) + 1 < (l.length : Int) := by omega
          have i2 : (0 : Int) < (j : Int) + 1 := by omega
          have i3 : (j : Int) < (l.length : Int) := by omega
          have i4 : (0 : Int) ≤ (j : Int) := by omega
          as_aux_lemma =>
            obtain ⟨b0, o0, rfl, c1, c2, c3, c4, c5⟩ := HCT.out (j + 1) h0
            replace c1 := Below.keeps HB.out c1
            replace c2 := Below.keeps HB.out c2
            replace c3 := Below.keeps HB.out c3
            replace c4 := Below.keeps HB.out c4
            replace c5 := Below.keeps HB.out c5
            obtain ⟨b9, o9, hb9, p1, _, _, _, _⟩ := HCT.out j (by omega)
            cases hb9
            replace p1 := Below.keeps HB.out p1
            obtain ⟨pk, hpk⟩ : ∃ x, x = (l[j]'(by omega)).key := ⟨_, rfl⟩
            rw [← hpk] at p1
            have HPK := Lib.hid hpk
            clear hpk
            obtain ⟨t, ht⟩ : ∃ t, t = l[j + 1]'h0 := ⟨_, rfl⟩
            rw [← ht] at c1 c2 c3 c4 c5
            have HT := Lib.hid ht
            clear ht
            obtain ⟨W1, hW1⟩ : ∃ x, x = (fnd t.key a).getD [] := ⟨_, rfl⟩
            obtain ⟨b1, hh1⟩ : ∃ x, x = (fnd t.key a).isSome := ⟨_, rfl⟩
            have hf1 := find_any _ a t.key Wr (HR1.out.below HB.out) (Nat.le_trans HLA.out (by decide))
            rw [← hW1, ← hh1] at hf1
            have HF1 := Lib.hid hf1
            have HW1 := Lib.hid hW1
            have HH1 := Lib.hid hh1
            clear hf1 hW1 hh1
            go_wp2_with fail
            refine HF1.out.mono ?_
            rintro e w8 ⟨rfl, rfl⟩
            cases he : (t.had == t.has) with
            | false =>
              go_wp2
              go_quiet (fail)
              rcases lt3 pk t.key with ⟨t1, t2, t3, t4⟩ | ⟨t1, t2, t3, t4⟩ | ⟨t0, t1, t2, t3, t4⟩
              · have HLT := Lib.hid t1
                unfold lt at t1 t2
                cases g2 : (t.had == b1) with
                | false =>
                  have g2b : (t.had != b1) = true := by rw [bne, g2]; rfl
                  have HBAD := Lib.hid (show okA a l = false from okA_fits (j + 1) h0 (by rw [← HT.out]; unfold fitsR; rw [← HH1.out, ← HW1.out]; simp [g2]))
                  go_wp2
                  go_quiet (fail)
                  go_wp2
                  go_ret2
                  refine ⟨?_, bt HB.out (by first | exact bt (Below.drewN' _ _) (Below.drewN' _ _) | exact Below.drewN' _ _ | exact b_refl _)⟩
                  unfold RApRes
                  rw [HBAD.out]
                  rfl
                | true =>
                  have g2b : (t.had != b1) = false := by rw [bne, g2]; rfl
                  cases g3 : (t.was == W1) with
                  | false =>
                    have g3b : (t.was != W1) = true := by rw [bne, g3]; rfl
                    have HBAD := Lib.hid (show okA a l = false from okA_fits (j + 1) h0 (by rw [← HT.out]; unfold fitsR; rw [← HH1.out, ← HW1.out]; simp [g3]))
                    go_wp2
                    go_quiet (fail)
                    go_wp2
                    go_ret2
                    refine ⟨?_, bt HB.out (by first | exact bt (Below.drewN' _ _) (Below.drewN' _ _) | exact Below.drewN' _ _ | exact b_refl _)⟩
                    unfold RApRes
                    rw [HBAD.out]
                    rfl
                  | true =>
                    have g3b : (t.was != W1) = false := by rw [bne, g3]; rfl
                    cases g4 : t.has with
                    | true =>
                      rw [g4] at c5
                      have HGOOD := Lib.hid (show fitsR a t = true from by unfold fitsR; rw [← HH1.out, ← HW1.out, g2, g3, he]; simp [g4])
                      go_wp2
                      go_quiet (fail)
                      go_wp2
                      refine ⟨⟨j + 1 + 1, by omega, by go_num, ?_, bt HB.out (by first | exact bt (Below.drewN' _ _) (Below.drewN' _ _) | exact Below.drewN' _ _ | exact b_refl _)⟩, by simp [intOf]; omega⟩
                      intro jj hj hlt
                      by_cases hji : jj = j + 1
                      · subst hji
                        exact ⟨by rw [← HT.out]; exact HGOOD.out, fun _ => by show lt (l[j]'(by omega)).key l[j + 1].key = true; rw [← HPK.out, ← HT.out]; exact HLT.out⟩
                      · exact hH.out jj hj (by omega)
                    | false =>
                      rw [g4] at c5
                      cases g5 : (t.now == []) with
                      | true =>
                        have g5b : (t.now != []) = false := by rw [bne, g5]; rfl
                        have HGOOD := Lib.hid (show fitsR a t = true from by unfold fitsR; rw [← HH1.out, ← HW1.out, g2, g3, he]; simp [g4, g5])
                        go_wp2
                        go_quiet (fail)
                        go_wp2
                        refine ⟨⟨j + 1 + 1, by omega, by go_num, ?_, bt HB.out (by first | exact bt (Below.drewN' _ _) (Below.drewN' _ _) | exact Below.drewN' _ _ | exact b_refl _)⟩, by simp [intOf]; omega⟩
                        intro jj hj hlt
                        by_cases hji : jj = j + 1
                        · subst hji
                          exact ⟨by rw [← HT.out]; exact HGOOD.out, fun _ => by show lt (l[j]'(by omega)).key l[j + 1].key = true; rw [← HPK.out, ← HT.out]; exact HLT.out⟩
                        · exact hH.out jj hj (by omega)
                      | false =>
                        have g5b : (t.now != []) = true := by rw [bne, g5]; rfl
                        have HBAD := Lib.hid (show okA a l = false from okA_fits (j + 1) h0 (by rw [← HT.out]; unfold fitsR; rw [← HH1.out, ← HW1.out]; simp [g4, g5]))
                        go_wp2
                        go_quiet (fail)
                        go_wp2
                        go_ret2
                        refine ⟨?_, bt HB.out (by first | exact bt (Below.drewN' _ _) (Below.drewN' _ _) | exact Below.drewN' _ _ | exact b_refl _)⟩
                        unfold RApRes
                        rw [HBAD.out]
                        rfl
              all_goals
                try clear t0
                have HNL := Lib.hid t1
                unfold lt at t1 t2
                have HBAD := Lib.hid (show okA a l = false from okA_rise (riseT_false l j h0 (by rw [← HPK.out, ← HT.out]; exact HNL.out)))
                go_wp2
                go_quiet (fail)
                go_wp2
                go_ret2
                refine ⟨?_, bt HB.out (by first | exact bt (Below.drewN' _ _) (Below.drewN' _ _) | exact Below.drewN' _ _ | exact b_refl _)⟩
                unfold RApRes
                rw [HBAD.out]
                rfl
            | true =>
              cases hq : (t.was == t.now) with
              | true =>
                go_wp2
                go_quiet (fail)
                rcases lt3 pk t.key with ⟨t1, t2, t3, t4⟩ | ⟨t1, t2, t3, t4⟩ | ⟨t0, t1, t2, t3, t4⟩
                · have HLT := Lib.hid t1
                  unfold lt at t1 t2
                  cases g2 : (t.had == b1) with
                  | false =>
                    have g2b : (t.had != b1) = true := by rw [bne, g2]; rfl
                    have HBAD := Lib.hid (show okA a l = false from okA_fits (j + 1) h0 (by rw [← HT.out]; unfold fitsR; rw [← HH1.out, ← HW1.out]; simp [g2]))
                    go_wp2
                    go_quiet (fail)
                    go_wp2
                    go_ret2
                    refine ⟨?_, bt HB.out (by first | exact bt (Below.drewN' _ _) (Below.drewN' _ _) | exact Below.drewN' _ _ | exact b_refl _)⟩
                    unfold RApRes
                    rw [HBAD.out]
                    rfl
                  | true =>
                    have g2b : (t.had != b1) = false := by rw [bne, g2]; rfl
                    cases g3 : (t.was == W1) with
                    | false =>
                      have g3b : (t.was != W1) = true := by rw [bne, g3]; rfl
                      have HBAD := Lib.hid (show okA a l = false from okA_fits (j + 1) h0 (by rw [← HT.out]; unfold fitsR; rw [← HH1.out, ← HW1.out]; simp [g3]))
                      go_wp2
                      go_quiet (fail)
                      go_wp2
                      go_ret2
                      refine ⟨?_, bt HB.out (by first | exact bt (Below.drewN' _ _) (Below.drewN' _ _) | exact Below.drewN' _ _ | exact b_refl _)⟩
                      unfold RApRes
                      rw [HBAD.out]
                      rfl
                    | true =>
                      have g3b : (t.was != W1) = false := by rw [bne, g3]; rfl
                      have HBAD := Lib.hid (show okA a l = false from okA_fits (j + 1) h0 (by rw [← HT.out]; unfold fitsR; rw [← HH1.out, ← HW1.out]; simp [he, hq]))
                      go_wp2
                      go_quiet (fail)
                      go_wp2
                      go_ret2
                      refine ⟨?_, bt HB.out (by first | exact bt (Below.drewN' _ _) (Below.drewN' _ _) | exact Below.drewN' _ _ | exact b_refl _)⟩
                      unfold RApRes
                      rw [HBAD.out]
                      rfl
                all_goals
                  try clear t0
                  have HNL := Lib.hid t1
                  unfold lt at t1 t2
                  have HBAD := Lib.hid (show okA a l = false from okA_rise (riseT_false l j h0 (by rw [← HPK.out, ← HT.out]; exact HNL.out)))
                  go_wp2
                  go_quiet (fail)
                  go_wp2
                  go_ret2
                  refine ⟨?_, bt HB.out (by first | exact bt (Below.drewN' _ _) (Below.drewN' _ _) | exact Below.drewN' _ _ | exact b_refl _)⟩
                  unfold RApRes
                  rw [HBAD.out]
                  rfl
              | false =>
                go_wp2
                go_quiet (fail)
                rcases lt3 pk t.key with ⟨t1, t2, t3, t4⟩ | ⟨t1, t2, t3, t4⟩ | ⟨t0, t1, t2, t3, t4⟩
                · have HLT := Lib.hid t1
                  unfold lt at t1 t2
                  cases g2 : (t.had == b1) with
                  | false =>
                    have g2b : (t.had != b1) = true := by rw [bne, g2]; rfl
                    have HBAD := Lib.hid (show okA a l = false from okA_fits (j + 1) h0 (by rw [← HT.out]; unfold fitsR; rw [← HH1.out, ← HW1.out]; simp [g2]))
                    go_wp2
                    go_quiet (fail)
                    go_wp2
                    go_ret2
                    refine ⟨?_, bt HB.out (by first | exact bt (Below.drewN' _ _) (Below.drewN' _ _) | exact Below.drewN' _ _ | exact b_refl _)⟩
                    unfold RApRes
                    rw [HBAD.out]
                    rfl
                  | true =>
                    have g2b : (t.had != b1) = false := by rw [bne, g2]; rfl
                    cases g3 : (t.was == W1) with
                    | false =>
                      have g3b : (t.was != W1) = true := by rw [bne, g3]; rfl
                      have HBAD := Lib.hid (show okA a l = false from okA_fits (j + 1) h0 (by rw [← HT.out]; unfold fitsR; rw [← HH1.out, ← HW1.out]; simp [g3]))
                      go_wp2
                      go_quiet (fail)
                      go_wp2
                      go_ret2
                      refine ⟨?_, bt HB.out (by first | exact bt (Below.drewN' _ _) (Below.drewN' _ _) | exact Below.drewN' _ _ | exact b_refl _)⟩
                      unfold RApRes
                      rw [HBAD.out]
                      rfl
                    | true =>
                      have g3b : (t.was != W1) = false := by rw [bne, g3]; rfl
                      cases g4 : t.has with
                      | true =>
                        rw [g4] at c5
                        have HGOOD := Lib.hid (show fitsR a t = true from by unfold fitsR; rw [← HH1.out, ← HW1.out, g2, g3, he, hq]; simp [g4])
                        go_wp2
                        go_quiet (fail)
                        go_wp2
                        refine ⟨⟨j + 1 + 1, by omega, by go_num, ?_, bt HB.out (by first | exact bt (Below.drewN' _ _) (Below.drewN' _ _) | exact Below.drewN' _ _ | exact b_refl _)⟩, by simp [intOf]; omega⟩
                        intro jj hj hlt
                        by_cases hji : jj = j + 1
                        · subst hji
                          exact ⟨by rw [← HT.out]; exact HGOOD.out, fun _ => by show lt (l[j]'(by omega)).key l[j + 1].key = true; rw [← HPK.out, ← HT.out]; exact HLT.out⟩
                        · exact hH.out jj hj (by omega)
                      | false =>
                        rw [g4] at c5
                        cases g5 : (t.now == []) with
                        | true =>
                          have g5b : (t.now != []) = false := by rw [bne, g5]; rfl
                          have HGOOD := Lib.hid (show fitsR a t = true from by unfold fitsR; rw [← HH1.out, ← HW1.out, g2, g3, he, hq]; simp [g4, g5])
                          go_wp2
                          go_quiet (fail)
                          go_wp2
                          refine ⟨⟨j + 1 + 1, by omega, by go_num, ?_, bt HB.out (by first | exact bt (Below.drewN' _ _) (Below.drewN' _ _) | exact Below.drewN' _ _ | exact b_refl _)⟩, by simp [intOf]; omega⟩
                          intro jj hj hlt
                          by_cases hji : jj = j + 1
                          · subst hji
                            exact ⟨by rw [← HT.out]; exact HGOOD.out, fun _ => by show lt (l[j]'(by omega)).key l[j + 1].key = true; rw [← HPK.out, ← HT.out]; exact HLT.out⟩
                          · exact hH.out jj hj (by omega)
                        | false =>
                          have g5b : (t.now != []) = true := by rw [bne, g5]; rfl
                          have HBAD := Lib.hid (show okA a l = false from okA_fits (j + 1) h0 (by rw [← HT.out]; unfold fitsR; rw [← HH1.out, ← HW1.out]; simp [g4, g5]))
                          go_wp2
                          go_quiet (fail)
                          go_wp2
                          go_ret2
                          refine ⟨?_, bt HB.out (by first | exact bt (Below.drewN' _ _) (Below.drewN' _ _) | exact Below.drewN' _ _ | exact b_refl _)⟩
                          unfold RApRes
                          rw [HBAD.out]
                          rfl
                all_goals
                  try clear t0
                  have HNL := Lib.hid t1
                  unfold lt at t1 t2
                  have HBAD := Lib.hid (show okA a l = false from okA_rise (riseT_false l j h0 (by rw [← HPK.out, ← HT.out]; exact HNL.out)))
                  go_wp2
                  go_quiet (fail)
                  go_wp2
                  go_ret2
                  refine ⟨?_, bt HB.out (by first | exact bt (Below.drewN' _ _) (Below.drewN' _ _) | exact Below.drewN' _ _ | exact b_refl _)⟩
                  unfold RApRes
                  rw [HBAD.out]
                  rfl
      · have hok := okA_true (l := l) HOA.out fun j hj => ⟨(hH.out j hj (by omega)).1, fun hj' => (hH.out (j + 1) hj' (by omega)).2 (by omega)⟩
        have HOK := Lib.hid hok
        obtain rfl : i = l.length := by omega
        have hrise : riseT l = true := by unfold okA at hok; simp only [Bool.and_eq_true] at hok; exact hok.2.1
        have HRL := Lib.hid (show ∀ j (h : j + 1 < l.length), lt l[j].key l[j + 1].key = true from fun j h => by have := (rise_iff _).1 hrise j (by simpa [keysT] using h); simpa [keysT] using this)
        have HRA := Lib.hid (show ∀ j (h : j + 1 < a.length), lt a[j].1 a[j + 1].1 = true from fun j h => by have := (rise_iff _).1 HOA.out j (by simpa [keysP] using h); simpa [keysP] using this)
        clear hok hH hrise
        go_wp2
        go_loopw [10, 11, 12] (fun vo vk vi wx => ∃ i k : Nat, ∃ M Av Cv, vo = .slice Av (List.length M) Cv ∧ vk = .int .i64 (k : Int) ∧ vi = .int .i64 (i : Int) ∧ i ≤ a.length + 1 ∧ k ≤ l.length ∧ Hid (i ≤ a.length → St a l i k M) ∧ Hid (i = a.length + 1 → M = outG a l) ∧ Hid (OP wx Wr.heap.size (.slice Av M.length Cv) M) ∧ Hid (Below Wr.heap.size Wr wx)) (fun _ _ t _ => a.length + 1 - (intOf t).toNat)
        case atStart => exact ⟨0, 0, [], none, 0, rfl, rfl, rfl, by omega, by omega, fun _ => .inl ⟨rfl, fun h => absurd h (by omega)⟩, fun h => absurd h (by omega), OP.nil _ _, b_refl _⟩
        case round =>
          obtain ⟨i, k, M, Av, Cv, rfl, rfl, rfl, hi, hk, HST, HFIN, HO, HBx⟩ := hrel
          obtain ⟨Wo, hWo⟩ : ∃ Wo, Wo = wr := ⟨_, rfl⟩
          subst hWo
          by_cases h0 : i ≤ a.length
          · have i0 : (i : Int) ≤ (a.length : Int) := by omega
            have i1 : (0 : Int) ≤ (i : Int) := by omega
            have HS0 := Lib.hid (HST.out h0)
            clear HST HFIN
            go_wp2
            go_loopw [10, 11] (fun vo vk wx => ∃ k : Nat, ∃ M Av Cv, vo = .slice Av (List.length M) Cv ∧ vk = .int .i64 (k : Int) ∧ k ≤ l.length ∧ Hid (St a l i k M) ∧ Hid (OP wx Wr.heap.size (.slice Av M.length Cv) M) ∧ Hid (Below Wr.heap.size Wr wx)) (fun _ t _ => l.length - (intOf t).toNat)
            case atStart => exact ⟨k, M, Av, Cv, rfl, rfl, hk, HS0.out, HO.out, HBx.out⟩
            case round =>
              clear HS0 HO HBx hk
              obtain ⟨k, M, Av, Cv, rfl, rfl, hk, HS, HO, HBx⟩ := hrel
              obtain ⟨Wi, hWi⟩ : ∃ Wi, Wi = wr := ⟨_, rfl⟩
              subst hWi
              by_cases hkl : k < l.length
              · have k1 : (k : Int) < (l.length : Int) := by omega
                have k2 : (0 : Int) ≤ (k : Int) := by omega
                obtain ⟨b0, o0, rfl, c1, _, c3, _, c5⟩ := HCT.out k hkl
                obtain ⟨t, ht⟩ : ∃ t, t = l[k]'hkl := ⟨_, rfl⟩
                rw [← ht] at c1 c3 c5
                have HC1 := Lib.hid (Below.keeps (bt HB.out HBx.out) c1)
                have HC3 := Lib.hid (Below.keeps (bt HB.out HBx.out) c3)
                have HC5 := Lib.hid (Below.keeps (bt HB.out HBx.out) c5)
                have HT := Lib.hid ht
                clear c1 c3 c5 ht
                by_cases hin : i = a.length
                · have e1 : ((i : Int) == (a.length : Int)) = true := by rw [beq_iff_eq]; omega
                  have HIN := Lib.hid hin
                  clear hin
                  go_wp2
                  refine region_known [] (by kernel_rfl) (by kernel_rfl) ?_
                  (repeat (first | (refine wpG_skip (by kernel_rfl) (fun K hK => ?_); go_big_quiet_skip; refine wpQuiet_nil (hK _ ?_); clear hK K) | (refine wpG_quiet (by rfl) (by rfl) (fun K hK => ?_); go_big_quiet_want; go_big_quiet_op; go_big_quiet_on; refine wpQuiet_nil (hK _ ?_); clear hK K)))
                  refine wpG_nil ?_
                  intro w21 hBn hAn
                  have HB2 := Lib.hid (show Below Wi.heap.size Wi w21 from hBn)
                  clear hBn hAn
                  have c1 := Below.keeps HB2.out HC1.out
                  have c3 := Below.keeps HB2.out HC3.out
                  have c5 := Below.keeps HB2.out HC5.out
                  have HST2 := Lib.hid (show St a l i (k + 1) (M ++ putT t) by rw [HT.out]; exact St_a HS.out HIN.out hkl)
                  cases hh : t.has with
                  | false =>
                    rw [hh] at c5
                    have HP := Lib.hid (show M ++ putT t = M by unfold putT; rw [hh]; simp)
                    clear hh
                    go_wp2
                    refine ⟨⟨k + 1, M, Av, Cv, rfl, by go_num, by omega, by rw [← HP.out]; exact HST2.out, HO.out.below HB2.out, HBx.out.trans (HB2.out.mono HBx.out.size)⟩, by simp [intOf]; omega⟩
                  | true =>
                    rw [hh] at c5
                    have HP := Lib.hid (show M ++ putT t = M ++ [(t.key, t.now)] by unfold putT; rw [hh]; simp)
                    have hownd := World.ownsRow.drew (OP.below HO.out HB2.out)
                    have hby := by32g (St.len HS.out) (Nat.add_le_add hla hll)
                    have hbase : Wr.heap.size ≤ w21.drew.heap.size := Nat.le_trans HBx.out.size HB2.out.size
                    have hb0 := lt_of_cell c1
                    clear hh
                    go_wp2
                    go_region_law (refine step_append1P w21.drew (t.key, t.now) rfl _ _ 22 rfl Try.underlying22 Wr.heap.size _ M rfl hownd _ rfl hby hbase ?_; intro g cap w3 hown3 hB3)
                    all_goals
                      have HO3 := Lib.hid hown3
                      have HB3 := Lib.hid (((HBx.out.trans (HB2.out.mono HBx.out.size)).drew).trans hB3)
                      clear hown3 hB3 hownd c1 c3 c5
                      simp only [List.getElem_toArray, List.getElem_cons_succ, List.getElem_cons_zero]
                      go_frame
                      go_wp2
                      refine ⟨⟨k + 1, M ++ [(t.key, t.now)], _, _, by rw [List.length_append]; rfl, by go_num, by omega, by rw [← HP.out]; exact HST2.out, by rw [List.length_append]; exact HO3.out, HB3.out⟩, by simp [intOf]; omega⟩
                · have e1 : ((i : Int) == (a.length : Int)) = false := by rw [beq_eq_false_iff_ne]; omega
                  have hil : i < a.length := by omega
                  have i5 : (i : Int) < (a.length : Int) := by omega
                  clear hin
                  obtain ⟨b8, o8, rfl, d1, d2⟩ := HCA.out i hil
                  have HD1 := Lib.hid (Below.keeps (bt HB.out HBx.out) d1)
                  have HD2 := Lib.hid (Below.keeps (bt HB.out HBx.out) d2)
                  clear d1 d2
                  rcases lt3 t.key (a[i]'hil).1 with ⟨t1, t2, t3, t4⟩ | ⟨t1, t2, t3, t4⟩ | ⟨t0, t1, t2, t3, t4⟩
                  · have HL := Lib.hid t1
                    unfold lt at t1 t2
                    go_wp2
                    refine region_known [(14, .exact Bel (.string (bs t.key))), (19, .exact Bel (.string (bs (a[i]'hil).1)))] (by kernel_rfl) (by kernel_rfl) ?_
                    (repeat (first | (refine wpG_skip (by kernel_rfl) (fun K hK => ?_); go_big_quiet_skip; refine wpQuiet_nil (hK _ ?_); clear hK K) | (refine wpG_quiet (by rfl) (by rfl) (fun K hK => ?_); go_big_quiet_want; go_big_quiet_op; go_big_quiet_on; refine wpQuiet_nil (hK _ ?_); clear hK K)))
                    refine wpG_exact rfl (by kernel_rfl) (fun w' G hB hS hG => ?_) (fun K hK => ?_)
                    · have cc := Below.keeps hB HC1.out
                      go_simp
                      exact hG _ (Bel.refl _)
                    go_simp; refine hK _ ?_; clear hK K; (repeat (first | (refine wpG_skip (by kernel_rfl) (fun K hK => ?_); go_big_quiet_skip; refine wpQuiet_nil (hK _ ?_); clear hK K) | (refine wpG_quiet (by rfl) (by rfl) (fun K hK => ?_); go_big_quiet_want; go_big_quiet_op; go_big_quiet_on; refine wpQuiet_nil (hK _ ?_); clear hK K)))
                    refine wpG_exact rfl (by kernel_rfl) (fun w' G hB hS hG => ?_) (fun K hK => ?_)
                    · have cc := Below.keeps hB HD1.out
                      go_simp
                      exact hG _ (Bel.refl _)
                    go_simp; refine hK _ ?_; clear hK K; (repeat (first | (refine wpG_skip (by kernel_rfl) (fun K hK => ?_); go_big_quiet_skip; refine wpQuiet_nil (hK _ ?_); clear hK K) | (refine wpG_quiet (by rfl) (by rfl) (fun K hK => ?_); go_big_quiet_want; go_big_quiet_op; go_big_quiet_on; refine wpQuiet_nil (hK _ ?_); clear hK K)))
                    refine wpG_nil ?_
                    intro w22 hBn hAn
                    have HB2 := Lib.hid (show Below Wi.heap.size Wi w22 from hBn)
                    clear hBn hAn
                    have c1 := Below.keeps HB2.out HC1.out
                    have c3 := Below.keeps HB2.out HC3.out
                    have c5 := Below.keeps HB2.out HC5.out
                    have HST2 := Lib.hid (show St a l i (k + 1) (M ++ putT t) by rw [HT.out]; exact St_b HRL.out HS.out hil hkl (by rw [← HT.out]; exact HL.out))
                    cases hh : t.has with
                    | false =>
                      rw [hh] at c5
                      have HP := Lib.hid (show M ++ putT t = M by unfold putT; rw [hh]; simp)
                      clear hh
                      go_wp2
                      refine ⟨⟨k + 1, M, Av, Cv, rfl, by go_num, by omega, by rw [← HP.out]; exact HST2.out, HO.out.below HB2.out, HBx.out.trans (HB2.out.mono HBx.out.size)⟩, by simp [intOf]; omega⟩
                    | true =>
                      rw [hh] at c5
                      have HP := Lib.hid (show M ++ putT t = M ++ [(t.key, t.now)] by unfold putT; rw [hh]; simp)
                      have hownd := World.ownsRow.drew (OP.below HO.out HB2.out)
                      have hby := by32g (St.len HS.out) (Nat.add_le_add hla hll)
                      have hbase : Wr.heap.size ≤ w22.drew.heap.size := Nat.le_trans HBx.out.size HB2.out.size
                      have hb0 := lt_of_cell c1
                      clear hh
                      go_wp2
                      go_region_law (refine step_append1P w22.drew (t.key, t.now) rfl _ _ 22 rfl Try.underlying22 Wr.heap.size _ M rfl hownd _ rfl hby hbase ?_; intro g cap w3 hown3 hB3)
                      all_goals
                        have HO3 := Lib.hid hown3
                        have HB3 := Lib.hid (((HBx.out.trans (HB2.out.mono HBx.out.size)).drew).trans hB3)
                        clear hown3 hB3 hownd c1 c3 c5
                        simp only [List.getElem_toArray, List.getElem_cons_succ, List.getElem_cons_zero]
                        go_frame
                        go_wp2
                        refine ⟨⟨k + 1, M ++ [(t.key, t.now)], _, _, by rw [List.length_append]; rfl, by go_num, by omega, by rw [← HP.out]; exact HST2.out, by rw [List.length_append]; exact HO3.out, HB3.out⟩, by simp [intOf]; omega⟩
                  · have HG := Lib.hid (show ∀ (hk : k < l.length), lt (a[i]'hil).1 l[k].key = true from fun _ => by rw [← HT.out]; exact t2)
                    unfold lt at t1 t2
                    have hcaseK : k = 0 ∨ ∃ j, k = j + 1 := by cases k with | zero => exact .inl rfl | succ j => exact .inr ⟨j, rfl⟩
                    rcases hcaseK with rfl | ⟨j, rfl⟩
                    · rw [show ((0 : Nat) : Int) = 0 from rfl]
                      rw [Nat.zero_mul, Nat.add_zero] at HC1
                      have HSP := Lib.hid (St_put HRA.out HS.out hil (fun h _ => absurd h (by omega)) HG.out)
                      go_wp2
                      refine region_known [(14, .exact Bel (.string (bs t.key))), (19, .exact Bel (.string (bs (a[i]'hil).1)))] (by kernel_rfl) (by kernel_rfl) ?_
                      (repeat (first | (refine wpG_skip (by kernel_rfl) (fun K hK => ?_); go_big_quiet_skip; refine wpQuiet_nil (hK _ ?_); clear hK K) | (refine wpG_quiet (by rfl) (by rfl) (fun K hK => ?_); go_big_quiet_want; go_big_quiet_op; go_big_quiet_on; refine wpQuiet_nil (hK _ ?_); clear hK K)))
                      refine wpG_exact rfl (by kernel_rfl) (fun w' G hB hS hG => ?_) (fun K hK => ?_)
                      · have cc := Below.keeps hB HC1.out
                        go_simp
                        exact hG _ (Bel.refl _)
                      go_simp; refine hK _ ?_; clear hK K; (repeat (first | (refine wpG_skip (by kernel_rfl) (fun K hK => ?_); go_big_quiet_skip; refine wpQuiet_nil (hK _ ?_); clear hK K) | (refine wpG_quiet (by rfl) (by rfl) (fun K hK => ?_); go_big_quiet_want; go_big_quiet_op; go_big_quiet_on; refine wpQuiet_nil (hK _ ?_); clear hK K)))
                      refine wpG_exact rfl (by kernel_rfl) (fun w' G hB hS hG => ?_) (fun K hK => ?_)
                      · have cc := Below.keeps hB HD1.out
                        go_simp
                        exact hG _ (Bel.refl _)
                      go_simp; refine hK _ ?_; clear hK K; (repeat (first | (refine wpG_skip (by kernel_rfl) (fun K hK => ?_); go_big_quiet_skip; refine wpQuiet_nil (hK _ ?_); clear hK K) | (refine wpG_quiet (by rfl) (by rfl) (fun K hK => ?_); go_big_quiet_want; go_big_quiet_op; go_big_quiet_on; refine wpQuiet_nil (hK _ ?_); clear hK K)))
                      refine wpG_nil ?_
                      intro w23 hBn hAn
                      have HB2 := Lib.hid (show Below Wi.heap.size Wi w23 from hBn)
                      clear hBn hAn
                      go_wp2
                      refine region_known [] (by kernel_rfl) (by kernel_rfl) ?_
                      (repeat (first | (refine wpG_skip (by kernel_rfl) (fun K hK => ?_); go_big_quiet_skip; refine wpQuiet_nil (hK _ ?_); clear hK K) | (refine wpG_quiet (by rfl) (by rfl) (fun K hK => ?_); go_big_quiet_want; go_big_quiet_op; go_big_quiet_on; refine wpQuiet_nil (hK _ ?_); clear hK K)))
                      refine wpG_nil ?_
                      intro w24 hBn hAn
                      have HB3 := Lib.hid (bt HB2.out hBn)
                      clear hBn hAn
                      have d1 := Below.keeps HB3.out HD1.out
                      have d2 := Below.keeps HB3.out HD2.out
                      have hby := by32g (St.len HS.out) (Nat.add_le_add hla hll)
                      have hbase : Wr.heap.size ≤ w24.heap.size := Nat.le_trans HBx.out.size HB3.out.size
                      go_wp2_with (at_builtin; go_must (refine append1P w24 (a[i]'hil) rfl _ _ 22 rfl Try.underlying22 Wr.heap.size (.slice Av M.length Cv) M rfl (OP.below HO.out HB3.out) _ rfl hby hbase ?_); intro v3 w9 hown3 hB9; have hown4 := hown3; unfold OP at hown4; rw [List.length_append] at hown4; obtain ⟨g, cap, rfl⟩ := ownsRow_succ hown4; have HO9 := Lib.hid hown3; have HB9 := Lib.hid ((HBx.out.trans (HB3.out.mono HBx.out.size)).trans hB9); clear hown3 hown4 hB9 d1 d2)
                      refine ⟨⟨i + 1, 0, M ++ [a[i]'hil], _, _, by rw [List.length_append]; rfl, rfl, by go_num, by omega, hk, fun _ => HSP.out, fun h => absurd h (by omega), by rw [List.length_append]; exact HO9.out, HB9.out⟩, by simp [intOf]; omega⟩
                    · have hjl : j < l.length := by omega
                      obtain ⟨b7, o7, hb7, p1, _, _, _, _⟩ := HCT.out j hjl
                      have j1 : (0 : Int) < (j : Int) + 1 := by omega
                      have j2 : (j : Int) < (l.length : Int) := by omega
                      have j3 : (0 : Int) ≤ (j : Int) := by omega
                      have j4 : (((j : Int) + 1) == 0) = false := by rw [beq_eq_false_iff_ne]; omega
                      have j5 : (j : Int) + 1 < (l.length : Int) := by omega
                      have j6 : (0 : Int) ≤ (j : Int) + 1 := by omega
                      cases hb7
                      have HP1 := Lib.hid (Below.keeps (bt HB.out HBx.out) p1)
                      clear p1
                      by_cases he : l[j].key = (a[i]'hil).1
                      · have HE := Lib.hid he
                        have e5 : (l[j].key == (a[i]'hil).1) = true := by rw [beq_iff_eq]; exact he
                        have e6 : (l[j].key != (a[i]'hil).1) = false := by rw [bne_eq_false_iff_eq]; exact he
                        clear he
                        have HSP := Lib.hid (St_eq HRA.out HS.out hil (by omega) (by omega) HE.out)
                        go_wp2
                        refine region_known [(14, .exact Bel (.string (bs t.key))), (19, .exact Bel (.string (bs (a[i]'hil).1)))] (by kernel_rfl) (by kernel_rfl) ?_
                        (repeat (first | (refine wpG_skip (by kernel_rfl) (fun K hK => ?_); go_big_quiet_skip; refine wpQuiet_nil (hK _ ?_); clear hK K) | (refine wpG_quiet (by rfl) (by rfl) (fun K hK => ?_); go_big_quiet_want; go_big_quiet_op; go_big_quiet_on; refine wpQuiet_nil (hK _ ?_); clear hK K)))
                        refine wpG_exact rfl (by kernel_rfl) (fun w' G hB hS hG => ?_) (fun K hK => ?_)
                        · have cc := Below.keeps hB HC1.out
                          go_simp
                          exact hG _ (Bel.refl _)
                        go_simp; refine hK _ ?_; clear hK K; (repeat (first | (refine wpG_skip (by kernel_rfl) (fun K hK => ?_); go_big_quiet_skip; refine wpQuiet_nil (hK _ ?_); clear hK K) | (refine wpG_quiet (by rfl) (by rfl) (fun K hK => ?_); go_big_quiet_want; go_big_quiet_op; go_big_quiet_on; refine wpQuiet_nil (hK _ ?_); clear hK K)))
                        refine wpG_exact rfl (by kernel_rfl) (fun w' G hB hS hG => ?_) (fun K hK => ?_)
                        · have cc := Below.keeps hB HD1.out
                          go_simp
                          exact hG _ (Bel.refl _)
                        go_simp; refine hK _ ?_; clear hK K; (repeat (first | (refine wpG_skip (by kernel_rfl) (fun K hK => ?_); go_big_quiet_skip; refine wpQuiet_nil (hK _ ?_); clear hK K) | (refine wpG_quiet (by rfl) (by rfl) (fun K hK => ?_); go_big_quiet_want; go_big_quiet_op; go_big_quiet_on; refine wpQuiet_nil (hK _ ?_); clear hK K)))
                        refine wpG_nil ?_
                        intro w25 hBn hAn
                        have HB2 := Lib.hid (show Below Wi.heap.size Wi w25 from hBn)
                        clear hBn hAn
                        go_wp2
                        refine region_known [(13, .exact Bel (.string (bs l[j].key))), (18, .exact Bel (.string (bs (a[i]'hil).1)))] (by kernel_rfl) (by kernel_rfl) ?_
                        (repeat (first | (refine wpG_skip (by kernel_rfl) (fun K hK => ?_); go_big_quiet_skip; refine wpQuiet_nil (hK _ ?_); clear hK K) | (refine wpG_quiet (by rfl) (by rfl) (fun K hK => ?_); go_big_quiet_want; go_big_quiet_op; go_big_quiet_on; refine wpQuiet_nil (hK _ ?_); clear hK K)))
                        refine wpG_exact rfl (by kernel_rfl) (fun w' G hB hS hG => ?_) (fun K hK => ?_)
                        · have cc := Below.keeps (bt HB2.out hB) HP1.out
                          go_simp
                          exact hG _ (Bel.refl _)
                        go_simp; refine hK _ ?_; clear hK K; (repeat (first | (refine wpG_skip (by kernel_rfl) (fun K hK => ?_); go_big_quiet_skip; refine wpQuiet_nil (hK _ ?_); clear hK K) | (refine wpG_quiet (by rfl) (by rfl) (fun K hK => ?_); go_big_quiet_want; go_big_quiet_op; go_big_quiet_on; refine wpQuiet_nil (hK _ ?_); clear hK K)))
                        refine wpG_exact rfl (by kernel_rfl) (fun w' G hB hS hG => ?_) (fun K hK => ?_)
                        · have cc := Below.keeps (bt HB2.out hB) HD1.out
                          go_simp
                          exact hG _ (Bel.refl _)
                        go_simp; refine hK _ ?_; clear hK K; (repeat (first | (refine wpG_skip (by kernel_rfl) (fun K hK => ?_); go_big_quiet_skip; refine wpQuiet_nil (hK _ ?_); clear hK K) | (refine wpG_quiet (by rfl) (by rfl) (fun K hK => ?_); go_big_quiet_want; go_big_quiet_op; go_big_quiet_on; refine wpQuiet_nil (hK _ ?_); clear hK K)))
                        refine wpG_nil ?_
                        intro w26 hBn hAn
                        have HB3 := Lib.hid (bt HB2.out hBn)
                        clear hBn hAn
                        go_wp2
                        refine ⟨⟨i + 1, j + 1, M, _, _, rfl, rfl, by go_num, by omega, hk, fun _ => HSP.out, fun h => absurd h (by omega), HO.out.below HB3.out, HBx.out.trans (HB3.out.mono HBx.out.size)⟩, by simp [intOf]; omega⟩
                      · have HE := Lib.hid he
                        have e5 : (l[j].key == (a[i]'hil).1) = false := by rw [beq_eq_false_iff_ne]; exact he
                        have e6 : (l[j].key != (a[i]'hil).1) = true := by rw [bne_iff_ne]; exact he
                        clear he
                        have HSP := Lib.hid (St_put HRA.out HS.out hil (fun _ _ => HE.out) HG.out)
                        go_wp2
                        refine region_known [(14, .exact Bel (.string (bs t.key))), (19, .exact Bel (.string (bs (a[i]'hil).1)))] (by kernel_rfl) (by kernel_rfl) ?_
                        (repeat (first | (refine wpG_skip (by kernel_rfl) (fun K hK => ?_); go_big_quiet_skip; refine wpQuiet_nil (hK _ ?_); clear hK K) | (refine wpG_quiet (by rfl) (by rfl) (fun K hK => ?_); go_big_quiet_want; go_big_quiet_op; go_big_quiet_on; refine wpQuiet_nil (hK _ ?_); clear hK K)))
                        refine wpG_exact rfl (by kernel_rfl) (fun w' G hB hS hG => ?_) (fun K hK => ?_)
                        · have cc := Below.keeps hB HC1.out
                          go_simp
                          exact hG _ (Bel.refl _)
                        go_simp; refine hK _ ?_; clear hK K; (repeat (first | (refine wpG_skip (by kernel_rfl) (fun K hK => ?_); go_big_quiet_skip; refine wpQuiet_nil (hK _ ?_); clear hK K) | (refine wpG_quiet (by rfl) (by rfl) (fun K hK => ?_); go_big_quiet_want; go_big_quiet_op; go_big_quiet_on; refine wpQuiet_nil (hK _ ?_); clear hK K)))
                        refine wpG_exact rfl (by kernel_rfl) (fun w' G hB hS hG => ?_) (fun K hK => ?_)
                        · have cc := Below.keeps hB HD1.out
                          go_simp
                          exact hG _ (Bel.refl _)
                        go_simp; refine hK _ ?_; clear hK K; (repeat (first | (refine wpG_skip (by kernel_rfl) (fun K hK => ?_); go_big_quiet_skip; refine wpQuiet_nil (hK _ ?_); clear hK K) | (refine wpG_quiet (by rfl) (by rfl) (fun K hK => ?_); go_big_quiet_want; go_big_quiet_op; go_big_quiet_on; refine wpQuiet_nil (hK _ ?_); clear hK K)))
                        refine wpG_nil ?_
                        intro w27 hBn hAn
                        have HB2 := Lib.hid (show Below Wi.heap.size Wi w27 from hBn)
                        clear hBn hAn
                        go_wp2
                        refine region_known [(13, .exact Bel (.string (bs l[j].key))), (18, .exact Bel (.string (bs (a[i]'hil).1)))] (by kernel_rfl) (by kernel_rfl) ?_
                        (repeat (first | (refine wpG_skip (by kernel_rfl) (fun K hK => ?_); go_big_quiet_skip; refine wpQuiet_nil (hK _ ?_); clear hK K) | (refine wpG_quiet (by rfl) (by rfl) (fun K hK => ?_); go_big_quiet_want; go_big_quiet_op; go_big_quiet_on; refine wpQuiet_nil (hK _ ?_); clear hK K)))
                        refine wpG_exact rfl (by kernel_rfl) (fun w' G hB hS hG => ?_) (fun K hK => ?_)
                        · have cc := Below.keeps (bt HB2.out hB) HP1.out
                          go_simp
                          exact hG _ (Bel.refl _)
                        go_simp; refine hK _ ?_; clear hK K; (repeat (first | (refine wpG_skip (by kernel_rfl) (fun K hK => ?_); go_big_quiet_skip; refine wpQuiet_nil (hK _ ?_); clear hK K) | (refine wpG_quiet (by rfl) (by rfl) (fun K hK => ?_); go_big_quiet_want; go_big_quiet_op; go_big_quiet_on; refine wpQuiet_nil (hK _ ?_); clear hK K)))
                        refine wpG_exact rfl (by kernel_rfl) (fun w' G hB hS hG => ?_) (fun K hK => ?_)
                        · have cc := Below.keeps (bt HB2.out hB) HD1.out
                          go_simp
                          exact hG _ (Bel.refl _)
                        go_simp; refine hK _ ?_; clear hK K; (repeat (first | (refine wpG_skip (by kernel_rfl) (fun K hK => ?_); go_big_quiet_skip; refine wpQuiet_nil (hK _ ?_); clear hK K) | (refine wpG_quiet (by rfl) (by rfl) (fun K hK => ?_); go_big_quiet_want; go_big_quiet_op; go_big_quiet_on; refine wpQuiet_nil (hK _ ?_); clear hK K)))
                        refine wpG_nil ?_
                        intro w28 hBn hAn
                        have HB3 := Lib.hid (bt HB2.out hBn)
                        clear hBn hAn
                        have d1 := Below.keeps HB3.out HD1.out
                        have d2 := Below.keeps HB3.out HD2.out
                        have hby := by32g (St.len HS.out) (Nat.add_le_add hla hll)
                        have hbase : Wr.heap.size ≤ w28.heap.size := Nat.le_trans HBx.out.size HB3.out.size
                        go_wp2_with (at_builtin; go_must (refine append1P w28 (a[i]'hil) rfl _ _ 22 rfl Try.underlying22 Wr.heap.size (.slice Av M.length Cv) M rfl (OP.below HO.out HB3.out) _ rfl hby hbase ?_); intro v3 w9 hown3 hB9; have hown4 := hown3; unfold OP at hown4; rw [List.length_append] at hown4; obtain ⟨g, cap, rfl⟩ := ownsRow_succ hown4; have HO9 := Lib.hid hown3; have HB9 := Lib.hid ((HBx.out.trans (HB3.out.mono HBx.out.size)).trans hB9); clear hown3 hown4 hB9 d1 d2)
                        refine ⟨⟨i + 1, j + 1, M ++ [a[i]'hil], _, _, by rw [List.length_append]; rfl, rfl, by go_num, by omega, hk, fun _ => HSP.out, fun h => absurd h (by omega), by rw [List.length_append]; exact HO9.out, HB9.out⟩, by simp [intOf]; omega⟩
                  · have HE0 := Lib.hid t0
                    clear t0
                    unfold lt at t1 t2
                    go_wp2
                    refine region_known [(14, .exact Bel (.string (bs t.key))), (19, .exact Bel (.string (bs (a[i]'hil).1)))] (by kernel_rfl) (by kernel_rfl) ?_
                    (repeat (first | (refine wpG_skip (by kernel_rfl) (fun K hK => ?_); go_big_quiet_skip; refine wpQuiet_nil (hK _ ?_); clear hK K) | (refine wpG_quiet (by rfl) (by rfl) (fun K hK => ?_); go_big_quiet_want; go_big_quiet_op; go_big_quiet_on; refine wpQuiet_nil (hK _ ?_); clear hK K)))
                    refine wpG_exact rfl (by kernel_rfl) (fun w' G hB hS hG => ?_) (fun K hK => ?_)
                    · have cc := Below.keeps hB HC1.out
                      go_simp
                      exact hG _ (Bel.refl _)
                    go_simp; refine hK _ ?_; clear hK K; (repeat (first | (refine wpG_skip (by kernel_rfl) (fun K hK => ?_); go_big_quiet_skip; refine wpQuiet_nil (hK _ ?_); clear hK K) | (refine wpG_quiet (by rfl) (by rfl) (fun K hK => ?_); go_big_quiet_want; go_big_quiet_op; go_big_quiet_on; refine wpQuiet_nil (hK _ ?_); clear hK K)))
                    refine wpG_exact rfl (by kernel_rfl) (fun w' G hB hS hG => ?_) (fun K hK => ?_)
                    · have cc := Below.keeps hB HD1.out
                      go_simp
                      exact hG _ (Bel.refl _)
                    go_simp; refine hK _ ?_; clear hK K; (repeat (first | (refine wpG_skip (by kernel_rfl) (fun K hK => ?_); go_big_quiet_skip; refine wpQuiet_nil (hK _ ?_); clear hK K) | (refine wpG_quiet (by rfl) (by rfl) (fun K hK => ?_); go_big_quiet_want; go_big_quiet_op; go_big_quiet_on; refine wpQuiet_nil (hK _ ?_); clear hK K)))
                    refine wpG_nil ?_
                    intro w29 hBn hAn
                    have HB2 := Lib.hid (show Below Wi.heap.size Wi w29 from hBn)
                    clear hBn hAn
                    have c1 := Below.keeps HB2.out HC1.out
                    have c3 := Below.keeps HB2.out HC3.out
                    have c5 := Below.keeps HB2.out HC5.out
                    have HST2 := Lib.hid (show St a l i (k + 1) (M ++ putT t) by rw [HT.out]; exact St_c HRL.out HS.out hil hkl (by rw [← HT.out]; exact HE0.out))
                    cases hh : t.has with
                    | false =>
                      rw [hh] at c5
                      have HP := Lib.hid (show M ++ putT t = M by unfold putT; rw [hh]; simp)
                      clear hh
                      go_wp2
                      refine ⟨⟨k + 1, M, Av, Cv, rfl, by go_num, by omega, by rw [← HP.out]; exact HST2.out, HO.out.below HB2.out, HBx.out.trans (HB2.out.mono HBx.out.size)⟩, by simp [intOf]; omega⟩
                    | true =>
                      rw [hh] at c5
                      have HP := Lib.hid (show M ++ putT t = M ++ [(t.key, t.now)] by unfold putT; rw [hh]; simp)
                      have hownd := World.ownsRow.drew (OP.below HO.out HB2.out)
                      have hby := by32g (St.len HS.out) (Nat.add_le_add hla hll)
                      have hbase : Wr.heap.size ≤ w29.drew.heap.size := Nat.le_trans HBx.out.size HB2.out.size
                      have hb0 := lt_of_cell c1
                      clear hh
                      go_wp2
                      go_region_law (refine step_append1P w29.drew (t.key, t.now) rfl _ _ 22 rfl Try.underlying22 Wr.heap.size _ M rfl hownd _ rfl hby hbase ?_; intro g cap w3 hown3 hB3)
                      all_goals
                        have HO3 := Lib.hid hown3
                        have HB3 := Lib.hid (((HBx.out.trans (HB2.out.mono HBx.out.size)).drew).trans hB3)
                        clear hown3 hB3 hownd c1 c3 c5
                        simp only [List.getElem_toArray, List.getElem_cons_succ, List.getElem_cons_zero]
                        go_frame
                        go_wp2
                        refine ⟨⟨k + 1, M ++ [(t.key, t.now)], _, _, by rw [List.length_append]; rfl, by go_num, by omega, by rw [← HP.out]; exact HST2.out, by rw [List.length_append]; exact HO3.out, HB3.out⟩, by simp [intOf]; omega⟩
              · have k1 : ¬ (k : Int) < (l.length : Int) := by omega
                have hke : k = l.length := by omega
                by_cases hin : i = a.length
                · have i5 : ¬ (i : Int) < (a.length : Int) := by omega
                  have i6 : decide ((i : Int) < (a.length : Int)) = false := decide_eq_false i5
                  have i7 : ¬ i < a.length := by omega
                  have HDN := Lib.hid (St_done HS.out hin hke)
                  clear hin hke
                  go_wp2
                  refine region_known [] (by kernel_rfl) (by kernel_rfl) ?_
                  (repeat (first | (refine wpG_skip (by kernel_rfl) (fun K hK => ?_); go_big_quiet_skip; refine wpQuiet_nil (hK _ ?_); clear hK K) | (refine wpG_quiet (by rfl) (by rfl) (fun K hK => ?_); go_big_quiet_want; go_big_quiet_op; go_big_quiet_on; refine wpQuiet_nil (hK _ ?_); clear hK K)))
                  refine wpG_nil ?_
                  intro w30 hBn hAn
                  have HB2 := Lib.hid (show Below Wi.heap.size Wi w30 from hBn)
                  clear hBn hAn
                  go_wp2
                  refine region_known [] (by kernel_rfl) (by kernel_rfl) ?_
                  (repeat (first | (refine wpG_skip (by kernel_rfl) (fun K hK => ?_); go_big_quiet_skip; refine wpQuiet_nil (hK _ ?_); clear hK K) | (refine wpG_quiet (by rfl) (by rfl) (fun K hK => ?_); go_big_quiet_want; go_big_quiet_op; go_big_quiet_on; refine wpQuiet_nil (hK _ ?_); clear hK K)))
                  refine wpG_nil ?_
                  intro w31 hBn hAn
                  have HB3 := Lib.hid (bt HB2.out hBn)
                  clear hBn hAn
                  go_wp2
                  refine ⟨⟨i + 1, k, M, _, _, rfl, rfl, by go_num, by omega, hk, fun h => absurd h (by omega), fun _ => HDN.out, HO.out.below HB3.out, HBx.out.trans (HB3.out.mono HBx.out.size)⟩, by simp [intOf]; omega⟩
                · have hil : i < a.length := by omega
                  have i5 : (i : Int) < (a.length : Int) := by omega
                  clear hin hke
                  obtain ⟨b8, o8, rfl, d1, d2⟩ := HCA.out i hil
                  have HD1 := Lib.hid (Below.keeps (bt HB.out HBx.out) d1)
                  have HD2 := Lib.hid (Below.keeps (bt HB.out HBx.out) d2)
                  have HG := Lib.hid (show ∀ (hk : k < l.length), lt (a[i]'hil).1 l[k].key = true from fun h => absurd h hkl)
                  clear d1 d2
                  have hcaseK : k = 0 ∨ ∃ j, k = j + 1 := by cases k with | zero => exact .inl rfl | succ j => exact .inr ⟨j, rfl⟩
                  rcases hcaseK with rfl | ⟨j, rfl⟩
                  · rw [show ((0 : Nat) : Int) = 0 from rfl]
                    have HSP := Lib.hid (St_put HRA.out HS.out hil (fun h _ => absurd h (by omega)) HG.out)
                    go_wp2
                    refine region_known [] (by kernel_rfl) (by kernel_rfl) ?_
                    (repeat (first | (refine wpG_skip (by kernel_rfl) (fun K hK => ?_); go_big_quiet_skip; refine wpQuiet_nil (hK _ ?_); clear hK K) | (refine wpG_quiet (by rfl) (by rfl) (fun K hK => ?_); go_big_quiet_want; go_big_quiet_op; go_big_quiet_on; refine wpQuiet_nil (hK _ ?_); clear hK K)))
                    refine wpG_nil ?_
                    intro w32 hBn hAn
                    have HB2 := Lib.hid (show Below Wi.heap.size Wi w32 from hBn)
                    clear hBn hAn
                    go_wp2
                    refine region_known [] (by kernel_rfl) (by kernel_rfl) ?_
                    (repeat (first | (refine wpG_skip (by kernel_rfl) (fun K hK => ?_); go_big_quiet_skip; refine wpQuiet_nil (hK _ ?_); clear hK K) | (refine wpG_quiet (by rfl) (by rfl) (fun K hK => ?_); go_big_quiet_want; go_big_quiet_op; go_big_quiet_on; refine wpQuiet_nil (hK _ ?_); clear hK K)))
                    refine wpG_nil ?_
                    intro w33 hBn hAn
                    have HB3 := Lib.hid (bt HB2.out hBn)
                    clear hBn hAn
                    have d1 := Below.keeps HB3.out HD1.out
                    have d2 := Below.keeps HB3.out HD2.out
                    have hby := by32g (St.len HS.out) (Nat.add_le_add hla hll)
                    have hbase : Wr.heap.size ≤ w33.heap.size := Nat.le_trans HBx.out.size HB3.out.size
                    go_wp2_with (at_builtin; go_must (refine append1P w33 (a[i]'hil) rfl _ _ 22 rfl Try.underlying22 Wr.heap.size (.slice Av M.length Cv) M rfl (OP.below HO.out HB3.out) _ rfl hby hbase ?_); intro v3 w9 hown3 hB9; have hown4 := hown3; unfold OP at hown4; rw [List.length_append] at hown4; obtain ⟨g, cap, rfl⟩ := ownsRow_succ hown4; have HO9 := Lib.hid hown3; have HB9 := Lib.hid ((HBx.out.trans (HB3.out.mono HBx.out.size)).trans hB9); clear hown3 hown4 hB9 d1 d2)
                    refine ⟨⟨i + 1, 0, M ++ [a[i]'hil], _, _, by rw [List.length_append]; rfl, rfl, by go_num, by omega, hk, fun _ => HSP.out, fun h => absurd h (by omega), by rw [List.length_append]; exact HO9.out, HB9.out⟩, by simp [intOf]; omega⟩
                  · have hjl : j < l.length := by omega
                    obtain ⟨b7, o7, hb7, p1, _, _, _, _⟩ := HCT.out j hjl
                    have j1 : (0 : Int) < (j : Int) + 1 := by omega
                    have j2 : (j : Int) < (l.length : Int) := by omega
                    have j3 : (0 : Int) ≤ (j : Int) := by omega
                    have j4 : (((j : Int) + 1) == 0) = false := by rw [beq_eq_false_iff_ne]; omega
                    have j5 : ¬ (j : Int) + 1 < (l.length : Int) := by omega
                    have j7 : decide ((j : Int) + 1 < (l.length : Int)) = false := decide_eq_false j5
                    have j8 : (l.length : Int) ≤ (j : Int) + 1 := by omega
                    have j6 : (0 : Int) ≤ (j : Int) + 1 := by omega
                    cases hb7
                    have HP1 := Lib.hid (Below.keeps (bt HB.out HBx.out) p1)
                    clear p1
                    by_cases he : l[j].key = (a[i]'hil).1
                    · have HE := Lib.hid he
                      have e5 : (l[j].key == (a[i]'hil).1) = true := by rw [beq_iff_eq]; exact he
                      have e6 : (l[j].key != (a[i]'hil).1) = false := by rw [bne_eq_false_iff_eq]; exact he
                      clear he
                      have HSP := Lib.hid (St_eq HRA.out HS.out hil (by omega) (by omega) HE.out)
                      go_wp2
                      refine region_known [] (by kernel_rfl) (by kernel_rfl) ?_
                      (repeat (first | (refine wpG_skip (by kernel_rfl) (fun K hK => ?_); go_big_quiet_skip; refine wpQuiet_nil (hK _ ?_); clear hK K) | (refine wpG_quiet (by rfl) (by rfl) (fun K hK => ?_); go_big_quiet_want; go_big_quiet_op; go_big_quiet_on; refine wpQuiet_nil (hK _ ?_); clear hK K)))
                      refine wpG_nil ?_
                      intro w34 hBn hAn
                      have HB2 := Lib.hid (show Below Wi.heap.size Wi w34 from hBn)
                      clear hBn hAn
                      go_wp2
                      refine region_known [(13, .exact Bel (.string (bs l[j].key))), (18, .exact Bel (.string (bs (a[i]'hil).1)))] (by kernel_rfl) (by kernel_rfl) ?_
                      (repeat (first | (refine wpG_skip (by kernel_rfl) (fun K hK => ?_); go_big_quiet_skip; refine wpQuiet_nil (hK _ ?_); clear hK K) | (refine wpG_quiet (by rfl) (by rfl) (fun K hK => ?_); go_big_quiet_want; go_big_quiet_op; go_big_quiet_on; refine wpQuiet_nil (hK _ ?_); clear hK K)))
                      refine wpG_exact rfl (by kernel_rfl) (fun w' G hB hS hG => ?_) (fun K hK => ?_)
                      · have cc := Below.keeps (bt HB2.out hB) HP1.out
                        go_simp
                        exact hG _ (Bel.refl _)
                      go_simp; refine hK _ ?_; clear hK K; (repeat (first | (refine wpG_skip (by kernel_rfl) (fun K hK => ?_); go_big_quiet_skip; refine wpQuiet_nil (hK _ ?_); clear hK K) | (refine wpG_quiet (by rfl) (by rfl) (fun K hK => ?_); go_big_quiet_want; go_big_quiet_op; go_big_quiet_on; refine wpQuiet_nil (hK _ ?_); clear hK K)))
                      refine wpG_exact rfl (by kernel_rfl) (fun w' G hB hS hG => ?_) (fun K hK => ?_)
                      · have cc := Below.keeps (bt HB2.out hB) HD1.out
                        go_simp
                        exact hG _ (Bel.refl _)
                      go_simp; refine hK _ ?_; clear hK K; (repeat (first | (refine wpG_skip (by kernel_rfl) (fun K hK => ?_); go_big_quiet_skip; refine wpQuiet_nil (hK _ ?_); clear hK K) | (refine wpG_quiet (by rfl) (by rfl) (fun K hK => ?_); go_big_quiet_want; go_big_quiet_op; go_big_quiet_on; refine wpQuiet_nil (hK _ ?_); clear hK K)))
                      refine wpG_nil ?_
                      intro w35 hBn hAn
                      have HB3 := Lib.hid (bt HB2.out hBn)
                      clear hBn hAn
                      go_wp2
                      refine ⟨⟨i + 1, j + 1, M, _, _, rfl, rfl, by go_num, by omega, hk, fun _ => HSP.out, fun h => absurd h (by omega), HO.out.below HB3.out, HBx.out.trans (HB3.out.mono HBx.out.size)⟩, by simp [intOf]; omega⟩
                    · have HE := Lib.hid he
                      have e5 : (l[j].key == (a[i]'hil).1) = false := by rw [beq_eq_false_iff_ne]; exact he
                      have e6 : (l[j].key != (a[i]'hil).1) = true := by rw [bne_iff_ne]; exact he
                      clear he
                      have HSP := Lib.hid (St_put HRA.out HS.out hil (fun _ _ => HE.out) HG.out)
                      go_wp2
                      refine region_known [] (by kernel_rfl) (by kernel_rfl) ?_
                      (repeat (first | (refine wpG_skip (by kernel_rfl) (fun K hK => ?_); go_big_quiet_skip; refine wpQuiet_nil (hK _ ?_); clear hK K) | (refine wpG_quiet (by rfl) (by rfl) (fun K hK => ?_); go_big_quiet_want; go_big_quiet_op; go_big_quiet_on; refine wpQuiet_nil (hK _ ?_); clear hK K)))
                      refine wpG_nil ?_
                      intro w36 hBn hAn
                      have HB2 := Lib.hid (show Below Wi.heap.size Wi w36 from hBn)
                      clear hBn hAn
                      go_wp2
                      refine region_known [(13, .exact Bel (.string (bs l[j].key))), (18, .exact Bel (.string (bs (a[i]'hil).1)))] (by kernel_rfl) (by kernel_rfl) ?_
                      (repeat (first | (refine wpG_skip (by kernel_rfl) (fun K hK => ?_); go_big_quiet_skip; refine wpQuiet_nil (hK _ ?_); clear hK K) | (refine wpG_quiet (by rfl) (by rfl) (fun K hK => ?_); go_big_quiet_want; go_big_quiet_op; go_big_quiet_on; refine wpQuiet_nil (hK _ ?_); clear hK K)))
                      refine wpG_exact rfl (by kernel_rfl) (fun w' G hB hS hG => ?_) (fun K hK => ?_)
                      · have cc := Below.keeps (bt HB2.out hB) HP1.out
                        go_simp
                        exact hG _ (Bel.refl _)
                      go_simp; refine hK _ ?_; clear hK K; (repeat (first | (refine wpG_skip (by kernel_rfl) (fun K hK => ?_); go_big_quiet_skip; refine wpQuiet_nil (hK _ ?_); clear hK K) | (refine wpG_quiet (by rfl) (by rfl) (fun K hK => ?_); go_big_quiet_want; go_big_quiet_op; go_big_quiet_on; refine wpQuiet_nil (hK _ ?_); clear hK K)))
                      refine wpG_exact rfl (by kernel_rfl) (fun w' G hB hS hG => ?_) (fun K hK => ?_)
                      · have cc := Below.keeps (bt HB2.out hB) HD1.out
                        go_simp
                        exact hG _ (Bel.refl _)
                      go_simp; refine hK _ ?_; clear hK K; (repeat (first | (refine wpG_skip (by kernel_rfl) (fun K hK => ?_); go_big_quiet_skip; refine wpQuiet_nil (hK _ ?_); clear hK K) | (refine wpG_quiet (by rfl) (by rfl) (fun K hK => ?_); go_big_quiet_want; go_big_quiet_op; go_big_quiet_on; refine wpQuiet_nil (hK _ ?_); clear hK K)))
                      refine wpG_nil ?_
                      intro w37 hBn hAn
                      have HB3 := Lib.hid (bt HB2.out hBn)
                      clear hBn hAn
                      have d1 := Below.keeps HB3.out HD1.out
                      have d2 := Below.keeps HB3.out HD2.out
                      have hby := by32g (St.len HS.out) (Nat.add_le_add hla hll)
                      have hbase : Wr.heap.size ≤ w37.heap.size := Nat.le_trans HBx.out.size HB3.out.size
                      go_wp2_with (at_builtin; go_must (refine append1P w37 (a[i]'hil) rfl _ _ 22 rfl Try.underlying22 Wr.heap.size (.slice Av M.length Cv) M rfl (OP.below HO.out HB3.out) _ rfl hby hbase ?_); intro v3 w9 hown3 hB9; have hown4 := hown3; unfold OP at hown4; rw [List.length_append] at hown4; obtain ⟨g, cap, rfl⟩ := ownsRow_succ hown4; have HO9 := Lib.hid hown3; have HB9 := Lib.hid ((HBx.out.trans (HB3.out.mono HBx.out.size)).trans hB9); clear hown3 hown4 hB9 d1 d2)
                      refine ⟨⟨i + 1, j + 1, M ++ [a[i]'hil], _, _, by rw [List.length_append]; rfl, rfl, by go_num, by omega, hk, fun _ => HSP.out, fun h => absurd h (by omega), by rw [List.length_append]; exact HO9.out, HB9.out⟩, by simp [intOf]; omega⟩
          · have hie : i = a.length + 1 := by omega
            have HF := Lib.hid (HFIN.out hie)
            have i0 : ¬ (i : Int) ≤ (a.length : Int) := by omega
            clear hie
            go_wp2
            go_ret2
            refine ⟨?_, HB.out.trans (HBx.out.mono HB.out.size)⟩
            unfold RApRes
            rw [HOK.out]
            refine ⟨_, rfl, owns_mono ?_ HB.out.size⟩
            rw [← HF.out]
            exact HO.out
end Go.Proofs.Ytahmacnmphjhgaa
namespace Go.Proofs.Ytahmacnmphjhgaa
open Go.RowKit Oct

def w18 (p : PR) : Nat := 1 + (p.1.length + p.2.length) / 64
def c18 (l : List PR) : Nat := (l.map w18).sum
def t18 (rows : List (List PR)) : Nat := (rows.map fun r => c18 (r.take 200)).sum
def long18 (rows : List (List PR)) : Bool := decide (20 < rows.length) || decide (100 < t18 (rows.take 40))
theorem c18_take (l : List PR) (k : Nat) (h : k < l.length) : c18 (l.take (k + 1)) = c18 (l.take k) + w18 l[k] := by
  unfold c18
  rw [List.take_succ_eq_append_getElem h, List.map_append, List.sum_append]
  simp
theorem t18_take (l : List (List PR)) (k : Nat) (h : k < l.length) : t18 (l.take (k + 1)) = t18 (l.take k) + c18 (l[k].take 200) := by
  unfold t18
  rw [List.take_succ_eq_append_getElem h, List.map_append, List.sum_append]
  simp
theorem c18_le (l : List PR) : l.length ≤ c18 l := by
  induction l with
  | nil => simp [c18]
  | cons x l ih =>
    have e : c18 (x :: l) = w18 x + c18 l := by simp [c18]
    have : 1 ≤ w18 x := Nat.le_add_right _ _
    rw [List.length_cons, e]
    omega
theorem c18_mem : ∀ (l : List PR) (p : PR), p ∈ l → w18 p ≤ c18 l
  | x :: l, p, h => by
    have e : c18 (x :: l) = w18 x + c18 l := by simp [c18]
    rcases List.mem_cons.1 h with rfl | h
    · omega
    · have := c18_mem l p h; omega
theorem t18_mem : ∀ (rows : List (List PR)) (r : List PR), r ∈ rows → c18 (r.take 200) ≤ t18 rows
  | x :: l, r, h => by
    have e : t18 (x :: l) = c18 (x.take 200) + t18 l := by simp [t18]
    rcases List.mem_cons.1 h with rfl | h
    · omega
    · have := t18_mem l r h; omega
theorem long18_le (rows : List (List PR)) (h : long18 rows = false) : rows.length ≤ 20 ∧ ∀ r ∈ rows, r.length ≤ 100 ∧ ∀ p ∈ r, p.1.length ≤ 6400 ∧ p.2.length ≤ 6400 := by
  simp [long18] at h
  obtain ⟨h1, h2⟩ := h
  rw [List.take_of_length_le (by omega)] at h2
  refine ⟨h1, fun r hr => ?_⟩
  have h3 := t18_mem rows r hr
  have h4 := c18_le (r.take 200)
  rw [List.length_take] at h4
  have hl : r.length ≤ 100 := by omega
  refine ⟨hl, fun p hp => ?_⟩
  rw [List.take_of_length_le (by omega)] at h3
  have h5 := c18_mem r p hp
  unfold w18 at h5
  omega

theorem fin18 (rows : List (List PR)) (i : Nat) (hi : i ≤ rows.length) (h : ¬ (i < rows.length ∧ i < 40)) (h2 : i ≤ 40) : t18 (rows.take i) = t18 (rows.take 40) := by
  by_cases h1 : i < rows.length
  · rw [show i = 40 by omega]
  · rw [List.take_of_length_le (by omega), List.take_of_length_le (by omega)]
theorem finc18 (r : List PR) (i : Nat) (hi : i ≤ r.length) (h : ¬ (i < r.length ∧ i < 200)) (h2 : i ≤ 200) : c18 (r.take i) = c18 (r.take 200) := by
  by_cases h1 : i < r.length
  · rw [show i = 200 by omega]
  · rw [List.take_of_length_le (by omega), List.take_of_length_le (by omega)]
theorem w18_le (p : PR) (h1 : p.1.length ≤ 140737488355328) (h2 : p.2.length ≤ 140737488355328) : w18 p ≤ 8796093022208 := by unfold w18; omega
theorem w18_int (y : Nat) (p : PR) : ((y : Int) + 1 + ((p.1.length : Int) + (p.2.length : Int)) / 64) = ((y + w18 p : Nat) : Int) := by
  unfold w18
  omega
theorem bound18 {x y k : Nat} (h : y ≤ x + k * 8796093022208) {n : Nat} (hn : n ≤ 8796093022208) : y + n ≤ x + (k + 1) * 8796093022208 := by omega
theorem bound18' {x y k i : Nat} (h : y ≤ x + k * 8796093022208) (hk : k ≤ 200) (hx : x ≤ i * 1759218604441600) : y ≤ (i + 1) * 1759218604441600 := by omega

set_option maxRecDepth 100000 in
set_option maxHeartbeats 4000000 in
theorem Long18_any (v : Value) (rows : List (List PR)) (w : World) (hr : RR w v rows) (hl : rows.length ≤ 140737488355328) (hm : ∀ r ∈ rows, r.length ≤ 140737488355328 ∧ ∀ p ∈ r, p.1.length ≤ 140737488355328 ∧ p.2.length ≤ 140737488355328) :
    Calls Try.prog 9 #[v] w fun e w' => e = .returned (.bool (long18 rows)) ∧ Below w.heap.size w w' := by
  obtain ⟨a, cap, rfl, _, _, hc⟩ := hr
  have HC := Lib.hid hc
  have HM := Lib.hid hm
  clear hc hm
  go_enter Try.func9, Try.ntmps9
  go_wp2
  go_loopw [3, 4] (fun n t wr => ∃ i x : Nat, i ≤ rows.length ∧ i ≤ 40 ∧ t = .int .i64 (i : Int) ∧ n = .int .i64 (x : Int) ∧ x ≤ i * 1759218604441600 ∧ Hid (x = t18 (rows.take i)) ∧ Hid (Below w.heap.size w wr)) (fun _ t _ => 40 - (intOf t).toNat)
  case atStart => exact ⟨0, 0, by omega, by omega, rfl, rfl, by omega, rfl, Below.refl _ _⟩
  case round =>
    obtain ⟨i, x, hi, hi2, rfl, rfl, hx, hH, HB⟩ := hrel
    by_cases h0 : i < rows.length ∧ i < 40
    · obtain ⟨h1, h2⟩ := h0
      obtain ⟨b1, o1, u, rfl, d1, hru⟩ := HC.out i h1
      obtain ⟨a2, c2, rfl, _, hc2⟩ := hru.open
      have HC2 := Lib.hid hc2
      have HD := Lib.hid (Below.keeps HB.out d1)
      obtain ⟨hrl, hpl⟩ := HM.out rows[i] (List.getElem_mem h1)
      have HPL := Lib.hid hpl
      have HT := Lib.hid (t18_take rows i h1)
      obtain ⟨r, hr⟩ : ∃ r, r = rows[i] := ⟨_, rfl⟩
      rw [← hr] at HC2 HD hrl HPL HT
      clear hc2 hpl hr d1
      obtain ⟨Wr, hWr⟩ : ∃ Wr, Wr = wr := ⟨_, rfl⟩
      subst hWr
      have kk0 : (0 : Int) ≤ (i : Int) := by omega
      have kk1 : (i : Int) < (rows.length : Int) := by omega
      have kk2 : (i : Int) < 40 := by omega
      go_wp2
      go_loopw [3, 5] (fun n t wx => ∃ k y : Nat, k ≤ r.length ∧ k ≤ 200 ∧ t = .int .i64 (k : Int) ∧ n = .int .i64 (y : Int) ∧ y ≤ x + k * 8796093022208 ∧ Hid (y = x + c18 (r.take k)) ∧ Hid (Below Wr.heap.size Wr wx)) (fun _ t _ => 200 - (intOf t).toNat)
      case atStart => exact ⟨0, x, by omega, by omega, rfl, rfl, by omega, by simp [Hid, c18], b_refl _⟩
      case round =>
        obtain ⟨k, y, hk, hk2, rfl, rfl, hy, hJ, HB2⟩ := hrel
        have dd := Below.keeps HB2.out HD.out
        have jj0 : (0 : Int) ≤ (k : Int) := by omega
        by_cases h3 : k < r.length ∧ k < 200
        · obtain ⟨h4, h5⟩ := h3
          obtain ⟨b3, o3, rfl, e1, e2⟩ := HC2.out k h4
          have e1' := Below.keeps (bt HB.out HB2.out) e1
          have e2' := Below.keeps (bt HB.out HB2.out) e2
          have jj1 : (k : Int) < (r.length : Int) := by omega
          have jj2 : (k : Int) < 200 := by omega
          have hp1 := (HPL.out r[k] (List.getElem_mem h4)).1
          have hp2 := (HPL.out r[k] (List.getElem_mem h4)).2
          have hw := w18_le r[k] hp1 hp2
          have HS := Lib.hid (c18_take r k h4)
          have HW := Lib.hid (w18_int y r[k])
          clear e1 e2
          go_wp2
          go_quiet (fail)
          go_wp2
          refine ⟨⟨k + 1, y + w18 r[k], h4, h5, by go_num, v_int HW.out, bound18 hy hw, ?_, bt HB2.out (Below.drewN' _ _)⟩, by simp [intOf]; omega⟩
          unfold Hid
          rw [HS.out, hJ.out, Nat.add_assoc]
        · have hfin := finc18 r k hk h3 hk2
          have HY := Lib.hid (show y = t18 (rows.take (i + 1)) by rw [HT.out, hJ.out, hfin, hH.out])
          have HYB := Lib.hid (bound18' hy hk2 hx)
          have HBW := Lib.hid (HB.out.trans (HB2.out.mono HB.out.size))
          clear hfin
          by_cases h4 : k < r.length
          · have jj1 : (k : Int) < (r.length : Int) := by omega
            have jj2 : ¬ (k : Int) < 200 := by omega
            clear h3
            go_wp2
            exact ⟨⟨i + 1, y, h1, h2, by go_num, rfl, HYB.out, HY.out, HBW.out⟩, by simp [intOf]; omega⟩
          · have jj1 : ¬ (k : Int) < (r.length : Int) := by omega
            clear h3
            go_wp2
            exact ⟨⟨i + 1, y, h1, h2, by go_num, rfl, HYB.out, HY.out, HBW.out⟩, by simp [intOf]; omega⟩
    · have hfin := fin18 rows i hi h0 hi2
      have HX := Lib.hid (show x = t18 (rows.take 40) by rw [← hfin]; exact hH.out)
      have HLG := Lib.hid (show long18 rows = (decide (20 < rows.length) || decide (100 < x)) by rw [HX.out]; rfl)
      clear hfin hH
      by_cases h4 : 20 < rows.length
      · have c3 : (20 : Int) < (rows.length : Int) := by omega
        have HL := Lib.hid (show long18 rows = true by rw [HLG.out]; simp [h4])
        by_cases h1 : i < rows.length
        · have c1 : (i : Int) < (rows.length : Int) := by omega
          have c2 : ¬ (i : Int) < 40 := by omega
          clear h0
          go_wp2
          go_ret
          exact ⟨by rw [HL.out]; rfl, HB.out⟩
        · have c1 : ¬ (i : Int) < (rows.length : Int) := by omega
          clear h0
          go_wp2
          go_ret
          exact ⟨by rw [HL.out]; rfl, HB.out⟩
      · have c1 : ¬ (i : Int) < (rows.length : Int) := by omega
        have c3 : ¬ (20 : Int) < (rows.length : Int) := by omega
        clear h0
        by_cases h5 : 100 < x
        · have c4 : (100 : Int) < (x : Int) := by omega
          have HL := Lib.hid (show long18 rows = true by rw [HLG.out]; simp [h5])
          go_wp2
          go_ret
          exact ⟨by rw [HL.out]; rfl, HB.out⟩
        · have c4 : ¬ (100 : Int) < (x : Int) := by omega
          have HL := Lib.hid (show long18 rows = false by rw [HLG.out]; simp [h4, h5])
          go_wp2
          go_ret
          exact ⟨by rw [HL.out]; rfl, HB.out⟩
end Go.Proofs.Ytahmacnmphjhgaa
namespace Go.Proofs.Ytahmacnmphjhgaa
open Go.RowKit Oct

def LA : List PR := [([97], [49]), ([98], [50])]
def LB : List PR := [([98], [51]), ([99], [52])]
def LT : List TR := [⟨[97], [49], [], true, false⟩, ⟨[98], [50], [51], true, true⟩, ⟨[99], [], [52], false, true⟩]
theorem of_ab : ofF LA LB = LT := by
  unfold LA LB LT
  rw [ofF_lt _ _ _ _ (by decide), ofF_eq _ _ _ _ (by decide) (by decide), ofF_right, ofF_nil]
  rfl
theorem ap_ab : apF LA LT ([], false) = (LB, false) := by
  rw [← of_ab, (ap_of _ LA LB rfl (by decide) (by decide)).2]
  rfl
theorem OfRes.len {a b : List PR} {n : Nat} {e : Ending} {w : World} (h : OfRes a b n e w) (hh : (once a && once b) = true) : ∃ av cv, e = .returned (.tuple #[.slice av (ofF a b).length cv, .int .i64 0]) ∧ recT.Own w n (.slice av (ofF a b).length cv) (ofF a b) := by
  obtain ⟨v, rfl, hown⟩ := h.good hh
  obtain ⟨av, cv, rfl⟩ := owns_slice hown
  exact ⟨av, cv, rfl, hown⟩

set_option maxRecDepth 100000 in
set_option maxHeartbeats 4000000 in
theorem alive40 (w : World) : Calls Try.prog 11 #[] w fun e w' => e = .returned (.bool true) ∧ Below w.heap.size w w' := by
  obtain ⟨w1, hw1⟩ : ∃ w1, w1 = w.alloc (.cells (pcells LA).toArray 71) := ⟨_, rfl⟩
  obtain ⟨w2, hw2⟩ : ∃ w2, w2 = w1.alloc (.cells (pcells LB).toArray 71) := ⟨_, rfl⟩
  have hs1 : w1.heap.size = w.heap.size + 1 := by rw [hw1]; simp
  have hra := RP.new w LA 71
  have hrb := RP.new w1 LB 71
  rw [← hw1] at hra
  rw [← hw2, hs1] at hrb
  have hB2 : Below w.heap.size w w2 := by rw [hw2]; exact bt (by rw [hw1]; exact b_alloc _ _) (b_alloc _ _)
  have hB12 : Below w1.heap.size w1 w2 := by rw [hw2]; exact b_alloc _ _
  have HA2 := Lib.hid (hra.below hB12)
  have HB2' := Lib.hid hrb
  have HW2 := Lib.hid hB2
  have hww : w2 = (w.alloc (.cells #[.string { data := #[97] }, .string { data := #[49] }, .string { data := #[98] }, .string { data := #[50] }] 71)).alloc (.cells #[.string { data := #[98] }, .string { data := #[51] }, .string { data := #[99] }, .string { data := #[52] }] 71) := by rw [hw2, hw1]; rfl
  clear hra hrb hB2 hB12 hs1 hw1 hw2
  go_enter Try.func11, Try.ntmps11
  go_wp2_with fail
  rw [← hww]
  clear hww
  refine (Of_any _ _ LA LB w2 HA2.out HB2'.out (by decide)).mono ?_
  rintro e w3 ⟨hres, hB3⟩
  obtain ⟨a3, c3, rfl, hown3⟩ := hres.len (by decide)
  rw [of_ab] at hown3
  have HT3 := Lib.hid hown3
  have HA3 := Lib.hid (HA2.out.below hB3)
  have HB3 := Lib.hid (HB2'.out.below hB3)
  have HW3 := Lib.hid (bt HW2.out hB3)
  clear hres hB3 hown3
  rw [of_ab, show LT.length = 3 from rfl]
  go_wp2_with fail
  refine (Apply_any _ _ LA LT w3 HA3.out (Rec.Own.row (R := recT) HT3.out) (by decide)).mono ?_
  rintro e w4 ⟨hres, hB4⟩
  obtain ⟨v4, rfl, hown4⟩ := hres.good (by decide) LB ap_ab
  obtain ⟨a4, c4, rfl⟩ := owns_slice hown4
  have HO4 := Lib.hid (OP.reads hown4)
  have HT4 := Lib.hid ((Rec.Own.row (R := recT) HT3.out).below hB4)
  have HB4 := Lib.hid (HB3.out.below hB4)
  have HW4 := Lib.hid (bt HW3.out hB4)
  clear hres hB4 hown4
  obtain ⟨w5, hw5⟩ : ∃ w5, w5 = w4.alloc (.cells (pcells [([], []), ([], [])]).toArray 71) := ⟨_, rfl⟩
  have hrz := RP.new w4 [([], []), ([], [])] 71
  have hB5 : Below w4.heap.size w4 w5 := by rw [hw5]; exact b_alloc _ _
  have HZ5 := Lib.hid (show RP w5 _ _ by rw [hw5]; exact hrz)
  have HO5 := Lib.hid (HO4.out.below hB5)
  have HT5 := Lib.hid (HT4.out.below hB5)
  have HB5 := Lib.hid (HB4.out.below hB5)
  have HW5 := Lib.hid (bt HW4.out hB5)
  have hww : w5 = w4.alloc (.cells #[.string { data := #[] }, .string { data := #[] }, .string { data := #[] }, .string { data := #[] }] 71) := hw5
  clear hrz hB5 hw5
  rw [show LB.length = 2 from rfl]
  go_wp2_with fail
  rw [← hww]
  clear hww
  refine (Of_any _ _ [] [([], []), ([], [])] w5 (RP.nil _) HZ5.out (by decide)).mono ?_
  rintro e w6 ⟨hres, hB6⟩
  obtain rfl := hres.bad (by decide)
  have HO6 := Lib.hid (HO5.out.below hB6)
  have HT6 := Lib.hid (HT5.out.below hB6)
  have HB6 := Lib.hid (HB5.out.below hB6)
  have HW6 := Lib.hid (bt HW5.out hB6)
  clear hres hB6
  obtain ⟨w7, hw7⟩ : ∃ w7, w7 = w6.alloc (.cells (recT.cells LT).toArray 73) := ⟨_, rfl⟩
  have hrz := Rec.Row.new (R := recT) w6 LT 73
  have hB7 : Below w6.heap.size w6 w7 := by rw [hw7]; exact b_alloc _ _
  have HZ7 := Lib.hid (show recT.Row w7 _ _ by rw [hw7]; exact hrz)
  have HO7 := Lib.hid (HO6.out.below hB7)
  have HT7 := Lib.hid (HT6.out.below hB7)
  have HB7 := Lib.hid (HB6.out.below hB7)
  have HW7 := Lib.hid (bt HW6.out hB7)
  have hww : w7 = w6.alloc (.cells #[.string { data := #[97] }, .string { data := #[49] }, .string { data := #[] }, .bool true, .bool false, .string { data := #[98] }, .string { data := #[50] }, .string { data := #[51] }, .bool true, .bool true, .string { data := #[99] }, .string { data := #[] }, .string { data := #[52] }, .bool false, .bool true] 73) := hw7
  clear hrz hB7 hw7
  go_wp2_with fail
  rw [← hww]
  clear hww
  refine (sameT_any _ _ LT LT w7 HT7.out HZ7.out (by decide) (by decide)).mono ?_
  rw [decide_eq_true rfl]
  rintro e w8 ⟨rfl, hB8⟩
  have HO8 := Lib.hid (HO7.out.below hB8)
  have HB8 := Lib.hid (HB7.out.below hB8)
  have HW8 := Lib.hid (bt HW7.out hB8)
  clear hB8
  go_wp2_with fail
  refine (same14_any _ _ LB LB w8 HO8.out HB8.out (by decide) (by decide)).mono ?_
  rw [decide_eq_true rfl]
  rintro e w9 ⟨rfl, hB9⟩
  have HW9 := Lib.hid (bt HW8.out hB9)
  clear hB9
  go_wp2
  go_ret
  exact ⟨rfl, HW9.out⟩
end Go.Proofs.Ytahmacnmphjhgaa
