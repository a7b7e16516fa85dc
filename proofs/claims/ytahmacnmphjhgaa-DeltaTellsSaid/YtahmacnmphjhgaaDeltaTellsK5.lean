/- Lemmas for DeltaTells, part 5: walks of the functions that it reaches, and the plain laws behind them. -/
import Derived.Test.YtahmacnmphjhgaaDeltaTellsK4
set_option linter.unusedSimpArgs false
set_option linter.unusedVariables false
namespace Go.Proofs.Ytahmacnmphjhgaa
open Go.RowKit Oct

theorem tr_ne_of {a b : List TR} (k : Nat) (h : k < a.length) (h' : k < b.length) (hne : a[k] ≠ b[k]) : a ≠ b := by
  rintro rfl; exact hne rfl
theorem tr_eq (p q : TR) : (p.key == q.key && (p.was == q.was && (p.now == q.now && (p.had == q.had && p.has == q.has)))) = decide (p = q) := by
  obtain ⟨a, b, c, d, e⟩ := p
  obtain ⟨a', b', c', d', e'⟩ := q
  rw [Bool.eq_iff_iff]; simp
set_option maxRecDepth 100000 in
set_option maxHeartbeats 1000000 in
theorem same14_any (va vb : Value) (a b : List PR) (w : World) (ha : RP w va a) (hb : RP w vb b) (hla : a.length ≤ 140737488355328) (hlb : b.length ≤ 140737488355328) :
    Calls Try.prog 17 #[va, vb] w fun e w' => e = .returned (.bool (decide (a = b))) ∧ Below w.heap.size w w' := by
  obtain ⟨aa, ca, rfl, _, hca⟩ := ha.open
  obtain ⟨ab, cb, rfl, _, hcb⟩ := hb.open
  by_cases hl : a.length = b.length
  · have hL := Lib.hid hl
    have t1 : ((a.length : Int) != (b.length : Int)) = false := by rw [bne_eq_false_iff_eq]; omega
    clear hl
    go_enter Try.func17, Try.ntmps17
    go_wp2
    go_loopw [5] (fun i wr => ∃ k : Nat, k ≤ a.length ∧ i = .int .i64 k ∧ Hid (∀ j (h : j < a.length) (h' : j < b.length), j < k → a[j] = b[j]) ∧ Below w.heap.size w wr) (fun i _ => a.length - (intOf i).toNat)
    case atStart => exact ⟨0, by omega, rfl, by intro j _ _ h; omega, Below.refl _ _⟩
    case round =>
      obtain ⟨k, hk, rfl, hH, hB⟩ := hrel
      by_cases h0 : k < a.length
      · have h0b : k < b.length := by have := hL.out; omega
        obtain ⟨b1, o1, rfl, hc1, hc2⟩ := hca k h0
        obtain ⟨b2, o2, rfl, hc3, hc4⟩ := hcb k h0b
        have hd1 := Below.keeps hB hc1
        have hd2 := Below.keeps hB hc2
        have hd3 := Below.keeps hB hc3
        have hd4 := Below.keeps hB hc4
        have kk1 : (k : Int) < (a.length : Int) := by omega
        have kk2 : (k : Int) < (b.length : Int) := by omega
        clear hca hcb
        by_cases he : a[k] = b[k]
        · have he2 : (a[k].1 == b[k].1) = true := by simp [he]
          have he3 : (a[k].2 == b[k].2) = true := by simp [he]
          have HE := Lib.hid he
          clear he
          go_wp2
          go_quiet (fail)
          go_wp2
          go_roundw
          case rel =>
            refine ⟨k + 1, by omega, by go_num, ?_, bt hB (Below.drewN' _ _)⟩
            intro j h h' hj
            by_cases hjk : j = k
            · subst hjk; exact HE.out
            · exact hH.out j h h' (by omega)
          case measure => simp [intOf]; omega
        · have HE := Lib.hid he
          have he4 := pr_eq a[k] b[k]
          rw [decide_eq_false he] at he4
          clear he
          cases he2 : (a[k].1 == b[k].1)
          · go_wp2
            go_quiet (fail)
            go_wp2
            go_ret
            exact ⟨by rw [decide_eq_false (pr_ne_of k h0 h0b HE.out)]; rfl, bt hB (Below.drewN' _ _)⟩
          · have he3 : (a[k].2 == b[k].2) = false := by rw [he2, Bool.true_and] at he4; exact he4
            clear he4
            go_wp2
            go_quiet (fail)
            go_wp2
            go_ret
            exact ⟨by rw [decide_eq_false (pr_ne_of k h0 h0b HE.out)]; rfl, bt hB (Below.drewN' _ _)⟩
      · obtain rfl : k = a.length := by omega
        go_wp2
        go_ret
        exact ⟨by rw [decide_eq_true (List.ext_getElem hL.out (fun j h h' => hH.out j h h' h))]; rfl, hB⟩
  · have t1 : ((a.length : Int) != (b.length : Int)) = true := by rw [bne_iff_ne]; omega
    go_enter Try.func17, Try.ntmps17
    go_wp2
    go_ret
    exact ⟨by rw [decide_eq_false (fun e => hl (by rw [e]))]; rfl, Below.refl _ _⟩

set_option maxRecDepth 100000 in
set_option maxHeartbeats 1000000 in
theorem once18_any (v : Value) (l : List PR) (w : World) (hr : RP w v l) (hl : l.length ≤ 140737488355328) :
    Calls Try.prog 20 #[v] w fun e w' => e = .returned (.bool (once l)) ∧ Below w.heap.size w w' := by
  obtain ⟨a, cap, rfl, _, hc⟩ := hr.open
  go_enter Try.func20, Try.ntmps20
  go_wp2
  go_loopw [3] (fun i wr => ∃ k : Nat, (k = 0 ∨ k + 1 ≤ l.length) ∧ i = .int .i64 ((k : Int) + 1) ∧ Hid (∀ j (h : j + 1 < l.length), j < k → lt l[j].1 l[j + 1].1 = true) ∧ Below w.heap.size w wr) (fun i _ => (l.length + 1 - (intOf i).toNat))
  case atStart => exact ⟨0, .inl rfl, rfl, by intro j _ h; omega, Below.refl _ _⟩
  case round =>
    obtain ⟨k, hk, rfl, hH, hB⟩ := hrel
    by_cases h0 : k + 1 < l.length
    · obtain ⟨b, off, rfl, c1, _⟩ := hc (k + 1) h0
      obtain ⟨b', off', hb, c2, _⟩ := hc k (by omega)
      cases hb
      have d1 := Below.keeps hB c1
      have d2 := Below.keeps hB c2
      have kk1 : (k : Int) + 1 < (l.length : Int) := by omega
      have kk2 : (k : Int) < (l.length : Int) := by omega
      clear hc hk
      rcases lt3 l[k].1 l[k + 1].1 with ⟨t1, t2, t3, t4⟩ | ⟨t1, t2, t3, t4⟩ | ⟨t0, t1, t2, t3, t4⟩
      · have HL := Lib.hid t1
        unfold lt at t1 t2
        go_wp2
        go_quiet (fail)
        go_wp2
        go_roundw
        case rel =>
          refine ⟨k + 1, .inr (by omega), by go_num, ?_, bt hB (Below.drewN' _ _)⟩
          intro j h hj
          by_cases hjk : j = k
          · subst hjk; exact HL.out
          · exact hH.out j h (by omega)
        case measure => simp [intOf]; omega
      all_goals
        try clear t0
        have HL := Lib.hid t1
        unfold lt at t1 t2
        go_wp2
        go_quiet (fail)
        go_wp2
        go_ret
        exact ⟨by rw [once_false l k h0 HL.out]; rfl, bt hB (Below.drewN' _ _)⟩
    · have hs := Lib.hid (once_true l k (by omega) hH.out)
      go_wp2
      go_ret
      exact ⟨by rw [hs.out]; rfl, hB⟩


set_option maxRecDepth 100000 in
set_option maxHeartbeats 1000000 in
theorem sameT_any (va vb : Value) (a b : List TR) (w : World) (ha : recT.Row w va a) (hb : recT.Row w vb b) (hla : a.length ≤ 140737488355328) (hlb : b.length ≤ 140737488355328) :
    Calls Try.prog 16 #[va, vb] w fun e w' => e = .returned (.bool (decide (a = b))) ∧ Below w.heap.size w w' := by
  obtain ⟨aa, ca, rfl, _, hca⟩ := recT_open ha
  obtain ⟨ab, cb, rfl, _, hcb⟩ := recT_open hb
  by_cases hl : a.length = b.length
  · have hL := Lib.hid hl
    have t1 : ((a.length : Int) != (b.length : Int)) = false := by rw [bne_eq_false_iff_eq]; omega
    clear hl
    go_enter Try.func16, Try.ntmps16
    go_wp2
    go_loopw [5] (fun i wr => ∃ k : Nat, k ≤ a.length ∧ i = .int .i64 k ∧ Hid (∀ j (h : j < a.length) (h' : j < b.length), j < k → a[j] = b[j]) ∧ Below w.heap.size w wr) (fun i _ => a.length - (intOf i).toNat)
    case atStart => exact ⟨0, by omega, rfl, by intro j _ _ h; omega, Below.refl _ _⟩
    case round =>
      obtain ⟨k, hk, rfl, hH, hB⟩ := hrel
      by_cases h0 : k < a.length
      · have h0b : k < b.length := by have := hL.out; omega
        obtain ⟨b1, o1, rfl, hc1, hc2, hc5, hc6, hc7⟩ := hca k h0
        obtain ⟨b2, o2, rfl, hc3, hc4, hc8, hc9, hc10⟩ := hcb k h0b
        have hd1 := Below.keeps hB hc1
        have hd2 := Below.keeps hB hc2
        have hd3 := Below.keeps hB hc3
        have hd4 := Below.keeps hB hc4
        have hd5 := Below.keeps hB hc5
        have hd6 := Below.keeps hB hc6
        have hd7 := Below.keeps hB hc7
        have hd8 := Below.keeps hB hc8
        have hd9 := Below.keeps hB hc9
        have hd10 := Below.keeps hB hc10
        have kk1 : (k : Int) < (a.length : Int) := by omega
        have kk2 : (k : Int) < (b.length : Int) := by omega
        clear hca hcb
        by_cases he : a[k] = b[k]
        · have g1 : (a[k].key == b[k].key) = true := by simp [he]
          have g2 : (a[k].was == b[k].was) = true := by simp [he]
          have g3 : (a[k].now == b[k].now) = true := by simp [he]
          have g4 : (a[k].had == b[k].had) = true := by simp [he]
          have g5 : (a[k].has == b[k].has) = true := by simp [he]
          have HE := Lib.hid he
          clear he
          go_wp2
          go_quiet (fail)
          go_wp2
          go_roundw
          case rel =>
            refine ⟨k + 1, by omega, by go_num, ?_, bt hB (Below.drewN' _ _)⟩
            intro j h h' hj
            by_cases hjk : j = k
            · subst hjk; exact HE.out
            · exact hH.out j h h' (by omega)
          case measure => simp [intOf]; omega
        · have HE := Lib.hid he
          have he9 := tr_eq a[k] b[k]
          rw [decide_eq_false he] at he9
          clear he
          cases g1 : (a[k].key == b[k].key) with
          | false =>
            clear he9
            go_wp2
            go_quiet (fail)
            go_wp2
            go_ret
            exact ⟨by rw [decide_eq_false (tr_ne_of k h0 h0b HE.out)]; rfl, bt hB (Below.drewN' _ _)⟩
          | true =>
            cases g2 : (a[k].was == b[k].was) with
            | false =>
              clear he9
              go_wp2
              go_quiet (fail)
              go_wp2
              go_ret
              exact ⟨by rw [decide_eq_false (tr_ne_of k h0 h0b HE.out)]; rfl, bt hB (Below.drewN' _ _)⟩
            | true =>
              cases g3 : (a[k].now == b[k].now) with
              | false =>
                clear he9
                go_wp2
                go_quiet (fail)
                go_wp2
                go_ret
                exact ⟨by rw [decide_eq_false (tr_ne_of k h0 h0b HE.out)]; rfl, bt hB (Below.drewN' _ _)⟩
              | true =>
                cases g4 : (a[k].had == b[k].had) with
                | false =>
                  clear he9
                  go_wp2
                  go_quiet (fail)
                  go_wp2
                  go_ret
                  exact ⟨by rw [decide_eq_false (tr_ne_of k h0 h0b HE.out)]; rfl, bt hB (Below.drewN' _ _)⟩
                | true =>
                  cases g5 : (a[k].has == b[k].has) with
                  | false =>
                    clear he9
                    go_wp2
                    go_quiet (fail)
                    go_wp2
                    go_ret
                    exact ⟨by rw [decide_eq_false (tr_ne_of k h0 h0b HE.out)]; rfl, bt hB (Below.drewN' _ _)⟩
                  | true =>
                    rw [g1, g2, g3, g4, g5] at he9
                    simp at he9
      · obtain rfl : k = a.length := by omega
        go_wp2
        go_ret
        exact ⟨by rw [decide_eq_true (List.ext_getElem hL.out (fun j h h' => hH.out j h h' h))]; rfl, hB⟩
  · have t1 : ((a.length : Int) != (b.length : Int)) = true := by rw [bne_iff_ne]; omega
    go_enter Try.func16, Try.ntmps16
    go_wp2
    go_ret
    exact ⟨by rw [decide_eq_false (fun e => hl (by rw [e]))]; rfl, Below.refl _ _⟩

end Go.Proofs.Ytahmacnmphjhgaa
namespace Go.Proofs.Ytahmacnmphjhgaa
open Go.RowKit Oct

/-- the turn of a key, if there is one -/
def rTurn (a b : List PR) (k : List UInt8) : List TR :=
  if ((fnd k a).getD [] != (fnd k b).getD [] || (fnd k a).isSome != (fnd k b).isSome) = true then [⟨k, (fnd k a).getD [], (fnd k b).getD [], (fnd k a).isSome, (fnd k b).isSome⟩] else []
def keysF (a b : List PR) : List (List UInt8) := (grp (srt (a ++ b))).map hk1
def rOfF (a b : List PR) : List TR := (keysF a b).flatMap (rTurn a b)
theorem rTurn_le (a b : List PR) (k : List UInt8) : (rTurn a b k).length ≤ 1 := by unfold rTurn; split <;> simp
theorem rOfF_le (a b : List PR) (K : List (List UInt8)) : (K.flatMap (rTurn a b)).length ≤ K.length := by
  induction K with
  | nil => simp
  | cons k K ih => rw [List.flatMap_cons, List.length_append, List.length_cons]; have := rTurn_le a b k; omega
/-- what the reference's Of gives -/
def ROfRes (a b : List PR) (n : Nat) (e : Ending) (w : World) : Prop :=
  match once a && once b with
  | false => e = .returned (.tuple #[.slice none 0 0, .int .i64 2])
  | true => ∃ v, e = .returned (.tuple #[v, .int .i64 0]) ∧ recT.Own w n v (rOfF a b)
theorem keysF_le (a b : List PR) : (keysF a b).length ≤ a.length + b.length := by
  have := grp_length_le (srt (a ++ b)).length (srt (a ++ b)) (Nat.le_refl _)
  rw [srt_length, List.length_append] at this
  unfold keysF
  rw [List.length_map]
  exact this
theorem byj {m i n : Nat} (h1 : m ≤ i) (h2 : i ≤ n) (h3 : n ≤ 200) : (m + 1) * 56 ≤ 140737488355328 := by omega
theorem byk {a b : Nat} (h1 : a ≤ 100) (h2 : b ≤ 100) : (a + b) * 32 ≤ 140737488355328 ∧ a + b ≤ 1000000 ∧ a + b ≤ 200 ∧ (0 + a) * 32 ≤ 140737488355328 := by omega
theorem texts_at {w : World} {base : Nat} {v : Value} {K : List (List UInt8)} (h : w.ownsRow base 9 1 v K.length (tcells K)) : ∃ a c, v = .slice a K.length c ∧ ∀ i (hi : i < K.length), ∃ b off, a = some ⟨b, off, none⟩ ∧ w.cell? ⟨b, off + i, none⟩ = some (.string (bs K[i])) := by
  obtain ⟨a, c, rfl, _, hc⟩ := Reads.owned h
  exact ⟨a, c, rfl, fun i hi => hc i _ (tcells_at K i hi)⟩

set_option maxRecDepth 100000 in
set_option maxHeartbeats 4000000 in
theorem rOf_any (v1 v2 : Value) (a b : List PR) (w : World) (hr1 : RP w v1 a) (hr2 : RP w v2 b) (hla : a.length ≤ 100) (hlb : b.length ≤ 100) :
    Calls Try.prog 13 #[v1, v2] w fun e w' => ROfRes a b w.heap.size e w' ∧ Below w.heap.size w w' := by
  obtain ⟨a1, c1, rfl, _, _⟩ := hr1.open
  obtain ⟨a2, c2, rfl, _, _⟩ := hr2.open
  have HR1 := Lib.hid hr1
  have HR2 := Lib.hid hr2
  have HLA := Lib.hid hla
  have HLB := Lib.hid hlb
  clear hr1 hr2
  go_enter Try.func13, Try.ntmps13
  go_wp2_with fail
  cases hoa : once a with
  | false =>
    have HOA := Lib.hid hoa
    clear hoa
    refine (once18_any _ a w HR1.out (Nat.le_trans HLA.out (by decide))).mono ?_
    rw [HOA.out]
    rintro e w2 ⟨rfl, hB2⟩
    have HWW := Lib.hid hB2
    clear hB2
    go_wp2
    go_ret2
    refine ⟨?_, HWW.out⟩
    unfold ROfRes
    rw [HOA.out, Bool.false_and]
    rfl
  | true =>
    have HOA := Lib.hid hoa
    clear hoa
    refine (once18_any _ a w HR1.out (Nat.le_trans HLA.out (by decide))).mono ?_
    rw [HOA.out]
    rintro e w2 ⟨rfl, hB2⟩
    have HB2 := Lib.hid hB2
    have HR22 := Lib.hid (HR2.out.below hB2)
    clear hB2
    go_wp2_with fail
    cases hob : once b with
    | false =>
      have HOB := Lib.hid hob
      clear hob
      refine (once18_any _ b w2 HR22.out (Nat.le_trans HLB.out (by decide))).mono ?_
      rw [HOB.out]
      rintro e w3 ⟨rfl, hB3⟩
      have HWW := Lib.hid (bt HB2.out hB3)
      clear hB3
      go_wp2
      go_ret2
      refine ⟨?_, HWW.out⟩
      unfold ROfRes
      rw [HOB.out, Bool.and_false]
      rfl
    | true =>
      have HOB := Lib.hid hob
      clear hob
      refine (once18_any _ b w2 HR22.out (Nat.le_trans HLB.out (by decide))).mono ?_
      rw [HOB.out]
      rintro e w2' ⟨rfl, hB2'⟩
      have HW2 := Lib.hid (bt HB2.out hB2')
      have HRA := Lib.hid (HR1.out.below (bt HB2.out hB2'))
      have HRB := Lib.hid (HR22.out.below hB2')
      clear hB2'
      go_wp2_with (first
        | (at_builtin; (refine appendP w2' rfl _ _ 22 rfl Try.underlying22 w2'.heap.size (.slice none 0 0) [] rfl (OP.nil _ _) (.slice a1 a.length c1) a rfl HRA.out (byk HLA.out HLB.out).2.2.2 (Nat.le_refl _) ?_); intro v5 w5 hown5 hB5; rw [List.nil_append] at hown5; obtain ⟨a5, c5, rfl⟩ := owns_slice hown5; have HO5 := Lib.hid hown5; have HB5 := Lib.hid hB5; have HRB5 := Lib.hid (HRB.out.below hB5); clear hown5 hB5)
        | (at_builtin; (refine appendP w5 rfl _ _ 22 rfl Try.underlying22 w2'.heap.size (.slice a5 a.length c5) a rfl HO5.out (.slice a2 b.length c2) b rfl HRB5.out (byk HLA.out HLB.out).1 HB5.out.size ?_); intro v6 w6 hown6 hB6; have HO6 := Lib.hid hown6; have HB6 := Lib.hid (HB5.out.trans hB6); clear hown6 hB6)
        | fail)
      refine (rKeys_any _ (a ++ b) w6 (OP.reads HO6.out) (by rw [List.length_append]; exact (byk HLA.out HLB.out).2.1)).mono ?_
      rintro e w7 ⟨⟨u7, rfl, hown7⟩, hB7⟩
      obtain ⟨K, hK⟩ : ∃ K, K = keysF a b := ⟨_, rfl⟩
      have hown7' : w7.ownsRow w6.heap.size 9 1 u7 K.length (tcells K) := by rw [hK]; exact hown7
      obtain ⟨aK, cK, rfl, hcK⟩ := texts_at hown7'
      have HCK := Lib.hid hcK
      have HKK := Lib.hid hK
      have HKL := Lib.hid (show K.length ≤ 200 by rw [hK]; exact Nat.le_trans (keysF_le a b) (byk HLA.out HLB.out).2.2.1)
      have HB7 := Lib.hid (HB6.out.trans (hB7.mono HB6.out.size))
      have HRA7 := Lib.hid (HRA.out.below HB7.out)
      have HRB7 := Lib.hid (HRB.out.below HB7.out)
      clear hown7 hown7' hcK hK hB7
      go_wp2
      go_loopw [7, 8] (fun vo vi wr => ∃ i : Nat, ∃ M Av Cv, vi = .int .i64 (i : Int) ∧ vo = .slice Av (List.length M) Cv ∧ i ≤ K.length ∧ Hid (M = (K.take i).flatMap (rTurn a b)) ∧ Hid (recT.Own wr w7.heap.size (.slice Av M.length Cv) M) ∧ Hid (Below w7.heap.size w7 wr)) (fun _ i _ => K.length - (intOf i).toNat)
      case atStart => exact ⟨0, [], none, 0, rfl, rfl, by omega, rfl, Rec.Own.nil _ _, b_refl _⟩
      case round =>
        obtain ⟨i, M, Av, Cv, rfl, rfl, hi, HM, HO4, HB4⟩ := hrel
        obtain ⟨Wr, hWr⟩ : ∃ Wr, Wr = wr := ⟨_, rfl⟩
        subst hWr
        by_cases h1 : i < K.length
        · obtain ⟨b', off', rfl, d1⟩ := HCK.out i h1
          have d2 := Below.keeps HB4.out d1
          obtain ⟨k, hk⟩ : ∃ k, k = K[i] := ⟨_, rfl⟩
          rw [← hk] at d2
          have HKT := Lib.hid (show K.take (i + 1) = K.take i ++ [k] by rw [hk, List.take_succ_eq_append_getElem h1])
          obtain ⟨W1, hW1⟩ : ∃ x, x = (fnd k a).getD [] := ⟨_, rfl⟩
          obtain ⟨W2, hW2⟩ : ∃ x, x = (fnd k b).getD [] := ⟨_, rfl⟩
          obtain ⟨b1, hh1⟩ : ∃ x, x = (fnd k a).isSome := ⟨_, rfl⟩
          obtain ⟨b2, hh2⟩ : ∃ x, x = (fnd k b).isSome := ⟨_, rfl⟩
          have hf1 := find_any _ a k Wr (HRA7.out.below HB4.out) (Nat.le_trans HLA.out (by decide))
          have hf2 := find_any _ b k Wr (HRB7.out.below HB4.out) (Nat.le_trans HLB.out (by decide))
          rw [← hW1, ← hh1] at hf1
          rw [← hW2, ← hh2] at hf2
          have HF1 := Lib.hid hf1
          have HF2 := Lib.hid hf2
          have HW1 := Lib.hid hW1
          have HW2' := Lib.hid hW2
          have HH1 := Lib.hid hh1
          have HH2 := Lib.hid hh2
          have hml : M.length ≤ i := by rw [HM.out]; exact Nat.le_trans (rOfF_le a b _) (by rw [List.length_take]; exact Nat.min_le_left _ _)
          have hby := byj hml hi HKL.out
          have hsz4 := HB4.out.size
          have i0 : (0 : Int) ≤ (i : Int) := by omega
          have i1 : (i : Int) < (K.length : Int) := by omega
          have i2 : (i : Int) < 200 := by have := HKL.out; omega
          have i3 : K.length ≤ 200 := HKL.out
          clear d1 hk hf1 hf2 hW1 hW2 hh1 hh2 hml
          go_wp2_with fail
          refine HF1.out.mono ?_
          rintro e w8 ⟨rfl, rfl⟩
          go_wp2_with fail
          refine HF2.out.mono ?_
          rintro e w8 ⟨rfl, rfl⟩
          cases hq : (W1 == W2) with
          | false =>
            have hq2 : (W1 != W2) = true := by rw [bne, hq]; rfl
            have HQ := Lib.hid hq2
            go_wp2_with (at_builtin; go_must (refine recT.append1 Wr ⟨k, W1, W2, b1, b2⟩ rfl _ _ 23 rfl Try.underlying23 w7.heap.size _ M HO4.out rfl _ rfl _ rfl _ rfl hby hsz4 ?_); intro g cap w5 hown5 hB5; have HO5 := Lib.hid hown5; have HB5 := Lib.hid hB5; clear hown5 hB5)
            refine ⟨⟨i + 1, M ++ [⟨k, W1, W2, b1, b2⟩], _, _, by go_num, by rw [List.length_append]; rfl, h1, ?_, by rw [List.length_append]; exact HO5.out, HB4.out.trans HB5.out⟩, by simp [intOf]; omega⟩
            unfold Hid
            rw [HKT.out, List.flatMap_append, ← HM.out]
            rw [show List.flatMap (rTurn a b) [k] = [⟨k, W1, W2, b1, b2⟩] by simp [rTurn, ← HW1.out, ← HW2'.out, ← HH1.out, ← HH2.out, HQ.out]]
          | true =>
            have hq2 : (W1 != W2) = false := by rw [bne, hq]; rfl
            have HQ := Lib.hid hq2
            cases b1 with
            | false =>
              cases b2 with
              | false =>
                go_wp2
                refine ⟨⟨i + 1, M, _, _, by go_num, rfl, h1, ?_, HO4.out, HB4.out⟩, by simp [intOf]; omega⟩
                unfold Hid
                rw [HKT.out, List.flatMap_append, ← HM.out]
                rw [show List.flatMap (rTurn a b) [k] = [] by simp [rTurn, ← HW1.out, ← HW2'.out, ← HH1.out, ← HH2.out, HQ.out], List.append_nil]
              | true =>
                go_wp2_with (at_builtin; go_must (refine recT.append1 Wr ⟨k, W1, W2, false, true⟩ rfl _ _ 23 rfl Try.underlying23 w7.heap.size _ M HO4.out rfl _ rfl _ rfl _ rfl hby hsz4 ?_); intro g cap w5 hown5 hB5; have HO5 := Lib.hid hown5; have HB5 := Lib.hid hB5; clear hown5 hB5)
                refine ⟨⟨i + 1, M ++ [⟨k, W1, W2, false, true⟩], _, _, by go_num, by rw [List.length_append]; rfl, h1, ?_, by rw [List.length_append]; exact HO5.out, HB4.out.trans HB5.out⟩, by simp [intOf]; omega⟩
                unfold Hid
                rw [HKT.out, List.flatMap_append, ← HM.out]
                rw [show List.flatMap (rTurn a b) [k] = [⟨k, W1, W2, false, true⟩] by simp [rTurn, ← HW1.out, ← HW2'.out, ← HH1.out, ← HH2.out, HQ.out]]
            | true =>
              cases b2 with
              | false =>
                go_wp2_with (at_builtin; go_must (refine recT.append1 Wr ⟨k, W1, W2, true, false⟩ rfl _ _ 23 rfl Try.underlying23 w7.heap.size _ M HO4.out rfl _ rfl _ rfl _ rfl hby hsz4 ?_); intro g cap w5 hown5 hB5; have HO5 := Lib.hid hown5; have HB5 := Lib.hid hB5; clear hown5 hB5)
                refine ⟨⟨i + 1, M ++ [⟨k, W1, W2, true, false⟩], _, _, by go_num, by rw [List.length_append]; rfl, h1, ?_, by rw [List.length_append]; exact HO5.out, HB4.out.trans HB5.out⟩, by simp [intOf]; omega⟩
                unfold Hid
                rw [HKT.out, List.flatMap_append, ← HM.out]
                rw [show List.flatMap (rTurn a b) [k] = [⟨k, W1, W2, true, false⟩] by simp [rTurn, ← HW1.out, ← HW2'.out, ← HH1.out, ← HH2.out, HQ.out]]
              | true =>
                go_wp2
                refine ⟨⟨i + 1, M, _, _, by go_num, rfl, h1, ?_, HO4.out, HB4.out⟩, by simp [intOf]; omega⟩
                unfold Hid
                rw [HKT.out, List.flatMap_append, ← HM.out]
                rw [show List.flatMap (rTurn a b) [k] = [] by simp [rTurn, ← HW1.out, ← HW2'.out, ← HH1.out, ← HH2.out, HQ.out], List.append_nil]
        · obtain rfl : i = K.length := by omega
          have hfin := HM.out
          rw [List.take_length] at hfin
          have HF := Lib.hid (show M = rOfF a b by rw [hfin, HKK.out]; rfl)
          clear hfin
          go_wp2
          go_ret2
          refine ⟨?_, HW2.out.trans ((HB7.out.trans (HB4.out.mono HB7.out.size)).mono HW2.out.size)⟩
          unfold ROfRes
          rw [HOA.out, HOB.out, ← HF.out]
          exact ⟨_, rfl, Rec.Own.mono HO4.out (Nat.le_trans HW2.out.size HB7.out.size)⟩
end Go.Proofs.Ytahmacnmphjhgaa
namespace Go.Proofs.Ytahmacnmphjhgaa
open Oct

section
variable {α β : Type} (ka : α → List UInt8) (kb : β → List UInt8)
theorem steps_nil : steps ka kb [] [] = [] := by rw [steps]
theorem steps_left (x : α) (a : List α) : steps ka kb (x :: a) [] = (some x, none) :: steps ka kb a [] := by rw [steps]
theorem steps_right (y : β) (b : List β) : steps ka kb [] (y :: b) = (none, some y) :: steps ka kb [] b := by rw [steps]
theorem steps_lt (x : α) (y : β) (a : List α) (b : List β) (h : lt (ka x) (kb y) = true) : steps ka kb (x :: a) (y :: b) = (some x, none) :: steps ka kb a (y :: b) := by rw [steps, if_pos h]
theorem steps_gt (x : α) (y : β) (a : List α) (b : List β) (h : lt (ka x) (kb y) = false) (h2 : lt (kb y) (ka x) = true) : steps ka kb (x :: a) (y :: b) = (none, some y) :: steps ka kb (x :: a) b := by rw [steps, if_neg (by rw [h]; simp), if_pos h2]
theorem steps_eq (x : α) (y : β) (a : List α) (b : List β) (h : lt (ka x) (kb y) = false) (h2 : lt (kb y) (ka x) = false) : steps ka kb (x :: a) (y :: b) = (some x, some y) :: steps ka kb a b := by rw [steps, if_neg (by rw [h]; simp), if_neg (by rw [h2]; simp)]
/-- what a step is of -/
def StepOK (a : List α) (b : List β) : Option α × Option β → Prop
  | (some x, none) => x ∈ a ∧ ∀ y ∈ b, kb y ≠ ka x
  | (none, some y) => y ∈ b ∧ ∀ x ∈ a, ka x ≠ kb y
  | (some x, some y) => x ∈ a ∧ y ∈ b ∧ ka x = kb y
  | (none, none) => False
theorem StepOK.wider {a a' : List α} {b b' : List β} {s : Option α × Option β} (h : StepOK ka kb a b s) (ha : ∀ x ∈ a, x ∈ a') (hb : ∀ y ∈ b, y ∈ b') (hx : ∀ x ∈ a', x ∈ a ∨ ∀ y ∈ b, ka x ≠ kb y) (hy : ∀ y ∈ b', y ∈ b ∨ ∀ x ∈ a, kb y ≠ ka x) : StepOK ka kb a' b' s := by
  obtain ⟨o, p⟩ := s
  cases o with
  | none =>
    cases p with
    | none => exact h
    | some y => exact ⟨hb _ h.1, fun x hx' => (hx x hx').elim (fun m => h.2 x m) (fun m => m y h.1)⟩
  | some x =>
    cases p with
    | none => exact ⟨ha _ h.1, fun y hy' => (hy y hy').elim (fun m => h.2 y m) (fun m => m x h.1)⟩
    | some y => exact ⟨ha _ h.1, hb _ h.2.1, h.2.2⟩
theorem rise_map_cons {γ : Type} (k : γ → List UInt8) (x : γ) (l : List γ) : rise ((x :: l).map k) = true ↔ (∀ y ∈ l, lt (k x) (k y) = true) ∧ rise (l.map k) = true := by
  rw [List.map_cons, rise_cons]; simp
theorem ne_of_lt {a b : List UInt8} (h : lt a b = true) : a ≠ b := by rintro rfl; rw [lt_irr] at h; cases h
theorem steps_ok : ∀ (n : Nat) (a : List α) (b : List β), a.length + b.length = n → rise (a.map ka) = true → rise (b.map kb) = true → ∀ s ∈ steps ka kb a b, StepOK ka kb a b s := by
  intro n
  induction n using Nat.strongRecOn with
  | ind n ih =>
    intro a b hn ha hb s hs
    match a, b with
    | [], [] => rw [steps_nil] at hs; simp at hs
    | x :: a, [] =>
      obtain ⟨hx, ha'⟩ := (rise_map_cons ka x a).1 ha
      rw [steps_left, List.mem_cons] at hs
      rcases hs with rfl | hs
      · exact ⟨by simp, by simp⟩
      · refine (ih _ (by simp only [List.length_cons, List.length_nil] at hn ⊢; omega) a [] rfl ha' hb s hs).wider ka kb (fun z h => by simp [h]) (fun z h => h) (fun z h => ?_) (fun z h => .inl h)
        exact .inr (by simp)
    | [], y :: b =>
      obtain ⟨hy, hb'⟩ := (rise_map_cons kb y b).1 hb
      rw [steps_right, List.mem_cons] at hs
      rcases hs with rfl | hs
      · exact ⟨by simp, by simp⟩
      · refine (ih _ (by simp only [List.length_cons, List.length_nil] at hn ⊢; omega) [] b rfl ha hb' s hs).wider ka kb (fun z h => h) (fun z h => by simp [h]) (fun z h => .inl h) (fun z h => ?_)
        exact .inr (by simp)
    | x :: a, y :: b =>
      obtain ⟨hx, ha'⟩ := (rise_map_cons ka x a).1 ha
      obtain ⟨hy, hb'⟩ := (rise_map_cons kb y b).1 hb
      cases h1 : lt (ka x) (kb y) with
      | true =>
        have hxb : ∀ z ∈ y :: b, lt (ka x) (kb z) = true := fun z hz => by
          rcases List.mem_cons.1 hz with rfl | hz
          · exact h1
          · exact lt_trans' h1 (hy z hz)
        rw [steps_lt _ _ _ _ _ _ h1, List.mem_cons] at hs
        rcases hs with rfl | hs
        · exact ⟨by simp, fun z hz => (ne_of_lt (hxb z hz)).symm⟩
        · refine (ih _ (by simp only [List.length_cons] at hn ⊢; omega) a (y :: b) rfl ha' hb s hs).wider ka kb (fun z h => by simp [h]) (fun z h => h) (fun z h => ?_) (fun z h => .inl h)
          rcases List.mem_cons.1 h with rfl | h
          · exact .inr fun z hz => ne_of_lt (hxb z hz)
          · exact .inl h
      | false =>
        cases h2 : lt (kb y) (ka x) with
        | true =>
          have hya : ∀ z ∈ x :: a, lt (kb y) (ka z) = true := fun z hz => by
            rcases List.mem_cons.1 hz with rfl | hz
            · exact h2
            · exact lt_trans' h2 (hx z hz)
          rw [steps_gt _ _ _ _ _ _ h1 h2, List.mem_cons] at hs
          rcases hs with rfl | hs
          · exact ⟨by simp, fun z hz => (ne_of_lt (hya z hz)).symm⟩
          · refine (ih _ (by simp only [List.length_cons] at hn ⊢; omega) (x :: a) b rfl ha hb' s hs).wider ka kb (fun z h => h) (fun z h => by simp [h]) (fun z h => .inl h) (fun z h => ?_)
            rcases List.mem_cons.1 h with rfl | h
            · exact .inr fun z hz => ne_of_lt (hya z hz)
            · exact .inl h
        | false =>
          have he := lt_or_eq h1 h2
          rw [steps_eq _ _ _ _ _ _ h1 h2, List.mem_cons] at hs
          rcases hs with rfl | hs
          · exact ⟨by simp, by simp, he⟩
          · refine (ih _ (by simp only [List.length_cons] at hn ⊢; omega) a b rfl ha' hb' s hs).wider ka kb (fun z h => by simp [h]) (fun z h => by simp [h]) (fun z h => ?_) (fun z h => ?_)
            · rcases List.mem_cons.1 h with rfl | h
              · exact .inr fun z hz => ne_of_lt (by rw [he]; exact hy z hz)
              · exact .inl h
            · rcases List.mem_cons.1 h with rfl | h
              · exact .inr fun z hz => ne_of_lt (by rw [← he]; exact hx z hz)
              · exact .inl h
theorem steps_snd : ∀ (n : Nat) (a : List α) (b : List β), a.length + b.length = n → (steps ka kb a b).filterMap (·.2) = b := by
  intro n
  induction n using Nat.strongRecOn with
  | ind n ih =>
    intro a b hn
    match a, b with
    | [], [] => rw [steps_nil]; rfl
    | x :: a, [] => rw [steps_left, List.filterMap_cons]; exact ih _ (by simp only [List.length_cons, List.length_nil] at hn ⊢; omega) a [] rfl
    | [], y :: b => rw [steps_right, List.filterMap_cons]; simp only; rw [ih _ (by simp only [List.length_cons, List.length_nil] at hn ⊢; omega) [] b rfl]
    | x :: a, y :: b =>
      cases h1 : lt (ka x) (kb y) with
      | true => rw [steps_lt _ _ _ _ _ _ h1, List.filterMap_cons]; exact ih _ (by simp only [List.length_cons] at hn ⊢; omega) a (y :: b) rfl
      | false =>
        cases h2 : lt (kb y) (ka x) with
        | true => rw [steps_gt _ _ _ _ _ _ h1 h2, List.filterMap_cons]; simp only; rw [ih _ (by simp only [List.length_cons] at hn ⊢; omega) (x :: a) b rfl]
        | false => rw [steps_eq _ _ _ _ _ _ h1 h2, List.filterMap_cons]; simp only; rw [ih _ (by simp only [List.length_cons] at hn ⊢; omega) a b rfl]
end

theorem fnd_mem : ∀ (a : List PR), once a = true → ∀ x ∈ a, fnd x.1 a = some x.2
  | y :: a, h, x, hx => by
    obtain ⟨hy, ha⟩ := (once_cons y a).1 h
    rcases List.mem_cons.1 hx with rfl | hx
    · simp [fnd]
    · rw [fnd, if_neg (ne_of_lt (hy x hx)), fnd_mem a ha x hx]
theorem fnd_not : ∀ (a : List PR) (k : List UInt8), (∀ x ∈ a, x.1 ≠ k) → fnd k a = none
  | [], _, _ => rfl
  | y :: a, k, h => by rw [fnd, if_neg (h y (by simp)), fnd_not a k fun x hx => h x (by simp [hx])]

theorem once_sorted : ∀ l : List PR, once l = true → sorted l = true
  | [], _ => rfl
  | x :: l, h => by
    obtain ⟨h1, h2⟩ := (once_cons x l).1 h
    exact sorted_cons.2 ⟨fun y hy => lt_asymm' (h1 y hy), once_sorted l h2⟩
theorem mem_mrg {z : PR} : ∀ a b : List PR, z ∈ mrg a b → z ∈ a ∨ z ∈ b := by
  intro a b
  induction a, b using mrg.induct with
  | case1 b => rw [mrg_nil_l]; exact .inr
  | case2 a h => rw [mrg_nil_r]; exact .inl
  | case3 x a y b h ih =>
    rw [mrg_cons, if_pos h, List.mem_cons]
    rintro (rfl | hz)
    · exact .inr (by simp)
    · rcases ih hz with h | h
      · exact .inl h
      · exact .inr (by simp [h])
  | case4 x a y b h ih =>
    rw [mrg_cons, if_neg h, List.mem_cons]
    rintro (rfl | hz)
    · exact .inl (by simp)
    · rcases ih hz with h | h
      · exact .inl (by simp [h])
      · exact .inr h
theorem grp_one (x : PR) (l : List PR) (h : ∀ y ∈ l, lt x.1 y.1 = true) : grp (x :: l) = [x] :: grp l := by
  have h1 : 1 = head1 (x :: l) := by
    refine head1_eq (x :: l) (by simp) 1 (by omega) (by simp) (fun j hj => ?_) (fun hk => ?_)
    · obtain rfl : j = 0 := by omega
      rfl
    · cases l with
      | nil => simp at hk
      | cons y l => exact (ne_of_lt (h y (by simp))).symm
  rw [grp_step (x :: l) (by simp), ← h1]
  rfl
theorem grp_two (x y : PR) (l : List PR) (he : x.1 = y.1) (h : ∀ z ∈ l, lt x.1 z.1 = true) : grp (x :: y :: l) = [x, y] :: grp l := by
  have h1 : 2 = head1 (x :: y :: l) := by
    refine head1_eq (x :: y :: l) (by simp) 2 (by omega) (by simp) (fun j hj => ?_) (fun hk => ?_)
    · match j, hj with
      | 0, _ => rfl
      | 1, _ => exact he.symm
    · cases l with
      | nil => simp at hk
      | cons z l => exact (ne_of_lt (h z (by simp))).symm
  rw [grp_step (x :: y :: l) (by simp), ← h1]
  rfl
def keyOf : Option PR × Option PR → List UInt8
  | (some x, _) => x.1
  | (none, some y) => y.1
  | (none, none) => []
theorem grp_mrg : ∀ (n : Nat) (a b : List PR), a.length + b.length = n → once a = true → once b = true → (grp (mrg a b)).map hk1 = (steps Prod.fst Prod.fst a b).map keyOf := by
  intro n
  induction n using Nat.strongRecOn with
  | ind n ih =>
    intro a b hn ha hb
    match a, b with
    | [], [] => rw [steps_nil, mrg_nil_l]; rfl
    | x :: a, [] =>
      obtain ⟨hx, ha'⟩ := (once_cons x a).1 ha
      have := ih _ (by simp only [List.length_cons, List.length_nil] at hn ⊢; omega) a [] rfl ha' hb
      rw [mrg_nil_r] at this ⊢
      rw [steps_left, grp_one x a hx, List.map_cons, this]
      rfl
    | [], y :: b =>
      obtain ⟨hy, hb'⟩ := (once_cons y b).1 hb
      have := ih _ (by simp only [List.length_cons, List.length_nil] at hn ⊢; omega) [] b rfl ha hb'
      rw [mrg_nil_l] at this ⊢
      rw [steps_right, grp_one y b hy, List.map_cons, this]
      rfl
    | x :: a, y :: b =>
      obtain ⟨hx, ha'⟩ := (once_cons x a).1 ha
      obtain ⟨hy, hb'⟩ := (once_cons y b).1 hb
      cases h1 : lt x.1 y.1 with
      | true =>
        have hall : ∀ z ∈ mrg a (y :: b), lt x.1 z.1 = true := fun z hz => by
          rcases mem_mrg _ _ hz with h | h
          · exact hx z h
          · rcases List.mem_cons.1 h with rfl | h
            · exact h1
            · exact lt_trans' h1 (hy z h)
        rw [mrg_cons, if_neg (by rw [lt_asymm' h1]; simp), steps_lt _ _ _ _ _ _ h1, grp_one x _ hall, List.map_cons, ih _ (by simp only [List.length_cons] at hn ⊢; omega) a (y :: b) rfl ha' hb]
        rfl
      | false =>
        cases h2 : lt y.1 x.1 with
        | true =>
          have hall : ∀ z ∈ mrg (x :: a) b, lt y.1 z.1 = true := fun z hz => by
            rcases mem_mrg _ _ hz with h | h
            · rcases List.mem_cons.1 h with rfl | h
              · exact h2
              · exact lt_trans' h2 (hx z h)
            · exact hy z h
          rw [mrg_cons, if_pos h2, steps_gt _ _ _ _ _ _ h1 h2, grp_one y _ hall, List.map_cons, ih _ (by simp only [List.length_cons] at hn ⊢; omega) (x :: a) b rfl ha hb']
          rfl
        | false =>
          have he := lt_or_eq h1 h2
          have hm : mrg a (y :: b) = y :: mrg a b := by
            cases a with
            | nil => rw [mrg_nil_l, mrg_nil_l]
            | cons z a => rw [mrg_cons, if_pos (by rw [← he]; exact hx z (by simp))]
          have hall : ∀ z ∈ mrg a b, lt x.1 z.1 = true := fun z hz => by
            rcases mem_mrg _ _ hz with h | h
            · exact hx z h
            · rw [he]; exact hy z h
          rw [mrg_cons, if_neg (by rw [h2]; simp), hm, steps_eq _ _ _ _ _ _ h1 h2, grp_two x y _ he hall, List.map_cons, ih _ (by simp only [List.length_cons] at hn ⊢; omega) a b rfl ha' hb']
          rfl
theorem keysF_eq (a b : List PR) (ha : once a = true) (hb : once b = true) : keysF a b = (steps Prod.fst Prod.fst a b).map keyOf := by
  unfold keysF
  rw [← mrg_srt, srt_of_sorted a (once_sorted a ha), srt_of_sorted b (once_sorted b hb)]
  exact grp_mrg _ a b rfl ha hb
theorem rTurn_step (a b : List PR) (ha : once a = true) (hb : once b = true) (s : Option PR × Option PR) (h : StepOK Prod.fst Prod.fst a b s) : rTurn a b (keyOf s) = turnOf s.1 s.2 := by
  obtain ⟨o, p⟩ := s
  cases o with
  | none =>
    cases p with
    | none => exact h.elim
    | some y =>
      have h1 := fnd_not a y.1 h.2
      have h2 := fnd_mem b hb y h.1
      simp [rTurn, keyOf, turnOf, h1, h2]
  | some x =>
    cases p with
    | none =>
      have h1 := fnd_mem a ha x h.1
      have h2 := fnd_not b x.1 h.2
      simp [rTurn, keyOf, turnOf, h1, h2]
    | some y =>
      obtain ⟨hx, hy, he⟩ := h
      have h1 := fnd_mem a ha x hx
      have h2 := fnd_mem b hb y hy
      have he' : x.1 = y.1 := he
      rw [← he'] at h2
      unfold rTurn keyOf turnOf
      simp only [h1, h2, Option.getD_some, Option.isSome_some, bne_self_eq_false, Bool.or_false]
      by_cases hxy : x = y
      · rw [if_pos hxy, if_neg (by rw [hxy]; simp)]
      · have hne : x.2 ≠ y.2 := fun h => hxy (Prod.ext he' h)
        rw [if_neg hxy, if_pos (by rw [bne_iff_ne]; exact hne), he']
/-- THE REFERENCE'S TURNS ARE THE PROGRAM'S -/
theorem rOfF_eq (a b : List PR) (ha : once a = true) (hb : once b = true) : rOfF a b = ofF a b := by
  unfold rOfF ofF
  rw [keysF_eq a b ha hb, List.flatMap_map]
  have key : ∀ L : List (Option PR × Option PR), (∀ s ∈ L, StepOK Prod.fst Prod.fst a b s) → L.flatMap (fun s => rTurn a b (keyOf s)) = L.flatMap (fun s => turnOf s.1 s.2) := by
    intro L hL
    induction L with
    | nil => rfl
    | cons s L ih => rw [List.flatMap_cons, List.flatMap_cons, rTurn_step a b ha hb s (hL s (by simp)), ih fun t ht => hL t (by simp [ht])]
  exact key _ (steps_ok Prod.fst Prod.fst _ a b rfl ha hb)
end Go.Proofs.Ytahmacnmphjhgaa
namespace Go.Proofs.Ytahmacnmphjhgaa
open Go.RowKit Oct

theorem by3256 {n : Nat} (h : n * 56 ≤ 140737488355328) : n * 32 ≤ 140737488355328 := by omega
/-- what delta.Apply gives -/
def ApRes (a : List PR) (l : List TR) (n : Nat) (e : Ending) (w : World) : Prop :=
  match once a && riseT l with
  | false => e = .returned (.tuple #[.slice none 0 0, .int .i64 2])
  | true => match (apF a l ([], false)).2 with
    | true => e = .returned (.tuple #[.slice none 0 0, .int .i64 2])
    | false => ∃ v, e = .returned (.tuple #[v, .int .i64 0]) ∧ OP w n v (apF a l ([], false)).1
theorem ApRes.good {a : List PR} {l : List TR} {n : Nat} {e : Ending} {w : World} (h : ApRes a l n e w) (hh : (once a && riseT l) = true) (o : List PR) (ho : apF a l ([], false) = (o, false)) : ∃ v, e = .returned (.tuple #[v, .int .i64 0]) ∧ OP w n v o := by
  unfold ApRes at h; rw [hh, ho] at h; exact h
theorem BoxA.set0 {p : Nat} {w : World} {s : List PR × Bool} (h : BoxA p w s) (u : Value) : (w.setCell ⟨p, 0, none⟩ u).cell? ⟨p, 0, none⟩ = some u := by
  obtain ⟨⟨v, hh, _⟩, _⟩ := h
  exact cell_of_one (one_setCell (v := v) hh)
theorem BoxA.cell1 {p : Nat} {w : World} {s : List PR × Bool} (h : BoxA p w s) {u : Value} : (w.setCell ⟨p, 0, none⟩ u).heap[p + 1]? = some (.cells #[.int .i64 (errOf s.2)] 28 (0, 0)) := by
  rw [Below.heap_setCell _ _ _ _ (by simp)]
  exact h.2
theorem set_other {w : World} {a b : Addr} {u v : Value} (hne : a.block ≠ b.block) (h : w.cell? a = some v) : (w.setCell b u).cell? a = some v :=
  (World.cell?_of_block (w := w) (Below.heap_setCell w b u a.block hne)).trans h
theorem set_same {w : World} {p : Nat} {u v : Value} {t : TypeId} (h : w.heap[p]? = some (.cells #[v] t (0, 0))) : (w.setCell ⟨p, 0, none⟩ u).cell? ⟨p, 0, none⟩ = some u := cell_of_one (one_setCell (v := v) h)

set_option maxRecDepth 100000 in
set_option maxHeartbeats 4000000 in
theorem Apply_any (v1 v2 : Value) (a : List PR) (l : List TR) (w : World) (hr1 : RP w v1 a) (hr2 : recT.Row w v2 l) (hl : (a.length + l.length + 1) * 56 ≤ 140737488355328) :
    Calls Try.prog 14 #[v1, v2] w fun e w' => ApRes a l w.heap.size e w' ∧ Below w.heap.size w w' := by
  obtain ⟨a1, c1, rfl, _, _⟩ := hr1.open
  obtain ⟨a2, c2, rfl, _, _⟩ := recT_open hr2
  have hla : a.length ≤ 140737488355328 := by omega
  have hlb : l.length ≤ 140737488355328 := by omega
  have HLB := Lib.hid (by3256 hl)
  have HR1 := Lib.hid hr1
  have HR2 := Lib.hid hr2
  have HLA := Lib.hid hla
  have HLB2 := Lib.hid hlb
  clear hr1 hr2 hl hla hlb
  have hmf : ∀ (fn : Fn) (first cap : Array Value) (w : World), (Instr.makeFunc fn first cap).run Try.prog w = .ok (.func fn first cap) w := fun _ _ _ _ => rfl
  obtain ⟨w1, hw1⟩ : ∃ w1, w1 = (w.alloc (.cells #[.slice none 0 0] 22)).alloc (.cells #[.int .i64 0] 28) := ⟨_, rfl⟩
  obtain ⟨hb1, hb2, hB1⟩ := two_new w (.cells #[.slice none 0 0] 22) (.cells #[.int .i64 0] 28)
  rw [← hw1] at hb1 hb2 hB1
  have HBX1 := Lib.hid (show BoxA w.heap.size w1 ([], false) from ⟨⟨_, hb1, World.ownsRow_nil _ _ _ _⟩, hb2⟩)
  have HB1 := Lib.hid hB1
  clear hB1 hb1 hb2
  go_enter Try.func14, Try.ntmps14
  go_wp2_with fail
  rw [← hw1]
  clear hw1
  cases hoa : once a with
  | false =>
    have HOA := Lib.hid hoa
    clear hoa
    refine (once_any _ a w1 (HR1.out.below HB1.out) HLA.out).mono ?_
    rw [HOA.out]
    rintro e w2 ⟨rfl, hB2⟩
    have HB2 := Lib.hid (bt HB1.out hB2)
    have HBX2 := Lib.hid (HBX1.out.below hB2)
    clear hB2
    obtain ⟨av, cv, cc, ff, _, hp, c2, f2⟩ := HBX2.out.open
    go_wp2
    refine bodyPost_ret (results_cell_cell (v := .slice none 0 0) (u := .int .i64 2) rfl rfl rfl (load_pairs (set_other (by simp) (BoxA.set0 HBX2.out _))) (load_errno (set_same (BoxA.cell1 HBX2.out)))) rfl ?_
    refine ⟨?_, Below.setCell (Below.setCell HB2.out (p := ⟨w.heap.size, 0, none⟩) (Nat.le_refl _) _) (p := ⟨w.heap.size + 1, 0, none⟩) (Nat.le_succ _) _⟩
    unfold ApRes
    rw [HOA.out, Bool.false_and]
  | true =>
    have HOA := Lib.hid hoa
    clear hoa
    refine (once_any _ a w1 (HR1.out.below HB1.out) HLA.out).mono ?_
    rw [HOA.out]
    rintro e w2 ⟨rfl, hB2⟩
    have HB2 := Lib.hid (bt HB1.out hB2)
    have HBX2 := Lib.hid (HBX1.out.below hB2)
    clear hB2
    go_wp2_with fail
    cases hob : riseT l with
    | false =>
      have HOB := Lib.hid hob
      clear hob
      refine (riseT_any _ l w2 (HR2.out.below HB2.out) HLB2.out).mono ?_
      rw [HOB.out]
      rintro e w3 ⟨rfl, hB3⟩
      have HB3 := Lib.hid (bt HB2.out hB3)
      have HBX3 := Lib.hid (HBX2.out.below hB3)
      clear hB3
      obtain ⟨av, cv, cc, ff, _, hp, c2, f2⟩ := HBX3.out.open
      go_wp2
      refine bodyPost_ret (results_cell_cell (v := .slice none 0 0) (u := .int .i64 2) rfl rfl rfl (load_pairs (set_other (by simp) (BoxA.set0 HBX3.out _))) (load_errno (set_same (BoxA.cell1 HBX3.out)))) rfl ?_
      refine ⟨?_, Below.setCell (Below.setCell HB3.out (p := ⟨w.heap.size, 0, none⟩) (Nat.le_refl _) _) (p := ⟨w.heap.size + 1, 0, none⟩) (Nat.le_succ _) _⟩
      unfold ApRes
      rw [HOB.out, Bool.and_false]
    | true =>
      have HOB := Lib.hid hob
      clear hob
      refine (riseT_any _ l w2 (HR2.out.below HB2.out) HLB2.out).mono ?_
      rw [HOB.out]
      rintro e w3 ⟨rfl, hB3⟩
      have HB3 := Lib.hid (bt HB2.out hB3)
      have HBX3 := Lib.hid (HBX2.out.below hB3)
      clear hB3
      go_wp2_with fail
      refine (bothAp_any _ _ a l w w3 HR1.out HR2.out HBX3.out HB3.out HLB.out).mono ?_
      rintro e w4 ⟨rfl, hbox4, hB4⟩
      have HB4 := Lib.hid hB4
      clear hB4
      obtain ⟨S, hS⟩ : ∃ S, S = apF a l ([], false) := ⟨_, rfl⟩
      rw [← hS] at hbox4
      have HS := Lib.hid hS
      obtain ⟨o, bd⟩ := S
      have HBX4 := Lib.hid hbox4
      clear hbox4 hS
      cases bd with
      | true =>
        obtain ⟨av, cv, cc, ff, _, hp, c2, f2⟩ := HBX4.out.open
        rw [show errOf (o, true).2 = 2 from rfl] at c2
        have hp0 : w.heap.size < w4.heap.size := by omega
        go_wp2
        go_region
        go_wp2
        refine bodyPost_ret (results_cell_cell (v := .slice none 0 0) (u := .int .i64 2) rfl rfl rfl (load_pairs (set_other (by simp) (BoxA.set0 (HBX4.out.below (b_drew _)) _))) (load_errno (set_same (BoxA.cell1 (HBX4.out.below (b_drew _)))))) rfl ?_
        refine ⟨?_, Below.setCell (Below.setCell (HB4.out.trans ((b_drew _).mono HB4.out.size)) (p := ⟨w.heap.size, 0, none⟩) (Nat.le_refl _) _) (p := ⟨w.heap.size + 1, 0, none⟩) (Nat.le_succ _) _⟩
        unfold ApRes
        rw [HOA.out, HOB.out, ← HS.out]
        rfl
      | false =>
        obtain ⟨av, cv, cc, ff, hown, hp, c2, f2⟩ := HBX4.out.open
        rw [show errOf (o, false).2 = 0 from rfl] at c2
        have HO := Lib.hid hown
        clear hown
        go_wp2
        refine bodyPost_ret (results_cell_cell (v := .slice av o.length cv) (u := .int .i64 0) rfl rfl rfl (load_pairs (set_other (by simp) (BoxA.set0 HBX4.out _))) (load_errno (set_same (BoxA.cell1 HBX4.out)))) rfl ?_
        refine ⟨?_, Below.setCell (Below.setCell HB4.out (p := ⟨w.heap.size, 0, none⟩) (Nat.le_refl _) _) (p := ⟨w.heap.size + 1, 0, none⟩) (Nat.le_succ _) _⟩
        unfold ApRes
        rw [HOA.out, HOB.out, ← HS.out]
        exact ⟨_, rfl, owns_mono (ownsRow_setCell_below (ownsRow_setCell_below HO.out (by simp) _) (by simp) _) (by omega)⟩

end Go.Proofs.Ytahmacnmphjhgaa
namespace Go.Proofs.Ytahmacnmphjhgaa
open Oct

/-- may a turn be of what a has? -/
def fitsR (a : List PR) (t : TR) : Bool := (t.had == (fnd t.key a).isSome) && (t.was == (fnd t.key a).getD []) && !((t.had == t.has) && (t.was == t.now)) && (t.has || t.now == [])
def okA (a : List PR) (l : List TR) : Bool := once a && (riseT l && l.all (fitsR a))
theorem okA_rise {a : List PR} {l : List TR} (h : riseT l = false) : okA a l = false := by unfold okA; rw [h]; simp
theorem okA_fits {a : List PR} {l : List TR} (i : Nat) (hi : i < l.length) (h : fitsR a l[i] = false) : okA a l = false := by
  unfold okA
  have : l.all (fitsR a) = false := by
    rw [List.all_eq_false]
    exact ⟨l[i], List.getElem_mem hi, by rw [h]; simp⟩
  rw [this]; simp
theorem okA_true {a : List PR} {l : List TR} (ha : once a = true) (h : ∀ j (hj : j < l.length), fitsR a l[j] = true ∧ ∀ (hj' : j + 1 < l.length), lt l[j].key l[j + 1].key = true) : okA a l = true := by
  unfold okA
  have h1 : riseT l = true := riseT_true l l.length (by omega) fun j hj _ => (h j (by omega)).2 hj
  have h2 : l.all (fitsR a) = true := by
    rw [List.all_eq_true]
    intro t ht
    obtain ⟨j, hj, rfl⟩ := List.getElem_of_mem ht
    exact (h j hj).1
  rw [ha, h1, h2]; rfl
def putT (t : TR) : List PR := if t.has then [(t.key, t.now)] else []
def outB : Option PR × Option TR → List PR
  | (_, some t) => putT t
  | (o, none) => o.toList
/-- what Apply's row is, if all fits -/
def outG (a : List PR) (l : List TR) : List PR := (steps Prod.fst TR.key a l).flatMap outB
theorem outG_nil : outG [] [] = [] := by rw [outG, steps_nil]; rfl
theorem outG_left (x : PR) (a : List PR) : outG (x :: a) [] = x :: outG a [] := by rw [outG, steps_left]; rfl
theorem outG_right (y : TR) (b : List TR) : outG [] (y :: b) = putT y ++ outG [] b := by rw [outG, steps_right]; rfl
theorem outG_lt (x : PR) (y : TR) (a : List PR) (b : List TR) (h : lt x.1 y.key = true) : outG (x :: a) (y :: b) = x :: outG a (y :: b) := by rw [outG, steps_lt _ _ _ _ _ _ h]; rfl
theorem outG_gt (x : PR) (y : TR) (a : List PR) (b : List TR) (h2 : lt y.key x.1 = true) : outG (x :: a) (y :: b) = putT y ++ outG (x :: a) b := by rw [outG, steps_gt _ _ _ _ _ _ (lt_asymm' h2) h2]; rfl
theorem outG_eq (x : PR) (y : TR) (a : List PR) (b : List TR) (h : x.1 = y.key) : outG (x :: a) (y :: b) = putT y ++ outG a b := by rw [outG, steps_eq _ _ _ _ _ _ (by rw [h]; exact lt_irr _) (by rw [h]; exact lt_irr _)]; rfl
theorem outG_le : ∀ (n : Nat) (a : List PR) (l : List TR), a.length + l.length = n → (outG a l).length ≤ n := by
  intro n a l hn
  have h1 : ∀ L : List (Option PR × Option TR), (L.flatMap outB).length ≤ L.length := by
    intro L
    induction L with
    | nil => simp
    | cons o L ih =>
      rw [List.flatMap_cons, List.length_append, List.length_cons]
      have : (outB o).length ≤ 1 := by
        obtain ⟨o, t⟩ := o
        cases t with
        | none => cases o <;> simp [outB]
        | some t => simp only [outB, putT]; split <;> simp
      omega
  have h2 : ∀ (n : Nat) (a : List PR) (l : List TR), a.length + l.length = n → (steps Prod.fst TR.key a l).length ≤ n := by
    intro n
    induction n using Nat.strongRecOn with
    | ind n ih =>
      intro a b hn
      match a, b with
      | [], [] => rw [steps_nil]; simp
      | x :: a, [] =>
        simp only [List.length_cons, List.length_nil] at hn
        have := ih (a.length + 0) (by omega) a [] rfl
        rw [steps_left, List.length_cons]; omega
      | [], y :: b =>
        simp only [List.length_cons, List.length_nil] at hn
        have := ih (0 + b.length) (by omega) [] b rfl
        rw [steps_right, List.length_cons]; omega
      | x :: a, y :: b =>
        simp only [List.length_cons] at hn
        cases h1 : lt x.1 y.key with
        | true =>
          have := ih (a.length + (b.length + 1)) (by omega) a (y :: b) rfl
          rw [steps_lt _ _ _ _ _ _ h1, List.length_cons]; omega
        | false =>
          cases h2 : lt y.key x.1 with
          | true =>
            have := ih (a.length + 1 + b.length) (by omega) (x :: a) b rfl
            rw [steps_gt _ _ _ _ _ _ h1 h2, List.length_cons]; omega
          | false =>
            have := ih (a.length + b.length) (by omega) a b rfl
            rw [steps_eq _ _ _ _ _ _ h1 h2, List.length_cons]; omega
  exact Nat.le_trans (h1 _) (h2 n a l hn)
theorem fits_step (a : List PR) (l : List TR) (ha : once a = true) (o : Option PR) (t : TR) (h : StepOK Prod.fst TR.key a l (o, some t)) : fitsF o t = fitsR a t := by
  cases o with
  | none =>
    have h1 := fnd_not a t.key h.2
    unfold fitsF fitsR
    have hc : (([] : List UInt8) == t.was) = (t.was == []) := by rw [Bool.eq_iff_iff, beq_iff_eq, beq_iff_eq]; exact eq_comm
    rw [h1]
    simp only [Option.isSome_none, Option.getD_none, bne, hc]
    generalize (t.was == []) = p
    generalize (t.was == t.now) = q
    generalize (t.now == []) = r
    cases t.had <;> cases t.has <;> cases p <;> cases q <;> cases r <;> rfl
  | some x =>
    obtain ⟨hx, _, he⟩ := h
    have he' : x.1 = t.key := he
    have h1 := fnd_mem a ha x hx
    rw [he'] at h1
    unfold fitsF fitsR
    have hc : (x.2 == t.was) = (t.was == x.2) := by rw [Bool.eq_iff_iff, beq_iff_eq, beq_iff_eq]; exact eq_comm
    rw [h1]
    simp only [Option.isSome_some, Option.getD_some, bne, hc]
    generalize (t.was == x.2) = p
    generalize (t.was == t.now) = q
    generalize (t.now == []) = r
    cases t.had <;> cases t.has <;> cases p <;> cases q <;> cases r <;> rfl
def badO (o : Option PR × Option TR) : Bool := match o.2 with | none => false | some t => !fitsF o.1 t
theorem fold_good : ∀ (L : List (Option PR × Option TR)) (s : List PR × Bool), (∀ o ∈ L, badO o = false) → L.foldl stepA s = (s.1 ++ L.flatMap outB, s.2)
  | [], s, _ => by simp
  | o :: L, s, h => by
    have h1 := h o (by simp)
    rw [List.foldl_cons, fold_good L _ fun p hp => h p (by simp [hp]), List.flatMap_cons, ← List.append_assoc]
    obtain ⟨o, t⟩ := o
    cases t with
    | none => rfl
    | some t =>
      have h2 : fitsF o t = true := by simpa [badO] using h1
      unfold stepA outB putT
      simp only [h2, if_true]
      split <;> simp
theorem fold_bad : ∀ (L : List (Option PR × Option TR)) (s : List PR × Bool), (s.2 = true ∨ ∃ o ∈ L, badO o = true) → (L.foldl stepA s).2 = true
  | [], s, h => by rcases h with h | ⟨o, ho, _⟩; · exact h
                   · simp at ho
  | o :: L, s, h => by
    rw [List.foldl_cons]
    refine fold_bad L _ ?_
    rcases h with h | ⟨p, hp, hb⟩
    · left
      obtain ⟨o, t⟩ := o
      cases t with
      | none => exact h
      | some t => unfold stepA; dsimp only; split <;> (try split) <;> simp [h]
    · rcases List.mem_cons.1 hp with rfl | hp
      · left
        obtain ⟨o, t⟩ := p
        cases t with
        | none => simp [badO] at hb
        | some t =>
          have h2 : fitsF o t = false := by simpa [badO] using hb
          unfold stepA
          simp [h2]
      · exact .inr ⟨p, hp, hb⟩
theorem ap_good (a : List PR) (l : List TR) (h : okA a l = true) : apF a l ([], false) = (outG a l, false) := by
  simp only [okA, Bool.and_eq_true, List.all_eq_true] at h
  obtain ⟨ha, hl, hf⟩ := h
  unfold apF outG
  rw [fold_good]
  · rfl
  · intro o ho
    have hs := steps_ok Prod.fst TR.key _ a l rfl ha hl o ho
    obtain ⟨o, t⟩ := o
    cases t with
    | none => rfl
    | some t =>
      have hm : t ∈ l := by cases o with | none => exact hs.1 | some x => exact hs.2.1
      simp [badO, fits_step a l ha o t hs, hf t hm]
theorem ap_bad (a : List PR) (l : List TR) (ha : once a = true) (hl : riseT l = true) (h : okA a l = false) : (apF a l ([], false)).2 = true := by
  have : l.all (fitsR a) = false := by unfold okA at h; rw [ha, hl] at h; simpa using h
  rw [List.all_eq_false] at this
  obtain ⟨t, ht, hf⟩ := this
  unfold apF
  refine fold_bad _ _ (.inr ?_)
  rw [← steps_snd Prod.fst TR.key _ a l rfl] at ht
  obtain ⟨o, ho, he⟩ := List.mem_filterMap.1 ht
  obtain ⟨o, t'⟩ := o
  simp only at he
  subst he
  refine ⟨_, ho, ?_⟩
  have hs := steps_ok Prod.fst TR.key _ a l rfl ha hl _ ho
  simp [badO, fits_step a l ha o t hs]
  simpa using hf
/-- what the reference's Apply gives, and the program's -/
def RApRes (a : List PR) (l : List TR) (n : Nat) (e : Ending) (w : World) : Prop :=
  match okA a l with
  | false => e = .returned (.tuple #[.slice none 0 0, .int .i64 2])
  | true => ∃ v, e = .returned (.tuple #[v, .int .i64 0]) ∧ OP w n v (outG a l)
theorem ApRes.same {a : List PR} {l : List TR} {n : Nat} {e : Ending} {w : World} (h : ApRes a l n e w) : RApRes a l n e w := by
  unfold ApRes at h
  unfold RApRes
  cases hk : okA a l with
  | true =>
    have hk' := hk
    simp only [okA, Bool.and_eq_true] at hk'
    rw [hk'.1, hk'.2.1, ap_good a l hk] at h
    exact h
  | false =>
    cases ha : once a with
    | false => rw [ha] at h; exact h
    | true =>
      cases hl : riseT l with
      | false => rw [ha, hl] at h; exact h
      | true => rw [ha, hl, ap_bad a l ha hl hk] at h; exact h
end Go.Proofs.Ytahmacnmphjhgaa
namespace Go.Proofs.Ytahmacnmphjhgaa
open Oct

def Ord (a : List PR) (l : List TR) (i k : Nat) : Prop := ∀ (_ : 0 < k) (h2 : k - 1 < l.length) (h3 : i < a.length), lt l[k - 1].key a[i].1 = true
/-- within a round of the reference's Apply -/
def St (a : List PR) (l : List TR) (i k : Nat) (M : List PR) : Prop :=
  (M ++ outG (a.drop i) (l.drop k) = outG a l ∧ Ord a l i k) ∨ (∃ (_ : 0 < k) (h2 : k - 1 < l.length) (h3 : i < a.length), l[k - 1].key = a[i].1 ∧ M ++ outG (a.drop (i + 1)) (l.drop k) = outG a l)
theorem St.first {a : List PR} {l : List TR} {k : Nat} {M : List PR} {i : Nat} (h : M ++ outG (a.drop i) (l.drop k) = outG a l) (ho : Ord a l i k) : St a l i k M := .inl ⟨h, ho⟩
theorem St.len {a : List PR} {l : List TR} {i k : Nat} {M : List PR} (h : St a l i k M) : M.length ≤ a.length + l.length := by
  have := outG_le _ a l rfl
  rcases h with ⟨h, _⟩ | ⟨_, _, _, _, h⟩ <;> (rw [← h, List.length_append] at this; omega)
section
variable {a : List PR} {l : List TR} {i k : Nat} {M : List PR} (ra : ∀ j (h : j + 1 < a.length), lt a[j].1 a[j + 1].1 = true) (rl : ∀ j (h : j + 1 < l.length), lt l[j].key l[j + 1].key = true)
include rl in
theorem prev_lt (h1 : 0 < k) (hk : k < l.length) : lt (l[k - 1]'(by omega)).key l[k].key = true := by
  obtain ⟨j, rfl⟩ : ∃ j, k = j + 1 := ⟨k - 1, by omega⟩
  exact rl j hk
theorem St_a (h : St a l i k M) (hi : i = a.length) (hk : k < l.length) : St a l i (k + 1) (M ++ putT l[k]) := by
  rcases h with ⟨h, _⟩ | ⟨_, _, h3, _, _⟩
  · refine .inl ⟨?_, fun _ _ h3 => absurd h3 (by omega)⟩
    rw [← h, List.drop_eq_getElem_cons hk, hi, List.drop_length, outG_right, List.append_assoc]
  · omega
include rl in
theorem St_b (h : St a l i k M) (hi : i < a.length) (hk : k < l.length) (hl : lt l[k].key a[i].1 = true) : St a l i (k + 1) (M ++ putT l[k]) := by
  rcases h with ⟨h, _⟩ | ⟨h1, h2, h3, h4, _⟩
  · refine .inl ⟨?_, fun _ _ _ => by simpa using hl⟩
    rw [← h, List.drop_eq_getElem_cons hk, List.drop_eq_getElem_cons hi, outG_gt _ _ _ _ hl, List.append_assoc]
  · exfalso
    have := prev_lt rl h1 hk
    rw [h4, lt_asymm' hl] at this
    cases this
include rl in
theorem St_c (h : St a l i k M) (hi : i < a.length) (hk : k < l.length) (hl : l[k].key = a[i].1) : St a l i (k + 1) (M ++ putT l[k]) := by
  rcases h with ⟨h, _⟩ | ⟨h1, h2, h3, h4, _⟩
  · refine .inr ⟨by omega, by simpa using hk, hi, by simpa using hl, ?_⟩
    rw [← h, List.drop_eq_getElem_cons hk, List.drop_eq_getElem_cons hi, outG_eq _ _ _ _ hl.symm, List.append_assoc]
  · exfalso
    have := prev_lt rl h1 hk
    rw [h4, hl, lt_irr] at this
    cases this
theorem St_done (h : St a l i k M) (hi : i = a.length) (hk : k = l.length) : M = outG a l := by
  rcases h with ⟨h, _⟩ | ⟨_, _, h3, _, _⟩
  · rw [hi, hk, List.drop_length, List.drop_length, outG_nil, List.append_nil] at h
    exact h
  · omega
include ra in
theorem St_eq (h : St a l i k M) (hi : i < a.length) (h0 : 0 < k) (h2 : k - 1 < l.length) (he : l[k - 1].key = a[i].1) : St a l (i + 1) k M := by
  rcases h with ⟨_, ho⟩ | ⟨_, _, _, _, h⟩
  · have := ho h0 h2 hi
    rw [he, lt_irr] at this
    cases this
  · exact .inl ⟨h, fun _ _ h3 => by rw [he]; exact ra i h3⟩
include ra in
theorem St_put (h : St a l i k M) (hi : i < a.length) (hn : ∀ (_ : 0 < k) (h2 : k - 1 < l.length), l[k - 1].key ≠ a[i].1) (hg : ∀ (hk : k < l.length), lt a[i].1 l[k].key = true) : St a l (i + 1) k (M ++ [a[i]]) := by
  rcases h with ⟨h, ho⟩ | ⟨h1, h2, _, h4, _⟩
  · refine .inl ⟨?_, fun h1 h2 h3 => lt_trans' (ho h1 h2 hi) (ra i h3)⟩
    rw [← h, List.drop_eq_getElem_cons hi, List.append_assoc]
    by_cases hk : k < l.length
    · rw [List.drop_eq_getElem_cons hk, outG_lt _ _ _ _ (hg hk)]; rfl
    · rw [show l.drop k = [] from List.drop_of_length_le (by omega), outG_left]; rfl
  · exact absurd h4 (hn h1 h2)
end
end Go.Proofs.Ytahmacnmphjhgaa
namespace Go.Proofs.Ytahmacnmphjhgaa
open Go.RowKit Oct

attribute [local irreducible] wpG

theorem Rec.appendR {α : Type} {ops : Array Oper} {rest : List Oper} {o : Oper} {a : Act} {Q : Exit → Act → World → Prop} (R : Rec α) (w : World) (hgd : o.guard = none) (s x : Operand) (t : TypeId)
    (ho : o.op = .call { callee := .builtin .append, args := #[s, x], argTypes := #[t, t] }) (ht : Try.prog.underlying t = some (.slice R.e))
    (base : Nat) (v : Value) (xs : List α) (hown : R.Own w base v xs) (hs : a.eval s = v)
    (vx : Value) (ys : List α) (hr : Reads w vx ys.length (R.cells ys)) (hx : a.eval x = vx) (hbytes : (xs.length + ys.length) * R.bytes ≤ 140737488355328) (hbase : base ≤ w.heap.size)
    (h : ∀ v' w', R.Own w' base v' (xs ++ ys) → Below base w w' → wpList Try.prog ops Q rest (a.put o.dst v') w') : wpList Try.prog ops Q (o :: rest) a w :=
  appendN w (R.cells ys) R.e hgd s x t ho base R.z R.n R.bytes ht R.info R.zs R.pos v xs.length (R.cells xs) hs hown vx ys.length hx hr (R.cells_length ys) (R.cells_one ys) hbytes R.bpos hbase
    (fun v' w' h1 h2 => h v' w' (by unfold Rec.Own; rw [R.cells_append, List.length_append]; exact h1) h2)

set_option maxRecDepth 100000 in
set_option maxHeartbeats 4000000 in
theorem rBack_any (v : Value) (l : List TR) (w : World) (hr : recT.Row w v l) (hl : (l.length + 1) * 56 ≤ 140737488355328) :
    Calls Try.prog 19 #[v] w fun e w' => (∃ u, e = .returned u ∧ recT.Own w' w.heap.size u (l.map backT)) ∧ Below w.heap.size w w' := by
  obtain ⟨a, cap, rfl, _, hc⟩ := recT_open hr
  have HC := Lib.hid hc
  have HL := Lib.hid hl
  have hll : l.length ≤ 140737488355328 := by omega
  clear hc hr hl
  go_enter Try.func19, Try.ntmps19
  go_wp2
  go_loopw [3, 4] (fun u i wr => ∃ k : Nat, ∃ A C, k ≤ l.length ∧ i = .int .i64 (k : Int) ∧ u = .slice A k C ∧ Hid (recT.Own wr w.heap.size (.slice A k C) ((l.take k).map backT)) ∧ Hid (Below w.heap.size w wr)) (fun _ i _ => l.length - (intOf i).toNat)
  case atStart => exact ⟨0, none, 0, by omega, rfl, rfl, Rec.Own.nil _ _, Below.refl _ _⟩
  case round =>
    obtain ⟨k, A, C, hk, rfl, rfl, HO, HB⟩ := hrel
    by_cases h0 : k < l.length
    · obtain ⟨b, off, rfl, t1, t2, t3, t4, t5⟩ := HC.out k h0
      replace t1 := Below.keeps HB.out t1
      replace t2 := Below.keeps HB.out t2
      replace t3 := Below.keeps HB.out t3
      replace t4 := Below.keeps HB.out t4
      replace t5 := Below.keeps HB.out t5
      have kk0 : (k : Int) < (l.length : Int) := by omega
      have kk1 : (0 : Int) ≤ (k : Int) := by omega
      have H1 := Lib.hid t1
      have H2 := Lib.hid t2
      have H3 := Lib.hid t3
      have H4 := Lib.hid t4
      have H5 := Lib.hid t5
      clear t1 t2 t3 t4 t5
      have hsz : w.heap.size ≤ wr.heap.size := HB.out.size
      have hlk : ((l.take k).map backT).length = k := by simp; omega
      have HLK := Lib.hid hlk
      have hby : (((l.take k).map backT).length + 1) * recT.bytes ≤ 140737488355328 := by rw [hlk]; exact Nat.le_trans (Nat.mul_le_mul_right 56 (Nat.succ_le_succ hk)) HL.out
      obtain ⟨M, hM⟩ : ∃ M, M = (l.take k).map backT := ⟨_, rfl⟩
      rw [← hM] at hby HLK HO
      have HM := Lib.hid hM
      clear hlk hM
      go_wp2
      refine region_tail 28 [(5, .exact _ (.string (bs l[k].key))), (10, .exact _ (.string (bs l[k].now))), (15, .exact _ (.string (bs l[k].was))), (20, .exact _ (.bool l[k].has)), (25, .exact _ (.bool l[k].had)), (27, kReads 1 (recT.cell (backT l[k])))] (by kernel_rfl) (by kernel_rfl) ?_
      simp only [List.take_succ_cons, List.take_zero, List.drop_succ_cons, List.drop_zero]
      (repeat (first | (refine wpG_skip (by kernel_rfl) (fun K hK => ?_); go_big_quiet_skip; refine wpQuiet_nil (hK _ ?_); clear hK K) | (refine wpG_quiet (by rfl) (by rfl) (fun K hK => ?_); go_big_quiet_want; go_big_quiet_op; go_big_quiet_on; refine wpQuiet_nil (hK _ ?_); clear hK K)))
      refine wpG_exact rfl (by kernel_rfl) (fun w' G hB hS hG => ?_) (fun K hK => ?_)
      · have c := Below.keeps hB H1.out
        go_simp
        exact hG _ (Bel.refl _)
      go_simp; refine hK _ ?_; clear hK K; (repeat (first | (refine wpG_skip (by kernel_rfl) (fun K hK => ?_); go_big_quiet_skip; refine wpQuiet_nil (hK _ ?_); clear hK K) | (refine wpG_quiet (by rfl) (by rfl) (fun K hK => ?_); go_big_quiet_want; go_big_quiet_op; go_big_quiet_on; refine wpQuiet_nil (hK _ ?_); clear hK K)))
      refine wpG_exact rfl (by kernel_rfl) (fun w' G hB hS hG => ?_) (fun K hK => ?_)
      · have c := Below.keeps hB H3.out
        go_simp
        exact hG _ (Bel.refl _)
      go_simp; refine hK _ ?_; clear hK K; (repeat (first | (refine wpG_skip (by kernel_rfl) (fun K hK => ?_); go_big_quiet_skip; refine wpQuiet_nil (hK _ ?_); clear hK K) | (refine wpG_quiet (by rfl) (by rfl) (fun K hK => ?_); go_big_quiet_want; go_big_quiet_op; go_big_quiet_on; refine wpQuiet_nil (hK _ ?_); clear hK K)))
      refine wpG_exact rfl (by kernel_rfl) (fun w' G hB hS hG => ?_) (fun K hK => ?_)
      · have c := Below.keeps hB H2.out
        go_simp
        exact hG _ (Bel.refl _)
      go_simp; refine hK _ ?_; clear hK K; (repeat (first | (refine wpG_skip (by kernel_rfl) (fun K hK => ?_); go_big_quiet_skip; refine wpQuiet_nil (hK _ ?_); clear hK K) | (refine wpG_quiet (by rfl) (by rfl) (fun K hK => ?_); go_big_quiet_want; go_big_quiet_op; go_big_quiet_on; refine wpQuiet_nil (hK _ ?_); clear hK K)))
      refine wpG_exact rfl (by kernel_rfl) (fun w' G hB hS hG => ?_) (fun K hK => ?_)
      · have c := Below.keeps hB H5.out
        go_simp
        exact hG _ (Bel.refl _)
      go_simp; refine hK _ ?_; clear hK K; (repeat (first | (refine wpG_skip (by kernel_rfl) (fun K hK => ?_); go_big_quiet_skip; refine wpQuiet_nil (hK _ ?_); clear hK K) | (refine wpG_quiet (by rfl) (by rfl) (fun K hK => ?_); go_big_quiet_want; go_big_quiet_op; go_big_quiet_on; refine wpQuiet_nil (hK _ ?_); clear hK K)))
      refine wpG_exact rfl (by kernel_rfl) (fun w' G hB hS hG => ?_) (fun K hK => ?_)
      · have c := Below.keeps hB H4.out
        go_simp
        exact hG _ (Bel.refl _)
      go_simp; refine hK _ ?_; clear hK K; (repeat (first | (refine wpG_skip (by kernel_rfl) (fun K hK => ?_); go_big_quiet_skip; refine wpQuiet_nil (hK _ ?_); clear hK K) | (refine wpG_quiet (by rfl) (by rfl) (fun K hK => ?_); go_big_quiet_want; go_big_quiet_op; go_big_quiet_on; refine wpQuiet_nil (hK _ ?_); clear hK K)))
      refine wpG_known (kReads 1 (recT.cell (backT l[k]))) rfl (by kernel_rfl) (fun w' G hB hS hG => ?_) (fun x K hK => ?_)
      · go_simp; exact reads_new hG rfl
      obtain ⟨ad, c⟩ := x; go_simp; refine hK _ ?_; clear hK K; (repeat (first | (refine wpG_skip (by kernel_rfl) (fun K hK => ?_); go_big_quiet_skip; refine wpQuiet_nil (hK _ ?_); clear hK K) | (refine wpG_quiet (by rfl) (by rfl) (fun K hK => ?_); go_big_quiet_want; go_big_quiet_op; go_big_quiet_on; refine wpQuiet_nil (hK _ ?_); clear hK K)))
      refine wpG_nil ?_
      intro w2 hB2 hA2
      have hrd := all0 hA2
      have HRD := Lib.hid (show Reads w2 (.slice ad 1 c) 1 (recT.cells [backT l[k]]) from hrd)
      have hsz2 : w.heap.size ≤ w2.heap.size := Nat.le_trans hsz hB2.size
      have HB2 := Lib.hid hB2
      clear hB2 hA2 hsz hrd
      go_wp2_with (at_builtin; go_must (refine recT.appendR w2 rfl _ _ 23 rfl Try.underlying23 w.heap.size _ M (HO.out.below HB2.out) rfl _ [backT l[k]] HRD.out rfl hby hsz2 ?_); intro v3 w3 hown3 hB3; have hown4 := hown3; unfold Rec.Own at hown4; rw [List.length_append, HLK.out] at hown4; obtain ⟨g, cap, rfl⟩ := ownsRow_succ hown4; have HO3 := Lib.hid hown3; have HB3 := Lib.hid hB3; clear hown3 hown4 hB3)
      go_roundw
      case rel =>
        refine ⟨k + 1, _, _, by omega, by go_num, rfl, ?_, HB.out.trans ((HB2.out.mono HB.out.size).trans HB3.out)⟩
        rw [List.take_succ_eq_append_getElem h0, List.map_append, ← HM.out]
        exact HO3.out
      case measure => simp [intOf]; omega
    · obtain rfl : k = l.length := by omega
      have hfin := HO.out
      rw [List.take_length] at hfin
      have HF := Lib.hid hfin
      clear hfin HO
      go_wp2
      go_ret
      exact ⟨⟨_, rfl, HF.out⟩, HB.out⟩

end Go.Proofs.Ytahmacnmphjhgaa
