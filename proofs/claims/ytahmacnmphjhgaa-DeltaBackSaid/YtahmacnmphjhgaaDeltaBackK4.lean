/- Lemmas for DeltaBack, part 4: walks of the functions that it reaches, and the plain laws behind them. -/
import Derived.ProofKit
import Derived.OpenShut
import Derived.ShutString
import Derived.ChangeOld
import Derived.SizedLaws
import Derived.SliceStrings
import Derived.Test.YtahmacnmphjhgaaRows
import Derived.Deep.Slices
import Derived.ChangeSame
import Derived.Test.YtahmacnmphjhgaaDeltaBackK3
set_option linter.unusedSimpArgs false
set_option linter.unusedVariables false
namespace Go.Proofs.Ytahmacnmphjhgaa
open Go.RowKit Oct

theorem tr_ne_of {a b : List TR} (k : Nat) (h : k < a.length) (h' : k < b.length) (hne : a[k] ≠ b[k]) : a ≠ b := by
  rintro rfl; exact hne rfl
theorem tr_eq (p q : TR) : (p.key == q.key && (p.was == q.was && (p.now == q.now && (p.had == q.had && p.has == q.has)))) = decide (p = q) := by
  obtain ⟨a, b, c, d, e⟩ := p
  obtain ⟨a', b', c', d', e'⟩ := q
  rw [Bool.eq_iff_iff]; simp
set_option maxRecDepth 100000 in
set_option maxHeartbeats 1000000 in
theorem same14_any (va vb : Value) (a b : List PR) (w : World) (ha : RP w va a) (hb : RP w vb b) (hla : a.length ≤ 140737488355328) (hlb : b.length ≤ 140737488355328) :
    Calls Try.prog 17 #[va, vb] w fun e w' => e = .returned (.bool (decide (a = b))) ∧ Below w.heap.size w w' := by
  obtain ⟨aa, ca, rfl, _, hca⟩ := ha.open
  obtain ⟨ab, cb, rfl, _, hcb⟩ := hb.open
  by_cases hl : a.length = b.length
  · have hL := Lib.hid hl
    have t1 : ((a.length : Int) != (b.length : Int)) = false := by rw [bne_eq_false_iff_eq]; omega
    clear hl
    go_enter Try.func17, Try.ntmps17
    go_wp2
    go_loopw [5] (fun i wr => ∃ k : Nat, k ≤ a.length ∧ i = .int .i64 k ∧ Hid (∀ j (h : j < a.length) (h' : j < b.length), j < k → a[j] = b[j]) ∧ Below w.heap.size w wr) (fun i _ => a.length - (intOf i).toNat)
    case atStart => exact ⟨0, by omega, rfl, by intro j _ _ h; omega, Below.refl _ _⟩
    case round =>
      obtain ⟨k, hk, rfl, hH, hB⟩ := hrel
      by_cases h0 : k < a.length
      · have h0b : k < b.length := by have := hL.out; omega
        obtain ⟨b1, o1, rfl, hc1, hc2⟩ := hca k h0
        obtain ⟨b2, o2, rfl, hc3, hc4⟩ := hcb k h0b
        have hd1 := Below.keeps hB hc1
        have hd2 := Below.keeps hB hc2
        have hd3 := Below.keeps hB hc3
        have hd4 := Below.keeps hB hc4
        have kk1 : (k : Int) < (a.length : Int) := by omega
        have kk2 : (k : Int) < (b.length : Int) := by omega
        clear hca hcb
        by_cases he : a[k] = b[k]
        · have he2 : (a[k].1 == b[k].1) = true := by simp [he]
          have he3 : (a[k].2 == b[k].2) = true := by simp [he]
          have HE := Lib.hid he
          clear he
          go_wp2
          go_quiet (fail)
          go_wp2
          go_roundw
          case rel =>
            refine ⟨k + 1, by omega, by go_num, ?_, bt hB (Below.drewN' _ _)⟩
            intro j h h' hj
            by_cases hjk : j = k
            · subst hjk; exact HE.out
            · exact hH.out j h h' (by omega)
          case measure => simp [intOf]; omega
        · have HE := Lib.hid he
          have he4 := pr_eq a[k] b[k]
          rw [decide_eq_false he] at he4
          clear he
          cases he2 : (a[k].1 == b[k].1)
          · go_wp2
            go_quiet (fail)
            go_wp2
            go_ret
            exact ⟨by rw [decide_eq_false (pr_ne_of k h0 h0b HE.out)]; rfl, bt hB (Below.drewN' _ _)⟩
          · have he3 : (a[k].2 == b[k].2) = false := by rw [he2, Bool.true_and] at he4; exact he4
            clear he4
            go_wp2
            go_quiet (fail)
            go_wp2
            go_ret
            exact ⟨by rw [decide_eq_false (pr_ne_of k h0 h0b HE.out)]; rfl, bt hB (Below.drewN' _ _)⟩
      · obtain rfl : k = a.length := by omega
        go_wp2
        go_ret
        exact ⟨by rw [decide_eq_true (List.ext_getElem hL.out (fun j h h' => hH.out j h h' h))]; rfl, hB⟩
  · have t1 : ((a.length : Int) != (b.length : Int)) = true := by rw [bne_iff_ne]; omega
    go_enter Try.func17, Try.ntmps17
    go_wp2
    go_ret
    exact ⟨by rw [decide_eq_false (fun e => hl (by rw [e]))]; rfl, Below.refl _ _⟩

set_option maxRecDepth 100000 in
set_option maxHeartbeats 1000000 in
theorem once18_any (v : Value) (l : List PR) (w : World) (hr : RP w v l) (hl : l.length ≤ 140737488355328) :
    Calls Try.prog 20 #[v] w fun e w' => e = .returned (.bool (once l)) ∧ Below w.heap.size w w' := by
  obtain ⟨a, cap, rfl, _, hc⟩ := hr.open
  go_enter Try.func20, Try.ntmps20
  go_wp2
  go_loopw [3] (fun i wr => ∃ k : Nat, (k = 0 ∨ k + 1 ≤ l.length) ∧ i = .int .i64 ((k : Int) + 1) ∧ Hid (∀ j (h : j + 1 < l.length), j < k → lt l[j].1 l[j + 1].1 = true) ∧ Below w.heap.size w wr) (fun i _ => (l.length + 1 - (intOf i).toNat))
  case atStart => exact ⟨0, .inl rfl, rfl, by intro j _ h; omega, Below.refl _ _⟩
  case round =>
    obtain ⟨k, hk, rfl, hH, hB⟩ := hrel
    by_cases h0 : k + 1 < l.length
    · obtain ⟨b, off, rfl, c1, _⟩ := hc (k + 1) h0
      obtain ⟨b', off', hb, c2, _⟩ := hc k (by omega)
      cases hb
      have d1 := Below.keeps hB c1
      have d2 := Below.keeps hB c2
      have kk1 : (k : Int) + 1 < (l.length : Int) := by omega
      have kk2 : (k : Int) < (l.length : Int) := by omega
      clear hc hk
      rcases lt3 l[k].1 l[k + 1].1 with ⟨t1, t2, t3, t4⟩ | ⟨t1, t2, t3, t4⟩ | ⟨t0, t1, t2, t3, t4⟩
      · have HL := Lib.hid t1
        unfold lt at t1 t2
        go_wp2
        go_quiet (fail)
        go_wp2
        go_roundw
        case rel =>
          refine ⟨k + 1, .inr (by omega), by go_num, ?_, bt hB (Below.drewN' _ _)⟩
          intro j h hj
          by_cases hjk : j = k
          · subst hjk; exact HL.out
          · exact hH.out j h (by omega)
        case measure => simp [intOf]; omega
      all_goals
        try clear t0
        have HL := Lib.hid t1
        unfold lt at t1 t2
        go_wp2
        go_quiet (fail)
        go_wp2
        go_ret
        exact ⟨by rw [once_false l k h0 HL.out]; rfl, bt hB (Below.drewN' _ _)⟩
    · have hs := Lib.hid (once_true l k (by omega) hH.out)
      go_wp2
      go_ret
      exact ⟨by rw [hs.out]; rfl, hB⟩


set_option maxRecDepth 100000 in
set_option maxHeartbeats 1000000 in
theorem sameT_any (va vb : Value) (a b : List TR) (w : World) (ha : recT.Row w va a) (hb : recT.Row w vb b) (hla : a.length ≤ 140737488355328) (hlb : b.length ≤ 140737488355328) :
    Calls Try.prog 16 #[va, vb] w fun e w' => e = .returned (.bool (decide (a = b))) ∧ Below w.heap.size w w' := by
  obtain ⟨aa, ca, rfl, _, hca⟩ := recT_open ha
  obtain ⟨ab, cb, rfl, _, hcb⟩ := recT_open hb
  by_cases hl : a.length = b.length
  · have hL := Lib.hid hl
    have t1 : ((a.length : Int) != (b.length : Int)) = false := by rw [bne_eq_false_iff_eq]; omega
    clear hl
    go_enter Try.func16, Try.ntmps16
    go_wp2
    go_loopw [5] (fun i wr => ∃ k : Nat, k ≤ a.length ∧ i = .int .i64 k ∧ Hid (∀ j (h : j < a.length) (h' : j < b.length), j < k → a[j] = b[j]) ∧ Below w.heap.size w wr) (fun i _ => a.length - (intOf i).toNat)
    case atStart => exact ⟨0, by omega, rfl, by intro j _ _ h; omega, Below.refl _ _⟩
    case round =>
      obtain ⟨k, hk, rfl, hH, hB⟩ := hrel
      by_cases h0 : k < a.length
      · have h0b : k < b.length := by have := hL.out; omega
        obtain ⟨b1, o1, rfl, hc1, hc2, hc5, hc6, hc7⟩ := hca k h0
        obtain ⟨b2, o2, rfl, hc3, hc4, hc8, hc9, hc10⟩ := hcb k h0b
        have hd1 := Below.keeps hB hc1
        have hd2 := Below.keeps hB hc2
        have hd3 := Below.keeps hB hc3
        have hd4 := Below.keeps hB hc4
        have hd5 := Below.keeps hB hc5
        have hd6 := Below.keeps hB hc6
        have hd7 := Below.keeps hB hc7
        have hd8 := Below.keeps hB hc8
        have hd9 := Below.keeps hB hc9
        have hd10 := Below.keeps hB hc10
        have kk1 : (k : Int) < (a.length : Int) := by omega
        have kk2 : (k : Int) < (b.length : Int) := by omega
        clear hca hcb
        by_cases he : a[k] = b[k]
        · have g1 : (a[k].key == b[k].key) = true := by simp [he]
          have g2 : (a[k].was == b[k].was) = true := by simp [he]
          have g3 : (a[k].now == b[k].now) = true := by simp [he]
          have g4 : (a[k].had == b[k].had) = true := by simp [he]
          have g5 : (a[k].has == b[k].has) = true := by simp [he]
          have HE := Lib.hid he
          clear he
          go_wp2
          go_quiet (fail)
          go_wp2
          go_roundw
          case rel =>
            refine ⟨k + 1, by omega, by go_num, ?_, bt hB (Below.drewN' _ _)⟩
            intro j h h' hj
            by_cases hjk : j = k
            · subst hjk; exact HE.out
            · exact hH.out j h h' (by omega)
          case measure => simp [intOf]; omega
        · have HE := Lib.hid he
          have he9 := tr_eq a[k] b[k]
          rw [decide_eq_false he] at he9
          clear he
          cases g1 : (a[k].key == b[k].key) with
          | false =>
            clear he9
            go_wp2
            go_quiet (fail)
            go_wp2
            go_ret
            exact ⟨by rw [decide_eq_false (tr_ne_of k h0 h0b HE.out)]; rfl, bt hB (Below.drewN' _ _)⟩
          | true =>
            cases g2 : (a[k].was == b[k].was) with
            | false =>
              clear he9
              go_wp2
              go_quiet (fail)
              go_wp2
              go_ret
              exact ⟨by rw [decide_eq_false (tr_ne_of k h0 h0b HE.out)]; rfl, bt hB (Below.drewN' _ _)⟩
            | true =>
              cases g3 : (a[k].now == b[k].now) with
              | false =>
                clear he9
                go_wp2
                go_quiet (fail)
                go_wp2
                go_ret
                exact ⟨by rw [decide_eq_false (tr_ne_of k h0 h0b HE.out)]; rfl, bt hB (Below.drewN' _ _)⟩
              | true =>
                cases g4 : (a[k].had == b[k].had) with
                | false =>
                  clear he9
                  go_wp2
                  go_quiet (fail)
                  go_wp2
                  go_ret
                  exact ⟨by rw [decide_eq_false (tr_ne_of k h0 h0b HE.out)]; rfl, bt hB (Below.drewN' _ _)⟩
                | true =>
                  cases g5 : (a[k].has == b[k].has) with
                  | false =>
                    clear he9
                    go_wp2
                    go_quiet (fail)
                    go_wp2
                    go_ret
                    exact ⟨by rw [decide_eq_false (tr_ne_of k h0 h0b HE.out)]; rfl, bt hB (Below.drewN' _ _)⟩
                  | true =>
                    rw [g1, g2, g3, g4, g5] at he9
                    simp at he9
      · obtain rfl : k = a.length := by omega
        go_wp2
        go_ret
        exact ⟨by rw [decide_eq_true (List.ext_getElem hL.out (fun j h h' => hH.out j h h' h))]; rfl, hB⟩
  · have t1 : ((a.length : Int) != (b.length : Int)) = true := by rw [bne_iff_ne]; omega
    go_enter Try.func16, Try.ntmps16
    go_wp2
    go_ret
    exact ⟨by rw [decide_eq_false (fun e => hl (by rw [e]))]; rfl, Below.refl _ _⟩

end Go.Proofs.Ytahmacnmphjhgaa
namespace Go.Proofs.Ytahmacnmphjhgaa
open Oct

theorem rise_cons (k : List UInt8) : ∀ l : List (List UInt8), rise (k :: l) = true ↔ (∀ y ∈ l, lt k y = true) ∧ rise l = true
  | [] => by simp [rise]
  | q :: l => by
    have ih := rise_cons q l
    simp only [rise, Bool.and_eq_true]
    constructor
    · rintro ⟨h1, h2⟩
      refine ⟨fun y hy => ?_, h2⟩
      rcases List.mem_cons.1 hy with rfl | hy
      · exact h1
      · exact lt_trans' h1 ((ih.1 h2).1 y hy)
    · rintro ⟨h1, h2⟩
      exact ⟨h1 q (by simp), h2⟩
theorem once_cons (x : PR) (l : List PR) : once (x :: l) = true ↔ (∀ y ∈ l, lt x.1 y.1 = true) ∧ once l = true := by
  unfold once keysP
  rw [List.map_cons, rise_cons]
  simp
theorem riseT_cons (x : TR) (l : List TR) : riseT (x :: l) = true ↔ (∀ y ∈ l, lt x.key y.key = true) ∧ riseT l = true := by
  unfold riseT keysT
  rw [List.map_cons, rise_cons]
  simp
/-- all keys of turns come of the rows -/
theorem ofF_above (k : List UInt8) : ∀ a b : List PR, (∀ x ∈ a, lt k x.1 = true) → (∀ y ∈ b, lt k y.1 = true) → ∀ t ∈ ofF a b, lt k t.key = true := by
  have key : ∀ n, ∀ a b : List PR, a.length + b.length = n → (∀ x ∈ a, lt k x.1 = true) → (∀ y ∈ b, lt k y.1 = true) → ∀ t ∈ ofF a b, lt k t.key = true := by
    intro n
    induction n using Nat.strongRecOn with
    | ind n ih =>
      intro a b hn ha hb t ht
      match a, b with
      | [], [] => rw [ofF_nil] at ht; simp at ht
      | x :: a, [] =>
        rw [ofF_left, List.mem_append] at ht
        rcases ht with ht | ht
        · simp [turnOf] at ht; subst ht; exact ha x (by simp)
        · exact ih _ (by simp only [List.length_cons, List.length_nil] at hn ⊢; omega) a [] rfl (fun z hz => ha z (by simp [hz])) hb t ht
      | [], y :: b =>
        rw [ofF_right, List.mem_append] at ht
        rcases ht with ht | ht
        · simp [turnOf] at ht; subst ht; exact hb y (by simp)
        · exact ih _ (by simp only [List.length_cons, List.length_nil] at hn ⊢; omega) [] b rfl ha (fun z hz => hb z (by simp [hz])) t ht
      | x :: a, y :: b =>
        cases h1 : lt x.1 y.1 with
        | true =>
          rw [ofF_lt _ _ _ _ h1, List.mem_append] at ht
          rcases ht with ht | ht
          · simp [turnOf] at ht; subst ht; exact ha x (by simp)
          · exact ih _ (by simp only [List.length_cons, List.length_nil] at hn ⊢; omega) a (y :: b) rfl (fun z hz => ha z (by simp [hz])) hb t ht
        | false =>
          cases h2 : lt y.1 x.1 with
          | true =>
            rw [ofF_gt _ _ _ _ h1 h2, List.mem_append] at ht
            rcases ht with ht | ht
            · simp [turnOf] at ht; subst ht; exact hb y (by simp)
            · exact ih _ (by simp only [List.length_cons, List.length_nil] at hn ⊢; omega) (x :: a) b rfl ha (fun z hz => hb z (by simp [hz])) t ht
          | false =>
            rw [ofF_eq _ _ _ _ h1 h2, List.mem_append] at ht
            rcases ht with ht | ht
            · rw [show turnOf (some x) (some y) = if x = y then [] else [⟨y.1, x.2, y.2, true, true⟩] from rfl] at ht
              split at ht
              · simp at ht
              · simp at ht; subst ht; exact hb y (by simp)
            · exact ih _ (by simp only [List.length_cons, List.length_nil] at hn ⊢; omega) a b rfl (fun z hz => ha z (by simp [hz])) (fun z hz => hb z (by simp [hz])) t ht
  exact fun a b => key _ a b rfl
theorem lt_or_eq {a b : List UInt8} (h1 : lt a b = false) (h2 : lt b a = false) : a = b := by
  rcases lt3 a b with ⟨h, _⟩ | ⟨_, h, _⟩ | ⟨h, _⟩
  · rw [h1] at h; cases h
  · rw [h2] at h; cases h
  · exact h
/-- turns, applied to a, are b; they rise -/
theorem ap_of : ∀ (n : Nat) (a b : List PR), a.length + b.length = n → once a = true → once b = true → riseT (ofF a b) = true ∧ ∀ s, apF a (ofF a b) s = (s.1 ++ b, s.2) := by
  intro n
  induction n using Nat.strongRecOn with
  | ind n ih =>
    intro a b hn ha hb
    match a, b with
    | [], [] =>
      rw [ofF_nil]
      exact ⟨rfl, fun s => by rw [apF_nil]; simp⟩
    | x :: a, [] =>
      obtain ⟨hx, ha'⟩ := (once_cons x a).1 ha
      obtain ⟨i1, i2⟩ := ih _ (by simp only [List.length_cons, List.length_nil] at hn ⊢; omega) a [] rfl ha' hb
      rw [ofF_left]
      refine ⟨(riseT_cons _ _).2 ⟨ofF_above x.1 a [] hx (by simp), i1⟩, fun s => ?_⟩
      show apF (x :: a) (⟨x.1, x.2, [], true, false⟩ :: ofF a []) s = _
      rw [apF_eq _ _ _ _ _ (lt_irr x.1) (lt_irr x.1), i2]
      simp [stepA, fitsF]
    | [], y :: b =>
      obtain ⟨hy, hb'⟩ := (once_cons y b).1 hb
      obtain ⟨i1, i2⟩ := ih _ (by simp only [List.length_cons, List.length_nil] at hn ⊢; omega) [] b rfl ha hb'
      rw [ofF_right]
      refine ⟨(riseT_cons _ _).2 ⟨ofF_above y.1 [] b (by simp) hy, i1⟩, fun s => ?_⟩
      show apF [] (⟨y.1, [], y.2, false, true⟩ :: ofF [] b) s = _
      rw [apF_right, i2]
      simp [stepA, fitsF]
    | x :: a, y :: b =>
      obtain ⟨hx, ha'⟩ := (once_cons x a).1 ha
      obtain ⟨hy, hb'⟩ := (once_cons y b).1 hb
      cases h1 : lt x.1 y.1 with
      | true =>
        obtain ⟨i1, i2⟩ := ih _ (by simp only [List.length_cons, List.length_nil] at hn ⊢; omega) a (y :: b) rfl ha' hb
        rw [ofF_lt _ _ _ _ h1]
        refine ⟨(riseT_cons _ _).2 ⟨ofF_above x.1 a (y :: b) hx (fun z hz => ?_), i1⟩, fun s => ?_⟩
        · rcases List.mem_cons.1 hz with rfl | hz
          · exact h1
          · exact lt_trans' h1 (hy z hz)
        · show apF (x :: a) (⟨x.1, x.2, [], true, false⟩ :: ofF a (y :: b)) s = _
          rw [apF_eq _ _ _ _ _ (lt_irr x.1) (lt_irr x.1), i2]
          simp [stepA, fitsF]
      | false =>
        cases h2 : lt y.1 x.1 with
        | true =>
          obtain ⟨i1, i2⟩ := ih _ (by simp only [List.length_cons, List.length_nil] at hn ⊢; omega) (x :: a) b rfl ha hb'
          rw [ofF_gt _ _ _ _ h1 h2]
          refine ⟨(riseT_cons _ _).2 ⟨ofF_above y.1 (x :: a) b (fun z hz => ?_) hy, i1⟩, fun s => ?_⟩
          · rcases List.mem_cons.1 hz with rfl | hz
            · exact h2
            · exact lt_trans' h2 (hx z hz)
          · show apF (x :: a) (⟨y.1, [], y.2, false, true⟩ :: ofF (x :: a) b) s = _
            rw [apF_gt _ _ _ _ _ h1 h2, i2]
            simp [stepA, fitsF]
        | false =>
          have he := lt_or_eq h1 h2
          obtain ⟨i1, i2⟩ := ih _ (by simp only [List.length_cons, List.length_nil] at hn ⊢; omega) a b rfl ha' hb'
          rw [ofF_eq _ _ _ _ h1 h2]
          have hab := ofF_above x.1 a b hx (by rw [he]; exact hy)
          by_cases hxy : x = y
          · subst hxy
            rw [show turnOf (some x) (some x) = [] from if_pos rfl, List.nil_append]
            refine ⟨i1, fun s => ?_⟩
            have hap : apF (x :: a) (ofF a b) s = apF a (ofF a b) (stepA s (some x, none)) := by
              cases hl : ofF a b with
              | nil => rw [apF_left]
              | cons t l => rw [apF_lt _ _ _ _ _ (hab t (by rw [hl]; simp))]
            rw [hap, i2]
            simp [stepA]
          · rw [show turnOf (some x) (some y) = [⟨y.1, x.2, y.2, true, true⟩] from if_neg hxy]
            refine ⟨(riseT_cons _ _).2 ⟨by rw [← he]; exact hab, i1⟩, fun s => ?_⟩
            show apF (x :: a) (⟨y.1, x.2, y.2, true, true⟩ :: ofF a b) s = _
            have hne : (x.2 != y.2) = true := by
              rw [bne_iff_ne]
              exact fun h => hxy (Prod.ext he h)
            rw [apF_eq _ _ _ _ _ h1 h2, i2]
            simp [stepA, fitsF, hne]
theorem turnOf_back (o p : Option PR) (h : ∀ x y, o = some x → p = some y → x.1 = y.1) : turnOf p o = (turnOf o p).map backT := by
  cases o <;> cases p <;> simp [turnOf, backT]
  rename_i x y
  have := h x y rfl rfl
  by_cases e : x = y
  · simp [e]
  · rw [if_neg e, if_neg (fun h => e h.symm)]
    simp [backT, this]
theorem of_back : ∀ (n : Nat) (a b : List PR), a.length + b.length = n → ofF b a = (ofF a b).map backT := by
  intro n
  induction n using Nat.strongRecOn with
  | ind n ih =>
    intro a b hn
    match a, b with
    | [], [] => rw [ofF_nil]; rfl
    | x :: a, [] =>
      rw [ofF_left, ofF_right, List.map_append, ih _ (by simp only [List.length_cons, List.length_nil] at hn ⊢; omega) a [] rfl]
      rfl
    | [], y :: b =>
      rw [ofF_left, ofF_right, List.map_append, ih _ (by simp only [List.length_cons, List.length_nil] at hn ⊢; omega) [] b rfl]
      rfl
    | x :: a, y :: b =>
      cases h1 : lt x.1 y.1 with
      | true =>
        rw [ofF_lt _ _ _ _ h1, ofF_gt _ _ _ _ (lt_asymm' h1) h1, List.map_append, ih _ (by simp only [List.length_cons, List.length_nil] at hn ⊢; omega) a (y :: b) rfl]
        rfl
      | false =>
        cases h2 : lt y.1 x.1 with
        | true =>
          rw [ofF_gt _ _ _ _ h1 h2, ofF_lt _ _ _ _ h2, List.map_append, ih _ (by simp only [List.length_cons, List.length_nil] at hn ⊢; omega) (x :: a) b rfl]
          rfl
        | false =>
          rw [ofF_eq _ _ _ _ h1 h2, ofF_eq _ _ _ _ h2 h1, List.map_append, ih _ (by simp only [List.length_cons, List.length_nil] at hn ⊢; omega) a b rfl]
          rw [turnOf_back (some x) (some y) (fun x' y' e1 e2 => by cases e1; cases e2; exact lt_or_eq h1 h2)]
theorem ap_nil : ∀ (a : List PR) (s : List PR × Bool), apF a [] s = (s.1 ++ a, s.2)
  | [], s => by rw [apF_nil]; simp
  | x :: a, s => by rw [apF_left, ap_nil a]; simp [stepA]
theorem of_same : ∀ a : List PR, ofF a a = []
  | [] => ofF_nil
  | x :: a => by rw [ofF_eq _ _ _ _ (lt_irr _) (lt_irr _), of_same a, show turnOf (some x) (some x) = [] from if_pos rfl]; rfl
theorem of_nil (a b : List PR) (ha : once a = true) (hb : once b = true) : (ofF a b = []) ↔ a = b := by
  constructor
  · intro h
    have := (ap_of _ a b rfl ha hb).2 ([], false)
    rw [h, ap_nil] at this
    simpa using this
  · rintro rfl
    exact of_same a
theorem ofF_length : ∀ (n : Nat) (a b : List PR), a.length + b.length = n → (ofF a b).length ≤ n := by
  intro n
  induction n using Nat.strongRecOn with
  | ind n ih =>
    intro a b hn
    match a, b with
    | [], [] => rw [ofF_nil]; simp
    | x :: a, [] =>
      have := ih (a.length + 0) (by simp at hn; omega) a [] rfl
      rw [ofF_left, List.length_append]
      have := turnOf_le (some x) none
      simp at hn; omega
    | [], y :: b =>
      have := ih (0 + b.length) (by simp at hn; omega) [] b rfl
      rw [ofF_right, List.length_append]
      have := turnOf_le none (some y)
      simp at hn; omega
    | x :: a, y :: b =>
      simp at hn
      cases h1 : lt x.1 y.1 with
      | true =>
        have := ih (a.length + (b.length + 1)) (by omega) a (y :: b) rfl
        rw [ofF_lt _ _ _ _ h1, List.length_append]
        have := turnOf_le (some x) none
        omega
      | false =>
        cases h2 : lt y.1 x.1 with
        | true =>
          have := ih (a.length + 1 + b.length) (by omega) (x :: a) b rfl
          rw [ofF_gt _ _ _ _ h1 h2, List.length_append]
          have := turnOf_le none (some y)
          omega
        | false =>
          have := ih (a.length + b.length) (by omega) a b rfl
          rw [ofF_eq _ _ _ _ h1 h2, List.length_append]
          have := turnOf_le (some x) (some y)
          omega
end Go.Proofs.Ytahmacnmphjhgaa
namespace Go.Proofs.Ytahmacnmphjhgaa
open Go.RowKit Oct

def LA : List PR := [([97], [49]), ([98], [50])]
def LB : List PR := [([98], [51]), ([99], [52])]
def LT : List TR := [⟨[97], [49], [], true, false⟩, ⟨[98], [50], [51], true, true⟩, ⟨[99], [], [52], false, true⟩]
theorem of_ab : ofF LA LB = LT := by
  unfold LA LB LT
  rw [ofF_lt _ _ _ _ (by decide), ofF_eq _ _ _ _ (by decide) (by decide), ofF_right, ofF_nil]
  rfl
theorem ap_ab : apF LA LT ([], false) = (LB, false) := by
  rw [← of_ab, (ap_of _ LA LB rfl (by decide) (by decide)).2]
  rfl
theorem OfRes.len {a b : List PR} {n : Nat} {e : Ending} {w : World} (h : OfRes a b n e w) (hh : (once a && once b) = true) : ∃ av cv, e = .returned (.tuple #[.slice av (ofF a b).length cv, .int .i64 0]) ∧ recT.Own w n (.slice av (ofF a b).length cv) (ofF a b) := by
  obtain ⟨v, rfl, hown⟩ := h.good hh
  obtain ⟨av, cv, rfl⟩ := owns_slice hown
  exact ⟨av, cv, rfl, hown⟩

set_option maxRecDepth 100000 in
set_option maxHeartbeats 4000000 in
theorem alive40 (w : World) : Calls Try.prog 11 #[] w fun e w' => e = .returned (.bool true) ∧ Below w.heap.size w w' := by
  obtain ⟨w1, hw1⟩ : ∃ w1, w1 = w.alloc (.cells (pcells LA).toArray 71) := ⟨_, rfl⟩
  obtain ⟨w2, hw2⟩ : ∃ w2, w2 = w1.alloc (.cells (pcells LB).toArray 71) := ⟨_, rfl⟩
  have hs1 : w1.heap.size = w.heap.size + 1 := by rw [hw1]; simp
  have hra := RP.new w LA 71
  have hrb := RP.new w1 LB 71
  rw [← hw1] at hra
  rw [← hw2, hs1] at hrb
  have hB2 : Below w.heap.size w w2 := by rw [hw2]; exact bt (by rw [hw1]; exact b_alloc _ _) (b_alloc _ _)
  have hB12 : Below w1.heap.size w1 w2 := by rw [hw2]; exact b_alloc _ _
  have HA2 := Lib.hid (hra.below hB12)
  have HB2' := Lib.hid hrb
  have HW2 := Lib.hid hB2
  have hww : w2 = (w.alloc (.cells #[.string { data := #[97] }, .string { data := #[49] }, .string { data := #[98] }, .string { data := #[50] }] 71)).alloc (.cells #[.string { data := #[98] }, .string { data := #[51] }, .string { data := #[99] }, .string { data := #[52] }] 71) := by rw [hw2, hw1]; rfl
  clear hra hrb hB2 hB12 hs1 hw1 hw2
  go_enter Try.func11, Try.ntmps11
  go_wp2_with fail
  rw [← hww]
  clear hww
  refine (Of_any _ _ LA LB w2 HA2.out HB2'.out (by decide)).mono ?_
  rintro e w3 ⟨hres, hB3⟩
  obtain ⟨a3, c3, rfl, hown3⟩ := hres.len (by decide)
  rw [of_ab] at hown3
  have HT3 := Lib.hid hown3
  have HA3 := Lib.hid (HA2.out.below hB3)
  have HB3 := Lib.hid (HB2'.out.below hB3)
  have HW3 := Lib.hid (bt HW2.out hB3)
  clear hres hB3 hown3
  rw [of_ab, show LT.length = 3 from rfl]
  go_wp2_with fail
  refine (Apply_any _ _ LA LT w3 HA3.out (Rec.Own.row (R := recT) HT3.out) (by decide)).mono ?_
  rintro e w4 ⟨hres, hB4⟩
  obtain ⟨v4, rfl, hown4⟩ := hres.good (by decide) LB ap_ab
  obtain ⟨a4, c4, rfl⟩ := owns_slice hown4
  have HO4 := Lib.hid (OP.reads hown4)
  have HT4 := Lib.hid ((Rec.Own.row (R := recT) HT3.out).below hB4)
  have HB4 := Lib.hid (HB3.out.below hB4)
  have HW4 := Lib.hid (bt HW3.out hB4)
  clear hres hB4 hown4
  obtain ⟨w5, hw5⟩ : ∃ w5, w5 = w4.alloc (.cells (pcells [([], []), ([], [])]).toArray 71) := ⟨_, rfl⟩
  have hrz := RP.new w4 [([], []), ([], [])] 71
  have hB5 : Below w4.heap.size w4 w5 := by rw [hw5]; exact b_alloc _ _
  have HZ5 := Lib.hid (show RP w5 _ _ by rw [hw5]; exact hrz)
  have HO5 := Lib.hid (HO4.out.below hB5)
  have HT5 := Lib.hid (HT4.out.below hB5)
  have HB5 := Lib.hid (HB4.out.below hB5)
  have HW5 := Lib.hid (bt HW4.out hB5)
  have hww : w5 = w4.alloc (.cells #[.string { data := #[] }, .string { data := #[] }, .string { data := #[] }, .string { data := #[] }] 71) := hw5
  clear hrz hB5 hw5
  rw [show LB.length = 2 from rfl]
  go_wp2_with fail
  rw [← hww]
  clear hww
  refine (Of_any _ _ [] [([], []), ([], [])] w5 (RP.nil _) HZ5.out (by decide)).mono ?_
  rintro e w6 ⟨hres, hB6⟩
  obtain rfl := hres.bad (by decide)
  have HO6 := Lib.hid (HO5.out.below hB6)
  have HT6 := Lib.hid (HT5.out.below hB6)
  have HB6 := Lib.hid (HB5.out.below hB6)
  have HW6 := Lib.hid (bt HW5.out hB6)
  clear hres hB6
  obtain ⟨w7, hw7⟩ : ∃ w7, w7 = w6.alloc (.cells (recT.cells LT).toArray 73) := ⟨_, rfl⟩
  have hrz := Rec.Row.new (R := recT) w6 LT 73
  have hB7 : Below w6.heap.size w6 w7 := by rw [hw7]; exact b_alloc _ _
  have HZ7 := Lib.hid (show recT.Row w7 _ _ by rw [hw7]; exact hrz)
  have HO7 := Lib.hid (HO6.out.below hB7)
  have HT7 := Lib.hid (HT6.out.below hB7)
  have HB7 := Lib.hid (HB6.out.below hB7)
  have HW7 := Lib.hid (bt HW6.out hB7)
  have hww : w7 = w6.alloc (.cells #[.string { data := #[97] }, .string { data := #[49] }, .string { data := #[] }, .bool true, .bool false, .string { data := #[98] }, .string { data := #[50] }, .string { data := #[51] }, .bool true, .bool true, .string { data := #[99] }, .string { data := #[] }, .string { data := #[52] }, .bool false, .bool true] 73) := hw7
  clear hrz hB7 hw7
  go_wp2_with fail
  rw [← hww]
  clear hww
  refine (sameT_any _ _ LT LT w7 HT7.out HZ7.out (by decide) (by decide)).mono ?_
  rw [decide_eq_true rfl]
  rintro e w8 ⟨rfl, hB8⟩
  have HO8 := Lib.hid (HO7.out.below hB8)
  have HB8 := Lib.hid (HB7.out.below hB8)
  have HW8 := Lib.hid (bt HW7.out hB8)
  clear hB8
  go_wp2_with fail
  refine (same14_any _ _ LB LB w8 HO8.out HB8.out (by decide) (by decide)).mono ?_
  rw [decide_eq_true rfl]
  rintro e w9 ⟨rfl, hB9⟩
  have HW9 := Lib.hid (bt HW8.out hB9)
  clear hB9
  go_wp2
  go_ret
  exact ⟨rfl, HW9.out⟩
end Go.Proofs.Ytahmacnmphjhgaa
namespace Go.Proofs.Ytahmacnmphjhgaa
open Go.RowKit Oct

theorem rr_two {w : World} {v1 v2 : Value} {a b : List PR} (h1 : RP w v1 a) (h2 : RP w v2 b) (e : TypeId) : RR (w.alloc (.cells #[v1, v2] e)) (.slice (some ⟨w.heap.size, 0, none⟩) 2 2) [a, b] := by
  refine ⟨_, _, rfl, by simp, by simp, fun k hk => ?_⟩
  match k, hk with
  | 0, _ => exact ⟨_, _, v1, rfl, by rw [World.cell?_alloc_new]; rfl, h1.below (b_alloc _ _)⟩
  | 1, _ => exact ⟨_, _, v2, rfl, by rw [World.cell?_alloc_new]; rfl, h2.below (b_alloc _ _)⟩
theorem by200 {a b n : Nat} (h1 : a ≤ 100) (h2 : b ≤ n) (h3 : n ≤ 200) : (a + b + 1) * 56 ≤ 140737488355328 := by omega
theorem le200 {a b l : Nat} (h1 : a ≤ 100) (h2 : b ≤ 100) (h : l ≤ a + b) : l ≤ 200 := by omega
theorem hq_of {a b : List PR} {L : List TR} (hnil : (L = []) ↔ a = b) : ((L.length : Int) == 0) = decide (a = b) := by
  by_cases e : a = b
  · rw [decide_eq_true e, hnil.2 e]; rfl
  · rw [decide_eq_false e, beq_eq_false_iff_ne]
    intro h0
    exact e (hnil.1 (List.eq_nil_of_length_eq_zero (by omega)))
theorem by300 {b n : Nat} (h2 : b ≤ n) (h3 : n ≤ 200) : (b + 1) * 56 ≤ 140737488355328 := by omega

set_option maxRecDepth 100000 in
set_option maxHeartbeats 4000000 in
theorem DeltaBack_any (v1 : Value) (a : List PR) (v2 : Value) (b : List PR) (w : World) (hr1 : RP w v1 a) (hl1 : a.length ≤ 4398046511104) (hm1 : ∀ p ∈ a, p.1.length ≤ 140737488355328 ∧ p.2.length ≤ 140737488355328)
    (hr2 : RP w v2 b) (hl2 : b.length ≤ 4398046511104) (hm2 : ∀ p ∈ b, p.1.length ≤ 140737488355328 ∧ p.2.length ≤ 140737488355328) :
    Calls Try.prog 4 #[v1, v2] w fun e w' => e = .returned (.bool true) ∧ Below w.heap.size w w' := by
  obtain ⟨a1, c1, rfl, _, _⟩ := hr1.open
  obtain ⟨a2, c2, rfl, _, _⟩ := hr2.open
  have hlen : ∀ r ∈ [a, b], r.length ≤ 140737488355328 ∧ ∀ p ∈ r, p.1.length ≤ 140737488355328 ∧ p.2.length ≤ 140737488355328 := by
    intro r hr
    simp at hr
    rcases hr with rfl | rfl
    · exact ⟨Nat.le_trans hl1 (by decide), hm1⟩
    · exact ⟨Nat.le_trans hl2 (by decide), hm2⟩
  obtain ⟨w1, hw1⟩ : ∃ w1, w1 = w.alloc (.cells #[.slice a1 a.length c1, .slice a2 b.length c2] 22) := ⟨_, rfl⟩
  have hrr := rr_two hr1 hr2 22
  rw [← hw1] at hrr
  have hB1 : Below w.heap.size w w1 := by rw [hw1]; exact b_alloc _ _
  have HRR := Lib.hid hrr
  have HB1 := Lib.hid hB1
  have HA1 := Lib.hid (hr1.below hB1)
  have HB := Lib.hid (hr2.below hB1)
  have HLEN := Lib.hid hlen
  clear hrr hB1 hr1 hr2 hlen hm1 hm2
  go_enter Try.func4, Try.ntmps4
  go_wp2_with fail
  rw [← hw1]
  clear hw1
  cases hlg : long18 [a, b] with
  | true =>
    have HLG := Lib.hid hlg
    clear hlg
    refine (Long18_any _ [a, b] w1 HRR.out (by simp) HLEN.out).mono ?_
    rw [HLG.out]
    rintro e w2 ⟨rfl, hB2⟩
    have HW2 := Lib.hid (bt HB1.out hB2)
    clear hB2
    go_wp2_with fail
    refine (alive40 _).mono ?_
    rintro e w3 ⟨rfl, hB3⟩
    have HW3 := Lib.hid (bt HW2.out hB3)
    clear hB3
    go_wp2
    go_ret
    exact ⟨rfl, HW3.out⟩
  | false =>
    have hle := (long18_le [a, b] hlg).2
    have hla := (hle a (by simp)).1
    have hlb := (hle b (by simp)).1
    have HLG := Lib.hid hlg
    have HLA := Lib.hid hla
    have HLB := Lib.hid hlb
    clear hlg hle hla hlb hl1 hl2
    refine (Long18_any _ [a, b] w1 HRR.out (by simp) HLEN.out).mono ?_
    rw [HLG.out]
    rintro e w2 ⟨rfl, hB2⟩
    have HW2 := Lib.hid (bt HB1.out hB2)
    have HA2 := Lib.hid (HA1.out.below hB2)
    have HB2 := Lib.hid (HB.out.below hB2)
    clear hB2
    go_wp2_with fail
    cases hon : (once a && once b) with
    | false =>
      have HON := Lib.hid hon
      clear hon
      refine (Of_any _ _ a b w2 HA2.out HB2.out (by200 HLA.out HLB.out (by decide))).mono ?_
      rintro e w3 ⟨hres, hB3⟩
      obtain rfl := hres.bad HON.out
      have HW3 := Lib.hid (bt HW2.out hB3)
      have HA3 := Lib.hid (HA2.out.below hB3)
      have HB3 := Lib.hid (HB2.out.below hB3)
      clear hres hB3
      go_wp2_with fail
      cases hoa : once a with
      | false =>
        have HOA := Lib.hid hoa
        clear hoa
        refine (once18_any _ a w3 HA3.out (Nat.le_trans HLA.out (by decide))).mono ?_
        rw [HOA.out]
        rintro e w4 ⟨rfl, hB4⟩
        have HW4 := Lib.hid (bt HW3.out hB4)
        clear hB4
        go_wp2_with fail
        refine (alive40 _).mono ?_
        rintro e w5 ⟨rfl, hB5⟩
        have HW5 := Lib.hid (bt HW4.out hB5)
        clear hB5
        go_wp2
        go_ret
        exact ⟨rfl, HW5.out⟩
      | true =>
        have HOA := Lib.hid hoa
        have HOB := Lib.hid (show once b = false by have := HON.out; rw [hoa, Bool.true_and] at this; exact this)
        clear hoa
        refine (once18_any _ a w3 HA3.out (Nat.le_trans HLA.out (by decide))).mono ?_
        rw [HOA.out]
        rintro e w4 ⟨rfl, hB4⟩
        have HW4 := Lib.hid (bt HW3.out hB4)
        have HB4 := Lib.hid (HB3.out.below hB4)
        clear hB4
        go_wp2_with fail
        refine (once18_any _ b w4 HB4.out (Nat.le_trans HLB.out (by decide))).mono ?_
        rw [HOB.out]
        rintro e w5 ⟨rfl, hB5⟩
        have HW5 := Lib.hid (bt HW4.out hB5)
        clear hB5
        go_wp2_with fail
        refine (alive40 _).mono ?_
        rintro e w6 ⟨rfl, hB6⟩
        have HW6 := Lib.hid (bt HW5.out hB6)
        clear hB6
        go_wp2
        go_ret
        exact ⟨rfl, HW6.out⟩
    | true =>
      have hoa : once a = true := by rw [Bool.and_eq_true] at hon; exact hon.1
      have hob : once b = true := by rw [Bool.and_eq_true] at hon; exact hon.2
      have HON := Lib.hid hon
      have HON2 := Lib.hid (show (once b && once a) = true by rw [hoa, hob]; rfl)
      obtain ⟨L, hL⟩ : ∃ L, L = ofF a b := ⟨_, rfl⟩
      have hap := ap_of _ a b rfl hoa hob
      have hbp := ap_of _ b a rfl hob hoa
      have hba := of_back _ a b rfl
      have hll := ofF_length _ a b rfl
      have hnil := of_nil a b hoa hob
      rw [hba] at hbp
      rw [← hL] at hap hbp hba hll hnil
      obtain ⟨BK, hBK⟩ : ∃ BK, BK = L.map backT := ⟨_, rfl⟩
      rw [← hBK] at hbp hba
      have HBK := Lib.hid hBK
      have HBL := Lib.hid (show BK.length = L.length by rw [hBK, List.length_map])
      clear hBK
      have HRT := Lib.hid (show (once a && riseT L) = true by rw [hoa, hap.1]; rfl)
      have HRT2 := Lib.hid (show (once b && riseT BK) = true by rw [hob, hbp.1]; rfl)
      have HAP := Lib.hid (show apF a L ([], false) = (b, false) by rw [hap.2]; rfl)
      have HBP := Lib.hid (show apF b BK ([], false) = (a, false) by rw [hbp.2]; rfl)
      have HBA := Lib.hid hba
      have HLL := Lib.hid (le200 HLA.out HLB.out hll)
      obtain ⟨d, hd⟩ : ∃ d, d = decide (a = b) := ⟨_, rfl⟩
      have HD := Lib.hid hd
      have hq : ((L.length : Int) == 0) = d := by rw [hd]; exact hq_of hnil
      have HOA := Lib.hid hoa
      have HOB := Lib.hid hob
      have HL := Lib.hid hL
      clear hon hoa hob hap hbp hba hll hnil hL hd
      have hof := Of_any _ _ a b w2 HA2.out HB2.out (by200 HLA.out HLB.out (by decide))
      refine hof.mono ?_
      rintro e w3 ⟨hres, hB3⟩
      obtain ⟨a3, c3, rfl, hown3⟩ := hres.len HON.out
      rw [← HL.out] at hown3 ⊢
      have HT3 := Lib.hid (Rec.Own.row (R := recT) hown3)
      have HW3 := Lib.hid (bt HW2.out hB3)
      have HA3 := Lib.hid (HA2.out.below hB3)
      have HB3 := Lib.hid (HB2.out.below hB3)
      clear hof hres hB3 hown3
      go_wp2_with fail
      refine (once18_any _ a w3 HA3.out (Nat.le_trans HLA.out (by decide))).mono ?_
      rw [HOA.out]
      rintro e w4 ⟨rfl, hB4⟩
      have HW4 := Lib.hid (bt HW3.out hB4)
      have HA4 := Lib.hid (HA3.out.below hB4)
      have HB4 := Lib.hid (HB3.out.below hB4)
      have HT4 := Lib.hid (HT3.out.below hB4)
      clear hB4
      go_wp2_with fail
      refine (once18_any _ b w4 HB4.out (Nat.le_trans HLB.out (by decide))).mono ?_
      rw [HOB.out]
      rintro e w5 ⟨rfl, hB5⟩
      have HW5 := Lib.hid (bt HW4.out hB5)
      have HA5 := Lib.hid (HA4.out.below hB5)
      have HB5 := Lib.hid (HB4.out.below hB5)
      have HT5 := Lib.hid (HT4.out.below hB5)
      clear hB5
      go_wp2_with fail
      refine (Apply_any _ _ a L w5 HA5.out HT5.out (by200 HLA.out HLL.out (by decide))).mono ?_
      rintro e w6 ⟨hres, hB6⟩
      obtain ⟨v6, rfl, hown6⟩ := hres.good HRT.out b HAP.out
      obtain ⟨a6, c6, rfl⟩ := owns_slice hown6
      have HX6 := Lib.hid (OP.reads hown6)
      have HW6 := Lib.hid (bt HW5.out hB6)
      have HA6 := Lib.hid (HA5.out.below hB6)
      have HB6 := Lib.hid (HB5.out.below hB6)
      have HT6 := Lib.hid (HT5.out.below hB6)
      clear hB6 hres hown6
      go_wp2_with fail
      refine (Back_any _ L w6 HT6.out (by300 HLL.out (by decide))).mono ?_
      rintro e w7 ⟨⟨v7, rfl, hown7⟩, hB7⟩
      rw [← HBK.out] at hown7
      obtain ⟨a7, c7, rfl⟩ := owns_slice hown7
      have HBK7 := Lib.hid (Rec.Own.row (R := recT) hown7)
      have HX7 := Lib.hid (HX6.out.below hB7)
      have HW7 := Lib.hid (bt HW6.out hB7)
      have HA7 := Lib.hid (HA6.out.below hB7)
      have HB7 := Lib.hid (HB6.out.below hB7)
      have HT7 := Lib.hid (HT6.out.below hB7)
      clear hB7 hown7
      go_wp2_with fail
      refine (Apply_any _ _ b BK w7 HB7.out HBK7.out (by200 HLB.out (by rw [HBL.out]; exact HLL.out) (by decide))).mono ?_
      rintro e w8 ⟨hres, hB8⟩
      obtain ⟨v8, rfl, hown8⟩ := hres.good HRT2.out a HBP.out
      obtain ⟨a8, c8, rfl⟩ := owns_slice hown8
      have HY8 := Lib.hid (OP.reads hown8)
      have HX8 := Lib.hid (HX7.out.below hB8)
      have HW8 := Lib.hid (bt HW7.out hB8)
      have HA8 := Lib.hid (HA7.out.below hB8)
      have HB8 := Lib.hid (HB7.out.below hB8)
      have HT8 := Lib.hid (HT7.out.below hB8)
      clear hB8 hres hown8
      go_wp2_with fail
      refine (Of_any _ _ b a w8 HB8.out HA8.out (by200 HLB.out HLA.out (by decide))).mono ?_
      rintro e w9 ⟨hres, hB9⟩
      obtain ⟨a9, c9, rfl, hown9⟩ := hres.len HON2.out
      rw [HBA.out] at hown9 ⊢
      have HM9 := Lib.hid (Rec.Own.row (R := recT) hown9)
      have HY9 := Lib.hid (HY8.out.below hB9)
      have HX9 := Lib.hid (HX8.out.below hB9)
      have HW9 := Lib.hid (bt HW8.out hB9)
      have HA9 := Lib.hid (HA8.out.below hB9)
      have HB9 := Lib.hid (HB8.out.below hB9)
      have HT9 := Lib.hid (HT8.out.below hB9)
      clear hB9 hres hown9
      go_wp2_with fail
      refine (same14_any _ _ b b w9 HX9.out HB9.out (Nat.le_trans HLB.out (by decide)) (Nat.le_trans HLB.out (by decide))).mono ?_
      rw [decide_eq_true rfl]
      rintro e w10 ⟨rfl, hB10⟩
      have HM10 := Lib.hid (HM9.out.below hB10)
      have HY10 := Lib.hid (HY9.out.below hB10)
      have HW10 := Lib.hid (bt HW9.out hB10)
      have HA10 := Lib.hid (HA9.out.below hB10)
      have HB10 := Lib.hid (HB9.out.below hB10)
      have HT10 := Lib.hid (HT9.out.below hB10)
      clear hB10
      go_wp2_with fail
      refine (same14_any _ _ a a w10 HY10.out HA10.out (Nat.le_trans HLA.out (by decide)) (Nat.le_trans HLA.out (by decide))).mono ?_
      rw [decide_eq_true rfl]
      rintro e w11 ⟨rfl, hB11⟩
      have HM11 := Lib.hid (HM10.out.below hB11)
      have HW11 := Lib.hid (bt HW10.out hB11)
      have HA11 := Lib.hid (HA10.out.below hB11)
      have HB11 := Lib.hid (HB10.out.below hB11)
      have HT11 := Lib.hid (HT10.out.below hB11)
      clear hB11
      go_wp2_with fail
      refine (Back_any _ L w11 HT11.out (by300 HLL.out (by decide))).mono ?_
      rintro e w12 ⟨⟨v12, rfl, hown12⟩, hB12⟩
      rw [← HBK.out] at hown12
      obtain ⟨a12, c12, rfl⟩ := owns_slice hown12
      have HBK12 := Lib.hid (Rec.Own.row (R := recT) hown12)
      have HM12 := Lib.hid (HM11.out.below hB12)
      have HW12 := Lib.hid (bt HW11.out hB12)
      have HA12 := Lib.hid (HA11.out.below hB12)
      have HB12 := Lib.hid (HB11.out.below hB12)
      clear hB12 hown12
      go_wp2_with fail
      refine (sameT_any _ _ BK BK w12 HM12.out HBK12.out (by rw [HBL.out]; exact Nat.le_trans HLL.out (by decide)) (by rw [HBL.out]; exact Nat.le_trans HLL.out (by decide))).mono ?_
      rw [decide_eq_true rfl]
      rintro e w13 ⟨rfl, hB13⟩
      have HW13 := Lib.hid (bt HW12.out hB13)
      have HA13 := Lib.hid (HA12.out.below hB13)
      have HB13 := Lib.hid (HB12.out.below hB13)
      clear hB13
      go_wp2_with fail
      refine (same14_any _ _ a b w13 HA13.out HB13.out (Nat.le_trans HLA.out (by decide)) (Nat.le_trans HLB.out (by decide))).mono ?_
      rw [← HD.out]
      rintro e w14 ⟨rfl, hB14⟩
      have HW14 := Lib.hid (bt HW13.out hB14)
      clear hB14
      go_wp2_with fail
      refine (alive40 _).mono ?_
      rintro e w15 ⟨rfl, hB15⟩
      have HW15 := Lib.hid (bt HW14.out hB15)
      clear hB15
      go_wp2
      go_ret
      exact ⟨rfl, HW15.out⟩
end Go.Proofs.Ytahmacnmphjhgaa
namespace Go.Proofs.Ytahmacnmphjhgaa
open Go.ChangeShapes Go.WideShapes Go.ChangeAt Go.RowKit Oct
open Go.ChangeMaps (open_string shut_string)

theorem u64_nat {a : Int} (h : (Lit.int .u64 a).wf = true) : ∃ n : Nat, a = (n : Int) ∧ n < 18446744073709551616 := by
  have h2 : 0 ≤ a ∧ a < 18446744073709551616 := by
    have := bounds_u64 h; omega
  exact ⟨a.toNat, by omega, by omega⟩

section
variable {P : Program} {H : Type} {enc : TypeId × Value → H} {W : World} {base : Nat}
theorem open_str {t j : Nat} {v : Value} {d : DataW H} {ps : List MemPlace} {ts : List TypeId} {ds : List (DataW H)} (ht : P.underlying t = some .string) (hv : Value.okWide P W .any base t v)
    (h : DataW.Trod enc P W 0 (fun _ => true) true t v d ps) (hsz : (DataW.weightsEach P ts ds).all (· ≤ reachBytes) = true) (hj : ts[j]? = some t) (hd : ds[j]? = some d) :
    ∃ l : List UInt8, v = .string (bs l) ∧ l.length ≤ 140737488355328 := by
  obtain ⟨s, rfl, rfl, _, _⟩ := open_string ht hv h
  refine ⟨s.data.toList, by rw [bs_of], ?_⟩
  have := sized_string hsz hj hd
  have h2 := reachBytes_lt
  omega

theorem weights_strs (e : TypeId) : ∀ (ss : List ByteArray) (s : ByteArray), s ∈ ss → s.data.toList.length ∈ DataW.weightsAll (H := H) P e (strs ss)
  | [], _, h => by simp at h
  | x :: ss, s, h => by
    have hx : strs (H := H) (x :: ss) = DataW.lit (.string x.data.toList) :: strs ss := rfl
    rw [hx, DataW.weightsAll]
    rcases List.mem_cons.1 h with rfl | h
    · simp [DataW.weights]
    · exact List.mem_append.2 (.inr (weights_strs e ss s h))
theorem add_cell {w : World} {a : Addr} {i : Nat} {u : Value} (h : w.cell? (a.add i) = some u) : a.add i = ⟨a.block, a.off + i, none⟩ := by
  unfold Addr.add at h ⊢
  split
  · rename_i hi
    rw [if_pos hi] at h
    subst hi
    cases a with
    | mk b o sp =>
      cases sp with
      | none => rfl
      | some x => exfalso; revert h; simp only [World.cell?]; split <;> simp
  · rfl
theorem open_texts {t e j : Nat} {v : Value} {d : DataW H} {ps : List MemPlace} {ts : List TypeId} {ds : List (DataW H)} (ht : P.underlying t = some (.slice e)) (he : P.underlying e = some .string) (hc : P.cellsOf e = 1) (hby : P.bytesOf e = 16)
    (hv : Value.okWide P W .any base t v) (h : DataW.Trod enc P W 0 (fun _ => true) true t v d ps) (hsz : (DataW.weightsEach P ts ds).all (· ≤ reachBytes) = true) (hj : ts[j]? = some t) (hd : ds[j]? = some d) :
    ∃ r : List (List UInt8), Reads W v r.length (tcells r) ∧ r.length ≤ 140737488355328 ∧ ∀ l ∈ r, l.length ≤ 140737488355328 := by
  have h47 := reachBytes_lt
  obtain ⟨a0, len, cap, rfl⟩ := okWide_slice ht hv
  obtain ⟨fuel, hf⟩ := h
  rcases open_strings ht he hc hf with ⟨hcs, hx⟩ | ⟨a, len', cap', ss, hcs, _, hl, hm, hz, hx, hcell, hws⟩
  · simp [Value.cells] at hcs
    obtain ⟨rfl, rfl, rfl⟩ := hcs
    exact ⟨[], Reads.nil _, by simp, by simp⟩
  · simp [Value.cells] at hcs
    obtain ⟨rfl, rfl, rfl⟩ := hcs
    simp at hz
    simp only [Prod.mk.injEq] at hx
    have hd2 := hx.1
    subst hd2
    have s1 := sized_slice hsz hj hd ht
    rw [hby] at s1
    simp only [strs, List.length_map, List.length_take, List.length_drop] at s1
    have hlen : (ss.take len).length = len := by simp; omega
    refine ⟨(ss.take len).map fun s => s.data.toList, ?_, ?_, ?_⟩
    · refine ⟨some a, cap, by rw [List.length_map, hlen], by simp, fun i u hu => ?_⟩
      have hi : i < len := by
        rcases Nat.lt_or_ge i len with h | h
        · exact h
        · rw [List.getElem?_eq_none (by simp [tcells]; omega)] at hu; simp at hu
      have hcl := hcell i (by omega)
      have e1 := add_cell hcl
      have e2 : a = ⟨a.block, a.off, none⟩ := by
        have h0 := add_cell (hcell 0 (by omega))
        simpa [Addr.add] using h0
      rw [e1] at hcl
      refine ⟨a.block, a.off, by rw [← e2], ?_⟩
      rw [hcl, ← hu]
      have hss : i < ss.length := by omega
      simp [tcells, List.getElem?_take, hi, hss, bs_of, List.getD]
    · simp; omega
    · intro l hl
      obtain ⟨s, hs, rfl⟩ := List.mem_map.1 hl
      have hin : s.data.toList.length ∈ DataW.weightsEach P ts ds := by
        refine DataW.weights_mem_each hj hd _ ?_
        simp only [DataW.weights, ht]
        exact List.mem_cons.2 (.inr (List.mem_append.2 (.inl (weights_strs e _ s hs))))
      have := List.all_eq_true.1 hsz _ hin
      simp at this
      simp
      omega
end
end Go.Proofs.Ytahmacnmphjhgaa
namespace Go.Proofs.Ytahmacnmphjhgaa
open Go.ChangeShapes Go.WideShapes Go.ChangeAt Go.RowKit Oct
open Go.ChangeMaps (open_string shut_string)

section
variable {P : Program} {H : Type} {enc : TypeId × Value → H} {W : World} {α β γ : Type}

/-- whatever the cells of a type read as, they hold an x; its measure is at most the datum's bulk -/
def Opens (enc : TypeId × Value → H) (P : Program) (W : World) (t : TypeId) (mu : α → Nat) (He : List Value → α → Prop) : Prop :=
  ∀ n cs d ps, DataW.trod enc P W 0 (fun _ => true) true n t cs = some (d, ps) → (∀ x ∈ d.weights P t, x ≤ reachBytes) → ∃ x, He cs x ∧ mu x ≤ Rows.uptoBulk d
theorem bulk_range (D : Nat → DataW H) (f : Nat → α) (mu : α → Nat) : ∀ n, (∀ i, i < n → mu (f i) ≤ Rows.uptoBulk (D i)) → (((List.range n).map f).map mu).sum ≤ Rows.uptoBulkAll ((List.range n).map D)
  | 0, _ => by simp
  | n + 1, h => by
    have ih := bulk_range D f mu n (fun i hi => h i (by omega))
    have app : ∀ (l r : List (DataW H)), Rows.uptoBulkAll (l ++ r) = Rows.uptoBulkAll l + Rows.uptoBulkAll r := by
      intro l r
      induction l with
      | nil => simp [Rows.uptoBulkAll]
      | cons x l ih => simp only [List.cons_append, Rows.uptoBulkAll, ih]; omega
    have := h n (by omega)
    simp only [List.range_succ, List.map_append, List.sum_append, app, List.map_cons, List.map_nil, List.sum_cons, List.sum_nil, Rows.uptoBulkAll]
    omega

theorem Opens.imp {t : TypeId} {mu : α → Nat} {He He' : List Value → α → Prop} (h : Opens enc P W t mu He) (hi : ∀ cs x, He cs x → He' cs x) : Opens enc P W t mu He' := by
  intro n cs d ps hd hw
  obtain ⟨x, hx, hb⟩ := h n cs d ps hd hw
  exact ⟨x, hi _ _ hx, hb⟩
/-- v is a row of elements of 'size' cells -/
def SliceOf (W : World) (size : Nat) (He : List Value → α → Prop) (v : Value) (xs : List α) : Prop :=
  ∃ a cap, v = .slice a xs.length cap ∧ xs.length ≤ cap ∧ (a = none → xs.length = 0 ∧ cap = 0) ∧
    ∀ k (h : k < xs.length), ∃ b off cs, a = some ⟨b, off, none⟩ ∧ cs.length = size ∧ (∀ j u, cs[j]? = some u → W.cell? ⟨b, off + k * size + j, none⟩ = some u) ∧ He cs xs[k]

theorem weights_all_mem (e : TypeId) : ∀ (ds : List (DataW H)) (d : DataW H), d ∈ ds → ∀ x ∈ d.weights P e, x ∈ DataW.weightsAll P e ds
  | [], _, h => by simp at h
  | d0 :: ds, d, h => by
    intro x hx
    rw [DataW.weightsAll]
    rcases List.mem_cons.1 h with rfl | h
    · exact List.mem_append.2 (.inl hx)
    · exact List.mem_append.2 (.inr (weights_all_mem e ds d h x hx))

theorem opens_str {t : TypeId} (ht : P.underlying t = some .string) : Opens enc P W t (fun l : List UInt8 => l.length + 1) fun cs (l : List UInt8) => cs = [.string (bs l)] ∧ l.length ≤ 140737488355328 := by
  intro n cs d ps h hw
  obtain ⟨s, rfl, hx, _⟩ := DataW.trod_string ht h
  simp only [Prod.mk.injEq] at hx
  obtain ⟨rfl, rfl⟩ := hx
  have := hw s.data.toList.length (by simp [DataW.weights])
  have h2 := reachBytes_lt
  exact ⟨s.data.toList, ⟨by rw [bs_of], by omega⟩, by simp [Rows.uptoBulk]⟩
theorem opens_int {t : TypeId} {k : IntKind} (ht : P.underlying t = some (.int k)) : Opens enc P W t (fun _ => 1) fun cs (a : Int) => cs = [.int k a] ∧ (Lit.int k a).wf = true := by
  intro n cs d ps h hw
  obtain ⟨a, rfl, hx, hwf⟩ := DataW.trod_int ht h
  simp only [Prod.mk.injEq] at hx
  obtain ⟨rfl, rfl⟩ := hx
  exact ⟨a, ⟨rfl, hwf⟩, by simp [Rows.uptoBulk]⟩
theorem opens_struct2 {t : TypeId} {f0 f1 : Field} {c0 c1 : Nat} {m0 : α → Nat} {m1 : β → Nat} {H0 : List Value → α → Prop} {H1 : List Value → β → Prop} (ht : P.underlying t = some (.struct #[f0, f1])) (hc : P.cellsOf t = c0 + c1)
    (hc0 : P.cellsOf f0.type = c0) (hc1 : P.cellsOf f1.type = c1) (o0 : f0.offset = 0) (o1 : f1.offset = c0)
    (h0 : Opens enc P W f0.type m0 H0) (h1 : Opens enc P W f1.type m1 H1) : Opens enc P W t (fun p => m0 p.1 + m1 p.2 + 1) fun cs (p : α × β) => ∃ cs0 cs1, cs = cs0 ++ cs1 ∧ cs0.length = c0 ∧ cs1.length = c1 ∧ H0 cs0 p.1 ∧ H1 cs1 p.2 := by
  intro n cs d ps h hw
  obtain ⟨y0, y1, m, hx, hl, e0, e1⟩ := trod_struct2 ht h
  simp only [Prod.mk.injEq] at hx
  obtain ⟨rfl, rfl⟩ := hx
  have hw' : ∀ x, x ∈ y0.1.weights P f0.type ∨ x ∈ y1.1.weights P f1.type → x ≤ reachBytes := by
    intro x hx
    refine hw x ?_
    simp only [DataW.weights, ht, DataW.weightsEach, List.map_cons, List.mem_append]
    rcases hx with hx | hx
    · exact .inl hx
    · exact .inr (.inl hx)
  obtain ⟨x0, k0, b0⟩ := h0 _ _ _ _ e0 (fun x hx => hw' x (.inl hx))
  obtain ⟨x1, k1, b1⟩ := h1 _ _ _ _ e1 (fun x hx => hw' x (.inr hx))
  rw [o0, hc0, List.drop_zero] at k0
  rw [o1, hc1] at k1
  refine ⟨(x0, x1), ⟨cs.take c0, (cs.drop c0).take c1, ?_, ?_, ?_, k0, k1⟩, by simp only [Rows.uptoBulk, Rows.uptoBulkAll]; omega⟩
  · have : (cs.drop c0).take c1 = cs.drop c0 := List.take_of_length_le (by simp; omega)
    rw [this, List.take_append_drop]
  · simp; omega
  · simp; omega
theorem opens_slice {t e : TypeId} {size : Nat} {mu : α → Nat} {He : List Value → α → Prop} (ht : P.underlying t = some (.slice e)) (hc : P.cellsOf e = size) (hpos : 0 < size) (he : Opens enc P W e mu He) :
    Opens enc P W t (fun xs => (xs.map mu).sum + 1) fun cs (xs : List α) => ∃ v, cs = [v] ∧ SliceOf W size He v xs ∧ xs.length * P.bytesOf e ≤ reachBytes := by
  intro n cs d ps h hw
  rcases Deep.open_slice ht h with ⟨rfl, hx⟩ | ⟨a, len, cap, m, n', D, Pl, rfl, _, hl, hm, hmm, hx, hcell⟩
  · simp only [Prod.mk.injEq] at hx
    obtain ⟨rfl, _⟩ := hx
    exact ⟨[], ⟨_, rfl, ⟨none, 0, rfl, Nat.le_refl _, fun _ => ⟨rfl, rfl⟩, fun k hk => by simp at hk⟩, by simp⟩, by simp [Rows.uptoBulk]⟩
  · simp only [Prod.mk.injEq] at hx
    obtain ⟨rfl, _⟩ := hx
    simp only [if_true] at hmm
    subst hmm
    have hin : ∀ i, i < len → ∀ x ∈ (D i).weights P e, x ≤ reachBytes := by
      intro i hi x hx
      refine hw x ?_
      simp only [DataW.weights, ht]
      exact List.mem_cons.2 (.inr (List.mem_append.2 (.inl (weights_all_mem e _ (D i) (List.mem_map.2 ⟨i, by simpa using hi, rfl⟩) x hx))))
    have each : ∀ i, i < len → ∃ x : α, (∃ cs', W.cells? 0 (a.add (i * size)) size = some cs' ∧ He cs' x) ∧ mu x ≤ Rows.uptoBulk (D i) := by
      intro i hi
      obtain ⟨cs', h1, h2⟩ := hcell i (by omega)
      rw [hc] at h1
      obtain ⟨x, hx, hb⟩ := he _ _ _ _ h2 (hin i hi)
      exact ⟨x, ⟨cs', h1, hx⟩, hb⟩
    have hlen := hw ((len + (m - len)) * P.bytesOf e) (by simp [DataW.weights, ht])
    have hlb : len * P.bytesOf e ≤ (len + (m - len)) * P.bytesOf e := Nat.mul_le_mul_right _ (by omega)
    by_cases h0 : len = 0
    · subst h0
      exact ⟨[], ⟨_, rfl, ⟨some a, m, rfl, Nat.zero_le _, by simp, fun k hk => by simp at hk⟩, by simp⟩, by simp [Rows.uptoBulk]⟩
    obtain ⟨x0, _⟩ := each 0 (by omega)
    haveI : Inhabited α := ⟨x0⟩
    obtain ⟨f, hf⟩ := Deep.choose_lt each
    have haddr : a = ⟨a.block, a.off, none⟩ := by
      obtain ⟨⟨cs', h1, _⟩, _⟩ := hf 0 (by omega)
      obtain ⟨_, hl', hcs⟩ := World.cells?_some h1
      have h2 := hcs 0 (by omega)
      rw [Nat.zero_mul] at h2
      have h3 : ∃ u, cs'[0]? = some u := ⟨cs'[0]'(by omega), List.getElem?_eq_getElem _⟩
      obtain ⟨u, hu⟩ := h3
      rw [hu] at h2
      have := add_cell (a := a.add 0) (i := 0) h2
      simpa [Addr.add] using this
    have hbulk := bulk_range D f mu len (fun i hi => (hf i hi).2)
    refine ⟨(List.range len).map f, ⟨_, rfl, ⟨some a, m, by simp, by simpa using hl, by simp, ?_⟩, ?_⟩, by simp only [Rows.uptoBulk]; omega⟩
    · intro k hk
      have hk' : k < len := by simpa using hk
      obtain ⟨⟨cs', h1, hHe⟩, _⟩ := hf k hk'
      obtain ⟨_, hl', hcs⟩ := World.cells?_some h1
      refine ⟨a.block, a.off, cs', by rw [← haddr], hl', ?_, by simpa using hHe⟩
      intro j u hj
      have hjl : j < size := by
        rcases Nat.lt_or_ge j size with h | h
        · exact h
        · rw [List.getElem?_eq_none (by omega)] at hj; cases hj
      have h2 := hcs j hjl
      rw [haddr, hj, Addr.add_lit, Addr.add_lit] at h2
      rw [← h2]
    · simp only [List.length_map, List.length_range]; omega

theorem open_any {t j : Nat} {v : Value} {d : DataW H} {ps : List MemPlace} {ts : List TypeId} {ds : List (DataW H)} {mu : α → Nat} {He : List Value → α → Prop} (ho : Opens enc P W t mu He)
    (h : DataW.Trod enc P W 0 (fun _ => true) true t v d ps) (hsz : (DataW.weightsEach P ts ds).all (· ≤ reachBytes) = true) (hj : ts[j]? = some t) (hd : ds[j]? = some d) : ∃ x, He v.cells.toList x ∧ mu x ≤ Rows.uptoBulk d := by
  obtain ⟨fuel, hf⟩ := h
  refine ho _ _ _ _ hf fun x hx => ?_
  simpa using List.all_eq_true.1 hsz x (DataW.weights_mem_each hj hd x hx)
theorem cells_slice {base : Nat} {t e : TypeId} {v v' : Value} (ht : P.underlying t = some (.slice e)) (hv : Value.okWide P W .any base t v) (h : v.cells.toList = [v']) : v = v' := by
  obtain ⟨a0, len, cap, rfl⟩ := okWide_slice ht hv
  simpa [Value.cells] using h
end
end Go.Proofs.Ytahmacnmphjhgaa
namespace Go.Proofs.Ytahmacnmphjhgaa
open Go.ChangeShapes Go.WideShapes Go.ChangeAt Go.RowKit Oct

section
variable {H : Type} {enc : TypeId × Value → H} {W : World}
/-- a pair's cells, opened -/
def PairAt (cs : List Value) (p : PR) : Prop := cs = [.string (bs p.1), .string (bs p.2)] ∧ p.1.length ≤ 140737488355328 ∧ p.2.length ≤ 140737488355328
theorem opens_pair : Opens enc Try.prog W 71 (fun p => p.1.length + 1 + (p.2.length + 1) + 1) PairAt := by
  refine Opens.imp (opens_struct2 (c0 := 1) (c1 := 1) Try.underlying71 (by kernel_rfl) (by kernel_rfl) (by kernel_rfl) rfl rfl (opens_str Try.underlying9) (opens_str Try.underlying9)) ?_
  rintro cs p ⟨cs0, cs1, rfl, _, _, ⟨rfl, h0⟩, rfl, h1⟩
  exact ⟨rfl, h0, h1⟩
theorem rp_of {v : Value} {xs : List PR} (h : SliceOf W 2 PairAt v xs) : RP W v xs ∧ ∀ p ∈ xs, p.1.length ≤ 140737488355328 ∧ p.2.length ≤ 140737488355328 := by
  obtain ⟨a, cap, rfl, hle, hn, hc⟩ := h
  refine ⟨⟨⟨a, cap, rfl, hn, ?_⟩, a, cap, rfl, hle⟩, ?_⟩
  · intro j u hj
    have hjl : j < xs.length * 2 := by
      rcases Nat.lt_or_ge j (xs.length * 2) with h | h
      · exact h
      · rw [List.getElem?_eq_none (by rw [pcells_length]; exact h)] at hj; cases hj
    have hk : j / 2 < xs.length := by omega
    obtain ⟨b, off, cs, ha, _, hcell, hcs, _⟩ := hc (j / 2) hk
    subst hcs
    refine ⟨b, off, ha, ?_⟩
    rcases Nat.mod_two_eq_zero_or_one j with hm | hm
    · have e : j = j / 2 * 2 := by omega
      rw [e, pcells_key xs _ hk] at hj
      have := hcell 0 _ rfl
      rw [e, ← hj]
      exact this
    · have e : j = j / 2 * 2 + 1 := by omega
      rw [e, pcells_val xs _ hk] at hj
      have := hcell 1 _ rfl
      rw [e, ← hj, ← Nat.add_assoc]
      exact this
  · intro p hp
    obtain ⟨k, hk, rfl⟩ := List.getElem_of_mem hp
    obtain ⟨_, _, _, _, _, _, _, h⟩ := hc k hk
    exact h
/-- a row of pairs -/
def RowAt (W : World) (cs : List Value) (l : List PR) : Prop := ∃ v, cs = [v] ∧ RP W v l ∧ l.length ≤ 4398046511104 ∧ ∀ p ∈ l, p.1.length ≤ 140737488355328 ∧ p.2.length ≤ 140737488355328
/-- how many values and letters a row has -/
def bulkP (l : List PR) : Nat := (l.map fun p : PR => p.1.length + 1 + (p.2.length + 1) + 1).sum + 1
theorem opens_pairs : Opens enc Try.prog W 22 bulkP (RowAt W) := by
  refine Opens.imp (opens_slice (size := 2) Try.underlying22 (by kernel_rfl) (by decide) opens_pair) ?_
  rintro cs l ⟨v, rfl, hs, hb⟩
  have hby : Try.prog.bytesOf 71 = 32 := by kernel_rfl
  rw [hby] at hb
  have h2 := reachBytes_lt
  obtain ⟨h1, h3⟩ := rp_of hs
  exact ⟨v, rfl, h1, by omega, h3⟩
set_option maxRecDepth 100000 in
theorem open_pairs {base j : Nat} {v : Value} {d : DataW H} {ps : List MemPlace} {ts : List TypeId} {ds : List (DataW H)}
    (hv : Value.okWide Try.prog W .any base 22 v) (h : DataW.Trod enc Try.prog W 0 (fun _ => true) true 22 v d ps) (hsz : (DataW.weightsEach Try.prog ts ds).all (· ≤ reachBytes) = true) (hj : ts[j]? = some 22) (hd : ds[j]? = some d) :
    ∃ l : List PR, RP W v l ∧ l.length ≤ 4398046511104 ∧ ∀ p ∈ l, p.1.length ≤ 140737488355328 ∧ p.2.length ≤ 140737488355328 := by
  obtain ⟨l, ⟨v', hcs, h1, h2, h3⟩, _⟩ := open_any opens_pairs h hsz hj hd
  obtain rfl := cells_slice Try.underlying22 hv hcs
  exact ⟨l, h1, h2, h3⟩
end
end Go.Proofs.Ytahmacnmphjhgaa
