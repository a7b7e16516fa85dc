/- Walks of the laws' helpers: Long; the law PairsCode. -/
import Derived.Test.YtdebgkjekcppmaaQ8
import Derived.Test.YtdebgkjekcppmaaQT
namespace Go.Proofs.Ytdebgkjekcppmaa
open Go.RowKit Oct

/-- how many bytes the pairs have -/
def total16 (l : List PR) : Nat := (l.map fun p => p.1.length + p.2.length).sum
/-- Long -/
def long16 (l : List PR) : Bool := decide (200 < l.length) || decide (262144 < total16 (l.take 400))
theorem total16_take (r : List PR) (k : Nat) (h : k < r.length) : total16 (r.take (k + 1)) = total16 (r.take k) + r[k].1.length + r[k].2.length := by
  rw [List.take_succ_eq_append_getElem h, total16, total16, List.map_append, List.sum_append]; simp; omega
theorem texts_tx (l : List PR) : (texts (tx l)).length = 4 * l.length + total16 l := by
  induction l with
  | nil => rfl
  | cons a r ih => simp only [tx, texts, List.length_append, num_length, ih, List.length_cons, total16, List.map_cons, List.sum_cons]; omega

set_option maxRecDepth 100000 in
set_option maxHeartbeats 1000000 in
theorem Long16_any (v : Value) (r : List PR) (w : World) (hr : RP w v r) (hl : r.length ≤ 140737488355328) (hm : ∀ p ∈ r, p.1.length ≤ 140737488355328 ∧ p.2.length ≤ 140737488355328) :
    Calls Try.prog 25 #[v] w fun e w' => e = .returned (.bool (long16 r)) ∧ Below w.heap.size w w' := by
  obtain ⟨a, cap, rfl, _, hc⟩ := hr.open
  clear hr
  have HM := Lib.hid hm
  clear hm
  go_enter Try.func25, Try.ntmps25
  go_wp2
  go_loopw [3, 4] (fun n i wr => ∃ k x : Nat, k ≤ r.length ∧ k ≤ 400 ∧ i = .int .i64 k ∧ n = .int .i64 x ∧ x ≤ k * 281474976710656 ∧ Hid (x = total16 (r.take k)) ∧ Below w.heap.size w wr) (fun _ i _ => 400 - (intOf i).toNat)
  case atStart => exact ⟨0, 0, by omega, by omega, rfl, rfl, by omega, rfl, Below.refl _ _⟩
  case round =>
    obtain ⟨k, x, hk, hk2, rfl, rfl, hx, hH, hB⟩ := hrel
    by_cases h0 : k < r.length ∧ k < 400
    · obtain ⟨h1, h2⟩ := h0
      obtain ⟨b1, o1, rfl, hc1, hc2⟩ := hc k h1
      have hd1 := Below.keeps hB hc1
      have hd2 := Below.keeps hB hc2
      clear hc
      have hmk := HM.out r[k] (List.getElem_mem h1)
      obtain ⟨hm1, hm2⟩ := hmk
      have kk0 : (0 : Int) ≤ (k : Int) := by omega
      have kk1 : (k : Int) < (r.length : Int) := by omega
      go_wp2
      go_quiet (fail)
      go_wp2
      go_roundw
      case rel => exact ⟨k + 1, x + r[k].1.length + r[k].2.length, by omega, by omega, by go_num, by go_num, by omega, by show _ = _; rw [total16_take r k h1, hH.out], bt hB (Below.drewN' _ _)⟩
      case measure => simp [intOf]; omega
    · have hfin : total16 (r.take k) = total16 (r.take 400) := by
        by_cases h1 : k < r.length
        · rw [show k = 400 by omega]
        · rw [List.take_of_length_le (by omega), List.take_of_length_le (by omega)]
      have HF := Lib.hid hfin
      clear hfin
      by_cases h1 : k < r.length
      · have h2 : 400 ≤ k := by omega
        by_cases h3 : 200 < r.length
        · go_wp2
          go_ret
          exact ⟨by simp [long16, h3], hB⟩
        · omega
      · by_cases h3 : 200 < r.length
        · go_wp2
          go_ret
          exact ⟨by simp [long16, h3], hB⟩
        · go_wp2
          go_ret
          exact ⟨by rw [long16, ← HF.out, ← hH.out]; simp [h3]; rw [show decide ((200 : Int) < (r.length : Int)) = false from decide_eq_false (by omega), Bool.false_or]; exact decide_eq_decide.2 (by omega), hB⟩

theorem long16_le (r : List PR) (h : long16 r = false) : r.length ≤ 200 ∧ (texts (tx r)).length ≤ 1000000 := by
  simp only [long16, Bool.or_eq_false_iff, decide_eq_false_iff_not] at h
  have e : r.take 400 = r := List.take_of_length_le (by omega)
  rw [e] at h
  have := texts_tx r
  omega

theorem txV_at16 (r : List UInt8 × Int) : txV r = .tuple #[.string (bs r.1), .int .i64 r.2] := rfl
theorem PsRes_some {r : List PR} {base : Nat} {e : Ending} {w : World} (h : PsRes (some r) base e w) : ∃ v, e = .returned (.tuple #[v, .int .i64 0]) ∧ OP w base v r := h
theorem PsRes_none {base : Nat} {e : Ending} {w : World} (h : PsRes none base e w) : e = .returned (.tuple #[.slice none 0 0, .int .i64 7]) := h

set_option maxRecDepth 100000 in
set_option maxHeartbeats 2000000 in
theorem PairsCode_any (v : Value) (r : List PR) (l : List UInt8) (w : World) (hr : RP w v r) (hl : r.length ≤ 4398046511104) (hm : ∀ p ∈ r, p.1.length ≤ 140737488355328 ∧ p.2.length ≤ 140737488355328) (hs : l.length ≤ 140737488355328) :
    Calls Try.prog 7 #[v, .string (bs l)] w fun e w' => e = .returned (.bool true) ∧ Below w.heap.size w w' := by
  obtain ⟨a, cap, rfl, _, _⟩ := hr.open
  cases hL : long16 r
  · obtain ⟨h1, h2⟩ := long16_le r hL
    by_cases h3 : 131072 < l.length
    · have HL := Lib.hid hL; clear hL
      go_enter Try.func7, Try.ntmps7
      go_wp2_with fail
      refine (Long16_any _ r _ hr (by omega) hm).mono ?_; rw [HL.out]; rintro e w1 ⟨rfl, hB0⟩
      go_wp2_with (go_at_call 26; refine (alive16 _).mono ?_; rintro e w1 ⟨rfl, hB1⟩)
      go_ret
      exact ⟨rfl, bt hB0 hB1⟩
    · have HL := Lib.hid hL; clear hL
      go_enter Try.func7, Try.ntmps7
      go_wp2_with fail
      refine (Long16_any _ r _ hr (by omega) hm).mono ?_; rw [HL.out]; rintro e w0 ⟨rfl, hB0⟩
      have hr0 := hr.below hB0
      go_wp2_with (at_builtin; refine appendP w0 rfl _ _ 35 rfl Try.underlying35 w0.heap.size _ [] rfl (OP.nil _ _) _ r rfl hr0 (by simp; omega) (Nat.le_refl _) ?_; intro v' w1 hown1 hB1)
      rw [List.nil_append] at hown1
      refine (PutP_any _ r _ hown1.reads (by omega) (by omega)).mono ?_; rw [txV_at16]; rintro e w2 ⟨rfl, hB2⟩
      go_wp2_with fail
      refine (rPutP_any _ r _ (hr0.below (hB1.trans (hB2.mono hB1.size))) (by omega) (by omega)).mono ?_; rw [txV_at16]; rintro e w3 ⟨rfl, hB3⟩
      have hB03 := bt hB0 (hB1.trans ((hB2.mono hB1.size).trans (hB3.mono (Nat.le_trans hB1.size hB2.size))))
      clear hB1 hB2 hB3 hB0
      cases hq : getP l with
      | none =>
        have HQ := Lib.hid hq; clear hq
        go_wp2_with fail
        refine (GetP_any l _ hs).mono ?_; rw [HQ.out]; rintro e w4 ⟨hres, hB4⟩; obtain rfl := PsRes_none hres; clear hres
        go_wp2_with fail
        refine (rGetP_any l _ hs).mono ?_; rw [HQ.out]; rintro e w5 ⟨hres, hB5⟩; obtain rfl := PsRes_none hres; clear hres
        go_wp2_with fail
        refine (rSameP_any _ _ [] [] _ (RP.nil _) (RP.nil _) (by simp) (by simp)).mono ?_; rw [decide_eq_true rfl]; rintro e w10 ⟨rfl, hB10⟩
        go_wp2_with fail
        refine (alive16 _).mono ?_; rintro e w11 ⟨rfl, hB11⟩
        go_wp2_with fail
        go_ret
        exact ⟨rfl, bt hB03 (bt hB4 (bt hB5 (bt hB10 hB11)))⟩
      | some q =>
        have hql := getP_length l q hq
        have HQ := Lib.hid hq; clear hq
        go_wp2_with fail
        refine (GetP_any l _ hs).mono ?_; rw [HQ.out]; rintro e w4 ⟨hres, hB4⟩; obtain ⟨v1, rfl, hr1⟩ := PsRes_some hres; clear hres
        go_wp2_with fail
        refine (rGetP_any l _ hs).mono ?_; rw [HQ.out]; rintro e w5 ⟨hres, hB5⟩; obtain ⟨v2, rfl, hr2⟩ := PsRes_some hres; clear hres
        go_wp2_with fail
        refine (rSameP_any _ _ q q _ ((OP.reads hr1).below hB5) (OP.reads hr2) (by omega) (by omega)).mono ?_; rw [decide_eq_true rfl]; rintro e w10 ⟨rfl, hB10⟩
        go_wp2_with fail
        refine (alive16 _).mono ?_; rintro e w11 ⟨rfl, hB11⟩
        go_wp2_with fail
        go_ret
        exact ⟨rfl, bt hB03 (bt hB4 (bt hB5 (bt hB10 hB11)))⟩
  · have HL := Lib.hid hL; clear hL
    go_enter Try.func7, Try.ntmps7
    go_wp2_with fail
    refine (Long16_any _ r _ hr (by omega) hm).mono ?_; rw [HL.out]; rintro e w1 ⟨rfl, hB0⟩
    go_wp2_with (go_at_call 26; refine (alive16 _).mono ?_; rintro e w1 ⟨rfl, hB1⟩)
    go_ret
    exact ⟨rfl, bt hB0 hB1⟩
end Go.Proofs.Ytdebgkjekcppmaa
