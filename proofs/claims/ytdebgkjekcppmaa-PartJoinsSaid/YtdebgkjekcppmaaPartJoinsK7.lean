/- Lemmas for PartJoins, part 7: walks of the functions that it reaches, and the plain laws behind them. -/
import Derived.ProofKit
import Derived.OpenShut
import Derived.ShutString
import Derived.ChangeOld
import Derived.SizedLaws
import Derived.SliceStrings
import Derived.Test.YtdebgkjekcppmaaRows
import Derived.Deep.Slices
import Derived.ChangeSame
import Derived.Test.YtdebgkjekcppmaaPartJoinsK6
set_option linter.unusedSimpArgs false
set_option linter.unusedVariables false
namespace Go.Proofs.Ytdebgkjekcppmaa
open Go.RowKit Oct

/-- how many bytes the pairs have -/
def total16 (l : List PR) : Nat := (l.map fun p => p.1.length + p.2.length).sum
/-- Long -/
def long16 (l : List PR) : Bool := decide (200 < l.length) || decide (262144 < total16 (l.take 400))
theorem total16_take (r : List PR) (k : Nat) (h : k < r.length) : total16 (r.take (k + 1)) = total16 (r.take k) + r[k].1.length + r[k].2.length := by
  rw [List.take_succ_eq_append_getElem h, total16, total16, List.map_append, List.sum_append]; simp; omega
theorem texts_tx (l : List PR) : (texts (tx l)).length = 4 * l.length + total16 l := by
  induction l with
  | nil => rfl
  | cons a r ih => simp only [tx, texts, List.length_append, num_length, ih, List.length_cons, total16, List.map_cons, List.sum_cons]; omega

set_option maxRecDepth 100000 in
set_option maxHeartbeats 1000000 in
theorem Long16_any (v : Value) (r : List PR) (w : World) (hr : RP w v r) (hl : r.length ≤ 140737488355328) (hm : ∀ p ∈ r, p.1.length ≤ 140737488355328 ∧ p.2.length ≤ 140737488355328) :
    Calls Try.prog 25 #[v] w fun e w' => e = .returned (.bool (long16 r)) ∧ Below w.heap.size w w' := by
  obtain ⟨a, cap, rfl, _, hc⟩ := hr.open
  clear hr
  have HM := Lib.hid hm
  clear hm
  go_enter Try.func25, Try.ntmps25
  go_wp2
  go_loopw [3, 4] (fun n i wr => ∃ k x : Nat, k ≤ r.length ∧ k ≤ 400 ∧ i = .int .i64 k ∧ n = .int .i64 x ∧ x ≤ k * 281474976710656 ∧ Hid (x = total16 (r.take k)) ∧ Below w.heap.size w wr) (fun _ i _ => 400 - (intOf i).toNat)
  case atStart => exact ⟨0, 0, by omega, by omega, rfl, rfl, by omega, rfl, Below.refl _ _⟩
  case round =>
    obtain ⟨k, x, hk, hk2, rfl, rfl, hx, hH, hB⟩ := hrel
    by_cases h0 : k < r.length ∧ k < 400
    · obtain ⟨h1, h2⟩ := h0
      obtain ⟨b1, o1, rfl, hc1, hc2⟩ := hc k h1
      have hd1 := Below.keeps hB hc1
      have hd2 := Below.keeps hB hc2
      clear hc
      have hmk := HM.out r[k] (List.getElem_mem h1)
      obtain ⟨hm1, hm2⟩ := hmk
      have kk0 : (0 : Int) ≤ (k : Int) := by omega
      have kk1 : (k : Int) < (r.length : Int) := by omega
      go_wp2
      go_quiet (fail)
      go_wp2
      go_roundw
      case rel => exact ⟨k + 1, x + r[k].1.length + r[k].2.length, by omega, by omega, by go_num, by go_num, by omega, by show _ = _; rw [total16_take r k h1, hH.out], bt hB (Below.drewN' _ _)⟩
      case measure => simp [intOf]; omega
    · have hfin : total16 (r.take k) = total16 (r.take 400) := by
        by_cases h1 : k < r.length
        · rw [show k = 400 by omega]
        · rw [List.take_of_length_le (by omega), List.take_of_length_le (by omega)]
      have HF := Lib.hid hfin
      clear hfin
      by_cases h1 : k < r.length
      · have h2 : 400 ≤ k := by omega
        by_cases h3 : 200 < r.length
        · go_wp2
          go_ret
          exact ⟨by simp [long16, h3], hB⟩
        · omega
      · by_cases h3 : 200 < r.length
        · go_wp2
          go_ret
          exact ⟨by simp [long16, h3], hB⟩
        · go_wp2
          go_ret
          exact ⟨by rw [long16, ← HF.out, ← hH.out]; simp [h3]; rw [show decide ((200 : Int) < (r.length : Int)) = false from decide_eq_false (by omega), Bool.false_or]; exact decide_eq_decide.2 (by omega), hB⟩

theorem long16_le (r : List PR) (h : long16 r = false) : r.length ≤ 200 ∧ (texts (tx r)).length ≤ 1000000 := by
  simp only [long16, Bool.or_eq_false_iff, decide_eq_false_iff_not] at h
  have e : r.take 400 = r := List.take_of_length_le (by omega)
  rw [e] at h
  have := texts_tx r
  omega

theorem txV_at16 (r : List UInt8 × Int) : txV r = .tuple #[.string (bs r.1), .int .i64 r.2] := rfl
theorem PsRes_some {r : List PR} {base : Nat} {e : Ending} {w : World} (h : PsRes (some r) base e w) : ∃ v, e = .returned (.tuple #[v, .int .i64 0]) ∧ OP w base v r := h
theorem PsRes_none {base : Nat} {e : Ending} {w : World} (h : PsRes none base e w) : e = .returned (.tuple #[.slice none 0 0, .int .i64 7]) := h

set_option maxRecDepth 100000 in
set_option maxHeartbeats 2000000 in
theorem PairsCode_any (v : Value) (r : List PR) (l : List UInt8) (w : World) (hr : RP w v r) (hl : r.length ≤ 4398046511104) (hm : ∀ p ∈ r, p.1.length ≤ 140737488355328 ∧ p.2.length ≤ 140737488355328) (hs : l.length ≤ 140737488355328) :
    Calls Try.prog 7 #[v, .string (bs l)] w fun e w' => e = .returned (.bool true) ∧ Below w.heap.size w w' := by
  obtain ⟨a, cap, rfl, _, _⟩ := hr.open
  cases hL : long16 r
  · obtain ⟨h1, h2⟩ := long16_le r hL
    by_cases h3 : 131072 < l.length
    · have HL := Lib.hid hL; clear hL
      go_enter Try.func7, Try.ntmps7
      go_wp2_with fail
      refine (Long16_any _ r _ hr (by omega) hm).mono ?_; rw [HL.out]; rintro e w1 ⟨rfl, hB0⟩
      go_wp2_with (go_at_call 26; refine (alive16 _).mono ?_; rintro e w1 ⟨rfl, hB1⟩)
      go_ret
      exact ⟨rfl, bt hB0 hB1⟩
    · have HL := Lib.hid hL; clear hL
      go_enter Try.func7, Try.ntmps7
      go_wp2_with fail
      refine (Long16_any _ r _ hr (by omega) hm).mono ?_; rw [HL.out]; rintro e w0 ⟨rfl, hB0⟩
      have hr0 := hr.below hB0
      go_wp2_with (at_builtin; refine appendP w0 rfl _ _ 35 rfl Try.underlying35 w0.heap.size _ [] rfl (OP.nil _ _) _ r rfl hr0 (by simp; omega) (Nat.le_refl _) ?_; intro v' w1 hown1 hB1)
      rw [List.nil_append] at hown1
      refine (PutP_any _ r _ hown1.reads (by omega) (by omega)).mono ?_; rw [txV_at16]; rintro e w2 ⟨rfl, hB2⟩
      go_wp2_with fail
      refine (rPutP_any _ r _ (hr0.below (hB1.trans (hB2.mono hB1.size))) (by omega) (by omega)).mono ?_; rw [txV_at16]; rintro e w3 ⟨rfl, hB3⟩
      have hB03 := bt hB0 (hB1.trans ((hB2.mono hB1.size).trans (hB3.mono (Nat.le_trans hB1.size hB2.size))))
      clear hB1 hB2 hB3 hB0
      cases hq : getP l with
      | none =>
        have HQ := Lib.hid hq; clear hq
        go_wp2_with fail
        refine (GetP_any l _ hs).mono ?_; rw [HQ.out]; rintro e w4 ⟨hres, hB4⟩; obtain rfl := PsRes_none hres; clear hres
        go_wp2_with fail
        refine (rGetP_any l _ hs).mono ?_; rw [HQ.out]; rintro e w5 ⟨hres, hB5⟩; obtain rfl := PsRes_none hres; clear hres
        go_wp2_with fail
        refine (rSameP_any _ _ [] [] _ (RP.nil _) (RP.nil _) (by simp) (by simp)).mono ?_; rw [decide_eq_true rfl]; rintro e w10 ⟨rfl, hB10⟩
        go_wp2_with fail
        refine (alive16 _).mono ?_; rintro e w11 ⟨rfl, hB11⟩
        go_wp2_with fail
        go_ret
        exact ⟨rfl, bt hB03 (bt hB4 (bt hB5 (bt hB10 hB11)))⟩
      | some q =>
        have hql := getP_length l q hq
        have HQ := Lib.hid hq; clear hq
        go_wp2_with fail
        refine (GetP_any l _ hs).mono ?_; rw [HQ.out]; rintro e w4 ⟨hres, hB4⟩; obtain ⟨v1, rfl, hr1⟩ := PsRes_some hres; clear hres
        go_wp2_with fail
        refine (rGetP_any l _ hs).mono ?_; rw [HQ.out]; rintro e w5 ⟨hres, hB5⟩; obtain ⟨v2, rfl, hr2⟩ := PsRes_some hres; clear hres
        go_wp2_with fail
        refine (rSameP_any _ _ q q _ ((OP.reads hr1).below hB5) (OP.reads hr2) (by omega) (by omega)).mono ?_; rw [decide_eq_true rfl]; rintro e w10 ⟨rfl, hB10⟩
        go_wp2_with fail
        refine (alive16 _).mono ?_; rintro e w11 ⟨rfl, hB11⟩
        go_wp2_with fail
        go_ret
        exact ⟨rfl, bt hB03 (bt hB4 (bt hB5 (bt hB10 hB11)))⟩
  · have HL := Lib.hid hL; clear hL
    go_enter Try.func7, Try.ntmps7
    go_wp2_with fail
    refine (Long16_any _ r _ hr (by omega) hm).mono ?_; rw [HL.out]; rintro e w1 ⟨rfl, hB0⟩
    go_wp2_with (go_at_call 26; refine (alive16 _).mono ?_; rintro e w1 ⟨rfl, hB1⟩)
    go_ret
    exact ⟨rfl, bt hB0 hB1⟩
end Go.Proofs.Ytdebgkjekcppmaa
namespace Go.Proofs.Ytdebgkjekcppmaa
open Go.RowKit Oct

set_option maxRecDepth 100000 in
set_option maxHeartbeats 1000000 in
theorem SameF_any (p q : PR) (w : World) :
    Calls Try.prog 77 #[.agg #[.string (bs p.1), .string (bs p.2)], .agg #[.string (bs q.1), .string (bs q.2)]] w fun e w' => e = .returned (.bool (decide (p = q))) ∧ Below w.heap.size w w' := by
  have hE := Lib.hid (pr_eq p q)
  cases h1 : (p.1 == q.1)
  · go_enter Try.func77, Try.ntmps77
    go_wp2
    go_ret
    exact ⟨by rw [← hE.out, h1]; rfl, bt (b_alloc _ _) (b_alloc _ _)⟩
  · cases h2 : (p.2 == q.2)
    · go_enter Try.func77, Try.ntmps77
      go_wp2
      go_ret
      exact ⟨by rw [← hE.out, h1, h2]; rfl, bt (b_alloc _ _) (b_alloc _ _)⟩
    · go_enter Try.func77, Try.ntmps77
      go_wp2
      go_ret
      exact ⟨by rw [← hE.out, h1, h2]; rfl, bt (b_alloc _ _) (b_alloc _ _)⟩

set_option maxRecDepth 100000 in
set_option maxHeartbeats 1000000 in
theorem EqualF_any (va vb : Value) (a b : List PR) (w : World) (ha : RP w va a) (hb : RP w vb b) (hla : a.length ≤ 140737488355328) (hlb : b.length ≤ 140737488355328) :
    Calls Try.prog 76 #[va, vb, .func (.func 77) #[] #[]] w fun e w' => e = .returned (.bool (decide (a = b))) ∧ Below w.heap.size w w' := by
  obtain ⟨aa, ca, rfl, _, hca⟩ := ha.open
  obtain ⟨ab, cb, rfl, _, hcb⟩ := hb.open
  by_cases hl : a.length = b.length
  · have hL := Lib.hid hl
    have t1 : ((a.length : Int) != (b.length : Int)) = false := by rw [bne_eq_false_iff_eq]; omega
    clear hl
    go_enter Try.func76, Try.ntmps76
    go_wp2
    go_loopw [17] (fun i wr => ∃ k : Nat, k ≤ a.length ∧ i = .int .i64 k ∧ Hid (∀ j (h : j < a.length) (h' : j < b.length), j < k → a[j] = b[j]) ∧ Below w.heap.size w wr) (fun i _ => a.length - (intOf i).toNat)
    case atStart => exact ⟨0, by omega, rfl, by intro j _ _ h; omega, Below.refl _ _⟩
    case round =>
      obtain ⟨k, hk, rfl, hH, hB⟩ := hrel
      by_cases h0 : k < a.length
      · have h0b : k < b.length := by have := hL.out; omega
        obtain ⟨b1, o1, rfl, hc1, hc2⟩ := hca k h0
        obtain ⟨b2, o2, rfl, hc3, hc4⟩ := hcb k h0b
        have hd1 := Below.keeps hB hc1
        have hd2 := Below.keeps hB hc2
        have hd3 := Below.keeps hB hc3
        have hd4 := Below.keeps hB hc4
        have hlt2 : b2 < wr.heap.size := lt_of_cell hd3
        have kk1 : (k : Int) < (a.length : Int) := by omega
        have kk2 : (k : Int) < (b.length : Int) := by omega
        clear hca hcb
        by_cases he : a[k] = b[k]
        · have HE := Lib.hid he
          have HD := Lib.hid (decide_eq_true he)
          clear he
          go_wp2_with fail
          refine (SameF_any a[k] b[k] _).mono ?_; rw [HD.out]; rintro e w1 ⟨rfl, hB1⟩
          have hB2 := bt (bt (b_alloc _ _) (b_alloc _ _)) hB1
          clear hB1
          go_wp2_with fail
          go_roundw
          case rel =>
            refine ⟨k + 1, by omega, by go_num, ?_, bt hB hB2⟩
            intro j h h' hj
            by_cases hjk : j = k
            · subst hjk; exact HE.out
            · exact hH.out j h h' (by omega)
          case measure => simp [intOf]; omega
        · have HE := Lib.hid he
          have HD := Lib.hid (decide_eq_false he)
          clear he
          go_wp2_with fail
          refine (SameF_any a[k] b[k] _).mono ?_; rw [HD.out]; rintro e w1 ⟨rfl, hB1⟩
          have hB2 := bt (bt (b_alloc _ _) (b_alloc _ _)) hB1
          clear hB1
          go_wp2_with fail
          go_ret
          exact ⟨by rw [decide_eq_false (pr_ne_of k h0 h0b HE.out)]; rfl, bt hB hB2⟩
      · obtain rfl : k = a.length := by omega
        go_wp2
        go_ret
        exact ⟨by rw [decide_eq_true (List.ext_getElem hL.out (fun j h h' => hH.out j h h' h))]; rfl, hB⟩
  · have t1 : ((a.length : Int) != (b.length : Int)) = true := by rw [bne_iff_ne]; omega
    go_enter Try.func76, Try.ntmps76
    go_wp2
    go_ret
    exact ⟨by rw [decide_eq_false (fun e => hl (by rw [e]))]; rfl, Below.refl _ _⟩

set_option maxRecDepth 100000 in
theorem SameP_any (va vb : Value) (a b : List PR) (w : World) (ha : RP w va a) (hb : RP w vb b) (hla : a.length ≤ 140737488355328) (hlb : b.length ≤ 140737488355328) :
    Calls Try.prog 34 #[va, vb] w fun e w' => e = .returned (.bool (decide (a = b))) ∧ Below w.heap.size w w' := by
  have hE := @EqualF_any va vb a b w ha hb hla hlb
  obtain ⟨aa, ca, rfl, _, _⟩ := ha.open
  obtain ⟨ab, cb, rfl, _, _⟩ := hb.open
  have hH := Lib.hid hE
  clear hE
  go_enter Try.func34, Try.ntmps34
  go_wp2_with fail
  refine hH.out.mono ?_; rintro e w1 ⟨rfl, hB1⟩
  go_wp2_with fail
  go_ret
  exact ⟨rfl, hB1⟩

theorem texts_of_get (l : List UInt8) (q : List PR) (h : getP l = some q) : (texts (tx q)).length + 2 = l.length := by
  have hp := putP_get l q h
  have hl := getP_length l q h
  unfold putP at hp
  rw [if_pos hl] at hp
  repeat' split at hp
  all_goals simp only [Prod.mk.injEq] at hp
  · have := congrArg List.length hp.1
    simp at this; omega
  · omega
  · omega
theorem mem_srt {z : PR} {l : List PR} : z ∈ srt l ↔ z ∈ l := by
  have h : ∀ (l : List PR), z ∈ srt l.reverse ↔ z ∈ l.reverse := by
    intro l
    induction l with
    | nil => simp [srt_nil]
    | cons p l ih => rw [List.reverse_cons, srt_snoc, mem_ins, ih]; simp [or_comm]
  have := h l.reverse
  rwa [List.reverse_reverse] at this
theorem total_ins (p : PR) : ∀ l : List PR, total16 (ins p l) = total16 l + p.1.length + p.2.length
  | [] => by simp [ins, total16]
  | q :: l => by
    have ih := total_ins p l
    simp only [total16, List.map_cons, List.sum_cons] at ih ⊢
    unfold ins
    split <;> simp only [List.map_cons, List.sum_cons] <;> omega
theorem total_srt (l : List PR) : total16 (srt l) = total16 l := by
  have h : ∀ (l : List PR), total16 (srt l.reverse) = total16 l.reverse := by
    intro l
    induction l with
    | nil => rfl
    | cons p l ih => rw [List.reverse_cons, srt_snoc, total_ins, ih]; simp [total16]; omega
  have := h l.reverse
  rwa [List.reverse_reverse] at this
theorem texts_srt (l : List PR) : (texts (tx (srt l))).length = (texts (tx l)).length := by rw [texts_tx, texts_tx, total_srt, srt_length]
theorem putP_srt (l : List PR) (h : l.length ≤ 65535) : (∃ b, putP (srt l) = (b, 0) ∧ b.length = (texts (tx l)).length + 2) ∨ putP (srt l) = ([], 5) := by
  cases hf : fits (tx (srt l))
  · exact .inr (putP_fat _ (by rw [srt_length]; exact h) hf)
  · refine .inl ⟨_, putP_ok _ (by rw [srt_length]; exact h) hf (srt_sorted l), ?_⟩
    rw [List.length_append, num_length, texts_srt]; omega

set_option maxRecDepth 100000 in
set_option maxHeartbeats 4000000 in
theorem PairsBack_any (v : Value) (r : List PR) (l : List UInt8) (w : World) (hr : RP w v r) (hl : r.length ≤ 4398046511104) (hm : ∀ p ∈ r, p.1.length ≤ 140737488355328 ∧ p.2.length ≤ 140737488355328) (hs : l.length ≤ 140737488355328) :
    Calls Try.prog 9 #[v, .string (bs l)] w fun e w' => e = .returned (.bool true) ∧ Below w.heap.size w w' := by
  obtain ⟨a, cap, rfl, _, _⟩ := hr.open
  cases hL : long16 r
  · obtain ⟨h1, h2⟩ := long16_le r hL
    by_cases h3 : 131072 < l.length
    · have HL := Lib.hid hL; clear hL
      go_enter Try.func9, Try.ntmps9
      go_wp2_with fail
      refine (Long16_any _ r _ hr (by omega) hm).mono ?_; rw [HL.out]; rintro e w1 ⟨rfl, hB0⟩
      go_wp2_with (go_at_call 26; refine (alive16 _).mono ?_; rintro e w1 ⟨rfl, hB1⟩)
      go_ret
      exact ⟨rfl, bt hB0 hB1⟩
    · have HL := Lib.hid hL; clear hL
      have hsl := srt_length r
      have hst := texts_srt r
      rcases putP_srt r (by omega) with ⟨b, hp, hbl⟩ | hp
      · have HP := Lib.hid hp
        have HG := Lib.hid (getP_put b _ hp)
        clear hp
        have hbs : b.length ≤ 140737488355328 := by omega
        have hsl1 : (srt r).length ≤ 1000000000 := by omega
        have hst1 : (texts (tx (srt r))).length ≤ 1000000000 := by omega
        clear hsl hst hbl
        go_enter Try.func9, Try.ntmps9
        go_wp2_with fail
        refine (Long16_any _ r _ hr (by omega) hm).mono ?_; rw [HL.out]; rintro e w0 ⟨rfl, hB0⟩
        go_wp2_with fail
        refine (Sort_any _ _ r _ (Nat.le_refl _) (hr.below hB0) (by omega)).mono ?_; rintro e w1 ⟨v1, rfl, hr1, hB1⟩
        go_wp2_with fail
        refine (PutP_any _ _ _ hr1.reads hst1 hsl1).mono ?_; rw [HP.out, txV_at16]; rintro e w2 ⟨rfl, hB2⟩
        go_wp2_with fail
        refine (GetP_any b _ hbs).mono ?_; rw [HG.out]; rintro e w3 ⟨hres, hB3⟩; obtain ⟨v2, rfl, hr2⟩ := PsRes_some hres; clear hres
        have hB13 := bt hB0 (bt hB1 (bt hB2 hB3))
        have hr3 := hr.below hB13
        have hr2' := OP.reads hr2
        clear hB0 hB1 hB2 hB3 hr1 hr2
        go_wp2_with fail
        refine (Sort_any _ _ r _ (Nat.le_refl _) hr3 (by omega)).mono ?_; rintro e w4 ⟨v4, rfl, hr4, hB4⟩
        go_wp2_with fail
        refine (SameP_any _ _ _ _ _ (hr2'.below hB4) hr4.reads (by omega) (by omega)).mono ?_; rw [decide_eq_true rfl]; rintro e w5 ⟨rfl, hB5⟩
        have hB03 := bt hB13 (bt hB4 hB5)
        clear hB13 hB4 hB5 hr3 hr2' hr4
        (cases hq : getP l with | none => (have HQ := Lib.hid hq; clear hq; go_wp2_with fail; refine (GetP_any l _ hs).mono ?_; rw [HQ.out]; rintro e w4 ⟨hres, hB4⟩; obtain rfl := PsRes_none hres; clear hres; go_wp2_with fail; refine (alive16 _).mono ?_; rintro e w11 ⟨rfl, hB11⟩; go_wp2_with fail; go_ret; exact ⟨rfl, bt hB03 (bt hB4 hB11)⟩) | some q => (have hql := getP_length l q hq; have hqt := texts_of_get l q hq; have hpq := Lib.hid (putP_get l q hq); have HQ := Lib.hid hq; clear hq; go_wp2_with fail; refine (GetP_any l _ hs).mono ?_; rw [HQ.out]; rintro e w4 ⟨hres, hB4⟩; obtain ⟨v1, rfl, hr1⟩ := PsRes_some hres; clear hres; go_wp2_with fail; refine (PutP_any _ q _ (OP.reads hr1) (by omega) (by omega)).mono ?_; rw [hpq.out, txV_at16]; rintro e w5 ⟨rfl, hB5⟩; go_wp2_with fail; refine (alive16 _).mono ?_; rintro e w11 ⟨rfl, hB11⟩; go_wp2_with fail; go_ret; exact ⟨rfl, bt hB03 (bt hB4 (bt hB5 hB11))⟩))
      · have HP := Lib.hid hp
        clear hp
        have hsl1 : (srt r).length ≤ 1000000000 := by omega
        have hst1 : (texts (tx (srt r))).length ≤ 1000000000 := by omega
        clear hsl hst
        go_enter Try.func9, Try.ntmps9
        go_wp2_with fail
        refine (Long16_any _ r _ hr (by omega) hm).mono ?_; rw [HL.out]; rintro e w0 ⟨rfl, hB0⟩
        go_wp2_with fail
        refine (Sort_any _ _ r _ (Nat.le_refl _) (hr.below hB0) (by omega)).mono ?_; rintro e w1 ⟨v1, rfl, hr1, hB1⟩
        go_wp2_with fail
        refine (PutP_any _ _ _ hr1.reads hst1 hsl1).mono ?_; rw [HP.out, txV_at16]; rintro e w2 ⟨rfl, hB2⟩
        have hB03 := bt hB0 (bt hB1 hB2)
        clear hB0 hB1 hB2 hr1
        (cases hq : getP l with | none => (have HQ := Lib.hid hq; clear hq; go_wp2_with fail; refine (GetP_any l _ hs).mono ?_; rw [HQ.out]; rintro e w4 ⟨hres, hB4⟩; obtain rfl := PsRes_none hres; clear hres; go_wp2_with fail; refine (alive16 _).mono ?_; rintro e w11 ⟨rfl, hB11⟩; go_wp2_with fail; go_ret; exact ⟨rfl, bt hB03 (bt hB4 hB11)⟩) | some q => (have hql := getP_length l q hq; have hqt := texts_of_get l q hq; have hpq := Lib.hid (putP_get l q hq); have HQ := Lib.hid hq; clear hq; go_wp2_with fail; refine (GetP_any l _ hs).mono ?_; rw [HQ.out]; rintro e w4 ⟨hres, hB4⟩; obtain ⟨v1, rfl, hr1⟩ := PsRes_some hres; clear hres; go_wp2_with fail; refine (PutP_any _ q _ (OP.reads hr1) (by omega) (by omega)).mono ?_; rw [hpq.out, txV_at16]; rintro e w5 ⟨rfl, hB5⟩; go_wp2_with fail; refine (alive16 _).mono ?_; rintro e w11 ⟨rfl, hB11⟩; go_wp2_with fail; go_ret; exact ⟨rfl, bt hB03 (bt hB4 (bt hB5 hB11))⟩))
  · have HL := Lib.hid hL; clear hL
    go_enter Try.func9, Try.ntmps9
    go_wp2_with fail
    refine (Long16_any _ r _ hr (by omega) hm).mono ?_; rw [HL.out]; rintro e w1 ⟨rfl, hB0⟩
    go_wp2_with (go_at_call 26; refine (alive16 _).mono ?_; rintro e w1 ⟨rfl, hB1⟩)
    go_ret
    exact ⟨rfl, bt hB0 hB1⟩
end Go.Proofs.Ytdebgkjekcppmaa
namespace Go.Proofs.Ytdebgkjekcppmaa
open Go.RowKit Oct

/-- the lengths of rows, as cells -/
def lencells (rows : List (List PR)) : List Value := rows.map fun r => .int .i64 ((r.length : Nat) : Int)
/-- what Count gives -/
def CountRes (l : List PR) (n : Int) (base : Nat) (e : Ending) (w' : World) : Prop :=
  if mayB n then ∃ D, e = .returned (.tuple #[.slice (some ⟨D, 0, none⟩) n.toNat n.toNat, .int .i64 0]) ∧ base ≤ D ∧ Blk w' D 3 (lencells (splitP l n.toNat))
  else e = .returned (.tuple #[.slice none 0 0, .int .i64 2])
/-- .. the row while it is filled -/
def lenrow (rows : List (List PR)) (k : Nat) : List Value := lencells (rows.take k) ++ List.replicate (rows.length - k) (.int .i64 0)
theorem lenrow_length (rows : List (List PR)) (k : Nat) (h : k ≤ rows.length) : (lenrow rows k).length = rows.length := by simp [lenrow, lencells]; omega
theorem lenrow_set (rows : List (List PR)) (k : Nat) (h : k < rows.length) : (lenrow rows k).set k (.int .i64 ((rows[k].length : Nat) : Int)) = lenrow rows (k + 1) := by
  have e : rows.length - k = (rows.length - (k + 1)) + 1 := by omega
  have hl : (lencells (rows.take k)).length = k := by simp [lencells]; omega
  unfold lenrow
  rw [List.set_append_right _ _ (by rw [hl]; exact Nat.le_refl _), hl, Nat.sub_self, e, List.replicate_succ, List.set_cons_zero, List.take_succ_eq_append_getElem h]
  simp only [lencells, List.map_append, List.map_cons, List.map_nil, List.append_assoc, List.singleton_append]
theorem lenrow_all (rows : List (List PR)) : lenrow rows rows.length = lencells rows := by simp [lenrow]

set_option maxRecDepth 100000 in
set_option maxHeartbeats 4000000 in
theorem Count_any (v : Value) (l : List PR) (n : Int) (w : World) (hr : RP w v l) (hl : l.length ≤ 100000) (hm : ∀ p ∈ l, p.1.length ≤ 70368744177664) :
    Calls Try.prog 45 #[v, .int .i64 n] w fun e w' => CountRes l n w.heap.size e w' ∧ Below w.heap.size w w' := by
  obtain ⟨a, cap, rfl, _, _⟩ := hr.open
  have HRP := Lib.hid hr
  have HM := Lib.hid hm
  clear hr hm
  cases hmb : mayB n with
  | false =>
    have HS := Lib.hid (show ∀ b e w', SplitRes l n b e w' → e = .returned (.tuple #[.slice none 0 0, .int .i64 2]) from fun b e w' h => by unfold SplitRes at h; rw [hmb] at h; exact h)
    have HR := Lib.hid (show ∀ e w', e = .returned (.tuple #[.slice none 0 0, .int .i64 2]) → CountRes l n w.heap.size e w' from fun e w' h => by unfold CountRes; rw [hmb]; exact h)
    clear hmb
    go_enter Try.func45, Try.ntmps45
    go_wp2_with fail
    refine (Split_any _ l n w HRP.out hl HM.out).mono ?_
    rintro e w1 ⟨hres, hB1⟩
    obtain rfl := HS.out _ _ _ hres
    have HB1 := Lib.hid hB1
    clear hres hB1
    go_wp2_with fail
    go_ret2
    exact ⟨HR.out _ _ rfl, HB1.out⟩
  | true =>
    obtain ⟨m, rfl, h1, h2⟩ := mayB_nat hmb
    have HS := Lib.hid (show ∀ b e w', SplitRes l (m : Int) b e w' → ∃ D, e = .returned (.tuple #[.slice (some ⟨D, 0, none⟩) m m, .int .i64 0]) ∧ b ≤ D ∧ OR w' D D (splitP l m) from fun b e w' h => by unfold SplitRes at h; rw [hmb, Int.toNat_natCast] at h; exact h)
    have HR := Lib.hid (show ∀ e w', (∃ D, e = .returned (.tuple #[.slice (some ⟨D, 0, none⟩) m m, .int .i64 0]) ∧ w.heap.size ≤ D ∧ Blk w' D 3 (lencells (splitP l m))) → CountRes l (m : Int) w.heap.size e w' from fun e w' h => by unfold CountRes; rw [hmb, Int.toNat_natCast]; exact h)
    have HSL := Lib.hid (splitP_length l m)
    clear hmb
    go_enter Try.func45, Try.ntmps45
    go_wp2_with fail
    refine (Split_any _ l m w HRP.out hl HM.out).mono ?_
    rintro e w1 ⟨hres, hB1⟩
    obtain ⟨D, rfl, hD, hor⟩ := HS.out _ _ _ hres
    have hrr := hor.rr
    have HB1 := Lib.hid hB1
    obtain ⟨rows, hrows⟩ : ∃ rows, rows = splitP l m := ⟨_, rfl⟩
    rw [← hrows] at hrr HSL
    have HRW := Lib.hid hrows
    rw [HSL.out] at hrr
    have HRR := Lib.hid hrr
    have hmk := make_one (P := Try.prog) 57 3 (.int .i64 0) 8 Try.underlying57 (by kernel_rfl) rfl m (by omega) (by omega) w1
    obtain ⟨w4, hw4⟩ : ∃ w4, w4 = w1.alloc (.cells (List.replicate m (.int .i64 0)).toArray 3) := ⟨_, rfl⟩
    have hb4 : Blk w4 w1.heap.size 3 (lenrow rows 0) := by
      rw [hw4]
      have e : lenrow rows 0 = List.replicate m (.int .i64 0) := by simp [lenrow, lencells, HSL.out]
      rw [e]
      exact Blk.new _ _ _
    rw [← hw4] at hmk
    have HB4 := Lib.hid (show Below w1.heap.size w1 w4 by rw [hw4]; exact b_alloc _ _)
    have HK4 := Lib.hid hb4
    obtain ⟨E, hE⟩ : ∃ E, E = w1.heap.size := ⟨_, rfl⟩
    rw [← hE] at hmk HK4 HB4
    have HE := Lib.hid hE
    clear hres hB1 hor hrr hrows hw4 hb4 hE
    go_wp2
    clear hmk
    go_loopw [24] (fun t wx => ∃ k : Nat, k ≤ m ∧ t = .int .i64 (k : Int) ∧ Hid (Blk wx E 3 (lenrow rows k)) ∧ Hid (Below E w1 wx)) (fun t _ => m - (intOf t).toNat)
    case atStart => exact ⟨0, by omega, rfl, HK4, HB4⟩
    case round =>
      clear HK4 HB4
      obtain ⟨k, hk, rfl, HK, HB⟩ := hrel
      by_cases hkl : k < m
      · have k0 : (0 : Int) ≤ (k : Int) := by omega
        have k1 : (k : Int) < (m : Int) := by omega
        have hkr : k < rows.length := by rw [HSL.out]; exact hkl
        have HBw := Lib.hid (show Below w1.heap.size w1 wr by rw [← HE.out]; exact HB.out)
        obtain ⟨a', c', hv', _, _, hc'⟩ := HRR.out.below HBw.out
        obtain ⟨b1, o1, u, ha', du, hru⟩ := hc' k hkr
        injection hv' with e1 e2 e3
        rw [← e1] at ha'
        cases ha'
        rw [Nat.zero_add] at du
        obtain ⟨au, cu, rfl, _, _⟩ := hru.open
        obtain ⟨cv, c1⟩ := HK.out.ex (k := k) (by rw [lenrow_length _ _ (by omega)]; exact hkr)
        have f1 := HK.out.free (k := k) (by rw [lenrow_length _ _ (by omega)]; exact hkr)
        have HS2 := Lib.hid (HK.out.set k (.int .i64 ((rows[k].length : Nat) : Int)))
        have HL2 := Lib.hid (lenrow_set rows k hkr)
        have HB2 := Lib.hid (HB.out.setCell (p := ⟨E, k, none⟩) (Nat.le_refl _) (.int .i64 ((rows[k].length : Nat) : Int)))
        clear hc' hru e1 e2 e3
        go_wp2
        refine ⟨?_, by simp [intOf]; omega⟩
        have hst := HS2.out
        rw [HL2.out] at hst
        first
          | exact ⟨k + 1, by omega, by go_num, hst, HB2.out⟩
          | ((repeat apply Exists.intro); exact ⟨⟨k + 1, by omega, by go_num, hst, HB2.out⟩, rfl⟩)
      · obtain rfl : k = m := by omega
        have HF := Lib.hid (lenrow_all rows)
        go_wp2
        go_ret2
        refine ⟨HR.out _ _ ⟨E, rfl, by have := HE.out; have := HB1.out.size; omega, ?_⟩, ?_⟩
        · have := HK.out
          rw [← HSL.out, HF.out, HRW.out] at this
          exact this
        · refine HB1.out.trans (HB.out.mono ?_)
          have := HE.out; have := HB1.out.size; omega

/-- the keys' lengths -/
def klen (l : List PR) : Nat := (l.map fun p => p.1.length).sum
theorem klen_take (r : List PR) (k : Nat) (h : k < r.length) : klen (r.take (k + 1)) = klen (r.take k) + r[k].1.length := by
  rw [List.take_succ_eq_append_getElem h, klen, klen, List.map_append, List.sum_append]; simp
def large17 (l : List PR) : Bool := decide (40 < l.length) || decide (2048 < klen (l.take 100)) || long16 l
theorem klen_mem : ∀ (l : List PR) (p : PR), p ∈ l → p.1.length ≤ klen l
  | x :: l, p, h => by
    have e : klen (x :: l) = x.1.length + klen l := by simp [klen]
    rcases List.mem_cons.1 h with rfl | h
    · omega
    · have := klen_mem l p h; omega
theorem large17_le (l : List PR) (h : large17 l = false) : l.length ≤ 40 ∧ ∀ p ∈ l, p.1.length ≤ 2048 := by
  simp [large17] at h
  obtain ⟨⟨h1, h2⟩, _⟩ := h
  rw [List.take_of_length_le (by omega)] at h2
  exact ⟨h1, fun p hp => Nat.le_trans (klen_mem l p hp) h2⟩
set_option maxRecDepth 100000 in
set_option maxHeartbeats 2000000 in
theorem large17_any (v : Value) (r : List PR) (w : World) (hr : RP w v r) (hl : r.length ≤ 140737488355328) (hm : ∀ p ∈ r, p.1.length ≤ 140737488355328 ∧ p.2.length ≤ 140737488355328) :
    Calls Try.prog 40 #[v] w fun e w' => e = .returned (.bool (large17 r)) ∧ Below w.heap.size w w' := by
  obtain ⟨a, cap, rfl, _, hc⟩ := hr.open
  have HC := Lib.hid hc
  have HM := Lib.hid hm
  have HRP := Lib.hid hr
  clear hc hm hr
  go_enter Try.func40, Try.ntmps40
  go_wp2
  go_loop [3, 4] (fun n i => ∃ k x : Nat, k ≤ r.length ∧ k ≤ 100 ∧ i = .int .i64 (k : Int) ∧ n = .int .i64 (x : Int) ∧ x ≤ k * 140737488355328 ∧ Hid (x = klen (r.take k))) (fun _ i => 100 - (intOf i).toNat)
  case atStart => exact ⟨0, 0, by omega, by omega, rfl, rfl, by omega, rfl⟩
  case round =>
    obtain ⟨k, x, hk, hk2, rfl, rfl, hx, hH⟩ := hrel
    by_cases h0 : k < r.length ∧ k < 100
    · obtain ⟨h1, h2⟩ := h0
      obtain ⟨b1, o1, rfl, d1, _⟩ := HC.out k h1
      have hmk := (HM.out r[k] (List.getElem_mem h1)).1
      have HS := Lib.hid (klen_take r k h1)
      have kk0 : (0 : Int) ≤ (k : Int) := by omega
      have kk1 : (k : Int) < (r.length : Int) := by omega
      have kk2 : (k : Int) < 100 := by omega
      go_wp2
      go_round
      case rel => exact ⟨k + 1, x + r[k].1.length, by omega, by omega, by go_num, by go_num, by omega, by show _ = _; rw [HS.out, hH.out]⟩
      case measure => simp [intOf]; omega
    · have hfin : klen (r.take k) = klen (r.take 100) := by
        by_cases h1 : k < r.length
        · rw [show k = 100 by omega]
        · rw [List.take_of_length_le (by omega), List.take_of_length_le (by omega)]
      have HX := Lib.hid (show x = klen (r.take 100) by rw [← hfin]; exact hH.out)
      clear hfin hH
      have HLG := Lib.hid (show large17 r = (decide (40 < r.length) || decide (2048 < x) || long16 r) by rw [HX.out]; rfl)
      by_cases h4 : 40 < r.length
      · have c3 : (40 : Int) < (r.length : Int) := by omega
        have HL := Lib.hid (show large17 r = true by rw [HLG.out]; simp [h4])
        by_cases h1 : k < r.length
        · have c1 : (k : Int) < (r.length : Int) := by omega
          have c2 : ¬ (k : Int) < 100 := by omega
          clear h0
          go_wp2
          go_ret
          exact ⟨by rw [HL.out]; rfl, b_refl _⟩
        · have c1 : ¬ (k : Int) < (r.length : Int) := by omega
          clear h0
          go_wp2
          go_ret
          exact ⟨by rw [HL.out]; rfl, b_refl _⟩
      · have c1 : ¬ (k : Int) < (r.length : Int) := by omega
        have c3 : ¬ (40 : Int) < (r.length : Int) := by omega
        clear h0
        by_cases h5 : 2048 < x
        · have c4 : (2048 : Int) < (x : Int) := by omega
          have HL := Lib.hid (show large17 r = true by rw [HLG.out]; simp [h5])
          go_wp2
          go_ret
          exact ⟨by rw [HL.out]; rfl, b_refl _⟩
        · have c4 : ¬ (2048 : Int) < (x : Int) := by omega
          have HL := Lib.hid (show large17 r = long16 r by rw [HLG.out]; simp [h4, h5])
          go_wp2_with fail
          refine (Long16_any _ r w HRP.out hl HM.out).mono ?_
          rintro e w1 ⟨rfl, hB1⟩
          have HB1 := Lib.hid hB1
          clear hB1
          go_wp2_with fail
          go_ret
          exact ⟨by rw [HL.out]; rfl, HB1.out⟩
end Go.Proofs.Ytdebgkjekcppmaa
namespace Go.Proofs.Ytdebgkjekcppmaa
open Go.RowKit Oct

theorem lt_total {a b : List UInt8} (h : a ≠ b) : lt a b = true ∨ lt b a = true := by
  cases h1 : lt a b with
  | true => exact .inl rfl
  | false =>
    have := gt_eq a b
    rw [h1, Bool.false_or, beq_eq_false_iff_ne.2 h] at this
    exact .inr this.symm
theorem ins_nil (p : PR) : ins p [] = [p] := rfl
theorem ins_cons (p x : PR) (l : List PR) : ins p (x :: l) = if lt p.1 x.1 then p :: x :: l else x :: ins p l := rfl
theorem ins_comm (p b : PR) (h : p.1 ≠ b.1) : ∀ l : List PR, ins p (ins b l) = ins b (ins p l)
  | [] => by
    rw [ins_nil, ins_nil, ins_cons, ins_cons, ins_nil, ins_nil]
    rcases lt_total h with h1 | h1
    · rw [h1, lt_asymm' h1]; rfl
    · rw [h1, lt_asymm' h1]; rfl
  | x :: l => by
    cases hp : lt p.1 x.1 with
    | true =>
      cases hb : lt b.1 x.1 with
      | true =>
        simp only [ins_cons, hp, hb, if_true]
        rcases lt_total h with h1 | h1
        · simp [h1, lt_asymm' h1]
        · simp [h1, lt_asymm' h1]
      | false =>
        have hbp : lt b.1 p.1 = false := by
          cases h2 : lt b.1 p.1 with
          | false => rfl
          | true => rw [lt_trans' h2 hp] at hb; cases hb
        simp [ins_cons, hp, hb, hbp]
    | false =>
      cases hb : lt b.1 x.1 with
      | true =>
        have hpb : lt p.1 b.1 = false := by
          cases h2 : lt p.1 b.1 with
          | false => rfl
          | true => rw [lt_trans' h2 hb] at hp; cases hp
        simp [ins_cons, hp, hb, hpb]
      | false =>
        simp only [ins_cons, hp, hb, Bool.false_eq_true, if_false]
        rw [ins_comm p b h l]
theorem foldl_ins (p : PR) : ∀ (B o : List PR), (∀ b ∈ B, p.1 ≠ b.1) → B.foldl (fun o p => ins p o) (ins p o) = ins p (B.foldl (fun o p => ins p o) o)
  | [], o, _ => rfl
  | b :: B, o, h => by
    simp only [List.foldl_cons]
    rw [← ins_comm p b (h b (by simp)), foldl_ins p B _ fun x hx => h x (by simp [hx])]
theorem srt_mid (A B : List PR) (p : PR) (h : ∀ b ∈ B, p.1 ≠ b.1) : srt (A ++ p :: B) = srt (A ++ B ++ [p]) := by
  rw [srt_snoc]
  unfold srt
  rw [List.foldl_append, List.foldl_cons, foldl_ins p B _ h, List.foldl_append]
theorem splitP_mem {l : List PR} {n i : Nat} {p : PR} (h : i < n) : p ∈ (splitP l n)[i]'(by rw [splitP_length]; exact h) ↔ p ∈ l ∧ partF p.1 n = i := by
  rw [splitP_get _ _ _ h, List.mem_filter]; simp
theorem flat_set (rows : List (List PR)) (k : Nat) (h : k < rows.length) (p : PR) : (rows.set k (rows[k] ++ [p])).flatten = (rows.take (k + 1)).flatten ++ p :: (rows.drop (k + 1)).flatten := by
  rw [List.set_eq_take_append_cons_drop, if_pos h, List.flatten_append, List.flatten_cons, List.take_succ_eq_append_getElem h, List.flatten_append]
  simp
theorem srt_split (n : Nat) (hn : 1 ≤ n) (l : List PR) : srt (splitP l n).flatten = srt l := by
  obtain ⟨m, hm⟩ : ∃ m, m = l.length := ⟨_, rfl⟩
  induction m generalizing l with
  | zero =>
    obtain rfl : l = [] := List.eq_nil_of_length_eq_zero hm.symm
    have : (splitP [] n).flatten = [] := by
      rw [List.flatten_eq_nil_iff]
      intro x hx
      simp [splitP] at hx
      obtain ⟨_, _, rfl⟩ := hx
      rfl
    rw [this]
  | succ m ih =>
    have hne : l ≠ [] := by rintro rfl; simp at hm
    obtain ⟨q, p, rfl⟩ : ∃ q p, l = q ++ [p] := ⟨l.dropLast, l.getLast hne, (List.dropLast_concat_getLast hne).symm⟩
    have hat := partF_lt p.1 n hn
    have hkl : partF p.1 n < (splitP q n).length := by rw [splitP_length]; exact hat
    rw [splitP_snoc q p n _ rfl hat, flat_set _ _ hkl, srt_mid]
    · rw [← List.flatten_append, List.take_append_drop, srt_snoc, ih q (by simp at hm; omega), ← srt_snoc]
    · intro b hb e
      rw [List.mem_flatten] at hb
      obtain ⟨r, hr, hb⟩ := hb
      obtain ⟨j, hj, rfl⟩ := List.getElem_of_mem hr
      rw [List.getElem_drop] at hb
      have hjn : partF p.1 n + 1 + j < n := by rw [List.length_drop, splitP_length] at hj; omega
      have := ((splitP_mem hjn).1 hb).2
      rw [← e] at this
      omega
theorem okJ_split (l : List PR) (n : Nat) : okJ (splitP l n) = true := by
  rw [okJ_iff]
  intro i h p hp
  have hn : i < n := by rw [splitP_length] at h; exact h
  rw [splitP_length]
  exact ((splitP_mem hn).1 hp).2
theorem sorted_filter (q : PR → Bool) : ∀ l : List PR, sorted l = true → sorted (l.filter q) = true
  | [], _ => rfl
  | x :: l, h => by
    obtain ⟨h1, h2⟩ := sorted_cons.1 h
    have ih := sorted_filter q l h2
    rw [List.filter_cons]
    split
    · exact sorted_cons.2 ⟨fun y hy => h1 y (List.mem_filter.1 hy).1, ih⟩
    · exact ih
theorem split_flat_len (l : List PR) (n : Nat) (hn : 1 ≤ n) : (splitP l n).flatten.length = l.length := by
  have := congrArg List.length (srt_split n hn l)
  rwa [srt_length, srt_length] at this
theorem split_again (l : List PR) (n i : Nat) (h : i < n) : splitP ((splitP l n)[i]'(by rw [splitP_length]; exact h)) n = (List.range n).map fun j => if j = i then (splitP l n)[i]'(by rw [splitP_length]; exact h) else [] := by
  apply List.ext_getElem
  · simp [splitP]
  · intro j h1 h2
    have hj : j < n := by rw [splitP_length] at h1; exact h1
    rw [splitP_get _ _ _ hj]
    simp only [splitP_get _ _ _ h, List.getElem_map, List.getElem_range]
    rw [List.filter_filter]
    by_cases hij : j = i
    · subst hij
      simp
    · rw [if_neg hij, List.filter_eq_nil_iff]
      intro p _ hp
      simp at hp
      omega
theorem split_append (a b : List PR) (n i : Nat) (h : i < n) : (splitP (a ++ b) n)[i]'(by rw [splitP_length]; exact h) = (splitP a n)[i]'(by rw [splitP_length]; exact h) ++ (splitP b n)[i]'(by rw [splitP_length]; exact h) := by
  simp only [splitP_get _ _ _ h, List.filter_append]
end Go.Proofs.Ytdebgkjekcppmaa
namespace Go.Proofs.Ytdebgkjekcppmaa
open Go.RowKit Oct

theorem filt_take (q : PR → Bool) (l : List PR) (i : Nat) (h : i < l.length) : (l.take (i + 1)).filter q = (l.take i).filter q ++ (if q l[i] then [l[i]] else []) := by
  rw [List.take_succ_eq_append_getElem h, List.filter_append]
  congr 1
  rw [List.filter_cons, List.filter_nil]
theorem filt_at (q : PR → Bool) (l : List PR) (i : Nat) (h : i < l.length) (hq : q l[i] = true) (hb : ((l.take i).filter q).length < (l.filter q).length) : (l.filter q)[((l.take i).filter q).length]'hb = l[i] := by
  have e : l.filter q = (l.take i).filter q ++ l[i] :: (l.drop (i + 1)).filter q := by
    conv => lhs; rw [← List.take_append_drop i l, List.filter_append, List.drop_eq_getElem_cons h, List.filter_cons, if_pos hq]
  simp only [e]
  rw [List.getElem_append_right (Nat.le_refl _)]
  simp
set_option maxRecDepth 100000 in
set_option maxHeartbeats 2000000 in
theorem inOrder_any (va vl : Value) (q : PR → Bool) (l : List PR) (w : World) (ha : RP w va (l.filter q)) (hl : RP w vl l) (hn : l.length ≤ 100000) :
    Calls Try.prog 53 #[va, vl] w fun e w' => e = .returned (.bool true) ∧ Below w.heap.size w w' := by
  obtain ⟨aa, ca, rfl, _, hca⟩ := ha.open
  obtain ⟨al, cl, rfl, _, hcl⟩ := hl.open
  have HCA := Lib.hid hca
  have HCL := Lib.hid hcl
  obtain ⟨f, hf⟩ : ∃ f, f = l.filter q := ⟨_, rfl⟩
  have HFL := Lib.hid (show f.length ≤ 100000 by rw [hf]; exact Nat.le_trans (List.length_filter_le _ _) hn)
  rw [← hf] at HCA ⊢
  have HF := Lib.hid hf
  have hfl := HFL.out
  clear ha hl hca hcl hf
  go_enter Try.func53, Try.ntmps53
  go_wp2
  go_loopw [5, 6] (fun kk ii wx => ∃ k i : Nat, i ≤ l.length ∧ k ≤ f.length ∧ kk = .int .i64 (k : Int) ∧ ii = .int .i64 (i : Int) ∧ Hid (((l.take i).filter q).length ≤ k) ∧ Hid (Below w.heap.size w wx)) (fun _ ii _ => l.length - (intOf ii).toNat)
  case atStart => exact ⟨0, 0, by omega, by omega, rfl, rfl, by simp [Hid], b_refl _⟩
  case round =>
    obtain ⟨k, i, hi, hk, rfl, rfl, HK, HB⟩ := hrel
    by_cases h0 : i < l.length ∧ k < f.length
    · obtain ⟨h1, h2⟩ := h0
      have i0 : (0 : Int) ≤ (i : Int) := by omega
      have i1 : (i : Int) < (l.length : Int) := by omega
      have k0 : (0 : Int) ≤ (k : Int) := by omega
      have k1 : (k : Int) < (f.length : Int) := by omega
      obtain ⟨b1, o1, rfl, d1, d2⟩ := HCL.out i h1
      obtain ⟨b2, o2, rfl, d3, d4⟩ := HCA.out k h2
      replace d1 := Below.keeps HB.out d1
      replace d2 := Below.keeps HB.out d2
      replace d3 := Below.keeps HB.out d3
      replace d4 := Below.keeps HB.out d4
      have HT := Lib.hid (filt_take q l i h1)
      by_cases he : l[i] = f[k]
      · have he2 : (l[i].1 == f[k].1) = true := by simp [he]
        have he3 : (l[i].2 == f[k].2) = true := by simp [he]
        have HN := Lib.hid (show ((l.take (i + 1)).filter q).length ≤ k + 1 by
          rw [HT.out, List.length_append]
          have := HK.out
          split <;> simp <;> omega)
        clear he
        go_wp2
        go_quiet (fail)
        go_wp2
        refine ⟨?_, by simp [intOf]; omega⟩
        first
          | exact ⟨k + 1, i + 1, by omega, by omega, by go_num, by go_num, HN.out, bt HB.out (Below.drewN' _ _)⟩
          | ((repeat apply Exists.intro); exact ⟨⟨k + 1, i + 1, by omega, by omega, by go_num, by go_num, HN.out, bt HB.out (Below.drewN' _ _)⟩, rfl⟩)
      · have HN := Lib.hid (show ((l.take (i + 1)).filter q).length ≤ k by
          rw [HT.out, List.length_append]
          have := HK.out
          cases hq : q l[i] with
          | false => simp; omega
          | true =>
            simp only [if_true, List.length_singleton]
            by_cases hkk : ((l.take i).filter q).length = k
            · exfalso
              apply he
              have h3 : ((l.take i).filter q).length < (l.filter q).length := by rw [hkk, ← HF.out]; exact h2
              have := filt_at q l i h1 hq h3
              rw [← this]
              simp only [HF.out]
              congr 1
            · omega)
        have he4 := pr_eq l[i] f[k]
        rw [decide_eq_false he] at he4
        clear he
        cases he2 : (l[i].1 == f[k].1)
        · clear he4
          go_wp2
          go_quiet (fail)
          go_wp2
          refine ⟨?_, by simp [intOf]; omega⟩
          first
            | exact ⟨k, i + 1, by omega, by omega, by go_num, by go_num, HN.out, bt HB.out (Below.drewN' _ _)⟩
            | ((repeat apply Exists.intro); exact ⟨⟨k, i + 1, by omega, by omega, by go_num, by go_num, HN.out, bt HB.out (Below.drewN' _ _)⟩, rfl⟩)
        · rw [he2, Bool.true_and] at he4
          go_wp2
          go_quiet (fail)
          go_wp2
          refine ⟨?_, by simp [intOf]; omega⟩
          first
            | exact ⟨k, i + 1, by omega, by omega, by go_num, by go_num, HN.out, bt HB.out (Below.drewN' _ _)⟩
            | ((repeat apply Exists.intro); exact ⟨⟨k, i + 1, by omega, by omega, by go_num, by go_num, HN.out, bt HB.out (Below.drewN' _ _)⟩, rfl⟩)
    · have hkf : k = f.length := by
        by_cases h2 : k < f.length
        · have hil : i = l.length := by omega
          have := HK.out
          rw [hil, List.take_length, ← HF.out] at this
          omega
        · omega
      subst hkf
      by_cases h1 : i < l.length
      · have c1 : (i : Int) < (l.length : Int) := by omega
        clear h0
        go_wp2
        go_ret
        exact ⟨rfl, HB.out⟩
      · have c1 : ¬ (i : Int) < (l.length : Int) := by omega
        clear h0
        go_wp2
        go_ret
        exact ⟨rfl, HB.out⟩

theorem RR.pair2 {w : World} {v1 v2 : Value} {l1 l2 : List PR} (e : TypeId) (h1 : RP w v1 l1) (h2 : RP w v2 l2) : RR (w.alloc (.cells #[v1, v2] e)) (.slice (some ⟨w.heap.size, 0, none⟩) 2 2) [l1, l2] := by
  refine ⟨_, _, rfl, Nat.le_refl _, (by simp), ?_⟩
  intro k hk
  match k, hk with
  | 0, _ => exact ⟨_, _, _, rfl, by rw [World.cell?_alloc_new]; rfl, h1.below (b_alloc _ _)⟩
  | 1, _ => exact ⟨_, _, _, rfl, by rw [World.cell?_alloc_new]; rfl, h2.below (b_alloc _ _)⟩
def L17 : List PR := [([97], [49]), ([98], [50])]
theorem a17_of : ofV [97] 1 = .tuple #[.int .i64 0, .int .i64 0] := by
  have : partF [97] 1 = 0 := Nat.mod_one _
  simp [ofV, mayB, this]
theorem a17_of2 : ofV [97] 17 = .tuple #[.int .i64 0, .int .i64 2] := by simp [ofV, mayB]
theorem a17_ok : okJ [L17, L17] = false := by decide +kernel
theorem a17_srt : srt (splitP L17 2).flatten = L17 := by rw [srt_split 2 (by decide)]; decide

set_option maxRecDepth 100000 in
set_option maxHeartbeats 4000000 in
theorem alive17 (w : World) : Calls Try.prog 42 #[] w fun e w' => e = .returned (.bool true) ∧ Below w.heap.size w w' := by
  have HS := Lib.hid (show ∀ b e w', SplitRes L17 2 b e w' → ∃ D, e = .returned (.tuple #[.slice (some ⟨D, 0, none⟩) 2 2, .int .i64 0]) ∧ b ≤ D ∧ OR w' D D (splitP L17 2) from fun b e w' h => h)
  have HJ := Lib.hid (show ∀ b e w', JoinRes (splitP L17 2) b e w' → ∃ v, e = .returned (.tuple #[v, .int .i64 0]) ∧ OP w' b v L17 from fun b e w' h => by
    unfold JoinRes at h
    rw [splitP_length, okJ_split, a17_srt] at h
    exact h)
  have HJ2 := Lib.hid (show ∀ b e w', JoinRes [L17, L17] b e w' → e = .returned (.tuple #[.slice none 0 0, .int .i64 2]) from fun b e w' h => by
    unfold JoinRes at h
    rw [a17_ok, Bool.and_false] at h
    exact h)
  go_enter Try.func42, Try.ntmps42
  go_wp2_with fail
  refine (OfP_any [97] 1 w (by decide)).mono ?_
  rw [a17_of]
  rintro e w1 ⟨rfl, hB1⟩
  have HB1 := Lib.hid hB1
  clear hB1
  go_wp2_with fail
  refine (OfP_any [97] 17 w1 (by decide)).mono ?_
  rw [a17_of2]
  rintro e w2 ⟨rfl, hB2⟩
  have HB2 := Lib.hid (bt HB1.out hB2)
  clear hB2
  go_wp2_with fail
  obtain ⟨w3, hw3⟩ : ∃ w3, w3 = w2.alloc (.cells #[.string ⟨#[97]⟩, .string ⟨#[49]⟩, .string ⟨#[98]⟩, .string ⟨#[50]⟩] 52) := ⟨_, rfl⟩
  have hrp : RP w3 (.slice (some ⟨w2.heap.size, 0, none⟩) 2 2) L17 := by rw [hw3]; exact RP.new w2 L17 _
  have HB3 := Lib.hid (show Below w.heap.size w w3 by rw [hw3]; exact bt HB2.out (b_alloc _ _))
  rw [← hw3]
  obtain ⟨D2, hD2⟩ : ∃ D2, D2 = w2.heap.size := ⟨_, rfl⟩
  rw [← hD2] at hrp ⊢
  have HRP := Lib.hid hrp
  clear hw3 hrp hD2
  have hk17 : ∀ p ∈ L17, p.1.length ≤ 70368744177664 := by
    intro p hp
    have : p.1.length = 1 := by simp [L17] at hp; rcases hp with rfl | rfl <;> rfl
    omega
  refine (Split_any _ L17 2 w3 HRP.out (by decide) hk17).mono ?_
  rintro e w4 ⟨hres, hB4⟩
  obtain ⟨D, rfl, hD, hor⟩ := HS.out _ _ _ hres
  have HRR := Lib.hid (show RR w4 (.slice (some ⟨D, 0, none⟩) 2 2) (splitP L17 2) from hor.rr)
  have HRP4 := Lib.hid (HRP.out.below hB4)
  have HB4 := Lib.hid (bt HB3.out hB4)
  clear hres hor hB4
  have hks : ∀ l ∈ splitP L17 2, ∀ p ∈ l, p.1.length ≤ 70368744177664 := by
    intro l hl p hp
    obtain ⟨i, hi, rfl⟩ := List.getElem_of_mem hl
    have hi2 : i < 2 := by rw [splitP_length] at hi; exact hi
    exact hk17 p ((splitP_mem hi2).1 hp).1
  have hfl : (splitP L17 2).flatten.length ≤ 1000000 := by rw [split_flat_len _ _ (by decide)]; decide
  have hsl : (splitP L17 2).length ≤ 1000000 := by rw [splitP_length]; decide
  have hJ := Join_any _ (splitP L17 2) w4 HRR.out hsl hfl hks
  have HJN := Lib.hid hJ
  have HK17 := Lib.hid hk17
  clear hks hfl hsl hJ hk17
  go_wp2_with fail
  refine HJN.out.mono ?_
  rintro e w5 ⟨hres, hB5⟩
  obtain ⟨vj, rfl, hown⟩ := HJ.out _ _ _ hres
  obtain ⟨aj, cj, rfl⟩ := owns_slice hown
  have HJR := Lib.hid hown.reads
  have HRP5 := Lib.hid (HRP4.out.below hB5)
  have HB5 := Lib.hid (bt HB4.out hB5)
  clear hres hown hB5
  go_wp2_with fail
  obtain ⟨w6, hw6⟩ : ∃ w6, w6 = w5.alloc (.cells #[.slice (some ⟨D2, 0, none⟩) 2 2, .slice (some ⟨D2, 0, none⟩) 2 2] 35) := ⟨_, rfl⟩
  have hrr6 : RR w6 (.slice (some ⟨w5.heap.size, 0, none⟩) 2 2) [L17, L17] := by rw [hw6]; exact RR.pair2 _ HRP5.out HRP5.out
  have hb6 : Below w5.heap.size w5 w6 := by rw [hw6]; exact b_alloc _ _
  rw [← hw6]
  have HJR6 := Lib.hid (HJR.out.below hb6)
  have HRP6 := Lib.hid (HRP5.out.below hb6)
  have HB6 := Lib.hid (bt HB5.out hb6)
  have hJ2 := Join_any _ [L17, L17] w6 hrr6 (by decide) (by decide) (by
    intro l hl p hp
    have : l = L17 := by simpa using hl
    subst this
    exact HK17.out p hp)
  have HJN2 := Lib.hid hJ2
  clear hw6 hb6 hrr6 hJ2
  refine HJN2.out.mono ?_
  rintro e w7 ⟨hres, hB7⟩
  obtain rfl := HJ2.out _ _ _ hres
  have HJR7 := Lib.hid (HJR6.out.below hB7)
  have HRP7 := Lib.hid (HRP6.out.below hB7)
  have HB7 := Lib.hid (bt HB6.out hB7)
  clear hres hB7
  go_wp2_with fail
  refine (rSameP_any _ _ L17 L17 w7 HJR7.out HRP7.out (by decide) (by decide)).mono ?_
  rw [decide_eq_true rfl]
  rintro e w8 ⟨rfl, hB8⟩
  have HB8 := Lib.hid (bt HB7.out hB8)
  clear hB8
  go_wp2_with fail
  go_ret
  exact ⟨rfl, HB8.out⟩
end Go.Proofs.Ytdebgkjekcppmaa
namespace Go.Proofs.Ytdebgkjekcppmaa
open Go.RowKit Oct

set_option maxRecDepth 100000 in
set_option maxHeartbeats 8000000 in
theorem PartJoins_any (v : Value) (l : List PR) (n : Int) (w : World) (hr : RP w v l) (hl : l.length ≤ 4398046511104) (hm : ∀ p ∈ l, p.1.length ≤ 140737488355328 ∧ p.2.length ≤ 140737488355328) (_hn : (Lit.int .i64 n).wf = true) :
    Calls Try.prog 12 #[v, .int .i64 n] w fun e w' => e = .returned (.bool true) ∧ Below w.heap.size w w' := by
  obtain ⟨a, cap, rfl, _, _⟩ := hr.open
  have HRP := Lib.hid hr
  have HM := Lib.hid hm
  clear hr hm
  cases hlg : large17 l with
  | true =>
    have HLG := Lib.hid hlg
    clear hlg
    go_enter Try.func12, Try.ntmps12
    go_wp2_with fail
    refine (large17_any _ l w HRP.out (by omega) HM.out).mono ?_
    rw [HLG.out]
    rintro e w1 ⟨rfl, hB1⟩
    have HB1 := Lib.hid hB1
    clear hB1
    go_wp2_with fail
    refine (alive17 _).mono ?_
    rintro e w2 ⟨rfl, hB2⟩
    have HB2 := Lib.hid (bt HB1.out hB2)
    clear hB2
    go_wp2_with fail
    go_ret
    exact ⟨rfl, HB2.out⟩
  | false =>
    obtain ⟨hl40, hkl⟩ := large17_le l hlg
    have HLG := Lib.hid hlg
    have HKL := Lib.hid (show ∀ p ∈ l, p.1.length ≤ 70368744177664 from fun p hp => Nat.le_trans (hkl p hp) (by decide))
    clear hlg hkl
    cases hmb : mayB n with
    | false =>
      have HS := Lib.hid (show ∀ b e w', SplitRes l n b e w' → e = .returned (.tuple #[.slice none 0 0, .int .i64 2]) from fun b e w' h => by unfold SplitRes at h; rw [hmb] at h; exact h)
      clear hmb
      go_enter Try.func12, Try.ntmps12
      go_wp2_with fail
      refine (large17_any _ l w HRP.out (by omega) HM.out).mono ?_
      rw [HLG.out]
      rintro e w1 ⟨rfl, hB1⟩
      have HB1 := Lib.hid hB1
      have HRP1 := Lib.hid (HRP.out.below hB1)
      clear hB1
      go_wp2_with fail
      refine (Split_any _ l n w1 HRP1.out (by omega) HKL.out).mono ?_
      rintro e w2 ⟨hres, hB2⟩
      obtain rfl := HS.out _ _ _ hres
      have HB2 := Lib.hid (bt HB1.out hB2)
      clear hres hB2
      go_wp2_with fail
      refine (alive17 _).mono ?_
      rintro e w3 ⟨rfl, hB3⟩
      have HB3 := Lib.hid (bt HB2.out hB3)
      clear hB3
      go_wp2_with fail
      go_ret
      exact ⟨rfl, HB3.out⟩
    | true =>
      obtain ⟨m, rfl, h1, h2⟩ := mayB_nat hmb
      have HS := Lib.hid (show ∀ q b e w', SplitRes q (m : Int) b e w' → ∃ D, e = .returned (.tuple #[.slice (some ⟨D, 0, none⟩) m m, .int .i64 0]) ∧ b ≤ D ∧ OR w' D D (splitP q m) from fun q b e w' h => by unfold SplitRes at h; rw [hmb, Int.toNat_natCast] at h; exact h)
      have HJ := Lib.hid (show ∀ b e w', JoinRes (splitP l m) b e w' → ∃ v, e = .returned (.tuple #[v, .int .i64 0]) ∧ OP w' b v (srt l) from fun b e w' h => by
        unfold JoinRes at h
        rw [splitP_length, okJ_split, hmb, srt_split m h1] at h
        exact h)
      have HOF := Lib.hid (show ∀ key, ofV key (m : Int) = .tuple #[.int .i64 ((partF key m : Nat) : Int), .int .i64 0] from fun key => by rw [ofV, hmb, Int.toNat_natCast]; rfl)
      have HSL := Lib.hid (splitP_length l m)
      have HKS := Lib.hid (show ∀ r ∈ splitP l m, ∀ p ∈ r, p.1.length ≤ 70368744177664 by
        intro r hr p hp
        obtain ⟨i, hi, rfl⟩ := List.getElem_of_mem hr
        have hi2 : i < m := by rw [splitP_length] at hi; exact hi
        exact HKL.out p ((splitP_mem hi2).1 hp).1)
      have HFL := Lib.hid (split_flat_len l m h1)
      have HKT := Lib.hid (show ∀ p ∈ srt l, p.1.length ≤ 70368744177664 from fun p hp => HKL.out p (mem_srt.1 hp))
      have HTL := Lib.hid (srt_length l)
      clear hmb
      go_enter Try.func12, Try.ntmps12
      go_wp2_with fail
      refine (large17_any _ l w HRP.out (by omega) HM.out).mono ?_
      rw [HLG.out]
      rintro e w1 ⟨rfl, hB1⟩
      have HB1 := Lib.hid hB1
      have HRP1 := Lib.hid (HRP.out.below hB1)
      clear hB1
      go_wp2_with fail
      refine (Split_any _ l m w1 HRP1.out (by omega) HKL.out).mono ?_
      rintro e w2 ⟨hres, hB2⟩
      obtain ⟨D, rfl, hD, hor⟩ := HS.out _ _ _ _ hres
      have hrr := hor.rr
      rw [HSL.out] at hrr
      have HRR := Lib.hid hrr
      have HRP2 := Lib.hid (HRP1.out.below hB2)
      have HB2 := Lib.hid (bt HB1.out hB2)
      clear hres hB2 hor hrr
      go_wp2_with fail
      refine (Join_any _ (splitP l m) w2 HRR.out (by rw [HSL.out]; omega) (by rw [HFL.out]; omega) HKS.out).mono ?_
      rintro e w3 ⟨hres, hB3⟩
      obtain ⟨vj, rfl, hown⟩ := HJ.out _ _ _ hres
      obtain ⟨aj, cj, rfl⟩ := owns_slice hown
      have HJR := Lib.hid hown.reads
      have HRR3 := Lib.hid (HRR.out.below hB3)
      have HRP3 := Lib.hid (HRP2.out.below hB3)
      have HB3 := Lib.hid (bt HB2.out hB3)
      clear hres hB3 hown
      go_wp2_with fail
      refine (Sort_any _ _ l w3 (Nat.le_refl _) HRP3.out (by omega)).mono ?_
      rintro e w4 ⟨vs, rfl, hown, hB4⟩
      obtain ⟨as_, cs, rfl⟩ := owns_slice hown
      have HSR := Lib.hid hown.reads
      have HJR4 := Lib.hid (HJR.out.below hB4)
      have HRR4 := Lib.hid (HRR3.out.below hB4)
      have HRP4 := Lib.hid (HRP3.out.below hB4)
      have HB4 := Lib.hid (bt HB3.out hB4)
      clear hB4 hown
      go_wp2_with fail
      refine (SameP_any _ _ (srt l) (srt l) w4 HJR4.out HSR.out (by rw [HTL.out]; omega) (by rw [HTL.out]; omega)).mono ?_
      rw [decide_eq_true rfl]
      rintro e w5 ⟨rfl, hB5⟩
      have HRR5 := Lib.hid (HRR4.out.below hB5)
      have HRP5 := Lib.hid (HRP4.out.below hB5)
      have HB5 := Lib.hid (bt HB4.out hB5)
      clear hB5
      go_wp2
      go_loopw [9] (fun t wx => ∃ i : Nat, i ≤ m ∧ t = .int .i64 (i : Int) ∧ Hid (Below w5.heap.size w5 wx)) (fun t _ => m - (intOf t).toNat)
      case atStart => exact ⟨0, by omega, rfl, b_refl _⟩
      case round =>
        obtain ⟨i, hi, rfl, HB⟩ := hrel
        by_cases him : i < m
        · have i0 : (0 : Int) ≤ (i : Int) := by omega
          have i1 : (i : Int) < (m : Int) := by omega
          have hil : i < (splitP l m).length := by rw [HSL.out]; exact him
          obtain ⟨a', c', hv', _, _, hc'⟩ := HRR5.out
          obtain ⟨b1, o1, u, ha', du, hru⟩ := hc' i hil
          injection hv' with e1 e2 e3
          rw [← e1] at ha'
          cases ha'
          rw [Nat.zero_add] at du
          obtain ⟨au, cu, rfl, _, hcu⟩ := hru.open
          have HDU := Lib.hid du
          have HRU := Lib.hid hru
          have HCU := Lib.hid hcu
          have HGET := Lib.hid (splitP_get l m i him)
          have HMEM := Lib.hid (fun p => splitP_mem (l := l) (p := p) him)
          obtain ⟨R, hR⟩ : ∃ R, R = (splitP l m)[i]'hil := ⟨_, rfl⟩
          rw [← hR] at HDU HRU HCU HGET
          have HRM := Lib.hid (show ∀ p ∈ R, p ∈ l ∧ partF p.1 m = i by rw [hR]; exact fun p hp => (HMEM.out p).1 hp)
          have HRL := Lib.hid (show R.length ≤ 40 by rw [HGET.out]; exact Nat.le_trans (List.length_filter_le _ _) hl40)
          have hRL := HRL.out
          clear hc' e1 e2 e3 du hru hcu hR HMEM
          obtain ⟨Wr, hWr⟩ : ∃ Wr, Wr = wr := ⟨_, rfl⟩
          subst hWr
          go_wp2
          go_loopw [10] (fun t wx => ∃ k : Nat, k ≤ R.length ∧ t = .int .i64 (k : Int) ∧ Hid (Below w5.heap.size w5 wx)) (fun t _ => R.length - (intOf t).toNat)
          case atStart => exact ⟨0, by omega, rfl, HB⟩
          case round =>
            clear HB
            obtain ⟨k, hk, rfl, HB⟩ := hrel
            have du := Below.keeps HB.out HDU.out
            by_cases hkl : k < R.length
            · have k0 : (0 : Int) ≤ (k : Int) := by omega
              have k1 : (k : Int) < (R.length : Int) := by omega
              obtain ⟨bl, ol, rfl, d1, d2⟩ := HCU.out k hkl
              replace d1 := Below.keeps HB.out d1
              obtain ⟨p, hp⟩ : ∃ p, p = R[k] := ⟨_, rfl⟩
              rw [← hp] at d1
              have HPM := Lib.hid (show p ∈ l ∧ partF p.1 m = i from HRM.out p (by rw [hp]; exact List.getElem_mem hkl))
              have HKP := Lib.hid (HKL.out p HPM.out.1)
              have HOP := Lib.hid (show ofV p.1 (m : Int) = .tuple #[.int .i64 (i : Int), .int .i64 0] by rw [HOF.out, HPM.out.2])
              clear hp d2
              go_wp2_with fail
              refine (OfP_any p.1 m wr HKP.out).mono ?_
              rw [HOP.out]
              rintro e w6 ⟨rfl, hB6⟩
              have HB6 := Lib.hid (bt HB.out hB6)
              clear hB6 d1 du
              go_wp2
              refine ⟨?_, by simp [intOf]; omega⟩
              first
                | exact ⟨k + 1, by omega, by go_num, HB6.out⟩
                | ((repeat apply Exists.intro); exact ⟨⟨k + 1, by omega, by go_num, HB6.out⟩, rfl⟩)
            · obtain rfl : k = R.length := by omega
              have HRUw := Lib.hid (HRU.out.below HB.out)
              have HRPw := Lib.hid (HRP5.out.below HB.out)
              go_wp2_with fail
              refine (inOrder_any _ _ (fun p => decide (partF p.1 m = i)) l wr (by rw [← HGET.out]; exact HRUw.out) HRPw.out (by omega)).mono ?_
              rintro e w6 ⟨rfl, hB6⟩
              have HB6 := Lib.hid (bt HB.out hB6)
              clear hB6 du
              go_wp2
              refine ⟨?_, by simp [intOf]; omega⟩
              first
                | exact ⟨i + 1, by omega, by go_num, HB6.out⟩
                | ((repeat apply Exists.intro); exact ⟨⟨i + 1, by omega, by go_num, HB6.out⟩, rfl⟩)
        · obtain rfl : i = m := by omega
          have HRPw := Lib.hid (HRP5.out.below HB.out)
          have HBw := Lib.hid (bt HB5.out HB.out)
          go_wp2_with fail
          refine (Sort_any _ _ l wr (Nat.le_refl _) HRPw.out (by omega)).mono ?_
          rintro e w6 ⟨vs2, rfl, hown, hB6⟩
          obtain ⟨as2, cs2, rfl⟩ := owns_slice hown
          have HSR2 := Lib.hid hown.reads
          have HB6 := Lib.hid (bt HBw.out hB6)
          clear hown hB6
          go_wp2_with fail
          refine (Split_any _ (srt l) i w6 HSR2.out (by rw [HTL.out]; omega) HKT.out).mono ?_
          rintro e w7 ⟨hres, hB7⟩
          obtain ⟨D2, rfl, hD2, hor2⟩ := HS.out _ _ _ _ hres
          have hrr2 := hor2.rr
          rw [splitP_length] at hrr2
          have HRR2 := Lib.hid hrr2
          have HB7 := Lib.hid (bt HB6.out hB7)
          have HSL2 := Lib.hid (splitP_length (srt l) i)
          have HCHK := Lib.hid (show ∀ j (h : j < (splitP (srt l) i).length), chk ((splitP (srt l) i)[j]'h) = 0 from fun j h => by
            have hj : j < i := by rw [splitP_length] at h; exact h
            rw [splitP_get _ _ _ hj, chk, sorted_filter _ _ (srt_sorted l)]; rfl)
          have HLEN := Lib.hid (show ∀ j (h : j < (splitP (srt l) i).length), ((splitP (srt l) i)[j]'h).length ≤ 40 from fun j h => by
            have hj : j < i := by rw [splitP_length] at h; exact h
            rw [splitP_get _ _ _ hj]
            refine Nat.le_trans (List.length_filter_le _ _) ?_
            rw [HTL.out]; exact hl40)
          obtain ⟨rows2, hrows2⟩ : ∃ rows2, rows2 = splitP (srt l) i := ⟨_, rfl⟩
          rw [← hrows2] at HRR2 HSL2 HCHK HLEN
          clear hres hB7 hor2 hrr2 hrows2
          go_wp2
          go_loopw [15] (fun t wx => ∃ j : Nat, j ≤ i ∧ t = .int .i64 (j : Int) ∧ Hid (Below w7.heap.size w7 wx)) (fun t _ => i - (intOf t).toNat)
          case atStart => exact ⟨0, by omega, rfl, b_refl _⟩
          case round =>
            clear HB
            obtain ⟨j, hj, rfl, HB⟩ := hrel
            by_cases hji : j < i
            · have j0 : (0 : Int) ≤ (j : Int) := by omega
              have j1 : (j : Int) < (i : Int) := by omega
              have hjl : j < rows2.length := by rw [HSL2.out]; exact hji
              obtain ⟨a', c', hv', _, _, hc'⟩ := HRR2.out.below HB.out
              obtain ⟨b1, o1, u, ha', du, hru⟩ := hc' j hjl
              injection hv' with e1 e2 e3
              rw [← e1] at ha'
              cases ha'
              rw [Nat.zero_add] at du
              obtain ⟨au, cu, rfl, _, _⟩ := hru.open
              have HRU := Lib.hid hru
              have HCK := Lib.hid (HCHK.out j hjl)
              have HLE := Lib.hid (HLEN.out j hjl)
              clear hc' e1 e2 e3 hru
              go_wp2_with fail
              refine (Check_any _ _ wr HRU.out (by have := HLE.out; omega)).mono ?_
              rw [HCK.out]
              rintro e w8 ⟨rfl, hB8⟩
              have HB8 := Lib.hid (bt HB.out hB8)
              clear hB8 du
              go_wp2
              refine ⟨?_, by simp [intOf]; omega⟩
              first
                | exact ⟨j + 1, by omega, by go_num, HB8.out⟩
                | ((repeat apply Exists.intro); exact ⟨⟨j + 1, by omega, by go_num, HB8.out⟩, rfl⟩)
            · obtain rfl : j = i := by omega
              go_wp2_with fail
              refine (alive17 _).mono ?_
              rintro e w8 ⟨rfl, hB8⟩
              have HB8 := Lib.hid (bt HB7.out (bt HB.out hB8))
              clear hB8
              go_wp2_with fail
              go_ret
              exact ⟨rfl, HB8.out⟩
end Go.Proofs.Ytdebgkjekcppmaa
namespace Go.Proofs.Ytdebgkjekcppmaa
open Go.ChangeShapes Go.WideShapes Go.ChangeAt Go.RowKit Oct
open Go.ChangeMaps (open_string shut_string)

theorem u64_nat {a : Int} (h : (Lit.int .u64 a).wf = true) : ∃ n : Nat, a = (n : Int) ∧ n < 18446744073709551616 := by
  have h2 : 0 ≤ a ∧ a < 18446744073709551616 := by
    have := bounds_u64 h; omega
  exact ⟨a.toNat, by omega, by omega⟩

section
variable {P : Program} {H : Type} {enc : TypeId × Value → H} {W : World} {base : Nat}
theorem open_str {t j : Nat} {v : Value} {d : DataW H} {ps : List MemPlace} {ts : List TypeId} {ds : List (DataW H)} (ht : P.underlying t = some .string) (hv : Value.okWide P W .any base t v)
    (h : DataW.Trod enc P W 0 (fun _ => true) true t v d ps) (hsz : (DataW.weightsEach P ts ds).all (· ≤ reachBytes) = true) (hj : ts[j]? = some t) (hd : ds[j]? = some d) :
    ∃ l : List UInt8, v = .string (bs l) ∧ l.length ≤ 140737488355328 := by
  obtain ⟨s, rfl, rfl, _, _⟩ := open_string ht hv h
  refine ⟨s.data.toList, by rw [bs_of], ?_⟩
  have := sized_string hsz hj hd
  have h2 := reachBytes_lt
  omega

theorem weights_strs (e : TypeId) : ∀ (ss : List ByteArray) (s : ByteArray), s ∈ ss → s.data.toList.length ∈ DataW.weightsAll (H := H) P e (strs ss)
  | [], _, h => by simp at h
  | x :: ss, s, h => by
    have hx : strs (H := H) (x :: ss) = DataW.lit (.string x.data.toList) :: strs ss := rfl
    rw [hx, DataW.weightsAll]
    rcases List.mem_cons.1 h with rfl | h
    · simp [DataW.weights]
    · exact List.mem_append.2 (.inr (weights_strs e ss s h))
theorem add_cell {w : World} {a : Addr} {i : Nat} {u : Value} (h : w.cell? (a.add i) = some u) : a.add i = ⟨a.block, a.off + i, none⟩ := by
  unfold Addr.add at h ⊢
  split
  · rename_i hi
    rw [if_pos hi] at h
    subst hi
    cases a with
    | mk b o sp =>
      cases sp with
      | none => rfl
      | some x => exfalso; revert h; simp only [World.cell?]; split <;> simp
  · rfl
theorem open_texts {t e j : Nat} {v : Value} {d : DataW H} {ps : List MemPlace} {ts : List TypeId} {ds : List (DataW H)} (ht : P.underlying t = some (.slice e)) (he : P.underlying e = some .string) (hc : P.cellsOf e = 1) (hby : P.bytesOf e = 16)
    (hv : Value.okWide P W .any base t v) (h : DataW.Trod enc P W 0 (fun _ => true) true t v d ps) (hsz : (DataW.weightsEach P ts ds).all (· ≤ reachBytes) = true) (hj : ts[j]? = some t) (hd : ds[j]? = some d) :
    ∃ r : List (List UInt8), Reads W v r.length (tcells r) ∧ r.length ≤ 140737488355328 ∧ ∀ l ∈ r, l.length ≤ 140737488355328 := by
  have h47 := reachBytes_lt
  obtain ⟨a0, len, cap, rfl⟩ := okWide_slice ht hv
  obtain ⟨fuel, hf⟩ := h
  rcases open_strings ht he hc hf with ⟨hcs, hx⟩ | ⟨a, len', cap', ss, hcs, _, hl, hm, hz, hx, hcell, hws⟩
  · simp [Value.cells] at hcs
    obtain ⟨rfl, rfl, rfl⟩ := hcs
    exact ⟨[], Reads.nil _, by simp, by simp⟩
  · simp [Value.cells] at hcs
    obtain ⟨rfl, rfl, rfl⟩ := hcs
    simp at hz
    simp only [Prod.mk.injEq] at hx
    have hd2 := hx.1
    subst hd2
    have s1 := sized_slice hsz hj hd ht
    rw [hby] at s1
    simp only [strs, List.length_map, List.length_take, List.length_drop] at s1
    have hlen : (ss.take len).length = len := by simp; omega
    refine ⟨(ss.take len).map fun s => s.data.toList, ?_, ?_, ?_⟩
    · refine ⟨some a, cap, by rw [List.length_map, hlen], by simp, fun i u hu => ?_⟩
      have hi : i < len := by
        rcases Nat.lt_or_ge i len with h | h
        · exact h
        · rw [List.getElem?_eq_none (by simp [tcells]; omega)] at hu; simp at hu
      have hcl := hcell i (by omega)
      have e1 := add_cell hcl
      have e2 : a = ⟨a.block, a.off, none⟩ := by
        have h0 := add_cell (hcell 0 (by omega))
        simpa [Addr.add] using h0
      rw [e1] at hcl
      refine ⟨a.block, a.off, by rw [← e2], ?_⟩
      rw [hcl, ← hu]
      have hss : i < ss.length := by omega
      simp [tcells, List.getElem?_take, hi, hss, bs_of, List.getD]
    · simp; omega
    · intro l hl
      obtain ⟨s, hs, rfl⟩ := List.mem_map.1 hl
      have hin : s.data.toList.length ∈ DataW.weightsEach P ts ds := by
        refine DataW.weights_mem_each hj hd _ ?_
        simp only [DataW.weights, ht]
        exact List.mem_cons.2 (.inr (List.mem_append.2 (.inl (weights_strs e _ s hs))))
      have := List.all_eq_true.1 hsz _ hin
      simp at this
      simp
      omega
end
end Go.Proofs.Ytdebgkjekcppmaa
namespace Go.Proofs.Ytdebgkjekcppmaa
open Go.ChangeShapes Go.WideShapes Go.ChangeAt Go.RowKit Oct
open Go.ChangeMaps (open_string shut_string)

section
variable {P : Program} {H : Type} {enc : TypeId × Value → H} {W : World} {α β γ : Type}

/-- whatever the cells of a type read as, they hold an x; its measure is at most the datum's bulk -/
def Opens (enc : TypeId × Value → H) (P : Program) (W : World) (t : TypeId) (mu : α → Nat) (He : List Value → α → Prop) : Prop :=
  ∀ n cs d ps, DataW.trod enc P W 0 (fun _ => true) true n t cs = some (d, ps) → (∀ x ∈ d.weights P t, x ≤ reachBytes) → ∃ x, He cs x ∧ mu x ≤ Rows.uptoBulk d
theorem bulk_range (D : Nat → DataW H) (f : Nat → α) (mu : α → Nat) : ∀ n, (∀ i, i < n → mu (f i) ≤ Rows.uptoBulk (D i)) → (((List.range n).map f).map mu).sum ≤ Rows.uptoBulkAll ((List.range n).map D)
  | 0, _ => by simp
  | n + 1, h => by
    have ih := bulk_range D f mu n (fun i hi => h i (by omega))
    have app : ∀ (l r : List (DataW H)), Rows.uptoBulkAll (l ++ r) = Rows.uptoBulkAll l + Rows.uptoBulkAll r := by
      intro l r
      induction l with
      | nil => simp [Rows.uptoBulkAll]
      | cons x l ih => simp only [List.cons_append, Rows.uptoBulkAll, ih]; omega
    have := h n (by omega)
    simp only [List.range_succ, List.map_append, List.sum_append, app, List.map_cons, List.map_nil, List.sum_cons, List.sum_nil, Rows.uptoBulkAll]
    omega

theorem Opens.imp {t : TypeId} {mu : α → Nat} {He He' : List Value → α → Prop} (h : Opens enc P W t mu He) (hi : ∀ cs x, He cs x → He' cs x) : Opens enc P W t mu He' := by
  intro n cs d ps hd hw
  obtain ⟨x, hx, hb⟩ := h n cs d ps hd hw
  exact ⟨x, hi _ _ hx, hb⟩
/-- v is a row of elements of 'size' cells -/
def SliceOf (W : World) (size : Nat) (He : List Value → α → Prop) (v : Value) (xs : List α) : Prop :=
  ∃ a cap, v = .slice a xs.length cap ∧ xs.length ≤ cap ∧ (a = none → xs.length = 0 ∧ cap = 0) ∧
    ∀ k (h : k < xs.length), ∃ b off cs, a = some ⟨b, off, none⟩ ∧ cs.length = size ∧ (∀ j u, cs[j]? = some u → W.cell? ⟨b, off + k * size + j, none⟩ = some u) ∧ He cs xs[k]

theorem weights_all_mem (e : TypeId) : ∀ (ds : List (DataW H)) (d : DataW H), d ∈ ds → ∀ x ∈ d.weights P e, x ∈ DataW.weightsAll P e ds
  | [], _, h => by simp at h
  | d0 :: ds, d, h => by
    intro x hx
    rw [DataW.weightsAll]
    rcases List.mem_cons.1 h with rfl | h
    · exact List.mem_append.2 (.inl hx)
    · exact List.mem_append.2 (.inr (weights_all_mem e ds d h x hx))

theorem opens_str {t : TypeId} (ht : P.underlying t = some .string) : Opens enc P W t (fun l : List UInt8 => l.length + 1) fun cs (l : List UInt8) => cs = [.string (bs l)] ∧ l.length ≤ 140737488355328 := by
  intro n cs d ps h hw
  obtain ⟨s, rfl, hx, _⟩ := DataW.trod_string ht h
  simp only [Prod.mk.injEq] at hx
  obtain ⟨rfl, rfl⟩ := hx
  have := hw s.data.toList.length (by simp [DataW.weights])
  have h2 := reachBytes_lt
  exact ⟨s.data.toList, ⟨by rw [bs_of], by omega⟩, by simp [Rows.uptoBulk]⟩
theorem opens_int {t : TypeId} {k : IntKind} (ht : P.underlying t = some (.int k)) : Opens enc P W t (fun _ => 1) fun cs (a : Int) => cs = [.int k a] ∧ (Lit.int k a).wf = true := by
  intro n cs d ps h hw
  obtain ⟨a, rfl, hx, hwf⟩ := DataW.trod_int ht h
  simp only [Prod.mk.injEq] at hx
  obtain ⟨rfl, rfl⟩ := hx
  exact ⟨a, ⟨rfl, hwf⟩, by simp [Rows.uptoBulk]⟩
theorem opens_struct2 {t : TypeId} {f0 f1 : Field} {c0 c1 : Nat} {m0 : α → Nat} {m1 : β → Nat} {H0 : List Value → α → Prop} {H1 : List Value → β → Prop} (ht : P.underlying t = some (.struct #[f0, f1])) (hc : P.cellsOf t = c0 + c1)
    (hc0 : P.cellsOf f0.type = c0) (hc1 : P.cellsOf f1.type = c1) (o0 : f0.offset = 0) (o1 : f1.offset = c0)
    (h0 : Opens enc P W f0.type m0 H0) (h1 : Opens enc P W f1.type m1 H1) : Opens enc P W t (fun p => m0 p.1 + m1 p.2 + 1) fun cs (p : α × β) => ∃ cs0 cs1, cs = cs0 ++ cs1 ∧ cs0.length = c0 ∧ cs1.length = c1 ∧ H0 cs0 p.1 ∧ H1 cs1 p.2 := by
  intro n cs d ps h hw
  obtain ⟨y0, y1, m, hx, hl, e0, e1⟩ := trod_struct2 ht h
  simp only [Prod.mk.injEq] at hx
  obtain ⟨rfl, rfl⟩ := hx
  have hw' : ∀ x, x ∈ y0.1.weights P f0.type ∨ x ∈ y1.1.weights P f1.type → x ≤ reachBytes := by
    intro x hx
    refine hw x ?_
    simp only [DataW.weights, ht, DataW.weightsEach, List.map_cons, List.mem_append]
    rcases hx with hx | hx
    · exact .inl hx
    · exact .inr (.inl hx)
  obtain ⟨x0, k0, b0⟩ := h0 _ _ _ _ e0 (fun x hx => hw' x (.inl hx))
  obtain ⟨x1, k1, b1⟩ := h1 _ _ _ _ e1 (fun x hx => hw' x (.inr hx))
  rw [o0, hc0, List.drop_zero] at k0
  rw [o1, hc1] at k1
  refine ⟨(x0, x1), ⟨cs.take c0, (cs.drop c0).take c1, ?_, ?_, ?_, k0, k1⟩, by simp only [Rows.uptoBulk, Rows.uptoBulkAll]; omega⟩
  · have : (cs.drop c0).take c1 = cs.drop c0 := List.take_of_length_le (by simp; omega)
    rw [this, List.take_append_drop]
  · simp; omega
  · simp; omega
theorem opens_slice {t e : TypeId} {size : Nat} {mu : α → Nat} {He : List Value → α → Prop} (ht : P.underlying t = some (.slice e)) (hc : P.cellsOf e = size) (hpos : 0 < size) (he : Opens enc P W e mu He) :
    Opens enc P W t (fun xs => (xs.map mu).sum + 1) fun cs (xs : List α) => ∃ v, cs = [v] ∧ SliceOf W size He v xs ∧ xs.length * P.bytesOf e ≤ reachBytes := by
  intro n cs d ps h hw
  rcases Deep.open_slice ht h with ⟨rfl, hx⟩ | ⟨a, len, cap, m, n', D, Pl, rfl, _, hl, hm, hmm, hx, hcell⟩
  · simp only [Prod.mk.injEq] at hx
    obtain ⟨rfl, _⟩ := hx
    exact ⟨[], ⟨_, rfl, ⟨none, 0, rfl, Nat.le_refl _, fun _ => ⟨rfl, rfl⟩, fun k hk => by simp at hk⟩, by simp⟩, by simp [Rows.uptoBulk]⟩
  · simp only [Prod.mk.injEq] at hx
    obtain ⟨rfl, _⟩ := hx
    simp only [if_true] at hmm
    subst hmm
    have hin : ∀ i, i < len → ∀ x ∈ (D i).weights P e, x ≤ reachBytes := by
      intro i hi x hx
      refine hw x ?_
      simp only [DataW.weights, ht]
      exact List.mem_cons.2 (.inr (List.mem_append.2 (.inl (weights_all_mem e _ (D i) (List.mem_map.2 ⟨i, by simpa using hi, rfl⟩) x hx))))
    have each : ∀ i, i < len → ∃ x : α, (∃ cs', W.cells? 0 (a.add (i * size)) size = some cs' ∧ He cs' x) ∧ mu x ≤ Rows.uptoBulk (D i) := by
      intro i hi
      obtain ⟨cs', h1, h2⟩ := hcell i (by omega)
      rw [hc] at h1
      obtain ⟨x, hx, hb⟩ := he _ _ _ _ h2 (hin i hi)
      exact ⟨x, ⟨cs', h1, hx⟩, hb⟩
    have hlen := hw ((len + (m - len)) * P.bytesOf e) (by simp [DataW.weights, ht])
    have hlb : len * P.bytesOf e ≤ (len + (m - len)) * P.bytesOf e := Nat.mul_le_mul_right _ (by omega)
    by_cases h0 : len = 0
    · subst h0
      exact ⟨[], ⟨_, rfl, ⟨some a, m, rfl, Nat.zero_le _, by simp, fun k hk => by simp at hk⟩, by simp⟩, by simp [Rows.uptoBulk]⟩
    obtain ⟨x0, _⟩ := each 0 (by omega)
    haveI : Inhabited α := ⟨x0⟩
    obtain ⟨f, hf⟩ := Deep.choose_lt each
    have haddr : a = ⟨a.block, a.off, none⟩ := by
      obtain ⟨⟨cs', h1, _⟩, _⟩ := hf 0 (by omega)
      obtain ⟨_, hl', hcs⟩ := World.cells?_some h1
      have h2 := hcs 0 (by omega)
      rw [Nat.zero_mul] at h2
      have h3 : ∃ u, cs'[0]? = some u := ⟨cs'[0]'(by omega), List.getElem?_eq_getElem _⟩
      obtain ⟨u, hu⟩ := h3
      rw [hu] at h2
      have := add_cell (a := a.add 0) (i := 0) h2
      simpa [Addr.add] using this
    have hbulk := bulk_range D f mu len (fun i hi => (hf i hi).2)
    refine ⟨(List.range len).map f, ⟨_, rfl, ⟨some a, m, by simp, by simpa using hl, by simp, ?_⟩, ?_⟩, by simp only [Rows.uptoBulk]; omega⟩
    · intro k hk
      have hk' : k < len := by simpa using hk
      obtain ⟨⟨cs', h1, hHe⟩, _⟩ := hf k hk'
      obtain ⟨_, hl', hcs⟩ := World.cells?_some h1
      refine ⟨a.block, a.off, cs', by rw [← haddr], hl', ?_, by simpa using hHe⟩
      intro j u hj
      have hjl : j < size := by
        rcases Nat.lt_or_ge j size with h | h
        · exact h
        · rw [List.getElem?_eq_none (by omega)] at hj; cases hj
      have h2 := hcs j hjl
      rw [haddr, hj, Addr.add_lit, Addr.add_lit] at h2
      rw [← h2]
    · simp only [List.length_map, List.length_range]; omega

theorem open_any {t j : Nat} {v : Value} {d : DataW H} {ps : List MemPlace} {ts : List TypeId} {ds : List (DataW H)} {mu : α → Nat} {He : List Value → α → Prop} (ho : Opens enc P W t mu He)
    (h : DataW.Trod enc P W 0 (fun _ => true) true t v d ps) (hsz : (DataW.weightsEach P ts ds).all (· ≤ reachBytes) = true) (hj : ts[j]? = some t) (hd : ds[j]? = some d) : ∃ x, He v.cells.toList x ∧ mu x ≤ Rows.uptoBulk d := by
  obtain ⟨fuel, hf⟩ := h
  refine ho _ _ _ _ hf fun x hx => ?_
  simpa using List.all_eq_true.1 hsz x (DataW.weights_mem_each hj hd x hx)
theorem cells_slice {base : Nat} {t e : TypeId} {v v' : Value} (ht : P.underlying t = some (.slice e)) (hv : Value.okWide P W .any base t v) (h : v.cells.toList = [v']) : v = v' := by
  obtain ⟨a0, len, cap, rfl⟩ := okWide_slice ht hv
  simpa [Value.cells] using h
end
end Go.Proofs.Ytdebgkjekcppmaa
namespace Go.Proofs.Ytdebgkjekcppmaa
open Go.ChangeShapes Go.WideShapes Go.ChangeAt Go.RowKit Oct

section
variable {H : Type} {enc : TypeId × Value → H} {W : World}
/-- a pair's cells, opened -/
def PairAt (cs : List Value) (p : PR) : Prop := cs = [.string (bs p.1), .string (bs p.2)] ∧ p.1.length ≤ 140737488355328 ∧ p.2.length ≤ 140737488355328
theorem opens_pair : Opens enc Try.prog W 52 (fun p => p.1.length + 1 + (p.2.length + 1) + 1) PairAt := by
  refine Opens.imp (opens_struct2 (c0 := 1) (c1 := 1) Try.underlying52 (by kernel_rfl) (by kernel_rfl) (by kernel_rfl) rfl rfl (opens_str Try.underlying9) (opens_str Try.underlying9)) ?_
  rintro cs p ⟨cs0, cs1, rfl, _, _, ⟨rfl, h0⟩, rfl, h1⟩
  exact ⟨rfl, h0, h1⟩
theorem rp_of {v : Value} {xs : List PR} (h : SliceOf W 2 PairAt v xs) : RP W v xs ∧ ∀ p ∈ xs, p.1.length ≤ 140737488355328 ∧ p.2.length ≤ 140737488355328 := by
  obtain ⟨a, cap, rfl, hle, hn, hc⟩ := h
  refine ⟨⟨⟨a, cap, rfl, hn, ?_⟩, a, cap, rfl, hle⟩, ?_⟩
  · intro j u hj
    have hjl : j < xs.length * 2 := by
      rcases Nat.lt_or_ge j (xs.length * 2) with h | h
      · exact h
      · rw [List.getElem?_eq_none (by rw [pcells_length]; exact h)] at hj; cases hj
    have hk : j / 2 < xs.length := by omega
    obtain ⟨b, off, cs, ha, _, hcell, hcs, _⟩ := hc (j / 2) hk
    subst hcs
    refine ⟨b, off, ha, ?_⟩
    rcases Nat.mod_two_eq_zero_or_one j with hm | hm
    · have e : j = j / 2 * 2 := by omega
      rw [e, pcells_key xs _ hk] at hj
      have := hcell 0 _ rfl
      rw [e, ← hj]
      exact this
    · have e : j = j / 2 * 2 + 1 := by omega
      rw [e, pcells_val xs _ hk] at hj
      have := hcell 1 _ rfl
      rw [e, ← hj, ← Nat.add_assoc]
      exact this
  · intro p hp
    obtain ⟨k, hk, rfl⟩ := List.getElem_of_mem hp
    obtain ⟨_, _, _, _, _, _, _, h⟩ := hc k hk
    exact h
/-- a row of pairs -/
def RowAt (W : World) (cs : List Value) (l : List PR) : Prop := ∃ v, cs = [v] ∧ RP W v l ∧ l.length ≤ 4398046511104 ∧ ∀ p ∈ l, p.1.length ≤ 140737488355328 ∧ p.2.length ≤ 140737488355328
/-- how many values and letters a row has -/
def bulkP (l : List PR) : Nat := (l.map fun p : PR => p.1.length + 1 + (p.2.length + 1) + 1).sum + 1
theorem opens_pairs : Opens enc Try.prog W 35 bulkP (RowAt W) := by
  refine Opens.imp (opens_slice (size := 2) Try.underlying35 (by kernel_rfl) (by decide) opens_pair) ?_
  rintro cs l ⟨v, rfl, hs, hb⟩
  have hby : Try.prog.bytesOf 52 = 32 := by kernel_rfl
  rw [hby] at hb
  have h2 := reachBytes_lt
  obtain ⟨h1, h3⟩ := rp_of hs
  exact ⟨v, rfl, h1, by omega, h3⟩
set_option maxRecDepth 100000 in
theorem open_pairs {base j : Nat} {v : Value} {d : DataW H} {ps : List MemPlace} {ts : List TypeId} {ds : List (DataW H)}
    (hv : Value.okWide Try.prog W .any base 35 v) (h : DataW.Trod enc Try.prog W 0 (fun _ => true) true 35 v d ps) (hsz : (DataW.weightsEach Try.prog ts ds).all (· ≤ reachBytes) = true) (hj : ts[j]? = some 35) (hd : ds[j]? = some d) :
    ∃ l : List PR, RP W v l ∧ l.length ≤ 4398046511104 ∧ ∀ p ∈ l, p.1.length ≤ 140737488355328 ∧ p.2.length ≤ 140737488355328 := by
  obtain ⟨l, ⟨v', hcs, h1, h2, h3⟩, _⟩ := open_any opens_pairs h hsz hj hd
  obtain rfl := cells_slice Try.underlying35 hv hcs
  exact ⟨l, h1, h2, h3⟩
/-- a row of rows -/
def RowsAt (W : World) (cs : List Value) (rows : List (List PR)) : Prop := ∃ v, cs = [v] ∧ RR W v rows ∧ rows.length ≤ 5864062014805 ∧ ∀ l ∈ rows, l.length ≤ 4398046511104 ∧ ∀ p ∈ l, p.1.length ≤ 140737488355328 ∧ p.2.length ≤ 140737488355328
def bulkR (rows : List (List PR)) : Nat := (rows.map bulkP).sum + 1
theorem opens_rows : Opens enc Try.prog W 43 bulkR (RowsAt W) := by
  refine Opens.imp (opens_slice (size := 1) Try.underlying43 (by kernel_rfl) (by decide) opens_pairs) ?_
  rintro cs rows ⟨v, rfl, ⟨a, cap, rfl, hle, hn, hc⟩, hb⟩
  have hby : Try.prog.bytesOf 35 = 24 := by kernel_rfl
  rw [hby] at hb
  have h2 := reachBytes_lt
  refine ⟨_, rfl, ⟨a, cap, rfl, hle, hn, ?_⟩, by omega, ?_⟩
  · intro k hk
    obtain ⟨b, off, cs, ha, _, hcell, v, rfl, h1, _⟩ := hc k hk
    refine ⟨b, off, v, ha, ?_, h1⟩
    have := hcell 0 _ rfl
    simpa using this
  · intro l hl
    obtain ⟨k, hk, rfl⟩ := List.getElem_of_mem hl
    obtain ⟨_, _, _, _, _, _, _, _, _, h3, h4⟩ := hc k hk
    exact ⟨h3, h4⟩
set_option maxRecDepth 100000 in
theorem open_rows {base j : Nat} {v : Value} {d : DataW H} {ps : List MemPlace} {ts : List TypeId} {ds : List (DataW H)}
    (hv : Value.okWide Try.prog W .any base 43 v) (h : DataW.Trod enc Try.prog W 0 (fun _ => true) true 43 v d ps) (hsz : (DataW.weightsEach Try.prog ts ds).all (· ≤ reachBytes) = true) (hj : ts[j]? = some 43) (hd : ds[j]? = some d) :
    ∃ rows : List (List PR), RR W v rows ∧ rows.length ≤ 5864062014805 ∧ (∀ l ∈ rows, l.length ≤ 4398046511104 ∧ ∀ p ∈ l, p.1.length ≤ 140737488355328 ∧ p.2.length ≤ 140737488355328) ∧ bulkR rows ≤ Rows.uptoBulk d := by
  obtain ⟨rows, ⟨v', hcs, h1, h2, h3⟩, h4⟩ := open_any opens_rows h hsz hj hd
  obtain rfl := cells_slice Try.underlying43 hv hcs
  exact ⟨rows, h1, h2, h3, h4⟩
end
end Go.Proofs.Ytdebgkjekcppmaa
