/- Lemmas for PartTellsUpto, part 7: walks of the functions that it reaches, and the plain laws behind them. -/
import Derived.Deep.DeepCutAuto
import Derived.OwnWalkIn
import Derived.TacticsInMore
import Derived.LoopNIn
import Derived.LoopIn
import Derived.Test.YtdebgkjekcppmaaPartTellsUptoK6
set_option linter.unusedSimpArgs false
set_option linter.unusedVariables false
namespace Go.Proofs.Ytdebgkjekcppmaa
open Go.RowKit Oct

/-- how many bytes the pairs have -/
def total16 (l : List PR) : Nat := (l.map fun p => p.1.length + p.2.length).sum
/-- Long -/
def long16 (l : List PR) : Bool := decide (200 < l.length) || decide (262144 < total16 (l.take 400))
theorem total16_take (r : List PR) (k : Nat) (h : k < r.length) : total16 (r.take (k + 1)) = total16 (r.take k) + r[k].1.length + r[k].2.length := by
  rw [List.take_succ_eq_append_getElem h, total16, total16, List.map_append, List.sum_append]; simp; omega
theorem texts_tx (l : List PR) : (texts (tx l)).length = 4 * l.length + total16 l := by
  induction l with
  | nil => rfl
  | cons a r ih => simp only [tx, texts, List.length_append, num_length, ih, List.length_cons, total16, List.map_cons, List.sum_cons]; omega

set_option maxRecDepth 100000 in
set_option maxHeartbeats 1000000 in
theorem Long16_any (v : Value) (r : List PR) (w : World) (hr : RP w v r) (hl : r.length ≤ 140737488355328) (hm : ∀ p ∈ r, p.1.length ≤ 140737488355328 ∧ p.2.length ≤ 140737488355328) :
    Calls Try.prog 25 #[v] w fun e w' => e = .returned (.bool (long16 r)) ∧ Below w.heap.size w w' := by
  obtain ⟨a, cap, rfl, _, hc⟩ := hr.open
  clear hr
  have HM := Lib.hid hm
  clear hm
  go_enter Try.func25, Try.ntmps25
  go_wp2
  go_loopw [3, 4] (fun n i wr => ∃ k x : Nat, k ≤ r.length ∧ k ≤ 400 ∧ i = .int .i64 k ∧ n = .int .i64 x ∧ x ≤ k * 281474976710656 ∧ Hid (x = total16 (r.take k)) ∧ Below w.heap.size w wr) (fun _ i _ => 400 - (intOf i).toNat)
  case atStart => exact ⟨0, 0, by omega, by omega, rfl, rfl, by omega, rfl, Below.refl _ _⟩
  case round =>
    obtain ⟨k, x, hk, hk2, rfl, rfl, hx, hH, hB⟩ := hrel
    by_cases h0 : k < r.length ∧ k < 400
    · obtain ⟨h1, h2⟩ := h0
      obtain ⟨b1, o1, rfl, hc1, hc2⟩ := hc k h1
      have hd1 := Below.keeps hB hc1
      have hd2 := Below.keeps hB hc2
      clear hc
      have hmk := HM.out r[k] (List.getElem_mem h1)
      obtain ⟨hm1, hm2⟩ := hmk
      have kk0 : (0 : Int) ≤ (k : Int) := by omega
      have kk1 : (k : Int) < (r.length : Int) := by omega
      go_wp2
      go_quiet (fail)
      go_wp2
      go_roundw
      case rel => exact ⟨k + 1, x + r[k].1.length + r[k].2.length, by omega, by omega, by go_num, by go_num, by omega, by show _ = _; rw [total16_take r k h1, hH.out], bt hB (Below.drewN' _ _)⟩
      case measure => simp [intOf]; omega
    · have hfin : total16 (r.take k) = total16 (r.take 400) := by
        by_cases h1 : k < r.length
        · rw [show k = 400 by omega]
        · rw [List.take_of_length_le (by omega), List.take_of_length_le (by omega)]
      have HF := Lib.hid hfin
      clear hfin
      by_cases h1 : k < r.length
      · have h2 : 400 ≤ k := by omega
        by_cases h3 : 200 < r.length
        · go_wp2
          go_ret
          exact ⟨by simp [long16, h3], hB⟩
        · omega
      · by_cases h3 : 200 < r.length
        · go_wp2
          go_ret
          exact ⟨by simp [long16, h3], hB⟩
        · go_wp2
          go_ret
          exact ⟨by rw [long16, ← HF.out, ← hH.out]; simp [h3]; rw [show decide ((200 : Int) < (r.length : Int)) = false from decide_eq_false (by omega), Bool.false_or]; exact decide_eq_decide.2 (by omega), hB⟩

theorem long16_le (r : List PR) (h : long16 r = false) : r.length ≤ 200 ∧ (texts (tx r)).length ≤ 1000000 := by
  simp only [long16, Bool.or_eq_false_iff, decide_eq_false_iff_not] at h
  have e : r.take 400 = r := List.take_of_length_le (by omega)
  rw [e] at h
  have := texts_tx r
  omega

theorem txV_at16 (r : List UInt8 × Int) : txV r = .tuple #[.string (bs r.1), .int .i64 r.2] := rfl
theorem PsRes_some {r : List PR} {base : Nat} {e : Ending} {w : World} (h : PsRes (some r) base e w) : ∃ v, e = .returned (.tuple #[v, .int .i64 0]) ∧ OP w base v r := h
theorem PsRes_none {base : Nat} {e : Ending} {w : World} (h : PsRes none base e w) : e = .returned (.tuple #[.slice none 0 0, .int .i64 7]) := h

set_option maxRecDepth 100000 in
set_option maxHeartbeats 2000000 in
theorem PairsCode_any (v : Value) (r : List PR) (l : List UInt8) (w : World) (hr : RP w v r) (hl : r.length ≤ 4398046511104) (hm : ∀ p ∈ r, p.1.length ≤ 140737488355328 ∧ p.2.length ≤ 140737488355328) (hs : l.length ≤ 140737488355328) :
    Calls Try.prog 7 #[v, .string (bs l)] w fun e w' => e = .returned (.bool true) ∧ Below w.heap.size w w' := by
  obtain ⟨a, cap, rfl, _, _⟩ := hr.open
  cases hL : long16 r
  · obtain ⟨h1, h2⟩ := long16_le r hL
    by_cases h3 : 131072 < l.length
    · have HL := Lib.hid hL; clear hL
      go_enter Try.func7, Try.ntmps7
      go_wp2_with fail
      refine (Long16_any _ r _ hr (by omega) hm).mono ?_; rw [HL.out]; rintro e w1 ⟨rfl, hB0⟩
      go_wp2_with (go_at_call 26; refine (alive16 _).mono ?_; rintro e w1 ⟨rfl, hB1⟩)
      go_ret
      exact ⟨rfl, bt hB0 hB1⟩
    · have HL := Lib.hid hL; clear hL
      go_enter Try.func7, Try.ntmps7
      go_wp2_with fail
      refine (Long16_any _ r _ hr (by omega) hm).mono ?_; rw [HL.out]; rintro e w0 ⟨rfl, hB0⟩
      have hr0 := hr.below hB0
      go_wp2_with (at_builtin; refine appendP w0 rfl _ _ 35 rfl Try.underlying35 w0.heap.size _ [] rfl (OP.nil _ _) _ r rfl hr0 (by simp; omega) (Nat.le_refl _) ?_; intro v' w1 hown1 hB1)
      rw [List.nil_append] at hown1
      refine (PutP_any _ r _ hown1.reads (by omega) (by omega)).mono ?_; rw [txV_at16]; rintro e w2 ⟨rfl, hB2⟩
      go_wp2_with fail
      refine (rPutP_any _ r _ (hr0.below (hB1.trans (hB2.mono hB1.size))) (by omega) (by omega)).mono ?_; rw [txV_at16]; rintro e w3 ⟨rfl, hB3⟩
      have hB03 := bt hB0 (hB1.trans ((hB2.mono hB1.size).trans (hB3.mono (Nat.le_trans hB1.size hB2.size))))
      clear hB1 hB2 hB3 hB0
      cases hq : getP l with
      | none =>
        have HQ := Lib.hid hq; clear hq
        go_wp2_with fail
        refine (GetP_any l _ hs).mono ?_; rw [HQ.out]; rintro e w4 ⟨hres, hB4⟩; obtain rfl := PsRes_none hres; clear hres
        go_wp2_with fail
        refine (rGetP_any l _ hs).mono ?_; rw [HQ.out]; rintro e w5 ⟨hres, hB5⟩; obtain rfl := PsRes_none hres; clear hres
        go_wp2_with fail
        refine (rSameP_any _ _ [] [] _ (RP.nil _) (RP.nil _) (by simp) (by simp)).mono ?_; rw [decide_eq_true rfl]; rintro e w10 ⟨rfl, hB10⟩
        go_wp2_with fail
        refine (alive16 _).mono ?_; rintro e w11 ⟨rfl, hB11⟩
        go_wp2_with fail
        go_ret
        exact ⟨rfl, bt hB03 (bt hB4 (bt hB5 (bt hB10 hB11)))⟩
      | some q =>
        have hql := getP_length l q hq
        have HQ := Lib.hid hq; clear hq
        go_wp2_with fail
        refine (GetP_any l _ hs).mono ?_; rw [HQ.out]; rintro e w4 ⟨hres, hB4⟩; obtain ⟨v1, rfl, hr1⟩ := PsRes_some hres; clear hres
        go_wp2_with fail
        refine (rGetP_any l _ hs).mono ?_; rw [HQ.out]; rintro e w5 ⟨hres, hB5⟩; obtain ⟨v2, rfl, hr2⟩ := PsRes_some hres; clear hres
        go_wp2_with fail
        refine (rSameP_any _ _ q q _ ((OP.reads hr1).below hB5) (OP.reads hr2) (by omega) (by omega)).mono ?_; rw [decide_eq_true rfl]; rintro e w10 ⟨rfl, hB10⟩
        go_wp2_with fail
        refine (alive16 _).mono ?_; rintro e w11 ⟨rfl, hB11⟩
        go_wp2_with fail
        go_ret
        exact ⟨rfl, bt hB03 (bt hB4 (bt hB5 (bt hB10 hB11)))⟩
  · have HL := Lib.hid hL; clear hL
    go_enter Try.func7, Try.ntmps7
    go_wp2_with fail
    refine (Long16_any _ r _ hr (by omega) hm).mono ?_; rw [HL.out]; rintro e w1 ⟨rfl, hB0⟩
    go_wp2_with (go_at_call 26; refine (alive16 _).mono ?_; rintro e w1 ⟨rfl, hB1⟩)
    go_ret
    exact ⟨rfl, bt hB0 hB1⟩
end Go.Proofs.Ytdebgkjekcppmaa
namespace Go.Proofs.Ytdebgkjekcppmaa
open Go.RowKit Oct

set_option maxRecDepth 100000 in
set_option maxHeartbeats 1000000 in
theorem SameF_any (p q : PR) (w : World) :
    Calls Try.prog 77 #[.agg #[.string (bs p.1), .string (bs p.2)], .agg #[.string (bs q.1), .string (bs q.2)]] w fun e w' => e = .returned (.bool (decide (p = q))) ∧ Below w.heap.size w w' := by
  have hE := Lib.hid (pr_eq p q)
  cases h1 : (p.1 == q.1)
  · go_enter Try.func77, Try.ntmps77
    go_wp2
    go_ret
    exact ⟨by rw [← hE.out, h1]; rfl, bt (b_alloc _ _) (b_alloc _ _)⟩
  · cases h2 : (p.2 == q.2)
    · go_enter Try.func77, Try.ntmps77
      go_wp2
      go_ret
      exact ⟨by rw [← hE.out, h1, h2]; rfl, bt (b_alloc _ _) (b_alloc _ _)⟩
    · go_enter Try.func77, Try.ntmps77
      go_wp2
      go_ret
      exact ⟨by rw [← hE.out, h1, h2]; rfl, bt (b_alloc _ _) (b_alloc _ _)⟩

set_option maxRecDepth 100000 in
set_option maxHeartbeats 1000000 in
theorem EqualF_any (va vb : Value) (a b : List PR) (w : World) (ha : RP w va a) (hb : RP w vb b) (hla : a.length ≤ 140737488355328) (hlb : b.length ≤ 140737488355328) :
    Calls Try.prog 76 #[va, vb, .func (.func 77) #[] #[]] w fun e w' => e = .returned (.bool (decide (a = b))) ∧ Below w.heap.size w w' := by
  obtain ⟨aa, ca, rfl, _, hca⟩ := ha.open
  obtain ⟨ab, cb, rfl, _, hcb⟩ := hb.open
  by_cases hl : a.length = b.length
  · have hL := Lib.hid hl
    have t1 : ((a.length : Int) != (b.length : Int)) = false := by rw [bne_eq_false_iff_eq]; omega
    clear hl
    go_enter Try.func76, Try.ntmps76
    go_wp2
    go_loopw [17] (fun i wr => ∃ k : Nat, k ≤ a.length ∧ i = .int .i64 k ∧ Hid (∀ j (h : j < a.length) (h' : j < b.length), j < k → a[j] = b[j]) ∧ Below w.heap.size w wr) (fun i _ => a.length - (intOf i).toNat)
    case atStart => exact ⟨0, by omega, rfl, by intro j _ _ h; omega, Below.refl _ _⟩
    case round =>
      obtain ⟨k, hk, rfl, hH, hB⟩ := hrel
      by_cases h0 : k < a.length
      · have h0b : k < b.length := by have := hL.out; omega
        obtain ⟨b1, o1, rfl, hc1, hc2⟩ := hca k h0
        obtain ⟨b2, o2, rfl, hc3, hc4⟩ := hcb k h0b
        have hd1 := Below.keeps hB hc1
        have hd2 := Below.keeps hB hc2
        have hd3 := Below.keeps hB hc3
        have hd4 := Below.keeps hB hc4
        have hlt2 : b2 < wr.heap.size := lt_of_cell hd3
        have kk1 : (k : Int) < (a.length : Int) := by omega
        have kk2 : (k : Int) < (b.length : Int) := by omega
        clear hca hcb
        by_cases he : a[k] = b[k]
        · have HE := Lib.hid he
          have HD := Lib.hid (decide_eq_true he)
          clear he
          go_wp2_with fail
          refine (SameF_any a[k] b[k] _).mono ?_; rw [HD.out]; rintro e w1 ⟨rfl, hB1⟩
          have hB2 := bt (bt (b_alloc _ _) (b_alloc _ _)) hB1
          clear hB1
          go_wp2_with fail
          go_roundw
          case rel =>
            refine ⟨k + 1, by omega, by go_num, ?_, bt hB hB2⟩
            intro j h h' hj
            by_cases hjk : j = k
            · subst hjk; exact HE.out
            · exact hH.out j h h' (by omega)
          case measure => simp [intOf]; omega
        · have HE := Lib.hid he
          have HD := Lib.hid (decide_eq_false he)
          clear he
          go_wp2_with fail
          refine (SameF_any a[k] b[k] _).mono ?_; rw [HD.out]; rintro e w1 ⟨rfl, hB1⟩
          have hB2 := bt (bt (b_alloc _ _) (b_alloc _ _)) hB1
          clear hB1
          go_wp2_with fail
          go_ret
          exact ⟨by rw [decide_eq_false (pr_ne_of k h0 h0b HE.out)]; rfl, bt hB hB2⟩
      · obtain rfl : k = a.length := by omega
        go_wp2
        go_ret
        exact ⟨by rw [decide_eq_true (List.ext_getElem hL.out (fun j h h' => hH.out j h h' h))]; rfl, hB⟩
  · have t1 : ((a.length : Int) != (b.length : Int)) = true := by rw [bne_iff_ne]; omega
    go_enter Try.func76, Try.ntmps76
    go_wp2
    go_ret
    exact ⟨by rw [decide_eq_false (fun e => hl (by rw [e]))]; rfl, Below.refl _ _⟩

set_option maxRecDepth 100000 in
theorem SameP_any (va vb : Value) (a b : List PR) (w : World) (ha : RP w va a) (hb : RP w vb b) (hla : a.length ≤ 140737488355328) (hlb : b.length ≤ 140737488355328) :
    Calls Try.prog 34 #[va, vb] w fun e w' => e = .returned (.bool (decide (a = b))) ∧ Below w.heap.size w w' := by
  have hE := @EqualF_any va vb a b w ha hb hla hlb
  obtain ⟨aa, ca, rfl, _, _⟩ := ha.open
  obtain ⟨ab, cb, rfl, _, _⟩ := hb.open
  have hH := Lib.hid hE
  clear hE
  go_enter Try.func34, Try.ntmps34
  go_wp2_with fail
  refine hH.out.mono ?_; rintro e w1 ⟨rfl, hB1⟩
  go_wp2_with fail
  go_ret
  exact ⟨rfl, hB1⟩

theorem texts_of_get (l : List UInt8) (q : List PR) (h : getP l = some q) : (texts (tx q)).length + 2 = l.length := by
  have hp := putP_get l q h
  have hl := getP_length l q h
  unfold putP at hp
  rw [if_pos hl] at hp
  repeat' split at hp
  all_goals simp only [Prod.mk.injEq] at hp
  · have := congrArg List.length hp.1
    simp at this; omega
  · omega
  · omega
theorem mem_srt {z : PR} {l : List PR} : z ∈ srt l ↔ z ∈ l := by
  have h : ∀ (l : List PR), z ∈ srt l.reverse ↔ z ∈ l.reverse := by
    intro l
    induction l with
    | nil => simp [srt_nil]
    | cons p l ih => rw [List.reverse_cons, srt_snoc, mem_ins, ih]; simp [or_comm]
  have := h l.reverse
  rwa [List.reverse_reverse] at this
theorem total_ins (p : PR) : ∀ l : List PR, total16 (ins p l) = total16 l + p.1.length + p.2.length
  | [] => by simp [ins, total16]
  | q :: l => by
    have ih := total_ins p l
    simp only [total16, List.map_cons, List.sum_cons] at ih ⊢
    unfold ins
    split <;> simp only [List.map_cons, List.sum_cons] <;> omega
theorem total_srt (l : List PR) : total16 (srt l) = total16 l := by
  have h : ∀ (l : List PR), total16 (srt l.reverse) = total16 l.reverse := by
    intro l
    induction l with
    | nil => rfl
    | cons p l ih => rw [List.reverse_cons, srt_snoc, total_ins, ih]; simp [total16]; omega
  have := h l.reverse
  rwa [List.reverse_reverse] at this
theorem texts_srt (l : List PR) : (texts (tx (srt l))).length = (texts (tx l)).length := by rw [texts_tx, texts_tx, total_srt, srt_length]
theorem putP_srt (l : List PR) (h : l.length ≤ 65535) : (∃ b, putP (srt l) = (b, 0) ∧ b.length = (texts (tx l)).length + 2) ∨ putP (srt l) = ([], 5) := by
  cases hf : fits (tx (srt l))
  · exact .inr (putP_fat _ (by rw [srt_length]; exact h) hf)
  · refine .inl ⟨_, putP_ok _ (by rw [srt_length]; exact h) hf (srt_sorted l), ?_⟩
    rw [List.length_append, num_length, texts_srt]; omega

set_option maxRecDepth 100000 in
set_option maxHeartbeats 4000000 in
theorem PairsBack_any (v : Value) (r : List PR) (l : List UInt8) (w : World) (hr : RP w v r) (hl : r.length ≤ 4398046511104) (hm : ∀ p ∈ r, p.1.length ≤ 140737488355328 ∧ p.2.length ≤ 140737488355328) (hs : l.length ≤ 140737488355328) :
    Calls Try.prog 9 #[v, .string (bs l)] w fun e w' => e = .returned (.bool true) ∧ Below w.heap.size w w' := by
  obtain ⟨a, cap, rfl, _, _⟩ := hr.open
  cases hL : long16 r
  · obtain ⟨h1, h2⟩ := long16_le r hL
    by_cases h3 : 131072 < l.length
    · have HL := Lib.hid hL; clear hL
      go_enter Try.func9, Try.ntmps9
      go_wp2_with fail
      refine (Long16_any _ r _ hr (by omega) hm).mono ?_; rw [HL.out]; rintro e w1 ⟨rfl, hB0⟩
      go_wp2_with (go_at_call 26; refine (alive16 _).mono ?_; rintro e w1 ⟨rfl, hB1⟩)
      go_ret
      exact ⟨rfl, bt hB0 hB1⟩
    · have HL := Lib.hid hL; clear hL
      have hsl := srt_length r
      have hst := texts_srt r
      rcases putP_srt r (by omega) with ⟨b, hp, hbl⟩ | hp
      · have HP := Lib.hid hp
        have HG := Lib.hid (getP_put b _ hp)
        clear hp
        have hbs : b.length ≤ 140737488355328 := by omega
        have hsl1 : (srt r).length ≤ 1000000000 := by omega
        have hst1 : (texts (tx (srt r))).length ≤ 1000000000 := by omega
        clear hsl hst hbl
        go_enter Try.func9, Try.ntmps9
        go_wp2_with fail
        refine (Long16_any _ r _ hr (by omega) hm).mono ?_; rw [HL.out]; rintro e w0 ⟨rfl, hB0⟩
        go_wp2_with fail
        refine (Sort_any _ _ r _ (Nat.le_refl _) (hr.below hB0) (by omega)).mono ?_; rintro e w1 ⟨v1, rfl, hr1, hB1⟩
        go_wp2_with fail
        refine (PutP_any _ _ _ hr1.reads hst1 hsl1).mono ?_; rw [HP.out, txV_at16]; rintro e w2 ⟨rfl, hB2⟩
        go_wp2_with fail
        refine (GetP_any b _ hbs).mono ?_; rw [HG.out]; rintro e w3 ⟨hres, hB3⟩; obtain ⟨v2, rfl, hr2⟩ := PsRes_some hres; clear hres
        have hB13 := bt hB0 (bt hB1 (bt hB2 hB3))
        have hr3 := hr.below hB13
        have hr2' := OP.reads hr2
        clear hB0 hB1 hB2 hB3 hr1 hr2
        go_wp2_with fail
        refine (Sort_any _ _ r _ (Nat.le_refl _) hr3 (by omega)).mono ?_; rintro e w4 ⟨v4, rfl, hr4, hB4⟩
        go_wp2_with fail
        refine (SameP_any _ _ _ _ _ (hr2'.below hB4) hr4.reads (by omega) (by omega)).mono ?_; rw [decide_eq_true rfl]; rintro e w5 ⟨rfl, hB5⟩
        have hB03 := bt hB13 (bt hB4 hB5)
        clear hB13 hB4 hB5 hr3 hr2' hr4
        (cases hq : getP l with | none => (have HQ := Lib.hid hq; clear hq; go_wp2_with fail; refine (GetP_any l _ hs).mono ?_; rw [HQ.out]; rintro e w4 ⟨hres, hB4⟩; obtain rfl := PsRes_none hres; clear hres; go_wp2_with fail; refine (alive16 _).mono ?_; rintro e w11 ⟨rfl, hB11⟩; go_wp2_with fail; go_ret; exact ⟨rfl, bt hB03 (bt hB4 hB11)⟩) | some q => (have hql := getP_length l q hq; have hqt := texts_of_get l q hq; have hpq := Lib.hid (putP_get l q hq); have HQ := Lib.hid hq; clear hq; go_wp2_with fail; refine (GetP_any l _ hs).mono ?_; rw [HQ.out]; rintro e w4 ⟨hres, hB4⟩; obtain ⟨v1, rfl, hr1⟩ := PsRes_some hres; clear hres; go_wp2_with fail; refine (PutP_any _ q _ (OP.reads hr1) (by omega) (by omega)).mono ?_; rw [hpq.out, txV_at16]; rintro e w5 ⟨rfl, hB5⟩; go_wp2_with fail; refine (alive16 _).mono ?_; rintro e w11 ⟨rfl, hB11⟩; go_wp2_with fail; go_ret; exact ⟨rfl, bt hB03 (bt hB4 (bt hB5 hB11))⟩))
      · have HP := Lib.hid hp
        clear hp
        have hsl1 : (srt r).length ≤ 1000000000 := by omega
        have hst1 : (texts (tx (srt r))).length ≤ 1000000000 := by omega
        clear hsl hst
        go_enter Try.func9, Try.ntmps9
        go_wp2_with fail
        refine (Long16_any _ r _ hr (by omega) hm).mono ?_; rw [HL.out]; rintro e w0 ⟨rfl, hB0⟩
        go_wp2_with fail
        refine (Sort_any _ _ r _ (Nat.le_refl _) (hr.below hB0) (by omega)).mono ?_; rintro e w1 ⟨v1, rfl, hr1, hB1⟩
        go_wp2_with fail
        refine (PutP_any _ _ _ hr1.reads hst1 hsl1).mono ?_; rw [HP.out, txV_at16]; rintro e w2 ⟨rfl, hB2⟩
        have hB03 := bt hB0 (bt hB1 hB2)
        clear hB0 hB1 hB2 hr1
        (cases hq : getP l with | none => (have HQ := Lib.hid hq; clear hq; go_wp2_with fail; refine (GetP_any l _ hs).mono ?_; rw [HQ.out]; rintro e w4 ⟨hres, hB4⟩; obtain rfl := PsRes_none hres; clear hres; go_wp2_with fail; refine (alive16 _).mono ?_; rintro e w11 ⟨rfl, hB11⟩; go_wp2_with fail; go_ret; exact ⟨rfl, bt hB03 (bt hB4 hB11)⟩) | some q => (have hql := getP_length l q hq; have hqt := texts_of_get l q hq; have hpq := Lib.hid (putP_get l q hq); have HQ := Lib.hid hq; clear hq; go_wp2_with fail; refine (GetP_any l _ hs).mono ?_; rw [HQ.out]; rintro e w4 ⟨hres, hB4⟩; obtain ⟨v1, rfl, hr1⟩ := PsRes_some hres; clear hres; go_wp2_with fail; refine (PutP_any _ q _ (OP.reads hr1) (by omega) (by omega)).mono ?_; rw [hpq.out, txV_at16]; rintro e w5 ⟨rfl, hB5⟩; go_wp2_with fail; refine (alive16 _).mono ?_; rintro e w11 ⟨rfl, hB11⟩; go_wp2_with fail; go_ret; exact ⟨rfl, bt hB03 (bt hB4 (bt hB5 hB11))⟩))
  · have HL := Lib.hid hL; clear hL
    go_enter Try.func9, Try.ntmps9
    go_wp2_with fail
    refine (Long16_any _ r _ hr (by omega) hm).mono ?_; rw [HL.out]; rintro e w1 ⟨rfl, hB0⟩
    go_wp2_with (go_at_call 26; refine (alive16 _).mono ?_; rintro e w1 ⟨rfl, hB1⟩)
    go_ret
    exact ⟨rfl, bt hB0 hB1⟩
end Go.Proofs.Ytdebgkjekcppmaa
namespace Go.Proofs.Ytdebgkjekcppmaa
open Go.RowKit Oct

/-- the lengths of rows, as cells -/
def lencells (rows : List (List PR)) : List Value := rows.map fun r => .int .i64 ((r.length : Nat) : Int)
/-- what Count gives -/
def CountRes (l : List PR) (n : Int) (base : Nat) (e : Ending) (w' : World) : Prop :=
  if mayB n then ∃ D, e = .returned (.tuple #[.slice (some ⟨D, 0, none⟩) n.toNat n.toNat, .int .i64 0]) ∧ base ≤ D ∧ Blk w' D 3 (lencells (splitP l n.toNat))
  else e = .returned (.tuple #[.slice none 0 0, .int .i64 2])
/-- .. the row while it is filled -/
def lenrow (rows : List (List PR)) (k : Nat) : List Value := lencells (rows.take k) ++ List.replicate (rows.length - k) (.int .i64 0)
theorem lenrow_length (rows : List (List PR)) (k : Nat) (h : k ≤ rows.length) : (lenrow rows k).length = rows.length := by simp [lenrow, lencells]; omega
theorem lenrow_set (rows : List (List PR)) (k : Nat) (h : k < rows.length) : (lenrow rows k).set k (.int .i64 ((rows[k].length : Nat) : Int)) = lenrow rows (k + 1) := by
  have e : rows.length - k = (rows.length - (k + 1)) + 1 := by omega
  have hl : (lencells (rows.take k)).length = k := by simp [lencells]; omega
  unfold lenrow
  rw [List.set_append_right _ _ (by rw [hl]; exact Nat.le_refl _), hl, Nat.sub_self, e, List.replicate_succ, List.set_cons_zero, List.take_succ_eq_append_getElem h]
  simp only [lencells, List.map_append, List.map_cons, List.map_nil, List.append_assoc, List.singleton_append]
theorem lenrow_all (rows : List (List PR)) : lenrow rows rows.length = lencells rows := by simp [lenrow]

set_option maxRecDepth 100000 in
set_option maxHeartbeats 4000000 in
theorem Count_any (v : Value) (l : List PR) (n : Int) (w : World) (hr : RP w v l) (hl : l.length ≤ 100000) (hm : ∀ p ∈ l, p.1.length ≤ 70368744177664) :
    Calls Try.prog 45 #[v, .int .i64 n] w fun e w' => CountRes l n w.heap.size e w' ∧ Below w.heap.size w w' := by
  obtain ⟨a, cap, rfl, _, _⟩ := hr.open
  have HRP := Lib.hid hr
  have HM := Lib.hid hm
  clear hr hm
  cases hmb : mayB n with
  | false =>
    have HS := Lib.hid (show ∀ b e w', SplitRes l n b e w' → e = .returned (.tuple #[.slice none 0 0, .int .i64 2]) from fun b e w' h => by unfold SplitRes at h; rw [hmb] at h; exact h)
    have HR := Lib.hid (show ∀ e w', e = .returned (.tuple #[.slice none 0 0, .int .i64 2]) → CountRes l n w.heap.size e w' from fun e w' h => by unfold CountRes; rw [hmb]; exact h)
    clear hmb
    go_enter Try.func45, Try.ntmps45
    go_wp2_with fail
    refine (Split_any _ l n w HRP.out hl HM.out).mono ?_
    rintro e w1 ⟨hres, hB1⟩
    obtain rfl := HS.out _ _ _ hres
    have HB1 := Lib.hid hB1
    clear hres hB1
    go_wp2_with fail
    go_ret2
    exact ⟨HR.out _ _ rfl, HB1.out⟩
  | true =>
    obtain ⟨m, rfl, h1, h2⟩ := mayB_nat hmb
    have HS := Lib.hid (show ∀ b e w', SplitRes l (m : Int) b e w' → ∃ D, e = .returned (.tuple #[.slice (some ⟨D, 0, none⟩) m m, .int .i64 0]) ∧ b ≤ D ∧ OR w' D D (splitP l m) from fun b e w' h => by unfold SplitRes at h; rw [hmb, Int.toNat_natCast] at h; exact h)
    have HR := Lib.hid (show ∀ e w', (∃ D, e = .returned (.tuple #[.slice (some ⟨D, 0, none⟩) m m, .int .i64 0]) ∧ w.heap.size ≤ D ∧ Blk w' D 3 (lencells (splitP l m))) → CountRes l (m : Int) w.heap.size e w' from fun e w' h => by unfold CountRes; rw [hmb, Int.toNat_natCast]; exact h)
    have HSL := Lib.hid (splitP_length l m)
    clear hmb
    go_enter Try.func45, Try.ntmps45
    go_wp2_with fail
    refine (Split_any _ l m w HRP.out hl HM.out).mono ?_
    rintro e w1 ⟨hres, hB1⟩
    obtain ⟨D, rfl, hD, hor⟩ := HS.out _ _ _ hres
    have hrr := hor.rr
    have HB1 := Lib.hid hB1
    obtain ⟨rows, hrows⟩ : ∃ rows, rows = splitP l m := ⟨_, rfl⟩
    rw [← hrows] at hrr HSL
    have HRW := Lib.hid hrows
    rw [HSL.out] at hrr
    have HRR := Lib.hid hrr
    have hmk := make_one (P := Try.prog) 57 3 (.int .i64 0) 8 Try.underlying57 (by kernel_rfl) rfl m (by omega) (by omega) w1
    obtain ⟨w4, hw4⟩ : ∃ w4, w4 = w1.alloc (.cells (List.replicate m (.int .i64 0)).toArray 3) := ⟨_, rfl⟩
    have hb4 : Blk w4 w1.heap.size 3 (lenrow rows 0) := by
      rw [hw4]
      have e : lenrow rows 0 = List.replicate m (.int .i64 0) := by simp [lenrow, lencells, HSL.out]
      rw [e]
      exact Blk.new _ _ _
    rw [← hw4] at hmk
    have HB4 := Lib.hid (show Below w1.heap.size w1 w4 by rw [hw4]; exact b_alloc _ _)
    have HK4 := Lib.hid hb4
    obtain ⟨E, hE⟩ : ∃ E, E = w1.heap.size := ⟨_, rfl⟩
    rw [← hE] at hmk HK4 HB4
    have HE := Lib.hid hE
    clear hres hB1 hor hrr hrows hw4 hb4 hE
    go_wp2
    clear hmk
    go_loopw [24] (fun t wx => ∃ k : Nat, k ≤ m ∧ t = .int .i64 (k : Int) ∧ Hid (Blk wx E 3 (lenrow rows k)) ∧ Hid (Below E w1 wx)) (fun t _ => m - (intOf t).toNat)
    case atStart => exact ⟨0, by omega, rfl, HK4, HB4⟩
    case round =>
      clear HK4 HB4
      obtain ⟨k, hk, rfl, HK, HB⟩ := hrel
      by_cases hkl : k < m
      · have k0 : (0 : Int) ≤ (k : Int) := by omega
        have k1 : (k : Int) < (m : Int) := by omega
        have hkr : k < rows.length := by rw [HSL.out]; exact hkl
        have HBw := Lib.hid (show Below w1.heap.size w1 wr by rw [← HE.out]; exact HB.out)
        obtain ⟨a', c', hv', _, _, hc'⟩ := HRR.out.below HBw.out
        obtain ⟨b1, o1, u, ha', du, hru⟩ := hc' k hkr
        injection hv' with e1 e2 e3
        rw [← e1] at ha'
        cases ha'
        rw [Nat.zero_add] at du
        obtain ⟨au, cu, rfl, _, _⟩ := hru.open
        obtain ⟨cv, c1⟩ := HK.out.ex (k := k) (by rw [lenrow_length _ _ (by omega)]; exact hkr)
        have f1 := HK.out.free (k := k) (by rw [lenrow_length _ _ (by omega)]; exact hkr)
        have HS2 := Lib.hid (HK.out.set k (.int .i64 ((rows[k].length : Nat) : Int)))
        have HL2 := Lib.hid (lenrow_set rows k hkr)
        have HB2 := Lib.hid (HB.out.setCell (p := ⟨E, k, none⟩) (Nat.le_refl _) (.int .i64 ((rows[k].length : Nat) : Int)))
        clear hc' hru e1 e2 e3
        go_wp2
        refine ⟨?_, by simp [intOf]; omega⟩
        have hst := HS2.out
        rw [HL2.out] at hst
        first
          | exact ⟨k + 1, by omega, by go_num, hst, HB2.out⟩
          | ((repeat apply Exists.intro); exact ⟨⟨k + 1, by omega, by go_num, hst, HB2.out⟩, rfl⟩)
      · obtain rfl : k = m := by omega
        have HF := Lib.hid (lenrow_all rows)
        go_wp2
        go_ret2
        refine ⟨HR.out _ _ ⟨E, rfl, by have := HE.out; have := HB1.out.size; omega, ?_⟩, ?_⟩
        · have := HK.out
          rw [← HSL.out, HF.out, HRW.out] at this
          exact this
        · refine HB1.out.trans (HB.out.mono ?_)
          have := HE.out; have := HB1.out.size; omega

/-- the keys' lengths -/
def klen (l : List PR) : Nat := (l.map fun p => p.1.length).sum
theorem klen_take (r : List PR) (k : Nat) (h : k < r.length) : klen (r.take (k + 1)) = klen (r.take k) + r[k].1.length := by
  rw [List.take_succ_eq_append_getElem h, klen, klen, List.map_append, List.sum_append]; simp
def large17 (l : List PR) : Bool := decide (40 < l.length) || decide (2048 < klen (l.take 100)) || long16 l
theorem klen_mem : ∀ (l : List PR) (p : PR), p ∈ l → p.1.length ≤ klen l
  | x :: l, p, h => by
    have e : klen (x :: l) = x.1.length + klen l := by simp [klen]
    rcases List.mem_cons.1 h with rfl | h
    · omega
    · have := klen_mem l p h; omega
theorem large17_le (l : List PR) (h : large17 l = false) : l.length ≤ 40 ∧ ∀ p ∈ l, p.1.length ≤ 2048 := by
  simp [large17] at h
  obtain ⟨⟨h1, h2⟩, _⟩ := h
  rw [List.take_of_length_le (by omega)] at h2
  exact ⟨h1, fun p hp => Nat.le_trans (klen_mem l p hp) h2⟩
set_option maxRecDepth 100000 in
set_option maxHeartbeats 2000000 in
theorem large17_any (v : Value) (r : List PR) (w : World) (hr : RP w v r) (hl : r.length ≤ 140737488355328) (hm : ∀ p ∈ r, p.1.length ≤ 140737488355328 ∧ p.2.length ≤ 140737488355328) :
    Calls Try.prog 40 #[v] w fun e w' => e = .returned (.bool (large17 r)) ∧ Below w.heap.size w w' := by
  obtain ⟨a, cap, rfl, _, hc⟩ := hr.open
  have HC := Lib.hid hc
  have HM := Lib.hid hm
  have HRP := Lib.hid hr
  clear hc hm hr
  go_enter Try.func40, Try.ntmps40
  go_wp2
  go_loop [3, 4] (fun n i => ∃ k x : Nat, k ≤ r.length ∧ k ≤ 100 ∧ i = .int .i64 (k : Int) ∧ n = .int .i64 (x : Int) ∧ x ≤ k * 140737488355328 ∧ Hid (x = klen (r.take k))) (fun _ i => 100 - (intOf i).toNat)
  case atStart => exact ⟨0, 0, by omega, by omega, rfl, rfl, by omega, rfl⟩
  case round =>
    obtain ⟨k, x, hk, hk2, rfl, rfl, hx, hH⟩ := hrel
    by_cases h0 : k < r.length ∧ k < 100
    · obtain ⟨h1, h2⟩ := h0
      obtain ⟨b1, o1, rfl, d1, _⟩ := HC.out k h1
      have hmk := (HM.out r[k] (List.getElem_mem h1)).1
      have HS := Lib.hid (klen_take r k h1)
      have kk0 : (0 : Int) ≤ (k : Int) := by omega
      have kk1 : (k : Int) < (r.length : Int) := by omega
      have kk2 : (k : Int) < 100 := by omega
      go_wp2
      go_round
      case rel => exact ⟨k + 1, x + r[k].1.length, by omega, by omega, by go_num, by go_num, by omega, by show _ = _; rw [HS.out, hH.out]⟩
      case measure => simp [intOf]; omega
    · have hfin : klen (r.take k) = klen (r.take 100) := by
        by_cases h1 : k < r.length
        · rw [show k = 100 by omega]
        · rw [List.take_of_length_le (by omega), List.take_of_length_le (by omega)]
      have HX := Lib.hid (show x = klen (r.take 100) by rw [← hfin]; exact hH.out)
      clear hfin hH
      have HLG := Lib.hid (show large17 r = (decide (40 < r.length) || decide (2048 < x) || long16 r) by rw [HX.out]; rfl)
      by_cases h4 : 40 < r.length
      · have c3 : (40 : Int) < (r.length : Int) := by omega
        have HL := Lib.hid (show large17 r = true by rw [HLG.out]; simp [h4])
        by_cases h1 : k < r.length
        · have c1 : (k : Int) < (r.length : Int) := by omega
          have c2 : ¬ (k : Int) < 100 := by omega
          clear h0
          go_wp2
          go_ret
          exact ⟨by rw [HL.out]; rfl, b_refl _⟩
        · have c1 : ¬ (k : Int) < (r.length : Int) := by omega
          clear h0
          go_wp2
          go_ret
          exact ⟨by rw [HL.out]; rfl, b_refl _⟩
      · have c1 : ¬ (k : Int) < (r.length : Int) := by omega
        have c3 : ¬ (40 : Int) < (r.length : Int) := by omega
        clear h0
        by_cases h5 : 2048 < x
        · have c4 : (2048 : Int) < (x : Int) := by omega
          have HL := Lib.hid (show large17 r = true by rw [HLG.out]; simp [h5])
          go_wp2
          go_ret
          exact ⟨by rw [HL.out]; rfl, b_refl _⟩
        · have c4 : ¬ (2048 : Int) < (x : Int) := by omega
          have HL := Lib.hid (show large17 r = long16 r by rw [HLG.out]; simp [h4, h5])
          go_wp2_with fail
          refine (Long16_any _ r w HRP.out hl HM.out).mono ?_
          rintro e w1 ⟨rfl, hB1⟩
          have HB1 := Lib.hid hB1
          clear hB1
          go_wp2_with fail
          go_ret
          exact ⟨by rw [HL.out]; rfl, HB1.out⟩
end Go.Proofs.Ytdebgkjekcppmaa
namespace Go.Proofs.Ytdebgkjekcppmaa
open Go.RowKit Oct

theorem lt_total {a b : List UInt8} (h : a ≠ b) : lt a b = true ∨ lt b a = true := by
  cases h1 : lt a b with
  | true => exact .inl rfl
  | false =>
    have := gt_eq a b
    rw [h1, Bool.false_or, beq_eq_false_iff_ne.2 h] at this
    exact .inr this.symm
theorem ins_nil (p : PR) : ins p [] = [p] := rfl
theorem ins_cons (p x : PR) (l : List PR) : ins p (x :: l) = if lt p.1 x.1 then p :: x :: l else x :: ins p l := rfl
theorem ins_comm (p b : PR) (h : p.1 ≠ b.1) : ∀ l : List PR, ins p (ins b l) = ins b (ins p l)
  | [] => by
    rw [ins_nil, ins_nil, ins_cons, ins_cons, ins_nil, ins_nil]
    rcases lt_total h with h1 | h1
    · rw [h1, lt_asymm' h1]; rfl
    · rw [h1, lt_asymm' h1]; rfl
  | x :: l => by
    cases hp : lt p.1 x.1 with
    | true =>
      cases hb : lt b.1 x.1 with
      | true =>
        simp only [ins_cons, hp, hb, if_true]
        rcases lt_total h with h1 | h1
        · simp [h1, lt_asymm' h1]
        · simp [h1, lt_asymm' h1]
      | false =>
        have hbp : lt b.1 p.1 = false := by
          cases h2 : lt b.1 p.1 with
          | false => rfl
          | true => rw [lt_trans' h2 hp] at hb; cases hb
        simp [ins_cons, hp, hb, hbp]
    | false =>
      cases hb : lt b.1 x.1 with
      | true =>
        have hpb : lt p.1 b.1 = false := by
          cases h2 : lt p.1 b.1 with
          | false => rfl
          | true => rw [lt_trans' h2 hb] at hp; cases hp
        simp [ins_cons, hp, hb, hpb]
      | false =>
        simp only [ins_cons, hp, hb, Bool.false_eq_true, if_false]
        rw [ins_comm p b h l]
theorem foldl_ins (p : PR) : ∀ (B o : List PR), (∀ b ∈ B, p.1 ≠ b.1) → B.foldl (fun o p => ins p o) (ins p o) = ins p (B.foldl (fun o p => ins p o) o)
  | [], o, _ => rfl
  | b :: B, o, h => by
    simp only [List.foldl_cons]
    rw [← ins_comm p b (h b (by simp)), foldl_ins p B _ fun x hx => h x (by simp [hx])]
theorem srt_mid (A B : List PR) (p : PR) (h : ∀ b ∈ B, p.1 ≠ b.1) : srt (A ++ p :: B) = srt (A ++ B ++ [p]) := by
  rw [srt_snoc]
  unfold srt
  rw [List.foldl_append, List.foldl_cons, foldl_ins p B _ h, List.foldl_append]
theorem splitP_mem {l : List PR} {n i : Nat} {p : PR} (h : i < n) : p ∈ (splitP l n)[i]'(by rw [splitP_length]; exact h) ↔ p ∈ l ∧ partF p.1 n = i := by
  rw [splitP_get _ _ _ h, List.mem_filter]; simp
theorem flat_set (rows : List (List PR)) (k : Nat) (h : k < rows.length) (p : PR) : (rows.set k (rows[k] ++ [p])).flatten = (rows.take (k + 1)).flatten ++ p :: (rows.drop (k + 1)).flatten := by
  rw [List.set_eq_take_append_cons_drop, if_pos h, List.flatten_append, List.flatten_cons, List.take_succ_eq_append_getElem h, List.flatten_append]
  simp
theorem srt_split (n : Nat) (hn : 1 ≤ n) (l : List PR) : srt (splitP l n).flatten = srt l := by
  obtain ⟨m, hm⟩ : ∃ m, m = l.length := ⟨_, rfl⟩
  induction m generalizing l with
  | zero =>
    obtain rfl : l = [] := List.eq_nil_of_length_eq_zero hm.symm
    have : (splitP [] n).flatten = [] := by
      rw [List.flatten_eq_nil_iff]
      intro x hx
      simp [splitP] at hx
      obtain ⟨_, _, rfl⟩ := hx
      rfl
    rw [this]
  | succ m ih =>
    have hne : l ≠ [] := by rintro rfl; simp at hm
    obtain ⟨q, p, rfl⟩ : ∃ q p, l = q ++ [p] := ⟨l.dropLast, l.getLast hne, (List.dropLast_concat_getLast hne).symm⟩
    have hat := partF_lt p.1 n hn
    have hkl : partF p.1 n < (splitP q n).length := by rw [splitP_length]; exact hat
    rw [splitP_snoc q p n _ rfl hat, flat_set _ _ hkl, srt_mid]
    · rw [← List.flatten_append, List.take_append_drop, srt_snoc, ih q (by simp at hm; omega), ← srt_snoc]
    · intro b hb e
      rw [List.mem_flatten] at hb
      obtain ⟨r, hr, hb⟩ := hb
      obtain ⟨j, hj, rfl⟩ := List.getElem_of_mem hr
      rw [List.getElem_drop] at hb
      have hjn : partF p.1 n + 1 + j < n := by rw [List.length_drop, splitP_length] at hj; omega
      have := ((splitP_mem hjn).1 hb).2
      rw [← e] at this
      omega
theorem okJ_split (l : List PR) (n : Nat) : okJ (splitP l n) = true := by
  rw [okJ_iff]
  intro i h p hp
  have hn : i < n := by rw [splitP_length] at h; exact h
  rw [splitP_length]
  exact ((splitP_mem hn).1 hp).2
theorem sorted_filter (q : PR → Bool) : ∀ l : List PR, sorted l = true → sorted (l.filter q) = true
  | [], _ => rfl
  | x :: l, h => by
    obtain ⟨h1, h2⟩ := sorted_cons.1 h
    have ih := sorted_filter q l h2
    rw [List.filter_cons]
    split
    · exact sorted_cons.2 ⟨fun y hy => h1 y (List.mem_filter.1 hy).1, ih⟩
    · exact ih
theorem split_flat_len (l : List PR) (n : Nat) (hn : 1 ≤ n) : (splitP l n).flatten.length = l.length := by
  have := congrArg List.length (srt_split n hn l)
  rwa [srt_length, srt_length] at this
theorem split_again (l : List PR) (n i : Nat) (h : i < n) : splitP ((splitP l n)[i]'(by rw [splitP_length]; exact h)) n = (List.range n).map fun j => if j = i then (splitP l n)[i]'(by rw [splitP_length]; exact h) else [] := by
  apply List.ext_getElem
  · simp [splitP]
  · intro j h1 h2
    have hj : j < n := by rw [splitP_length] at h1; exact h1
    rw [splitP_get _ _ _ hj]
    simp only [splitP_get _ _ _ h, List.getElem_map, List.getElem_range]
    rw [List.filter_filter]
    by_cases hij : j = i
    · subst hij
      simp
    · rw [if_neg hij, List.filter_eq_nil_iff]
      intro p _ hp
      simp at hp
      omega
theorem split_append (a b : List PR) (n i : Nat) (h : i < n) : (splitP (a ++ b) n)[i]'(by rw [splitP_length]; exact h) = (splitP a n)[i]'(by rw [splitP_length]; exact h) ++ (splitP b n)[i]'(by rw [splitP_length]; exact h) := by
  simp only [splitP_get _ _ _ h, List.filter_append]
end Go.Proofs.Ytdebgkjekcppmaa
namespace Go.Proofs.Ytdebgkjekcppmaa
open Go.RowKit Oct

theorem filt_take (q : PR → Bool) (l : List PR) (i : Nat) (h : i < l.length) : (l.take (i + 1)).filter q = (l.take i).filter q ++ (if q l[i] then [l[i]] else []) := by
  rw [List.take_succ_eq_append_getElem h, List.filter_append]
  congr 1
  rw [List.filter_cons, List.filter_nil]
theorem filt_at (q : PR → Bool) (l : List PR) (i : Nat) (h : i < l.length) (hq : q l[i] = true) (hb : ((l.take i).filter q).length < (l.filter q).length) : (l.filter q)[((l.take i).filter q).length]'hb = l[i] := by
  have e : l.filter q = (l.take i).filter q ++ l[i] :: (l.drop (i + 1)).filter q := by
    conv => lhs; rw [← List.take_append_drop i l, List.filter_append, List.drop_eq_getElem_cons h, List.filter_cons, if_pos hq]
  simp only [e]
  rw [List.getElem_append_right (Nat.le_refl _)]
  simp
set_option maxRecDepth 100000 in
set_option maxHeartbeats 2000000 in
theorem inOrder_any (va vl : Value) (q : PR → Bool) (l : List PR) (w : World) (ha : RP w va (l.filter q)) (hl : RP w vl l) (hn : l.length ≤ 100000) :
    Calls Try.prog 53 #[va, vl] w fun e w' => e = .returned (.bool true) ∧ Below w.heap.size w w' := by
  obtain ⟨aa, ca, rfl, _, hca⟩ := ha.open
  obtain ⟨al, cl, rfl, _, hcl⟩ := hl.open
  have HCA := Lib.hid hca
  have HCL := Lib.hid hcl
  obtain ⟨f, hf⟩ : ∃ f, f = l.filter q := ⟨_, rfl⟩
  have HFL := Lib.hid (show f.length ≤ 100000 by rw [hf]; exact Nat.le_trans (List.length_filter_le _ _) hn)
  rw [← hf] at HCA ⊢
  have HF := Lib.hid hf
  have hfl := HFL.out
  clear ha hl hca hcl hf
  go_enter Try.func53, Try.ntmps53
  go_wp2
  go_loopw [5, 6] (fun kk ii wx => ∃ k i : Nat, i ≤ l.length ∧ k ≤ f.length ∧ kk = .int .i64 (k : Int) ∧ ii = .int .i64 (i : Int) ∧ Hid (((l.take i).filter q).length ≤ k) ∧ Hid (Below w.heap.size w wx)) (fun _ ii _ => l.length - (intOf ii).toNat)
  case atStart => exact ⟨0, 0, by omega, by omega, rfl, rfl, by simp [Hid], b_refl _⟩
  case round =>
    obtain ⟨k, i, hi, hk, rfl, rfl, HK, HB⟩ := hrel
    by_cases h0 : i < l.length ∧ k < f.length
    · obtain ⟨h1, h2⟩ := h0
      have i0 : (0 : Int) ≤ (i : Int) := by omega
      have i1 : (i : Int) < (l.length : Int) := by omega
      have k0 : (0 : Int) ≤ (k : Int) := by omega
      have k1 : (k : Int) < (f.length : Int) := by omega
      obtain ⟨b1, o1, rfl, d1, d2⟩ := HCL.out i h1
      obtain ⟨b2, o2, rfl, d3, d4⟩ := HCA.out k h2
      replace d1 := Below.keeps HB.out d1
      replace d2 := Below.keeps HB.out d2
      replace d3 := Below.keeps HB.out d3
      replace d4 := Below.keeps HB.out d4
      have HT := Lib.hid (filt_take q l i h1)
      by_cases he : l[i] = f[k]
      · have he2 : (l[i].1 == f[k].1) = true := by simp [he]
        have he3 : (l[i].2 == f[k].2) = true := by simp [he]
        have HN := Lib.hid (show ((l.take (i + 1)).filter q).length ≤ k + 1 by
          rw [HT.out, List.length_append]
          have := HK.out
          split <;> simp <;> omega)
        clear he
        go_wp2
        go_quiet (fail)
        go_wp2
        refine ⟨?_, by simp [intOf]; omega⟩
        first
          | exact ⟨k + 1, i + 1, by omega, by omega, by go_num, by go_num, HN.out, bt HB.out (Below.drewN' _ _)⟩
          | ((repeat apply Exists.intro); exact ⟨⟨k + 1, i + 1, by omega, by omega, by go_num, by go_num, HN.out, bt HB.out (Below.drewN' _ _)⟩, rfl⟩)
      · have HN := Lib.hid (show ((l.take (i + 1)).filter q).length ≤ k by
          rw [HT.out, List.length_append]
          have := HK.out
          cases hq : q l[i] with
          | false => simp; omega
          | true =>
            simp only [if_true, List.length_singleton]
            by_cases hkk : ((l.take i).filter q).length = k
            · exfalso
              apply he
              have h3 : ((l.take i).filter q).length < (l.filter q).length := by rw [hkk, ← HF.out]; exact h2
              have := filt_at q l i h1 hq h3
              rw [← this]
              simp only [HF.out]
              congr 1
            · omega)
        have he4 := pr_eq l[i] f[k]
        rw [decide_eq_false he] at he4
        clear he
        cases he2 : (l[i].1 == f[k].1)
        · clear he4
          go_wp2
          go_quiet (fail)
          go_wp2
          refine ⟨?_, by simp [intOf]; omega⟩
          first
            | exact ⟨k, i + 1, by omega, by omega, by go_num, by go_num, HN.out, bt HB.out (Below.drewN' _ _)⟩
            | ((repeat apply Exists.intro); exact ⟨⟨k, i + 1, by omega, by omega, by go_num, by go_num, HN.out, bt HB.out (Below.drewN' _ _)⟩, rfl⟩)
        · rw [he2, Bool.true_and] at he4
          go_wp2
          go_quiet (fail)
          go_wp2
          refine ⟨?_, by simp [intOf]; omega⟩
          first
            | exact ⟨k, i + 1, by omega, by omega, by go_num, by go_num, HN.out, bt HB.out (Below.drewN' _ _)⟩
            | ((repeat apply Exists.intro); exact ⟨⟨k, i + 1, by omega, by omega, by go_num, by go_num, HN.out, bt HB.out (Below.drewN' _ _)⟩, rfl⟩)
    · have hkf : k = f.length := by
        by_cases h2 : k < f.length
        · have hil : i = l.length := by omega
          have := HK.out
          rw [hil, List.take_length, ← HF.out] at this
          omega
        · omega
      subst hkf
      by_cases h1 : i < l.length
      · have c1 : (i : Int) < (l.length : Int) := by omega
        clear h0
        go_wp2
        go_ret
        exact ⟨rfl, HB.out⟩
      · have c1 : ¬ (i : Int) < (l.length : Int) := by omega
        clear h0
        go_wp2
        go_ret
        exact ⟨rfl, HB.out⟩

theorem RR.pair2 {w : World} {v1 v2 : Value} {l1 l2 : List PR} (e : TypeId) (h1 : RP w v1 l1) (h2 : RP w v2 l2) : RR (w.alloc (.cells #[v1, v2] e)) (.slice (some ⟨w.heap.size, 0, none⟩) 2 2) [l1, l2] := by
  refine ⟨_, _, rfl, Nat.le_refl _, (by simp), ?_⟩
  intro k hk
  match k, hk with
  | 0, _ => exact ⟨_, _, _, rfl, by rw [World.cell?_alloc_new]; rfl, h1.below (b_alloc _ _)⟩
  | 1, _ => exact ⟨_, _, _, rfl, by rw [World.cell?_alloc_new]; rfl, h2.below (b_alloc _ _)⟩
def L17 : List PR := [([97], [49]), ([98], [50])]
theorem a17_of : ofV [97] 1 = .tuple #[.int .i64 0, .int .i64 0] := by
  have : partF [97] 1 = 0 := Nat.mod_one _
  simp [ofV, mayB, this]
theorem a17_of2 : ofV [97] 17 = .tuple #[.int .i64 0, .int .i64 2] := by simp [ofV, mayB]
theorem a17_ok : okJ [L17, L17] = false := by decide +kernel
theorem a17_srt : srt (splitP L17 2).flatten = L17 := by rw [srt_split 2 (by decide)]; decide

set_option maxRecDepth 100000 in
set_option maxHeartbeats 4000000 in
theorem alive17 (w : World) : Calls Try.prog 42 #[] w fun e w' => e = .returned (.bool true) ∧ Below w.heap.size w w' := by
  have HS := Lib.hid (show ∀ b e w', SplitRes L17 2 b e w' → ∃ D, e = .returned (.tuple #[.slice (some ⟨D, 0, none⟩) 2 2, .int .i64 0]) ∧ b ≤ D ∧ OR w' D D (splitP L17 2) from fun b e w' h => h)
  have HJ := Lib.hid (show ∀ b e w', JoinRes (splitP L17 2) b e w' → ∃ v, e = .returned (.tuple #[v, .int .i64 0]) ∧ OP w' b v L17 from fun b e w' h => by
    unfold JoinRes at h
    rw [splitP_length, okJ_split, a17_srt] at h
    exact h)
  have HJ2 := Lib.hid (show ∀ b e w', JoinRes [L17, L17] b e w' → e = .returned (.tuple #[.slice none 0 0, .int .i64 2]) from fun b e w' h => by
    unfold JoinRes at h
    rw [a17_ok, Bool.and_false] at h
    exact h)
  go_enter Try.func42, Try.ntmps42
  go_wp2_with fail
  refine (OfP_any [97] 1 w (by decide)).mono ?_
  rw [a17_of]
  rintro e w1 ⟨rfl, hB1⟩
  have HB1 := Lib.hid hB1
  clear hB1
  go_wp2_with fail
  refine (OfP_any [97] 17 w1 (by decide)).mono ?_
  rw [a17_of2]
  rintro e w2 ⟨rfl, hB2⟩
  have HB2 := Lib.hid (bt HB1.out hB2)
  clear hB2
  go_wp2_with fail
  obtain ⟨w3, hw3⟩ : ∃ w3, w3 = w2.alloc (.cells #[.string ⟨#[97]⟩, .string ⟨#[49]⟩, .string ⟨#[98]⟩, .string ⟨#[50]⟩] 52) := ⟨_, rfl⟩
  have hrp : RP w3 (.slice (some ⟨w2.heap.size, 0, none⟩) 2 2) L17 := by rw [hw3]; exact RP.new w2 L17 _
  have HB3 := Lib.hid (show Below w.heap.size w w3 by rw [hw3]; exact bt HB2.out (b_alloc _ _))
  rw [← hw3]
  obtain ⟨D2, hD2⟩ : ∃ D2, D2 = w2.heap.size := ⟨_, rfl⟩
  rw [← hD2] at hrp ⊢
  have HRP := Lib.hid hrp
  clear hw3 hrp hD2
  have hk17 : ∀ p ∈ L17, p.1.length ≤ 70368744177664 := by
    intro p hp
    have : p.1.length = 1 := by simp [L17] at hp; rcases hp with rfl | rfl <;> rfl
    omega
  refine (Split_any _ L17 2 w3 HRP.out (by decide) hk17).mono ?_
  rintro e w4 ⟨hres, hB4⟩
  obtain ⟨D, rfl, hD, hor⟩ := HS.out _ _ _ hres
  have HRR := Lib.hid (show RR w4 (.slice (some ⟨D, 0, none⟩) 2 2) (splitP L17 2) from hor.rr)
  have HRP4 := Lib.hid (HRP.out.below hB4)
  have HB4 := Lib.hid (bt HB3.out hB4)
  clear hres hor hB4
  have hks : ∀ l ∈ splitP L17 2, ∀ p ∈ l, p.1.length ≤ 70368744177664 := by
    intro l hl p hp
    obtain ⟨i, hi, rfl⟩ := List.getElem_of_mem hl
    have hi2 : i < 2 := by rw [splitP_length] at hi; exact hi
    exact hk17 p ((splitP_mem hi2).1 hp).1
  have hfl : (splitP L17 2).flatten.length ≤ 1000000 := by rw [split_flat_len _ _ (by decide)]; decide
  have hsl : (splitP L17 2).length ≤ 1000000 := by rw [splitP_length]; decide
  have hJ := Join_any _ (splitP L17 2) w4 HRR.out hsl hfl hks
  have HJN := Lib.hid hJ
  have HK17 := Lib.hid hk17
  clear hks hfl hsl hJ hk17
  go_wp2_with fail
  refine HJN.out.mono ?_
  rintro e w5 ⟨hres, hB5⟩
  obtain ⟨vj, rfl, hown⟩ := HJ.out _ _ _ hres
  obtain ⟨aj, cj, rfl⟩ := owns_slice hown
  have HJR := Lib.hid hown.reads
  have HRP5 := Lib.hid (HRP4.out.below hB5)
  have HB5 := Lib.hid (bt HB4.out hB5)
  clear hres hown hB5
  go_wp2_with fail
  obtain ⟨w6, hw6⟩ : ∃ w6, w6 = w5.alloc (.cells #[.slice (some ⟨D2, 0, none⟩) 2 2, .slice (some ⟨D2, 0, none⟩) 2 2] 35) := ⟨_, rfl⟩
  have hrr6 : RR w6 (.slice (some ⟨w5.heap.size, 0, none⟩) 2 2) [L17, L17] := by rw [hw6]; exact RR.pair2 _ HRP5.out HRP5.out
  have hb6 : Below w5.heap.size w5 w6 := by rw [hw6]; exact b_alloc _ _
  rw [← hw6]
  have HJR6 := Lib.hid (HJR.out.below hb6)
  have HRP6 := Lib.hid (HRP5.out.below hb6)
  have HB6 := Lib.hid (bt HB5.out hb6)
  have hJ2 := Join_any _ [L17, L17] w6 hrr6 (by decide) (by decide) (by
    intro l hl p hp
    have : l = L17 := by simpa using hl
    subst this
    exact HK17.out p hp)
  have HJN2 := Lib.hid hJ2
  clear hw6 hb6 hrr6 hJ2
  refine HJN2.out.mono ?_
  rintro e w7 ⟨hres, hB7⟩
  obtain rfl := HJ2.out _ _ _ hres
  have HJR7 := Lib.hid (HJR6.out.below hB7)
  have HRP7 := Lib.hid (HRP6.out.below hB7)
  have HB7 := Lib.hid (bt HB6.out hB7)
  clear hres hB7
  go_wp2_with fail
  refine (rSameP_any _ _ L17 L17 w7 HJR7.out HRP7.out (by decide) (by decide)).mono ?_
  rw [decide_eq_true rfl]
  rintro e w8 ⟨rfl, hB8⟩
  have HB8 := Lib.hid (bt HB7.out hB8)
  clear hB8
  go_wp2_with fail
  go_ret
  exact ⟨rfl, HB8.out⟩
end Go.Proofs.Ytdebgkjekcppmaa
namespace Go.Proofs.Ytdebgkjekcppmaa
open Go.RowKit Oct

/-- how many pairs at the head have this key -/
def run1 (k : List UInt8) : List PR → Nat
  | [] => 0
  | p :: l => if p.1 = k then run1 k l + 1 else 0
theorem run1_le (k : List UInt8) : ∀ l, run1 k l ≤ l.length
  | [] => Nat.le_refl _
  | p :: l => by have := run1_le k l; unfold run1; split <;> simp; omega
/-- the first group's length -/
def head1 : List PR → Nat
  | [] => 0
  | p :: l => run1 p.1 l + 1
theorem head1_pos (l : List PR) (h : 0 < l.length) : 1 ≤ head1 l ∧ head1 l ≤ l.length := by
  cases l with
  | nil => simp at h
  | cons p l => have := run1_le p.1 l; simp only [head1, List.length_cons]; omega
theorem head1_in (l : List PR) (h : 0 < l.length) (k : Nat) (hk : k < head1 l) (hl : k < l.length) : l[k].1 = l[0].1 := by
  cases l with
  | nil => simp at h
  | cons p l =>
    have key : ∀ (l : List PR) (k : Nat) (hl : k < l.length), k < run1 p.1 l → l[k].1 = p.1 := by
      intro l
      induction l with
      | nil => intro k hl; simp at hl
      | cons q l ih =>
        intro k hl hk
        unfold run1 at hk
        split at hk
        · cases k with
          | zero => assumption
          | succ k => exact ih k (by simpa using hl) (by omega)
        · omega
    cases k with
    | zero => rfl
    | succ k => exact key l k (by simpa using hl) (by simpa [head1] using hk)
theorem head1_out (l : List PR) (h : 0 < l.length) (hl : head1 l < l.length) : l[head1 l].1 ≠ l[0].1 := by
  cases l with
  | nil => simp at h
  | cons p l =>
    have key : ∀ (l : List PR) (hl : run1 p.1 l < l.length), l[run1 p.1 l].1 ≠ p.1 := by
      intro l
      induction l with
      | nil => intro hl; simp at hl
      | cons q l ih =>
        intro hl
        by_cases hq : q.1 = p.1
        · have e : run1 p.1 (q :: l) = run1 p.1 l + 1 := if_pos hq
          simp only [e, List.getElem_cons_succ]
          exact ih (by rw [e] at hl; simpa using hl)
        · have e : run1 p.1 (q :: l) = 0 := if_neg hq
          simp only [e, List.getElem_cons_zero]
          exact hq
    simp only [head1, List.getElem_cons_succ, List.getElem_cons_zero]
    exact key l (by simpa [head1] using hl)
/-- it is the one number of its kind -/
theorem head1_eq (l : List PR) (h : 0 < l.length) (k : Nat) (h1 : 1 ≤ k) (hl : k ≤ l.length) (hin : ∀ j (hj : j < k), l[j].1 = l[0].1) (hout : ∀ (hk : k < l.length), l[k].1 ≠ l[0].1) : k = head1 l := by
  have hp := head1_pos l h
  rcases Nat.lt_trichotomy k (head1 l) with hlt | he | hgt
  · exact absurd (head1_in l h k hlt (by omega)) (hout (by omega))
  · exact he
  · exact absurd (hin (head1 l) hgt) (head1_out l h (by omega))
def grpF : Nat → List PR → List (List PR)
  | 0, _ => []
  | n + 1, l => if l.length = 0 then [] else l.take (head1 l) :: grpF n (l.drop (head1 l))
/-- the groups -/
def grp (l : List PR) : List (List PR) := grpF l.length l
theorem grpF_more : ∀ (n m : Nat) (l : List PR), l.length ≤ n → l.length ≤ m → grpF n l = grpF m l
  | 0, 0, _, _, _ => rfl
  | 0, m + 1, l, h, _ => by simp [grpF, show l.length = 0 by omega]
  | n + 1, 0, l, _, h => by simp [grpF, show l.length = 0 by omega]
  | n + 1, m + 1, l, h, h' => by
    unfold grpF
    split
    · rfl
    · have := head1_pos l (by omega)
      rw [grpF_more n m _ (by simp; omega) (by simp; omega)]
theorem grp_nil : grp [] = [] := rfl
theorem grp_step (l : List PR) (h : 0 < l.length) : grp l = l.take (head1 l) :: grp (l.drop (head1 l)) := by
  have hp := head1_pos l h
  obtain ⟨n, hn⟩ : ∃ n, l.length = n + 1 := ⟨l.length - 1, by omega⟩
  unfold grp
  rw [hn, grpF, if_neg (by omega)]
  congr 1
  exact grpF_more _ _ _ (by simp; omega) (by simp)
theorem grp_length_le : ∀ (n : Nat) (l : List PR), l.length ≤ n → (grp l).length ≤ l.length
  | 0, l, h => by
    have : l = [] := List.eq_nil_of_length_eq_zero (by omega)
    subst this; simp [grp_nil]
  | n + 1, l, h => by
    by_cases h0 : 0 < l.length
    · have hp := head1_pos l h0
      rw [grp_step l h0]
      have := grp_length_le n (l.drop (head1 l)) (by simp; omega)
      simp at this ⊢; omega
    · have : l = [] := List.eq_nil_of_length_eq_zero (by omega)
      subst this; simp [grp_nil]
theorem grp_flat : ∀ (n : Nat) (l : List PR), l.length ≤ n → (grp l).flatten = l
  | 0, l, h => by
    have : l = [] := List.eq_nil_of_length_eq_zero (by omega)
    subst this; rfl
  | n + 1, l, h => by
    by_cases h0 : 0 < l.length
    · have hp := head1_pos l h0
      rw [grp_step l h0, List.flatten_cons, grp_flat n _ (by simp; omega), List.take_append_drop]
    · have : l = [] := List.eq_nil_of_length_eq_zero (by omega)
      subst this; rfl
theorem grp_ne : ∀ (n : Nat) (l : List PR), l.length ≤ n → ∀ g ∈ grp l, 0 < g.length
  | 0, l, h => by
    have : l = [] := List.eq_nil_of_length_eq_zero (by omega)
    subst this; simp [grp_nil]
  | n + 1, l, h => by
    by_cases h0 : 0 < l.length
    · have hp := head1_pos l h0
      rw [grp_step l h0]
      intro g hg
      rcases List.mem_cons.1 hg with rfl | hg
      · simp; omega
      · exact grp_ne n _ (by simp; omega) g hg
    · have : l = [] := List.eq_nil_of_length_eq_zero (by omega)
      subst this; simp [grp_nil]
end Go.Proofs.Ytdebgkjekcppmaa
namespace Go.Proofs.Ytdebgkjekcppmaa
open Go.RowKit Oct
attribute [local go_sem] Oper.semAt_some

theorem add_block (a : Addr) (i : Nat) : (a.add i).block = a.block := by unfold Addr.add; split <;> rfl
theorem RP.move {w w' : World} {a : Option Addr} {n c : Nat} {l : List PR} (h : RP w (.slice a n c) l) (hk : ∀ ad, a = some ad → w'.heap[ad.block]? = w.heap[ad.block]?) : RP w' (.slice a n c) l := by
  obtain ⟨⟨a', cap, hv, hn, hc⟩, h2⟩ := h
  injection hv with e1 e2 e3
  subst e1 e3
  refine ⟨⟨a, c, by rw [e2], hn, fun j u hj => ?_⟩, h2⟩
  obtain ⟨b, off, ha, hu⟩ := hc j u hj
  have e : w'.cell? ⟨b, off + j, none⟩ = w.cell? ⟨b, off + j, none⟩ := World.cell?_of_block (w := w) (a := ⟨b, off + j, none⟩) (hk ⟨b, off, none⟩ ha)
  exact ⟨b, off, ha, e.trans hu⟩
theorem RP.cutRunB {w : World} {a : Option Addr} {cap : Nat} {l : List PR} (h : RP w (.slice a l.length cap) l) (k : Nat) (hk : k ≤ l.length) :
    ∃ A C, (∀ wx, (Instr.slice 35 (.slice a l.length cap) (some (.int .i64 (k : Int))) none none).run Try.prog wx = .ok (.slice A (l.length - k) C) wx) ∧ RP w (.slice A (l.length - k) C) (l.drop k) ∧ (∀ ad, A = some ad → ∃ ad0, a = some ad0 ∧ ad.block = ad0.block) := by
  refine ⟨_, _, fun wx => ?_, h.cut k hk, ?_⟩
  · rw [run_slice_l wx 35 a l.length cap (by kernel_rfl) .i64 k (by omega) (by omega)]
    have he : (sizeOf (Try.prog.elem 35)).run Try.prog wx = .ok 2 wx := by kernel_rfl
    rw [he]
    simp [Result.andThen, sliced]
  · intro ad hA
    split at hA
    · exact ⟨ad, hA, rfl⟩
    · obtain ⟨ad0, h1, h2⟩ := Option.map_eq_some_iff.1 hA
      exact ⟨ad0, h1, by rw [← h2, add_block]⟩
/-- s[:k:k], run -/
theorem RP.fullRun {w : World} {a : Option Addr} {cap : Nat} {l : List PR} (h : RP w (.slice a l.length cap) l) (k : Nat) (h1 : 1 ≤ k) (hk : k ≤ l.length) :
    ∃ A, (∀ wx, (Instr.slice 35 (.slice a l.length cap) none (some (.int .i64 (k : Int))) (some (.int .i64 (k : Int)))).run Try.prog wx = .ok (.slice A k k) wx) ∧ RP w (.slice A k k) (l.take k) ∧ (∀ ad, A = some ad → ∃ ad0, a = some ad0 ∧ ad.block = ad0.block) := by
  have hx := RP.head h k hk
  obtain ⟨_, a', cap', hv, hle⟩ := id h
  injection hv with _ _ h3
  subst h3
  refine ⟨a.map (·.add (0 * 2)), fun wx => ?_, ?_, fun ad hA => by obtain ⟨ad0, h1, h2⟩ := Option.map_eq_some_iff.1 hA; exact ⟨ad0, h1, by rw [← h2, add_block]⟩⟩
  · rw [run_slice_hm wx 35 a l.length cap (by kernel_rfl) .i64 .i64 k k (by omega) (by omega) (by omega)]
    have he : (sizeOf (Try.prog.elem 35)).run Try.prog wx = .ok 2 wx := by kernel_rfl
    rw [he]
    simp [Result.andThen, sliced, show k ≠ 0 by omega]
  · have hlen : (l.take k).length = k := by simp; omega
    unfold sliced at hx
    rw [if_neg (by omega)] at hx
    obtain ⟨⟨a1, c1, hv1, hn1, hc1⟩, _⟩ := hx
    injection hv1 with e1 e2 e3
    refine ⟨⟨_, k, by rw [hlen], ?_, ?_⟩, _, k, by rw [hlen], by rw [hlen]; exact Nat.le_refl _⟩
    · intro hnone
      rw [e1] at hnone
      have := hn1 hnone
      omega
    · rw [e1]; exact hc1

/-- what an iterator over groups hands out -/
def ElP (Yr : Nat → Prop) (x : List PR) (vs : Array Value) (U : World) : Prop := ∃ A C, vs = #[.slice A x.length C] ∧ RP U (.slice A x.length C) x ∧ ∀ ad, A = some ad → Yr ad.block
/-- a slice's length, in a cell -/
def mlen : Option Value → Nat
  | some (.slice _ n _) => n
  | _ => 0

theorem one_in (q : List PR) : Hid (∀ j (hj : j < 1) (h : j < q.length), q[j].1 = q[0].1) := by
  intro j hj h
  obtain rfl : j = 0 := by omega
  rfl
theorem grp_rel {B k n : Nat} {q r : List PR} {dn : List (List PR)} {Yr : Nat → Prop} {J : List (List PR) → World → Prop} {W6 W7 : World} {Ac : Option Addr} {Cc : Nat} (hc : Chg (fun k => ¬ (k = B ∨ Yr k)) W6 W7)
    (hB : W6.heap[B]? = some (.cells #[.slice Ac (q.length - k) Cc] 35 (0, 0))) (hR : RP W6 (.slice Ac (q.length - k) Cc) (q.drop k)) (hb : ∀ ad, Ac = some ad → Yr ad.block) (hG : grp r = (dn ++ [q.take k]) ++ grp (q.drop k)) (hJ : J (dn ++ [q.take k]) W7) (hq : q.length ≤ n) (hk : k ≤ q.length) :
    ∃ (q : List PR) (A : Option Addr) (C : Nat) (dn : List (List PR)), q.length ≤ n ∧ Hid (W7.heap[B]? = some (.cells #[.slice A q.length C] 35 (0, 0))) ∧ Hid (RP W7 (.slice A q.length C) q) ∧ Hid (∀ ad, A = some ad → Yr ad.block) ∧ Hid (grp r = dn ++ grp q) ∧ Hid (J dn W7) := by
  have hl : (q.drop k).length = q.length - k := by simp
  refine ⟨q.drop k, Ac, Cc, dn ++ [q.take k], by omega, ?_, ?_, hb, hG, hJ⟩
  · rw [hl]; exact hc.at hB fun h => h (.inl rfl)
  · rw [hl]
    by_cases h0 : (q.drop k).length = 0
    · obtain ⟨⟨a', cap, hv, hn, hcc⟩, h2⟩ := hR
      refine ⟨⟨a', cap, hv, hn, fun j u hj => ?_⟩, h2⟩
      have : q.drop k = [] := List.eq_nil_of_length_eq_zero h0
      rw [this] at hj
      simp [pcells] at hj
    · refine hR.move fun ad had => ?_
      rw [← hl] at hR
      obtain ⟨a', cap', hv, _, hcc⟩ := hR.open
      injection hv with e1 _ _
      subst e1
      obtain ⟨b, off, hab, hu, _⟩ := hcc 0 (by omega)
      rw [had] at hab
      cases hab
      exact hc.block b (lt_of_cell hu) fun h => h (.inr (hb _ had))
theorem grp_left {B m : Nat} {Yr : Nat → Prop} {W6 W7 : World} {Ac : Option Addr} {Cc : Nat} (hc : Chg (fun k => ¬ (k = B ∨ Yr k)) W6 W7) (hB : W6.heap[B]? = some (.cells #[.slice Ac m Cc] 35 (0, 0))) : mlen (W7.cell? ⟨B, 0, none⟩) = m := by
  rw [cell_of_one (hc.at hB fun h => h (.inl rfl))]; rfl
theorem take_len {α : Type} {q : List α} {k : Nat} (h : k ≤ q.length) : (q.take k).length = k := by simp [Nat.min_eq_left h]
theorem grp_at6 {B k nq : Nat} {q r : List PR} {dn : List (List PR)} {Yr : Nat → Prop} {W0 wr : World} {A Ac Af : Option Addr} {C Cc : Nat} (hB : W0.heap[B]? = some (.cells #[.slice A q.length C] 35 (0, 0))) (hbel : Below W0.heap.size W0 wr)
    (hRF : RP W0 (.slice Af k k) (q.take k)) (hRC : RP W0 (.slice Ac (q.length - k) Cc) (q.drop k)) (hbF : ∀ ad, Af = some ad → Yr ad.block) (hbC : ∀ ad, Ac = some ad → Yr ad.block) (hYB : ¬ Yr B) (hG : grp r = dn ++ grp q) (hk : k = head1 q) (h0 : 0 < q.length) :
    ((wr.drewN nq).setCell ⟨B, 0, none⟩ (.slice Ac (q.length - k) Cc)).heap[B]? = some (.cells #[.slice Ac (q.length - k) Cc] 35 (0, 0)) ∧ Chg (fun k => k = B) W0 ((wr.drewN nq).setCell ⟨B, 0, none⟩ (.slice Ac (q.length - k) Cc)) ∧
      RP ((wr.drewN nq).setCell ⟨B, 0, none⟩ (.slice Ac (q.length - k) Cc)) (.slice Af k k) (q.take k) ∧ RP ((wr.drewN nq).setCell ⟨B, 0, none⟩ (.slice Ac (q.length - k) Cc)) (.slice Ac (q.length - k) Cc) (q.drop k) ∧
      (dn ++ [q.take k] <+: grp r) ∧ grp r = (dn ++ [q.take k]) ++ grp (q.drop k) := by
  have hlt := (Array.getElem?_eq_some_iff.1 hB).1
  have hc : Chg (fun k => k = B) W0 ((wr.drewN nq).setCell ⟨B, 0, none⟩ (.slice Ac (q.length - k) Cc)) :=
    (Chg.of_below (bt hbel (Below.drewN' wr nq))).trans (Chg.setCell _ _ _ rfl)
  have hg : grp r = (dn ++ [q.take k]) ++ grp (q.drop k) := by rw [hG, grp_step q h0, ← hk]; simp
  have mv : ∀ {a : Option Addr} {n c : Nat} {l : List PR}, RP W0 (.slice a n c) l → (∀ ad, a = some ad → Yr ad.block) → RP ((wr.drewN nq).setCell ⟨B, 0, none⟩ (.slice Ac (q.length - k) Cc)) (.slice a n c) l := by
    intro a n c l h hb
    by_cases hl : l.length = 0
    · obtain ⟨⟨a', cap, hv, hn, hcc⟩, h2⟩ := h
      refine ⟨⟨a', cap, hv, hn, fun j u hj => ?_⟩, h2⟩
      have : l = [] := List.eq_nil_of_length_eq_zero hl
      subst this
      simp [pcells] at hj
    · refine h.move fun ad had => ?_
      obtain ⟨a', cap', hv, _, hcc⟩ := h.open
      injection hv with e1 _ _
      subst e1
      obtain ⟨b, off, hab, hu, _⟩ := hcc 0 (by omega)
      rw [had] at hab
      cases hab
      exact hc.block b (lt_of_cell hu) fun e => hYB (by rw [← e]; exact hb _ had)
  exact ⟨one_setCell (v := .slice A q.length C) ((hbel.block B hlt).trans hB), hc, mv hRF hbF, mv hRC hbC, ⟨_, hg.symm⟩, hg⟩

set_option maxRecDepth 100000 in
set_option maxHeartbeats 2000000 in
theorem groups_iter0 (n B : Nat) (r : List PR) (Yr : Nat → Prop) (A0 : Option Addr) (C0 : Nat) (W : World) (hB : W.heap[B]? = some (.cells #[.slice A0 r.length C0] 35 (0, 0))) (hr : RP W (.slice A0 r.length C0) r) (hblk : ∀ ad, A0 = some ad → Yr ad.block) (hYB : ¬ Yr B) (hl : r.length ≤ 4398046511104) :
    IterC Fence.wide n Try.prog 95 #[.pointer (some ⟨B, 0, none⟩)] (fun k => k = B) (fun k => k = B ∨ Yr k) (ElP Yr) (grp r) W := by
  intro l J Jx hJ hJx hY hJ0
  refine callsIn_wide.2 ?_
  have HJ := Lib.hid hJ
  have HJx := Lib.hid hJx
  have HY := Lib.hid hY
  have HB := Lib.hid hB
  have HBlk := Lib.hid hblk
  clear hJ hJx hY hB hblk
  go_enter Try.func95, Try.ntmps95
  go_wp2
  go_loopw [3] (fun _ wr => ∃ (q : List PR) (A : Option Addr) (C : Nat) (dn : List (List PR)), q.length ≤ 4398046511104 ∧ Hid (wr.heap[B]? = some (.cells #[.slice A q.length C] 35 (0, 0))) ∧ Hid (RP wr (.slice A q.length C) q) ∧ Hid (∀ ad, A = some ad → Yr ad.block) ∧ Hid (grp r = dn ++ grp q) ∧ Hid (J dn wr)) (fun _ wr => mlen (wr.cell? ⟨B, 0, none⟩))
  case atStart => exact ⟨r, A0, C0, [], hl, HB, hr, HBlk, rfl, hJ0⟩
  case round =>
    clear hr hJ0 HB HBlk
    obtain ⟨q, A, C, dn, hql, hB, hR, hblk, hG, hJd⟩ := hrel
    have c1 := cell_of_one hB.out
    have f1 := free_of_one hB.out
    by_cases h0 : 0 < q.length
    · have m0 : (0 : Int) < (q.length : Int) := by omega
      obtain ⟨_, _, hv, _, hcell⟩ := hR.out.open
      injection hv with e1 _ e3
      subst e1 e3
      obtain ⟨b, off, hA, d0, _⟩ := hcell 0 h0
      rw [Nat.zero_mul, Nat.add_zero] at d0
      subst hA
      have HC := Lib.hid hcell
      clear hcell
      obtain ⟨W0, hW0⟩ : ∃ W0, W0 = wr := ⟨_, rfl⟩
      subst hW0
      go_wp2
      go_loopw [3] (fun kk wx => ∃ k : Nat, 1 ≤ k ∧ k ≤ q.length ∧ kk = .int .i64 k ∧ Hid (∀ j (hj : j < k) (h : j < q.length), q[j].1 = q[0].1) ∧ Hid (Below W0.heap.size W0 wx)) (fun kk _ => q.length - (intOf kk).toNat)
      case atStart => exact ⟨1, by omega, by omega, rfl, one_in q, Below.refl _ _⟩
      case round =>
        obtain ⟨k, hk1, hk2, rfl, hin, hbel⟩ := hrel
        have c2 := Below.keeps hbel.out c1
        have d2 := Below.keeps hbel.out d0
        have ki0 : (0 : Int) ≤ (k : Int) := by omega
        by_cases hkq : k < q.length
        · have ki1 : (k : Int) < (q.length : Int) := by omega
          obtain ⟨_, _, e1, dk, _⟩ := HC.out k hkq
          cases e1
          replace dk := Below.keeps hbel.out dk
          by_cases he : q[k].1 = q[0].1
          · have he2 : (q[k].1 == q[0].1) = true := by simpa using he
            have HE := Lib.hid he
            clear he
            go_wp2
            go_quiet (fail)
            go_wp2
            go_roundw
            case rel =>
              refine ⟨k + 1, by omega, by omega, by go_num, ?_, bt hbel.out (Below.drewN' _ _)⟩
              intro j hj h
              by_cases hjk : j = k
              · subst hjk; exact HE.out
              · exact hin.out j (by omega) h
            case measure => simp [intOf]; omega
          · have he2 : (q[k].1 == q[0].1) = false := by simpa using he
            have hhead : k = head1 q := head1_eq q h0 k hk1 hk2 (fun j hj => hin.out j hj (by omega)) (fun _ => he)
            clear he
            (obtain ⟨Af, hrunF, hRF, hblkF⟩ := RP.fullRun hR.out k (by omega) (by omega); obtain ⟨Ac, Cc, hrunC, hRC, hblkC⟩ := RP.cutRunB hR.out k (by omega); have f2 : wr.frozen? ⟨B, 0, none⟩ = false := (hbel.out.frozen (p := ⟨B, 0, none⟩) (lt_of_cell c1)).trans f1; have H6 := fun nq => Lib.hid (grp_at6 (nq := nq) hB.out hbel.out hRF hRC (fun ad h => by obtain ⟨ad0, e1, e2⟩ := hblkF ad h; rw [e2]; exact hblk.out _ e1) (fun ad h => by obtain ⟨ad0, e1, e2⟩ := hblkC ad h; rw [e2]; exact hblk.out _ e1) hYB hG.out hhead h0); have HBF := Lib.hid (show ∀ ad, Af = some ad → Yr ad.block from fun ad h => by obtain ⟨ad0, e1, e2⟩ := hblkF ad h; rw [e2]; exact hblk.out _ e1); have HBC := Lib.hid (show ∀ ad, Ac = some ad → Yr ad.block from fun ad h => by obtain ⟨ad0, e1, e2⟩ := hblkC ad h; rw [e2]; exact hblk.out _ e1); have hk0 : (0 : Int) < (k : Int) := (by omega); have HH := Lib.hid hhead; clear hhead hRF hRC hblkF hblkC)
            go_wp2
            go_quiet (fail)
            go_upto_region 6 with (fail)
            (obtain ⟨W6, hW6⟩ : ∃ W6, W6 = ((wr.drewN nq).setCell ⟨B, 0, none⟩ (.slice Ac (q.length - k) Cc)) := ⟨_, rfl⟩; have h6 := (H6 nq).out; rw [← hW6] at h6 ⊢; clear hW6 H6; obtain ⟨hB6, hc6, hRF6, hRC6, hp6, hG6⟩ := h6; have hJ6 := HJ.out _ _ _ hJd.out hc6; obtain ⟨fn, tm, asg, bod, hy, hRd⟩ := HY.out dn (q.take k) #[.slice Af k k] W6 hJ6 ⟨Af, k, by rw [take_len hk2], by rw [take_len hk2]; exact hRF6, HBF.out⟩ hp6; have HP6 := Lib.hid hRC6; have HG6 := Lib.hid hG6; have HQ6 := Lib.hid hp6; have HB6 := Lib.hid hB6; clear hRC6 hG6 hp6 hB6 hJ6 hc6 hRF6)
            (refine (wpIn_wide (n := n)).1 ?_; gi_wp2; refine ⟨fun h => (by cases h), ?_⟩; refine hRd.mono ?_; rintro e W7 (⟨rfl, hJ7, hc7⟩ | ⟨rfl, hJx7⟩); (gi_wp2; go_wp2; go_roundw; (case rel => exact grp_rel hc7 HB6.out HP6.out HBC.out HG6.out hJ7 hql hk2); (case measure => rw [grp_left hc7 HB6.out, c1]; show q.length - k < q.length; omega)); (gi_wp2; go_wp2; refine bodyPost_ret (results_none rfl _ _ _) rfl ?_; exact ⟨⟨_, rfl⟩, .inr ⟨_, HQ6.out, hJx7⟩⟩))
        · have hhead : k = head1 q := head1_eq q h0 k hk1 hk2 (fun j hj => hin.out j hj (by omega)) (fun h => absurd h hkq)
          (obtain ⟨Af, hrunF, hRF, hblkF⟩ := RP.fullRun hR.out k (by omega) (by omega); obtain ⟨Ac, Cc, hrunC, hRC, hblkC⟩ := RP.cutRunB hR.out k (by omega); have f2 : wr.frozen? ⟨B, 0, none⟩ = false := (hbel.out.frozen (p := ⟨B, 0, none⟩) (lt_of_cell c1)).trans f1; have H6 := fun nq => Lib.hid (grp_at6 (nq := nq) hB.out hbel.out hRF hRC (fun ad h => by obtain ⟨ad0, e1, e2⟩ := hblkF ad h; rw [e2]; exact hblk.out _ e1) (fun ad h => by obtain ⟨ad0, e1, e2⟩ := hblkC ad h; rw [e2]; exact hblk.out _ e1) hYB hG.out hhead h0); have HBF := Lib.hid (show ∀ ad, Af = some ad → Yr ad.block from fun ad h => by obtain ⟨ad0, e1, e2⟩ := hblkF ad h; rw [e2]; exact hblk.out _ e1); have HBC := Lib.hid (show ∀ ad, Ac = some ad → Yr ad.block from fun ad h => by obtain ⟨ad0, e1, e2⟩ := hblkC ad h; rw [e2]; exact hblk.out _ e1); have hk0 : (0 : Int) < (k : Int) := (by omega); have HH := Lib.hid hhead; clear hhead hRF hRC hblkF hblkC)
          go_wp2
          go_quiet (fail)
          go_upto_region 6 with (fail)
          (obtain ⟨W6, hW6⟩ : ∃ W6, W6 = ((wr.drewN nq).setCell ⟨B, 0, none⟩ (.slice Ac (q.length - k) Cc)) := ⟨_, rfl⟩; have h6 := (H6 nq).out; rw [← hW6] at h6 ⊢; clear hW6 H6; obtain ⟨hB6, hc6, hRF6, hRC6, hp6, hG6⟩ := h6; have hJ6 := HJ.out _ _ _ hJd.out hc6; obtain ⟨fn, tm, asg, bod, hy, hRd⟩ := HY.out dn (q.take k) #[.slice Af k k] W6 hJ6 ⟨Af, k, by rw [take_len hk2], by rw [take_len hk2]; exact hRF6, HBF.out⟩ hp6; have HP6 := Lib.hid hRC6; have HG6 := Lib.hid hG6; have HQ6 := Lib.hid hp6; have HB6 := Lib.hid hB6; clear hRC6 hG6 hp6 hB6 hJ6 hc6 hRF6)
          (refine (wpIn_wide (n := n)).1 ?_; gi_wp2; refine ⟨fun h => (by cases h), ?_⟩; refine hRd.mono ?_; rintro e W7 (⟨rfl, hJ7, hc7⟩ | ⟨rfl, hJx7⟩); (gi_wp2; go_wp2; go_roundw; (case rel => exact grp_rel hc7 HB6.out HP6.out HBC.out HG6.out hJ7 hql hk2); (case measure => rw [grp_left hc7 HB6.out, c1]; show q.length - k < q.length; omega)); (gi_wp2; go_wp2; refine bodyPost_ret (results_none rfl _ _ _) rfl ?_; exact ⟨⟨_, rfl⟩, .inr ⟨_, HQ6.out, hJx7⟩⟩))
    · obtain rfl : q = [] := List.eq_nil_of_length_eq_zero (by omega)
      have hfin : grp r = dn := by have := hG.out; rw [grp_nil, List.append_nil] at this; exact this
      have HF := Lib.hid hfin
      clear hfin
      have c2 : wr.cell? ⟨B, 0, none⟩ = some (.slice A 0 C) := c1
      clear c1
      go_wp2
      go_end0
      exact ⟨⟨_, rfl⟩, .inl (by rw [HF.out]; exact hJd.out)⟩

theorem groups_iter (n B : Nat) (r : List PR) (A0 : Option Addr) (C0 : Nat) (W : World) (hB : W.heap[B]? = some (.cells #[.slice A0 r.length C0] 35 (0, 0))) (hr : RP W (.slice A0 r.length C0) r) (hblk : ∀ ad, A0 = some ad → ad.block < B) (hl : r.length ≤ 4398046511104) :
    IterC Fence.wide n Try.prog 95 #[.pointer (some ⟨B, 0, none⟩)] (fun k => k = B) (fun k => k ≤ B) (ElP fun k => k < B) (grp r) W := by
  have h := groups_iter0 n B r (fun k => k < B) A0 C0 W hB hr hblk (Nat.lt_irrefl B) hl
  have e : (fun k => k = B ∨ k < B) = fun k => k ≤ B := by funext k; simp only [eq_iff_iff]; omega
  rwa [e] at h
end Go.Proofs.Ytdebgkjekcppmaa
namespace Go.Proofs.Ytdebgkjekcppmaa
open Go.RowKit Oct

set_option maxRecDepth 100000 in
set_option maxHeartbeats 4000000 in
theorem rSortP_any (v : Value) (l : List PR) (w : World) (hr : RP w v l) (hl : l.length ≤ 1000000) :
    Calls Try.prog 97 #[v] w fun e w' => ∃ v', e = .returned v' ∧ OP w' w.heap.size v' (srt l) ∧ Below w.heap.size w w' := by
  obtain ⟨a, cap, rfl, _, hc⟩ := hr.open
  have HC := Lib.hid hc
  clear hr hc
  go_enter Try.func97, Try.ntmps97
  go_wp2
  go_loopw [3, 4] (fun o t wx => ∃ k : Nat, k ≤ l.length ∧ t = .int .i64 (k : Int) ∧ Hid (OP wx w.heap.size o (srt (l.take k))) ∧ Hid (Below w.heap.size w wx)) (fun _ t _ => l.length - (intOf t).toNat)
  case atStart => exact ⟨0, by omega, rfl, OP.nil _ _, b_refl _⟩
  case round =>
    obtain ⟨k, hk, rfl, HO, HB⟩ := hrel
    obtain ⟨ao, co, rfl⟩ := owns_slice HO.out
    by_cases hkl : k < l.length
    · have k0 : (0 : Int) ≤ (k : Int) := by omega
      have k1 : (k : Int) < (l.length : Int) := by omega
      obtain ⟨bl, ol, rfl, d1, d2⟩ := HC.out k hkl
      have HD1 := Lib.hid d1
      have HD2 := Lib.hid d2
      have HSN := Lib.hid (show srt (l.take (k + 1)) = ins l[k] (srt (l.take k)) by rw [List.take_succ_eq_append_getElem hkl, srt_snoc])
      have HSO := Lib.hid (srt_sorted (l.take k))
      have HRL := Lib.hid (show (srt (l.take k)).length ≤ 1000000 by rw [srt_length, List.length_take]; omega)
      obtain ⟨p, hp⟩ : ∃ p, p = l[k] := ⟨_, rfl⟩
      rw [← hp] at HD1 HD2 HSN
      obtain ⟨R, hR⟩ : ∃ R, R = srt (l.take k) := ⟨_, rfl⟩
      rw [← hR] at HO HSN HSO HRL ⊢
      clear hp hR d1 d2
      have hrp := HO.out.reads
      obtain ⟨_, _, hv, _, hcr⟩ := hrp.open
      injection hv with e1 _ e3
      subst e1 e3
      have HCR := Lib.hid hcr
      have HRP := Lib.hid hrp
      have hRL := HRL.out
      clear hcr hrp
      obtain ⟨Wr, hWr⟩ : ∃ Wr, Wr = wr := ⟨_, rfl⟩
      subst hWr
      go_wp2
      go_loopw [5] (fun t wx => ∃ j : Nat, j ≤ R.length ∧ t = .int .i64 (j : Int) ∧ Hid (∀ i (h : i < R.length), j ≤ i → lt p.1 R[i].1 = true) ∧ Hid (Below Wr.heap.size Wr wx)) (fun t _ => (intOf t).toNat)
      case atStart => exact ⟨R.length, by omega, rfl, fun i h h' => by omega, b_refl _⟩
      case round =>
        obtain ⟨j, hj, rfl, HJ, HX⟩ := hrel
        have e1 := Below.keeps HX.out (Below.keeps HB.out HD1.out)
        by_cases hj0 : 0 < j
        · obtain ⟨i, rfl⟩ : ∃ i, j = i + 1 := ⟨j - 1, by omega⟩
          have hiR : i < R.length := by omega
          obtain ⟨b, off, rfl, d3, _⟩ := HCR.out i hiR
          replace d3 := Below.keeps HX.out d3
          have i0 : (0 : Int) ≤ (i : Int) := by omega
          have i1 : (i : Int) < (R.length : Int) := by omega
          have c0 : (0 : Int) < ((i + 1 : Nat) : Int) := by omega
          have ei : (((i + 1 : Nat) : Int) - 1) = (i : Int) := by omega
          cases hlt : lt p.1 R[i].1 with
          | true =>
            have h2 := lt_asymm' hlt
            have h3 : (R[i].1 == p.1) = false := by
              rw [beq_eq_false_iff_ne]; intro e; rw [e, lt_irr] at hlt; cases hlt
            have HJ2 := Lib.hid (show ∀ i' (h : i' < R.length), i ≤ i' → lt p.1 R[i'].1 = true from fun i' h h' => by
              rcases Nat.lt_or_ge i i' with h4 | h4
              · exact HJ.out i' h (by omega)
              · obtain rfl : i' = i := by omega
                exact hlt)
            have HLT := Lib.hid hlt
            clear hlt
            unfold lt at h2
            go_wp2
            go_quiet (fail)
            go_wp2
            refine ⟨?_, by simp [intOf]⟩
            first
              | exact ⟨i, by omega, rfl, HJ2.out, bt HX.out (Below.drewN' _ _)⟩
              | ((repeat apply Exists.intro); exact ⟨⟨i, by omega, rfl, HJ2.out, bt HX.out (Below.drewN' _ _)⟩, rfl⟩)
          | false =>
            have HINS := Lib.hid (show srt (l.take (k + 1)) = R.take (i + 1) ++ p :: R.drop (i + 1) by
              rw [HSN.out]
              exact ins_at p R (i + 1) (by omega) HSO.out HJ.out (fun _ h' => hlt))
            have hJR : i + 1 ≤ R.length := by omega
            clear HJ
            cases hgt : lt R[i].1 p.1 with
            | true =>
              clear hlt
              unfold lt at hgt
              go_wp2
              go_quiet (fail)
              obtain ⟨wz, hwz⟩ : ∃ wz, wz = wr.drewN nq := ⟨_, rfl⟩
              have HXw := Lib.hid (show Below Wr.heap.size Wr wz by rw [hwz]; exact bt HX.out (Below.drewN' _ _))
              rw [← hwz]
              obtain ⟨J, hJ⟩ : ∃ J, J = i + 1 := ⟨_, rfl⟩
              have HJE := Lib.hid hJ
              rw [← hJ] at HINS hJR ⊢
              clear hwz hgt d3 e1 hJ
              have HRPw := Lib.hid (HRP.out.below HXw.out)
              obtain ⟨A1, C1, hrun1, hrp1⟩ := HRPw.out.headRun J (J : Int) rfl hJR
              have HRP1 := Lib.hid hrp1
              have hJ0 : (0 : Int) ≤ (J : Int) := by omega
              have hJ1 : (J : Int) ≤ (R.length : Int) := by omega
              clear hrp1
              have hlT : (R.take J).length = J := by rw [List.length_take]; omega
              have HLT2 := Lib.hid hlT
              have HRP1' := Lib.hid (show RP wz (.slice A1 (R.take J).length C1) (R.take J) by rw [hlT]; exact HRP1.out)
              have HBw := Lib.hid (show Below w.heap.size w wz from bt HB.out HXw.out)
              clear hlT
              go_wp2_with (at_builtin; go_must (refine appendP wz rfl _ _ 35 rfl Try.underlying35 wz.heap.size _ [] rfl (OP.nil _ _) _ (R.take J) rfl HRP1.out (by rw [HLT2.out]; simp; omega) (Nat.le_refl _) ?_))
              intro v7 w7 hown7 hB7
              obtain ⟨a7, c7, rfl⟩ := owns_slice hown7
              have HO7 := Lib.hid (show OP w7 wz.heap.size _ (R.take J) from hown7)
              have HB7 := Lib.hid hB7
              have hs7 := hB7.size
              have e1 := Below.keeps (bt HBw.out HB7.out) HD1.out
              have e2 := Below.keeps (bt HBw.out HB7.out) HD2.out
              clear hown7 hB7 hrun1
              go_wp2_with (at_builtin; go_must (refine append1P w7 p rfl _ _ 35 rfl Try.underlying35 wz.heap.size _ (R.take J) rfl HO7.out _ rfl (by rw [HLT2.out]; omega) hs7 ?_))
              intro v8 w8 hown8 hB8
              obtain ⟨a8, c8, rfl⟩ := owns_slice hown8
              have HO8 := Lib.hid hown8
              have HB8 := Lib.hid (HB7.out.trans hB8)
              have hs8 := HB8.out.size
              obtain ⟨A2, C2, hrun2, hrp2⟩ := (HRPw.out.below HB8.out).cutRun J (J : Int) rfl hJR
              have HRP2 := Lib.hid hrp2
              clear hown8 hB8 e1 e2 hrp2
              go_wp2_with (at_builtin; go_must (refine appendP w8 rfl _ _ 35 rfl Try.underlying35 wz.heap.size _ (R.take J ++ [p]) rfl HO8.out _ (R.drop J) rfl HRP2.out (by rw [List.length_append, HLT2.out, List.length_drop]; simp; omega) hs8 ?_))
              intro v9 w9 hown9 hB9
              have HO9 := Lib.hid (show OP w9 w.heap.size v9 (srt (l.take (k + 1))) by
                rw [HINS.out]
                have := OP.mono hown9 (show w.heap.size ≤ wz.heap.size from HBw.out.size)
                simpa [List.append_assoc] using this)
              have HB9 := Lib.hid (show Below w.heap.size w w9 from bt HBw.out (HB8.out.trans hB9))
              clear hown9 hB9 hrun2
              go_wp2
              refine ⟨?_, by simp [intOf]; omega⟩
              first
                | exact ⟨k + 1, by omega, by go_num, HO9.out, HB9.out⟩
                | ((repeat apply Exists.intro); exact ⟨⟨k + 1, by omega, by go_num, HO9.out, HB9.out⟩, rfl⟩)
            | false =>
              have heq : R[i].1 = p.1 := by
                have := gt_eq R[i].1 p.1
                rw [hgt, hlt, Bool.false_or] at this
                have h' : (R[i].1 == p.1) = true := by simpa using this
                simpa using h'
              have h3 : (R[i].1 == p.1) = true := by simpa using heq
              clear hlt heq
              unfold lt at hgt
              go_wp2
              go_quiet (fail)
              obtain ⟨wz, hwz⟩ : ∃ wz, wz = wr.drewN nq := ⟨_, rfl⟩
              have HXw := Lib.hid (show Below Wr.heap.size Wr wz by rw [hwz]; exact bt HX.out (Below.drewN' _ _))
              rw [← hwz]
              obtain ⟨J, hJ⟩ : ∃ J, J = i + 1 := ⟨_, rfl⟩
              have HJE := Lib.hid hJ
              rw [← hJ] at HINS hJR ⊢
              clear hwz hgt h3 d3 e1 hJ
              have HRPw := Lib.hid (HRP.out.below HXw.out)
              obtain ⟨A1, C1, hrun1, hrp1⟩ := HRPw.out.headRun J (J : Int) rfl hJR
              have HRP1 := Lib.hid hrp1
              have hJ0 : (0 : Int) ≤ (J : Int) := by omega
              have hJ1 : (J : Int) ≤ (R.length : Int) := by omega
              clear hrp1
              have hlT : (R.take J).length = J := by rw [List.length_take]; omega
              have HLT2 := Lib.hid hlT
              have HRP1' := Lib.hid (show RP wz (.slice A1 (R.take J).length C1) (R.take J) by rw [hlT]; exact HRP1.out)
              have HBw := Lib.hid (show Below w.heap.size w wz from bt HB.out HXw.out)
              clear hlT
              go_wp2_with (at_builtin; go_must (refine appendP wz rfl _ _ 35 rfl Try.underlying35 wz.heap.size _ [] rfl (OP.nil _ _) _ (R.take J) rfl HRP1.out (by rw [HLT2.out]; simp; omega) (Nat.le_refl _) ?_))
              intro v7 w7 hown7 hB7
              obtain ⟨a7, c7, rfl⟩ := owns_slice hown7
              have HO7 := Lib.hid (show OP w7 wz.heap.size _ (R.take J) from hown7)
              have HB7 := Lib.hid hB7
              have hs7 := hB7.size
              have e1 := Below.keeps (bt HBw.out HB7.out) HD1.out
              have e2 := Below.keeps (bt HBw.out HB7.out) HD2.out
              clear hown7 hB7 hrun1
              go_wp2_with (at_builtin; go_must (refine append1P w7 p rfl _ _ 35 rfl Try.underlying35 wz.heap.size _ (R.take J) rfl HO7.out _ rfl (by rw [HLT2.out]; omega) hs7 ?_))
              intro v8 w8 hown8 hB8
              obtain ⟨a8, c8, rfl⟩ := owns_slice hown8
              have HO8 := Lib.hid hown8
              have HB8 := Lib.hid (HB7.out.trans hB8)
              have hs8 := HB8.out.size
              obtain ⟨A2, C2, hrun2, hrp2⟩ := (HRPw.out.below HB8.out).cutRun J (J : Int) rfl hJR
              have HRP2 := Lib.hid hrp2
              clear hown8 hB8 e1 e2 hrp2
              go_wp2_with (at_builtin; go_must (refine appendP w8 rfl _ _ 35 rfl Try.underlying35 wz.heap.size _ (R.take J ++ [p]) rfl HO8.out _ (R.drop J) rfl HRP2.out (by rw [List.length_append, HLT2.out, List.length_drop]; simp; omega) hs8 ?_))
              intro v9 w9 hown9 hB9
              have HO9 := Lib.hid (show OP w9 w.heap.size v9 (srt (l.take (k + 1))) by
                rw [HINS.out]
                have := OP.mono hown9 (show w.heap.size ≤ wz.heap.size from HBw.out.size)
                simpa [List.append_assoc] using this)
              have HB9 := Lib.hid (show Below w.heap.size w w9 from bt HBw.out (HB8.out.trans hB9))
              clear hown9 hB9 hrun2
              go_wp2
              refine ⟨?_, by simp [intOf]; omega⟩
              first
                | exact ⟨k + 1, by omega, by go_num, HO9.out, HB9.out⟩
                | ((repeat apply Exists.intro); exact ⟨⟨k + 1, by omega, by go_num, HO9.out, HB9.out⟩, rfl⟩)
        · have HINS := Lib.hid (show srt (l.take (k + 1)) = R.take j ++ p :: R.drop j by
            rw [HSN.out]
            exact ins_at p R j hj HSO.out HJ.out (fun h _ => by omega))
          have hJR : j ≤ R.length := hj
          have c0 : ¬ (0 : Int) < (j : Int) := by omega
          go_wp2
          go_quiet (fail)
          obtain ⟨wz, hwz⟩ : ∃ wz, wz = wr.drewN nq := ⟨_, rfl⟩
          have HXw := Lib.hid (show Below Wr.heap.size Wr wz by rw [hwz]; exact bt HX.out (Below.drewN' _ _))
          rw [← hwz]
          obtain ⟨J, hJ⟩ : ∃ J, J = j := ⟨_, rfl⟩
          have HJE := Lib.hid hJ
          rw [← hJ] at HINS hJR ⊢
          clear hwz e1 hj hj0 HJ c0 hJ
          have HRPw := Lib.hid (HRP.out.below HXw.out)
          obtain ⟨A1, C1, hrun1, hrp1⟩ := HRPw.out.headRun J (J : Int) rfl hJR
          have HRP1 := Lib.hid hrp1
          have hJ0 : (0 : Int) ≤ (J : Int) := by omega
          have hJ1 : (J : Int) ≤ (R.length : Int) := by omega
          clear hrp1
          have hlT : (R.take J).length = J := by rw [List.length_take]; omega
          have HLT2 := Lib.hid hlT
          have HRP1' := Lib.hid (show RP wz (.slice A1 (R.take J).length C1) (R.take J) by rw [hlT]; exact HRP1.out)
          have HBw := Lib.hid (show Below w.heap.size w wz from bt HB.out HXw.out)
          clear hlT
          go_wp2_with (at_builtin; go_must (refine appendP wz rfl _ _ 35 rfl Try.underlying35 wz.heap.size _ [] rfl (OP.nil _ _) _ (R.take J) rfl HRP1.out (by rw [HLT2.out]; simp; omega) (Nat.le_refl _) ?_))
          intro v7 w7 hown7 hB7
          obtain ⟨a7, c7, rfl⟩ := owns_slice hown7
          have HO7 := Lib.hid (show OP w7 wz.heap.size _ (R.take J) from hown7)
          have HB7 := Lib.hid hB7
          have hs7 := hB7.size
          have e1 := Below.keeps (bt HBw.out HB7.out) HD1.out
          have e2 := Below.keeps (bt HBw.out HB7.out) HD2.out
          clear hown7 hB7 hrun1
          go_wp2_with (at_builtin; go_must (refine append1P w7 p rfl _ _ 35 rfl Try.underlying35 wz.heap.size _ (R.take J) rfl HO7.out _ rfl (by rw [HLT2.out]; omega) hs7 ?_))
          intro v8 w8 hown8 hB8
          obtain ⟨a8, c8, rfl⟩ := owns_slice hown8
          have HO8 := Lib.hid hown8
          have HB8 := Lib.hid (HB7.out.trans hB8)
          have hs8 := HB8.out.size
          obtain ⟨A2, C2, hrun2, hrp2⟩ := (HRPw.out.below HB8.out).cutRun J (J : Int) rfl hJR
          have HRP2 := Lib.hid hrp2
          clear hown8 hB8 e1 e2 hrp2
          go_wp2_with (at_builtin; go_must (refine appendP w8 rfl _ _ 35 rfl Try.underlying35 wz.heap.size _ (R.take J ++ [p]) rfl HO8.out _ (R.drop J) rfl HRP2.out (by rw [List.length_append, HLT2.out, List.length_drop]; simp; omega) hs8 ?_))
          intro v9 w9 hown9 hB9
          have HO9 := Lib.hid (show OP w9 w.heap.size v9 (srt (l.take (k + 1))) by
            rw [HINS.out]
            have := OP.mono hown9 (show w.heap.size ≤ wz.heap.size from HBw.out.size)
            simpa [List.append_assoc] using this)
          have HB9 := Lib.hid (show Below w.heap.size w w9 from bt HBw.out (HB8.out.trans hB9))
          clear hown9 hB9 hrun2
          go_wp2
          refine ⟨?_, by simp [intOf]; omega⟩
          first
            | exact ⟨k + 1, by omega, by go_num, HO9.out, HB9.out⟩
            | ((repeat apply Exists.intro); exact ⟨⟨k + 1, by omega, by go_num, HO9.out, HB9.out⟩, rfl⟩)
    · obtain rfl : k = l.length := by omega
      have HF := Lib.hid (List.take_length (l := l))
      go_wp2
      go_ret
      have hx : OP wr w.heap.size (.slice ao (srt (l.take l.length)).length co) (srt l) := by
        have := HO.out
        simp only [HF.out] at this ⊢
        exact this
      exact ⟨_, rfl, hx, HB.out⟩
end Go.Proofs.Ytdebgkjekcppmaa
namespace Go.Proofs.Ytdebgkjekcppmaa
open Go.RowKit Oct

set_option maxRecDepth 100000 in
set_option maxHeartbeats 400000 in
theorem rMergeP_any (v : Value) (rows : List (List PR)) (w : World) (hr : RR w v rows) (hn : rows.length ≤ 1000000) (hl : rows.flatten.length ≤ 1000000) :
    Calls Try.prog 83 #[v] w fun e w' => ∃ v', e = .returned v' ∧ OP w' w.heap.size v' (srt rows.flatten) ∧ Below w.heap.size w w' := by
  obtain ⟨a, cap, rfl, _, _, hc⟩ := hr
  have HC := Lib.hid hc
  clear hc
  go_enter Try.func83, Try.ntmps83
  go_wp2
  go_loopw [3, 4] (fun o t wx => ∃ k : Nat, k ≤ rows.length ∧ t = .int .i64 (k : Int) ∧ Hid (OP wx w.heap.size o (rows.take k).flatten) ∧ Hid (Below w.heap.size w wx)) (fun _ t _ => rows.length - (intOf t).toNat)
  case atStart => exact ⟨0, by omega, rfl, OP.nil _ _, b_refl _⟩
  case round =>
    obtain ⟨k, hk, rfl, HO, HB⟩ := hrel
    obtain ⟨ao, co, rfl⟩ := owns_slice HO.out
    by_cases hkl : k < rows.length
    · have k0 : (0 : Int) ≤ (k : Int) := by omega
      have k1 : (k : Int) < (rows.length : Int) := by omega
      obtain ⟨b1, o1, u, rfl, du, hru⟩ := HC.out k hkl
      replace du := Below.keeps HB.out du
      have HRU := Lib.hid (hru.below HB.out)
      obtain ⟨au, cu, rfl, _, _⟩ := hru.open
      have HFT := Lib.hid (flat_take rows k hkl)
      have hfl := flat_le rows (k + 1)
      rw [HFT.out, List.length_append] at hfl
      have hsz := HB.out.size
      have HFL := Lib.hid hfl
      clear hru hfl
      go_wp2_with (at_builtin; go_must (refine appendP wr rfl _ _ 35 rfl Try.underlying35 w.heap.size _ (rows.take k).flatten rfl HO.out _ rows[k] rfl HRU.out (by have := HFL.out; omega) hsz ?_))
      intro v7 w7 hown7 hB7
      have HO7 := Lib.hid (show OP w7 w.heap.size v7 (rows.take (k + 1)).flatten by rw [HFT.out]; exact hown7)
      have HB7 := Lib.hid (HB.out.trans hB7)
      clear hown7 hB7 du
      go_wp2
      refine ⟨?_, by simp [intOf]; omega⟩
      first
        | exact ⟨k + 1, by omega, by go_num, HO7.out, HB7.out⟩
        | ((repeat apply Exists.intro); exact ⟨⟨k + 1, by omega, by go_num, HO7.out, HB7.out⟩, rfl⟩)
    · obtain rfl : k = rows.length := by omega
      have HF := List.take_length (l := rows)
      have HRP := Lib.hid HO.out.reads
      rw [HF] at HRP
      obtain ⟨L, hL⟩ : ∃ L, L = (List.take rows.length rows).flatten.length := ⟨_, rfl⟩
      rw [HF] at hL
      have HRP2 := Lib.hid (show RP wr (.slice ao L co) rows.flatten by rw [hL]; exact HRP.out)
      rw [HF, ← hL]
      clear HRP hL HO HF
      go_wp2_with fail
      refine (rSortP_any _ _ wr HRP2.out hl).mono ?_
      rintro e w7 ⟨v7, rfl, hown7, hB7⟩
      have HO7 := Lib.hid (OP.mono hown7 HB.out.size)
      have HB7 := Lib.hid (bt HB.out hB7)
      clear hown7 hB7
      go_wp2
      go_ret
      exact ⟨_, rfl, HO7.out, HB7.out⟩
end Go.Proofs.Ytdebgkjekcppmaa
