/- Walks of the program's Same; the law PairsBack. -/
import Derived.Test.YtdebgkjekcppmaaQ9
namespace Go.Proofs.Ytdebgkjekcppmaa
open Go.RowKit Oct

set_option maxRecDepth 100000 in
set_option maxHeartbeats 1000000 in
theorem SameF_any (p q : PR) (w : World) :
    Calls Try.prog 77 #[.agg #[.string (bs p.1), .string (bs p.2)], .agg #[.string (bs q.1), .string (bs q.2)]] w fun e w' => e = .returned (.bool (decide (p = q))) ∧ Below w.heap.size w w' := by
  have hE := Lib.hid (pr_eq p q)
  cases h1 : (p.1 == q.1)
  · go_enter Try.func77, Try.ntmps77
    go_wp2
    go_ret
    exact ⟨by rw [← hE.out, h1]; rfl, bt (b_alloc _ _) (b_alloc _ _)⟩
  · cases h2 : (p.2 == q.2)
    · go_enter Try.func77, Try.ntmps77
      go_wp2
      go_ret
      exact ⟨by rw [← hE.out, h1, h2]; rfl, bt (b_alloc _ _) (b_alloc _ _)⟩
    · go_enter Try.func77, Try.ntmps77
      go_wp2
      go_ret
      exact ⟨by rw [← hE.out, h1, h2]; rfl, bt (b_alloc _ _) (b_alloc _ _)⟩

set_option maxRecDepth 100000 in
set_option maxHeartbeats 1000000 in
theorem EqualF_any (va vb : Value) (a b : List PR) (w : World) (ha : RP w va a) (hb : RP w vb b) (hla : a.length ≤ 140737488355328) (hlb : b.length ≤ 140737488355328) :
    Calls Try.prog 76 #[va, vb, .func (.func 77) #[] #[]] w fun e w' => e = .returned (.bool (decide (a = b))) ∧ Below w.heap.size w w' := by
  obtain ⟨aa, ca, rfl, _, hca⟩ := ha.open
  obtain ⟨ab, cb, rfl, _, hcb⟩ := hb.open
  by_cases hl : a.length = b.length
  · have hL := Lib.hid hl
    have t1 : ((a.length : Int) != (b.length : Int)) = false := by rw [bne_eq_false_iff_eq]; omega
    clear hl
    go_enter Try.func76, Try.ntmps76
    go_wp2
    go_loopw [17] (fun i wr => ∃ k : Nat, k ≤ a.length ∧ i = .int .i64 k ∧ Hid (∀ j (h : j < a.length) (h' : j < b.length), j < k → a[j] = b[j]) ∧ Below w.heap.size w wr) (fun i _ => a.length - (intOf i).toNat)
    case atStart => exact ⟨0, by omega, rfl, by intro j _ _ h; omega, Below.refl _ _⟩
    case round =>
      obtain ⟨k, hk, rfl, hH, hB⟩ := hrel
      by_cases h0 : k < a.length
      · have h0b : k < b.length := by have := hL.out; omega
        obtain ⟨b1, o1, rfl, hc1, hc2⟩ := hca k h0
        obtain ⟨b2, o2, rfl, hc3, hc4⟩ := hcb k h0b
        have hd1 := Below.keeps hB hc1
        have hd2 := Below.keeps hB hc2
        have hd3 := Below.keeps hB hc3
        have hd4 := Below.keeps hB hc4
        have hlt2 : b2 < wr.heap.size := lt_of_cell hd3
        have kk1 : (k : Int) < (a.length : Int) := by omega
        have kk2 : (k : Int) < (b.length : Int) := by omega
        clear hca hcb
        by_cases he : a[k] = b[k]
        · have HE := Lib.hid he
          have HD := Lib.hid (decide_eq_true he)
          clear he
          go_wp2_with fail
          refine (SameF_any a[k] b[k] _).mono ?_; rw [HD.out]; rintro e w1 ⟨rfl, hB1⟩
          have hB2 := bt (bt (b_alloc _ _) (b_alloc _ _)) hB1
          clear hB1
          go_wp2_with fail
          go_roundw
          case rel =>
            refine ⟨k + 1, by omega, by go_num, ?_, bt hB hB2⟩
            intro j h h' hj
            by_cases hjk : j = k
            · subst hjk; exact HE.out
            · exact hH.out j h h' (by omega)
          case measure => simp [intOf]; omega
        · have HE := Lib.hid he
          have HD := Lib.hid (decide_eq_false he)
          clear he
          go_wp2_with fail
          refine (SameF_any a[k] b[k] _).mono ?_; rw [HD.out]; rintro e w1 ⟨rfl, hB1⟩
          have hB2 := bt (bt (b_alloc _ _) (b_alloc _ _)) hB1
          clear hB1
          go_wp2_with fail
          go_ret
          exact ⟨by rw [decide_eq_false (pr_ne_of k h0 h0b HE.out)]; rfl, bt hB hB2⟩
      · obtain rfl : k = a.length := by omega
        go_wp2
        go_ret
        exact ⟨by rw [decide_eq_true (List.ext_getElem hL.out (fun j h h' => hH.out j h h' h))]; rfl, hB⟩
  · have t1 : ((a.length : Int) != (b.length : Int)) = true := by rw [bne_iff_ne]; omega
    go_enter Try.func76, Try.ntmps76
    go_wp2
    go_ret
    exact ⟨by rw [decide_eq_false (fun e => hl (by rw [e]))]; rfl, Below.refl _ _⟩

set_option maxRecDepth 100000 in
theorem SameP_any (va vb : Value) (a b : List PR) (w : World) (ha : RP w va a) (hb : RP w vb b) (hla : a.length ≤ 140737488355328) (hlb : b.length ≤ 140737488355328) :
    Calls Try.prog 34 #[va, vb] w fun e w' => e = .returned (.bool (decide (a = b))) ∧ Below w.heap.size w w' := by
  have hE := @EqualF_any va vb a b w ha hb hla hlb
  obtain ⟨aa, ca, rfl, _, _⟩ := ha.open
  obtain ⟨ab, cb, rfl, _, _⟩ := hb.open
  have hH := Lib.hid hE
  clear hE
  go_enter Try.func34, Try.ntmps34
  go_wp2_with fail
  refine hH.out.mono ?_; rintro e w1 ⟨rfl, hB1⟩
  go_wp2_with fail
  go_ret
  exact ⟨rfl, hB1⟩

theorem texts_of_get (l : List UInt8) (q : List PR) (h : getP l = some q) : (texts (tx q)).length + 2 = l.length := by
  have hp := putP_get l q h
  have hl := getP_length l q h
  unfold putP at hp
  rw [if_pos hl] at hp
  repeat' split at hp
  all_goals simp only [Prod.mk.injEq] at hp
  · have := congrArg List.length hp.1
    simp at this; omega
  · omega
  · omega
theorem mem_srt {z : PR} {l : List PR} : z ∈ srt l ↔ z ∈ l := by
  have h : ∀ (l : List PR), z ∈ srt l.reverse ↔ z ∈ l.reverse := by
    intro l
    induction l with
    | nil => simp [srt_nil]
    | cons p l ih => rw [List.reverse_cons, srt_snoc, mem_ins, ih]; simp [or_comm]
  have := h l.reverse
  rwa [List.reverse_reverse] at this
theorem total_ins (p : PR) : ∀ l : List PR, total16 (ins p l) = total16 l + p.1.length + p.2.length
  | [] => by simp [ins, total16]
  | q :: l => by
    have ih := total_ins p l
    simp only [total16, List.map_cons, List.sum_cons] at ih ⊢
    unfold ins
    split <;> simp only [List.map_cons, List.sum_cons] <;> omega
theorem total_srt (l : List PR) : total16 (srt l) = total16 l := by
  have h : ∀ (l : List PR), total16 (srt l.reverse) = total16 l.reverse := by
    intro l
    induction l with
    | nil => rfl
    | cons p l ih => rw [List.reverse_cons, srt_snoc, total_ins, ih]; simp [total16]; omega
  have := h l.reverse
  rwa [List.reverse_reverse] at this
theorem texts_srt (l : List PR) : (texts (tx (srt l))).length = (texts (tx l)).length := by rw [texts_tx, texts_tx, total_srt, srt_length]
theorem putP_srt (l : List PR) (h : l.length ≤ 65535) : (∃ b, putP (srt l) = (b, 0) ∧ b.length = (texts (tx l)).length + 2) ∨ putP (srt l) = ([], 5) := by
  cases hf : fits (tx (srt l))
  · exact .inr (putP_fat _ (by rw [srt_length]; exact h) hf)
  · refine .inl ⟨_, putP_ok _ (by rw [srt_length]; exact h) hf (srt_sorted l), ?_⟩
    rw [List.length_append, num_length, texts_srt]; omega

set_option maxRecDepth 100000 in
set_option maxHeartbeats 4000000 in
theorem PairsBack_any (v : Value) (r : List PR) (l : List UInt8) (w : World) (hr : RP w v r) (hl : r.length ≤ 4398046511104) (hm : ∀ p ∈ r, p.1.length ≤ 140737488355328 ∧ p.2.length ≤ 140737488355328) (hs : l.length ≤ 140737488355328) :
    Calls Try.prog 9 #[v, .string (bs l)] w fun e w' => e = .returned (.bool true) ∧ Below w.heap.size w w' := by
  obtain ⟨a, cap, rfl, _, _⟩ := hr.open
  cases hL : long16 r
  · obtain ⟨h1, h2⟩ := long16_le r hL
    by_cases h3 : 131072 < l.length
    · have HL := Lib.hid hL; clear hL
      go_enter Try.func9, Try.ntmps9
      go_wp2_with fail
      refine (Long16_any _ r _ hr (by omega) hm).mono ?_; rw [HL.out]; rintro e w1 ⟨rfl, hB0⟩
      go_wp2_with (go_at_call 26; refine (alive16 _).mono ?_; rintro e w1 ⟨rfl, hB1⟩)
      go_ret
      exact ⟨rfl, bt hB0 hB1⟩
    · have HL := Lib.hid hL; clear hL
      have hsl := srt_length r
      have hst := texts_srt r
      rcases putP_srt r (by omega) with ⟨b, hp, hbl⟩ | hp
      · have HP := Lib.hid hp
        have HG := Lib.hid (getP_put b _ hp)
        clear hp
        have hbs : b.length ≤ 140737488355328 := by omega
        have hsl1 : (srt r).length ≤ 1000000000 := by omega
        have hst1 : (texts (tx (srt r))).length ≤ 1000000000 := by omega
        clear hsl hst hbl
        go_enter Try.func9, Try.ntmps9
        go_wp2_with fail
        refine (Long16_any _ r _ hr (by omega) hm).mono ?_; rw [HL.out]; rintro e w0 ⟨rfl, hB0⟩
        go_wp2_with fail
        refine (Sort_any _ _ r _ (Nat.le_refl _) (hr.below hB0) (by omega)).mono ?_; rintro e w1 ⟨v1, rfl, hr1, hB1⟩
        go_wp2_with fail
        refine (PutP_any _ _ _ hr1.reads hst1 hsl1).mono ?_; rw [HP.out, txV_at16]; rintro e w2 ⟨rfl, hB2⟩
        go_wp2_with fail
        refine (GetP_any b _ hbs).mono ?_; rw [HG.out]; rintro e w3 ⟨hres, hB3⟩; obtain ⟨v2, rfl, hr2⟩ := PsRes_some hres; clear hres
        have hB13 := bt hB0 (bt hB1 (bt hB2 hB3))
        have hr3 := hr.below hB13
        have hr2' := OP.reads hr2
        clear hB0 hB1 hB2 hB3 hr1 hr2
        go_wp2_with fail
        refine (Sort_any _ _ r _ (Nat.le_refl _) hr3 (by omega)).mono ?_; rintro e w4 ⟨v4, rfl, hr4, hB4⟩
        go_wp2_with fail
        refine (SameP_any _ _ _ _ _ (hr2'.below hB4) hr4.reads (by omega) (by omega)).mono ?_; rw [decide_eq_true rfl]; rintro e w5 ⟨rfl, hB5⟩
        have hB03 := bt hB13 (bt hB4 hB5)
        clear hB13 hB4 hB5 hr3 hr2' hr4
        (cases hq : getP l with | none => (have HQ := Lib.hid hq; clear hq; go_wp2_with fail; refine (GetP_any l _ hs).mono ?_; rw [HQ.out]; rintro e w4 ⟨hres, hB4⟩; obtain rfl := PsRes_none hres; clear hres; go_wp2_with fail; refine (alive16 _).mono ?_; rintro e w11 ⟨rfl, hB11⟩; go_wp2_with fail; go_ret; exact ⟨rfl, bt hB03 (bt hB4 hB11)⟩) | some q => (have hql := getP_length l q hq; have hqt := texts_of_get l q hq; have hpq := Lib.hid (putP_get l q hq); have HQ := Lib.hid hq; clear hq; go_wp2_with fail; refine (GetP_any l _ hs).mono ?_; rw [HQ.out]; rintro e w4 ⟨hres, hB4⟩; obtain ⟨v1, rfl, hr1⟩ := PsRes_some hres; clear hres; go_wp2_with fail; refine (PutP_any _ q _ (OP.reads hr1) (by omega) (by omega)).mono ?_; rw [hpq.out, txV_at16]; rintro e w5 ⟨rfl, hB5⟩; go_wp2_with fail; refine (alive16 _).mono ?_; rintro e w11 ⟨rfl, hB11⟩; go_wp2_with fail; go_ret; exact ⟨rfl, bt hB03 (bt hB4 (bt hB5 hB11))⟩))
      · have HP := Lib.hid hp
        clear hp
        have hsl1 : (srt r).length ≤ 1000000000 := by omega
        have hst1 : (texts (tx (srt r))).length ≤ 1000000000 := by omega
        clear hsl hst
        go_enter Try.func9, Try.ntmps9
        go_wp2_with fail
        refine (Long16_any _ r _ hr (by omega) hm).mono ?_; rw [HL.out]; rintro e w0 ⟨rfl, hB0⟩
        go_wp2_with fail
        refine (Sort_any _ _ r _ (Nat.le_refl _) (hr.below hB0) (by omega)).mono ?_; rintro e w1 ⟨v1, rfl, hr1, hB1⟩
        go_wp2_with fail
        refine (PutP_any _ _ _ hr1.reads hst1 hsl1).mono ?_; rw [HP.out, txV_at16]; rintro e w2 ⟨rfl, hB2⟩
        have hB03 := bt hB0 (bt hB1 hB2)
        clear hB0 hB1 hB2 hr1
        (cases hq : getP l with | none => (have HQ := Lib.hid hq; clear hq; go_wp2_with fail; refine (GetP_any l _ hs).mono ?_; rw [HQ.out]; rintro e w4 ⟨hres, hB4⟩; obtain rfl := PsRes_none hres; clear hres; go_wp2_with fail; refine (alive16 _).mono ?_; rintro e w11 ⟨rfl, hB11⟩; go_wp2_with fail; go_ret; exact ⟨rfl, bt hB03 (bt hB4 hB11)⟩) | some q => (have hql := getP_length l q hq; have hqt := texts_of_get l q hq; have hpq := Lib.hid (putP_get l q hq); have HQ := Lib.hid hq; clear hq; go_wp2_with fail; refine (GetP_any l _ hs).mono ?_; rw [HQ.out]; rintro e w4 ⟨hres, hB4⟩; obtain ⟨v1, rfl, hr1⟩ := PsRes_some hres; clear hres; go_wp2_with fail; refine (PutP_any _ q _ (OP.reads hr1) (by omega) (by omega)).mono ?_; rw [hpq.out, txV_at16]; rintro e w5 ⟨rfl, hB5⟩; go_wp2_with fail; refine (alive16 _).mono ?_; rintro e w11 ⟨rfl, hB11⟩; go_wp2_with fail; go_ret; exact ⟨rfl, bt hB03 (bt hB4 (bt hB5 hB11))⟩))
  · have HL := Lib.hid hL; clear hL
    go_enter Try.func9, Try.ntmps9
    go_wp2_with fail
    refine (Long16_any _ r _ hr (by omega) hm).mono ?_; rw [HL.out]; rintro e w1 ⟨rfl, hB0⟩
    go_wp2_with (go_at_call 26; refine (alive16 _).mono ?_; rintro e w1 ⟨rfl, hB1⟩)
    go_ret
    exact ⟨rfl, bt hB0 hB1⟩
end Go.Proofs.Ytdebgkjekcppmaa
