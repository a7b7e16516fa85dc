/- Walks of the laws' helpers: Same, Long. -/
import Derived.Test.YtdfppopmephaaaaW8
namespace Go.Proofs.Ytdfppopmephaaaa
open Go.RowKit Oct

theorem list_ne_of {a b : List (List UInt8)} (k : Nat) (h : k < a.length) (h' : k < b.length) (hne : a[k] ≠ b[k]) : a ≠ b := by
  rintro rfl; exact hne rfl
theorem list_eq_of {a b : List (List UInt8)} (hl : a.length = b.length) (h : ∀ k (h : k < a.length) (h' : k < b.length), a[k] = b[k]) : a = b :=
  List.ext_getElem hl h

set_option maxRecDepth 100000 in
set_option maxHeartbeats 1000000 in
theorem Same_any (va vb : Value) (a b : List (List UInt8)) (w : World) (ha : Reads w va a.length (tcells a)) (hb : Reads w vb b.length (tcells b)) (hla : a.length ≤ 140737488355328) (hlb : b.length ≤ 140737488355328) :
    Calls Try.prog 27 #[va, vb] w fun e w' => e = .returned (.bool (decide (a = b))) ∧ Below w.heap.size w w' := by
  obtain ⟨aa, ca, rfl, _, hca⟩ := ha
  obtain ⟨ab, cb, rfl, _, hcb⟩ := hb
  by_cases hl : a.length = b.length
  · have hL := Lib.hid hl
    have t1 : ((a.length : Int) != (b.length : Int)) = false := by rw [bne_eq_false_iff_eq]; omega
    clear hl
    go_enter Try.func27, Try.ntmps27
    go_wp2
    go_loopw [5] (fun i wr => ∃ k : Nat, k ≤ a.length ∧ i = .int .i64 k ∧ Hid (∀ j (h : j < a.length) (h' : j < b.length), j < k → a[j] = b[j]) ∧ Below w.heap.size w wr) (fun i _ => a.length - (intOf i).toNat)
    case atStart => exact ⟨0, by omega, rfl, by intro j _ _ h; omega, Below.refl _ _⟩
    case round =>
      obtain ⟨k, hk, rfl, hH, hB⟩ := hrel
      by_cases h0 : k < a.length
      · have h0b : k < b.length := by have := hL.out; omega
        obtain ⟨b1, o1, rfl, hc1⟩ := hca k _ (tcells_at a k h0)
        obtain ⟨b2, o2, rfl, hc2⟩ := hcb k _ (tcells_at b k h0b)
        have hd1 := Below.keeps hB hc1
        have hd2 := Below.keeps hB hc2
        have kk1 : (k : Int) < (a.length : Int) := by omega
        have kk2 : (k : Int) < (b.length : Int) := by omega
        clear hca hcb
        by_cases he : a[k] = b[k]
        · have he2 : (a[k] == b[k]) = true := by simpa using he
          have HE := Lib.hid he
          clear he
          go_wp2
          go_quiet (fail)
          go_wp2
          go_roundw
          case rel =>
            refine ⟨k + 1, by omega, by go_num, ?_, bt hB (Below.drewN' _ _)⟩
            intro j h h' hj
            by_cases hjk : j = k
            · subst hjk; exact HE.out
            · exact hH.out j h h' (by omega)
          case measure => simp [intOf]; omega
        · have he2 : (a[k] == b[k]) = false := by simpa using he
          have HE := Lib.hid he
          clear he
          go_wp2
          go_quiet (fail)
          go_wp2
          go_ret
          exact ⟨by rw [decide_eq_false (list_ne_of k h0 h0b HE.out)]; rfl, bt hB (Below.drewN' _ _)⟩
      · obtain rfl : k = a.length := by omega
        go_wp2
        go_ret
        exact ⟨by rw [decide_eq_true (list_eq_of hL.out (fun j h h' => hH.out j h h' h))]; rfl, hB⟩
  · have t1 : ((a.length : Int) != (b.length : Int)) = true := by rw [bne_iff_ne]; omega
    go_enter Try.func27, Try.ntmps27
    go_wp2
    go_ret
    exact ⟨by rw [decide_eq_false (fun e => hl (by rw [e]))]; rfl, Below.refl _ _⟩

theorem dec_cast (a b : Nat) : decide ((a : Int) < (b : Int)) = decide (a < b) := by simp
/-- how many bytes the first texts have -/
def total (r : List (List UInt8)) : Nat := (r.map List.length).sum
/-- Long -/
def long01 (r : List (List UInt8)) : Bool := decide (300 < r.length) || decide (262144 < total (r.take 400))
theorem total_take (r : List (List UInt8)) (k : Nat) (h : k < r.length) : total (r.take (k + 1)) = total (r.take k) + r[k].length := by
  rw [List.take_succ_eq_append_getElem h, total, total, List.map_append, List.sum_append]; simp
theorem total_le (r : List (List UInt8)) (k : Nat) (m : Nat) (h : ∀ l ∈ r, l.length ≤ m) (hk : k ≤ r.length) : total (r.take k) ≤ k * m := by
  induction k with
  | zero => simp [total]
  | succ k ih =>
    rw [total_take r k hk, Nat.add_mul]
    have := ih (by omega)
    have := h r[k] (List.getElem_mem hk)
    omega
theorem texts_len (r : List (List UInt8)) : (texts r).length = 2 * r.length + total r := by
  induction r with
  | nil => rfl
  | cons a r ih => simp only [texts, List.length_append, num_length, ih, List.length_cons, total, List.map_cons, List.sum_cons]; omega

set_option maxRecDepth 100000 in
set_option maxHeartbeats 1000000 in
theorem Long_any (v : Value) (r : List (List UInt8)) (w : World) (hr : Reads w v r.length (tcells r)) (hl : r.length ≤ 140737488355328) (hm : ∀ l ∈ r, l.length ≤ 140737488355328) :
    Calls Try.prog 20 #[v] w fun e w' => e = .returned (.bool (long01 r)) ∧ w = w' := by
  obtain ⟨a, cap, rfl, _, hc⟩ := hr
  have HM := Lib.hid hm
  clear hm
  go_enter Try.func20, Try.ntmps20
  go_wp2
  go_loop [3, 4] (fun n i => ∃ k x : Nat, k ≤ r.length ∧ k ≤ 400 ∧ i = .int .i64 k ∧ n = .int .i64 x ∧ x ≤ k * 140737488355328 ∧ Hid (x = total (r.take k))) (fun _ i => 400 - (intOf i).toNat)
  case atStart => exact ⟨0, 0, by omega, by omega, rfl, rfl, by omega, rfl⟩
  case round =>
    obtain ⟨k, x, hk, hk2, rfl, rfl, hx, hH⟩ := hrel
    by_cases h0 : k < r.length ∧ k < 400
    · obtain ⟨h1, h2⟩ := h0
      obtain ⟨b1, o1, rfl, hc1⟩ := hc k _ (tcells_at r k h1)
      clear hc
      have hmk := HM.out r[k] (List.getElem_mem h1)
      go_wp2
      go_round
      case rel => exact ⟨k + 1, x + r[k].length, by omega, by omega, by go_num, by go_num, by omega, by show _ = _; rw [total_take r k h1, hH.out]⟩
      case measure => simp [intOf]; omega
    · have hfin : total (r.take k) = total (r.take 400) := by
        by_cases h1 : k < r.length
        · rw [show k = 400 by omega]
        · rw [List.take_of_length_le (by omega), List.take_of_length_le (by omega)]
      have HF := Lib.hid hfin
      clear hfin
      by_cases h1 : k < r.length
      · have h2 : 400 ≤ k := by omega
        by_cases h3 : 300 < r.length
        · go_wp2
          go_ret
          exact ⟨by simp [long01, h3], rfl⟩
        · omega
      · by_cases h3 : 300 < r.length
        · go_wp2
          go_ret
          exact ⟨by simp [long01, h3], rfl⟩
        · go_wp2
          go_ret
          exact ⟨by rw [long01, ← HF.out, ← hH.out]; simp [h3]; rw [show decide ((300 : Int) < (r.length : Int)) = false from decide_eq_false (by omega), Bool.false_or]; exact decide_eq_decide.2 (by omega), rfl⟩
end Go.Proofs.Ytdfppopmephaaaa
