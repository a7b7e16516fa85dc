/- Walks of package maslinref02: primes, most, root. -/
import Derived.Test.YtdebgkjekcppmaaSN
namespace Go.Proofs.Ytdebgkjekcppmaa
open Go.RowKit Oct

/-- the cells of numbers -/
def icells (l : List Nat) : List Value := l.map fun (x : Nat) => .int .i64 (x : Int)
theorem icells_length (l : List Nat) : (icells l).length = l.length := by simp [icells]
theorem icells_at (l : List Nat) (k : Nat) (h : k < l.length) : (icells l)[k]? = some (.int .i64 ((l.getD k 0 : Nat) : Int)) := by
  simp [icells, h, List.getD_eq_getElem?_getD]
theorem icells_snoc (l : List Nat) (x : Nat) : icells l ++ [.int .i64 (x : Int)] = icells (l ++ [x]) := by simp [icells]
theorem infoI64 : (Try.prog.info? 3).map (fun i => (i.zero, i.size, i.bytes)) = some (some (.int .i64 0), 1, 8) := by kernel_rfl

set_option maxRecDepth 100000 in
set_option maxHeartbeats 1000000 in
theorem primes_any (w : World) :
    Calls Try.prog 84 #[.int .i64 64] w fun e w' => ∃ a c, e = .returned (.slice a 64 c) ∧ Reads w' (.slice a 64 c) 64 (icells P64) ∧ Below w.heap.size w w' := by
  go_enter Try.func84, Try.ntmps84
  go_wp2
  go_loopw [3, 4] (fun v t wx => ∃ (acc : List Nat) (k f : Nat), k + f = 400 ∧ 2 ≤ k ∧ acc.length ≤ 64 ∧ t = .int .i64 (k : Int) ∧ Hid (wx.ownsRow w.heap.size 3 1 v acc.length (icells acc)) ∧ Hid (P64 = primesGo f acc k) ∧ Hid (Below w.heap.size w wx)) (fun _ t _ => 500 - (intOf t).toNat)
  case atStart => exact ⟨[], 2, 398, by omega, by omega, by simp, rfl, World.ownsRow_nil _ _ _ _, rfl, b_refl _⟩
  case round =>
    obtain ⟨acc, k, f, hkf, hk2, hal, rfl, HO, HP, HW⟩ := hrel
    obtain ⟨ao, co, rfl⟩ := owns_slice HO.out
    by_cases hl : acc.length < 64
    · have c1 : (acc.length : Int) < 64 := by omega
      cases f with
      | zero =>
        exfalso
        have h1 : P64 = acc := HP.out
        have h2 := P64_length
        rw [h1] at h2
        omega
      | succ f =>
        have HS := Lib.hid (show P64 = primesGo f (if primeF k then acc ++ [k] else acc) (k + 1) by rw [HP.out, primesGo, if_pos hl])
        have HK := Lib.hid hkf
        have hk4 : k < 400 := by omega
        clear hkf
        go_wp2_with fail
        refine (prime_any k wr (by omega)).mono ?_
        rintro e w1 ⟨rfl, hB1⟩
        have HO1 := Lib.hid (ownsRow_below HO.out hB1)
        have HW1 := Lib.hid (bt HW.out hB1)
        have hsz : w.heap.size ≤ w1.heap.size := HW1.out.size
        clear hB1
        cases hp : primeF k with
        | true =>
          have HS2 := Lib.hid (show P64 = primesGo f (acc ++ [k]) (k + 1) by rw [HS.out, hp]; rfl)
          clear hp
          go_wp2_with (at_builtin; go_must (refine append1 w1 [_] 3 rfl _ _ 57 rfl w.heap.size (.int .i64 0) 1 8 Try.underlying57 infoI64 rfl (by decide) _ _ _ rfl HO1.out _ rfl rfl (by simp [Value.oneCell']) (by omega) (by decide) hsz ?_); intro v' w2 hown2 hB2)
          rw [icells_snoc] at hown2
          have hlen : (acc ++ [k]).length = acc.length + 1 := by simp
          rw [← hlen] at hown2
          refine ⟨?_, by simp [intOf]; omega⟩
          first
            | exact ⟨acc ++ [k], k + 1, f, by have := HK.out; omega, by omega, by omega, by go_num, hown2, HS2, HW1.out.trans hB2⟩
            | ((repeat apply Exists.intro); exact ⟨⟨acc ++ [k], k + 1, f, by have := HK.out; omega, by omega, by omega, by go_num, hown2, HS2, HW1.out.trans hB2⟩, rfl⟩)
        | false =>
          have HS2 := Lib.hid (show P64 = primesGo f acc (k + 1) by rw [HS.out, hp]; rfl)
          clear hp
          go_wp2
          refine ⟨?_, by simp [intOf]; omega⟩
          first
            | exact ⟨acc, k + 1, f, by have := HK.out; omega, by omega, by omega, by go_num, HO1.out, HS2, HW1.out⟩
            | ((repeat apply Exists.intro); exact ⟨⟨acc, k + 1, f, by have := HK.out; omega, by omega, by omega, by go_num, HO1.out, HS2, HW1.out⟩, rfl⟩)
    · have h64 : acc.length = 64 := by omega
      have hfin : P64 = acc := by
        cases f with
        | zero => exact HP.out
        | succ f => have := HP.out; rwa [primesGo, if_neg hl] at this
      have HF := Lib.hid hfin
      have c1 : ¬ (acc.length : Int) < 64 := by omega
      have hR := Reads.owned HO.out
      rw [← hfin] at hR
      have hPL := P64_length
      rw [← hfin, P64_length] at *
      have HR := Lib.hid hR
      clear hR hPL hfin
      go_wp2
      go_ret
      exact ⟨ao, co, rfl, HR.out, HW.out⟩

def hi (p : List Nat) (m : Nat) : Nat := (p.drop m).foldr (fun d h => h * 65536 + d) 0
theorem hi_step (p : List Nat) (m : Nat) (h : m < p.length) : hi p m = hi p (m + 1) * 65536 + p.getD m 0 := by
  unfold hi
  rw [List.drop_eq_getElem_cons h, List.foldr_cons, List.getD_eq_getElem?_getD, List.getElem?_eq_getElem h, Option.getD_some]
theorem hi_end (p : List Nat) : hi p p.length = 0 := by simp [hi]
theorem hi_lt (p : List Nat) (hs : Small p) : ∀ (j m : Nat), m + j = p.length → hi p m < 65536 ^ j
  | 0, m, h => by
    obtain rfl : m = p.length := by omega
    rw [hi_end]; decide
  | j + 1, m, h => by
    have h1 := hi_lt p hs j (m + 1) (by omega)
    have h2 := hs m
    rw [hi_step p m (by omega), Nat.pow_succ]
    have : (hi p (m + 1) + 1) * 65536 ≤ 65536 ^ j * 65536 := Nat.mul_le_mul_right _ h1
    omega
def mostF (p : List Nat) (n k : Nat) : Bool := if (p.take k).all (· == 0) then decide (hi p k ≤ n) else decide (hi p k < n)

set_option maxRecDepth 100000 in
set_option maxHeartbeats 1000000 in
theorem most_any (va : Value) (p : List Nat) (n k : Nat) (w : World) (ha : Reads w va p.length (ncells p)) (hk : k ≤ p.length) (hk3 : p.length ≤ k + 3) (hk9 : p.length ≤ 9) (sp : Small p) (hn : n < 4294967296) :
    Calls Try.prog 101 #[va, .int .u64 (n : Int), .int .i64 (k : Int)] w fun e w' => e = .returned (.bool (mostF p n k)) ∧ Below w.heap.size w w' := by
  obtain ⟨aa, ca, rfl, hx1, _⟩ := id ha
  have HA := Lib.hid ha
  have HSP := Lib.hid sp
  clear ha hx1 sp
  go_enter Try.func101, Try.ntmps101
  go_wp2
  go_loop [7, 8] (fun h t => ∃ m : Nat, k ≤ m ∧ m ≤ p.length ∧ t = .int .i64 ((m : Int) - 1) ∧ h = .int .u64 ((hi p m : Nat) : Int)) (fun _ t => (intOf t + 1).toNat)
  case atStart => exact ⟨p.length, by omega, by omega, rfl, by rw [hi_end]; rfl⟩
  case round =>
    obtain ⟨m, hm1, hm2, rfl, rfl⟩ := hrel
    have hlt := hi_lt p HSP.out (p.length - m) m (by omega)
    have hlt3 : hi p m < 281474976710656 := Nat.lt_of_lt_of_le hlt (Nat.pow_le_pow_right (by decide) (show p.length - m ≤ 3 by omega))
    clear hlt
    by_cases hkm : k < m
    · obtain ⟨m, rfl⟩ : ∃ m', m = m' + 1 := ⟨m - 1, by omega⟩
      have c1 : (k : Int) ≤ (m : Int) := by omega
      have c0 : (0 : Int) ≤ (m : Int) := by omega
      have c2 : (m : Int) < (p.length : Int) := by omega
      have e1 : (((m + 1 : Nat) : Int) - 1) = (m : Int) := by omega
      rw [e1]
      obtain ⟨b, off, rfl, d1⟩ := HA.out.n m (by omega)
      have HST := Lib.hid (hi_step p m (by omega))
      have hlt4 := hi_lt p HSP.out (p.length - m) m (by omega)
      have hlt5 : hi p m < 281474976710656 := Nat.lt_of_lt_of_le hlt4 (Nat.pow_le_pow_right (by decide) (show p.length - m ≤ 3 by omega))
      have hd := HSP.out m
      clear hlt4
      generalize p.getD m 0 = x at *
      generalize hi p (m + 1) = hh at *
      have hsum : hh * 65536 + x < 281474976710656 := by rw [← HST.out]; exact hlt5
      clear hlt5
      go_wp2
      go_round
      case rel => exact ⟨m, by omega, by omega, rfl, by rw [HST.out]; go_num⟩
      case measure => simp [intOf]
    · obtain rfl : m = k := by omega
      have c1 : ¬ (m : Int) ≤ (m : Int) - 1 := by omega
      generalize hH : hi p m = H at *
      have HHi := Lib.hid hH
      clear hH
      go_wp2
      go_loop [9] (fun t => ∃ j : Nat, j ≤ m ∧ t = .int .i64 (j : Int) ∧ Hid (∀ i, i < j → p.getD i 0 = 0)) (fun t => m - (intOf t).toNat)
      case atStart => exact ⟨0, by omega, rfl, fun i h => by omega⟩
      case round =>
        obtain ⟨j, hj, rfl, HZ⟩ := hrel
        by_cases hjm : j < m
        · have j0 : (0 : Int) ≤ (j : Int) := by omega
          have j1 : (j : Int) < (m : Int) := by omega
          have j2 : (j : Int) < (p.length : Int) := by omega
          obtain ⟨b, off, rfl, d1⟩ := HA.out.n j (by omega)
          by_cases hz : p.getD j 0 = 0
          · have HZ2 := Lib.hid hz
            rw [hz] at d1
            clear hz
            go_wp2
            go_round
            case rel =>
              refine ⟨j + 1, by omega, by go_num, fun i hi => ?_⟩
              rcases Nat.lt_or_ge i j with h | h
              · exact HZ.out i h
              · obtain rfl : i = j := by omega
                exact HZ2.out
            case measure => simp [intOf]; omega
          · have HM := Lib.hid (show mostF p n m = decide (H < n) by
              unfold mostF
              rw [if_neg, HHi.out]
              intro hall
              rw [List.all_eq_true] at hall
              have hjl : j < p.length := by omega
              have := hall p[j] (List.mem_take_iff_getElem.2 ⟨j, by omega, rfl⟩)
              apply hz
              rw [List.getD_eq_getElem?_getD, List.getElem?_eq_getElem hjl, Option.getD_some]
              simpa using this)
            have hzi : (((p.getD j 0 : Nat) : Int) == 0) = false := by rw [beq_eq_false_iff_ne]; omega
            have hzi2 : (((p.getD j 0 : Nat) : Int) != 0) = true := by rw [bne_iff_ne]; omega
            generalize p.getD j 0 = x at *
            clear hz
            go_wp2
            go_ret
            refine ⟨?_, b_refl _⟩
            rw [HM.out]
            simp <;> omega
        · obtain rfl : j = m := by omega
          have HM := Lib.hid (show mostF p n j = decide (H ≤ n) by
            unfold mostF
            rw [if_pos, HHi.out]
            rw [List.all_eq_true]
            intro x hx
            obtain ⟨i, hi, rfl⟩ := List.mem_take_iff_getElem.1 hx
            have := HZ.out i (by omega)
            rw [List.getD_eq_getElem?_getD, List.getElem?_eq_getElem (by omega), Option.getD_some] at this
            simp [this])
          go_wp2
          go_ret
          refine ⟨?_, b_refl _⟩
          rw [HM.out]
          simp <;> omega
end Go.Proofs.Ytdebgkjekcppmaa
