/- The constants of the sum out of the primes, as plain functions; walks of prime, primes, digits, times. -/
import Derived.Test.YtdebgkjekcppmaaSM
import Derived.Test.YtdebgkjekcppmaaE1
namespace Go.Proofs.Ytdebgkjekcppmaa
open Go.RowKit Oct

def primeGo : Nat → Nat → Nat → Bool
  | 0, n, _ => decide (1 < n)
  | f + 1, n, k => if k * k ≤ n then (if n % k = 0 then false else primeGo f n (k + 1)) else decide (1 < n)
def primeF (n : Nat) : Bool := primeGo n n 2
def primesGo : Nat → List Nat → Nat → List Nat
  | 0, acc, _ => acc
  | f + 1, acc, k => if acc.length < 64 then primesGo f (if primeF k then acc ++ [k] else acc) (k + 1) else acc
def P64 : List Nat := primesGo 398 [] 2
theorem P64_length : P64.length = 64 := by decide +kernel
def digF (y : Nat) : List Nat := [y % 65536, y / 65536 % 65536, y / 65536 / 65536]
def inn (out b : List Nat) (i ai : Nat) : Nat → List Nat × Nat
  | 0 => (out, 0)
  | k + 1 => let p := inn out b i ai k; let v := p.1.getD (i + k) 0 + ai * b.getD k 0 + p.2; (p.1.set (i + k) (v % 65536), v / 65536)
def outr (a b : List Nat) : Nat → List Nat
  | 0 => List.replicate (a.length + b.length) 0
  | i + 1 => let p := inn (outr a b i) b i (a.getD i 0) b.length; p.1.set (i + b.length) p.2
def timesF (a b : List Nat) : List Nat := outr a b a.length
def Small (l : List Nat) : Prop := ∀ k, l.getD k 0 < 65536
theorem small_set {l : List Nat} (h : Small l) (k x : Nat) (hx : x < 65536) : Small (l.set k x) := fun j => by
  rw [List.getD_eq_getElem?_getD, List.getElem?_set]
  split
  · split
    · simpa using hx
    · simp
  · have := h j; rwa [List.getD_eq_getElem?_getD] at this
theorem small_zero (n : Nat) : Small (List.replicate n 0) := fun j => by
  rw [List.getD_eq_getElem?_getD, List.getElem?_replicate]; split <;> simp
theorem mul_small {x y : Nat} (hx : x < 65536) (hy : y < 65536) : x * y ≤ 4294836225 := by
  have := Nat.mul_le_mul (show x ≤ 65535 by omega) (show y ≤ 65535 by omega)
  omega
theorem inn_ok (out b : List Nat) (i ai : Nat) (ho : Small out) (hb : Small b) (ha : ai < 65536) : ∀ k, Small (inn out b i ai k).1 ∧ (inn out b i ai k).2 < 65536 ∧ (inn out b i ai k).1.length = out.length
  | 0 => ⟨ho, by show 0 < 65536; omega, rfl⟩
  | k + 1 => by
    obtain ⟨h1, h2, h3⟩ := inn_ok out b i ai ho hb ha k
    have hm := mul_small ha (hb k)
    have h4 := h1 (i + k)
    refine ⟨small_set h1 _ _ (by omega), ?_, ?_⟩
    · show ((inn out b i ai k).1.getD (i + k) 0 + ai * b.getD k 0 + (inn out b i ai k).2) / 65536 < 65536
      omega
    · show ((inn out b i ai k).1.set (i + k) _).length = out.length
      rw [List.length_set, h3]
theorem outr_ok (a b : List Nat) (ha : Small a) (hb : Small b) : ∀ i, Small (outr a b i) ∧ (outr a b i).length = a.length + b.length
  | 0 => ⟨small_zero _, by simp [outr]⟩
  | i + 1 => by
    obtain ⟨h1, h2⟩ := outr_ok a b ha hb i
    obtain ⟨h3, h4, h5⟩ := inn_ok (outr a b i) b i (a.getD i 0) h1 hb (ha i) b.length
    exact ⟨small_set h3 _ _ h4, by show ((inn (outr a b i) b i (a.getD i 0) b.length).1.set _ _).length = _; rw [List.length_set, h5, h2]⟩
theorem timesF_ok (a b : List Nat) (ha : Small a) (hb : Small b) : Small (timesF a b) ∧ (timesF a b).length = a.length + b.length := outr_ok a b ha hb _
theorem digF_small (y : Nat) (hy : y < 281474976710656) : Small (digF y) := fun k => by
  match k with
  | 0 => show y % 65536 < 65536; omega
  | 1 => show y / 65536 % 65536 < 65536; omega
  | 2 => show y / 65536 / 65536 < 65536; omega
  | k + 3 => show 0 < 65536; omega

/-- the cells of numbers of 64 bits -/
def ncells (l : List Nat) : List Value := l.map fun (x : Nat) => .int .u64 (x : Int)
theorem ncells_length (l : List Nat) : (ncells l).length = l.length := by simp [ncells]
theorem ncells_at (l : List Nat) (k : Nat) (h : k < l.length) : (ncells l)[k]? = some (.int .u64 ((l.getD k 0 : Nat) : Int)) := by
  simp [ncells, h, List.getD_eq_getElem?_getD]
theorem ncells_set (l : List Nat) (k x : Nat) : (ncells l).set k (.int .u64 (x : Int)) = ncells (l.set k x) := by simp [ncells, List.map_set]
theorem Reads.n {w : World} {a : Option Addr} {n c : Nat} {l : List Nat} (h : Reads w (.slice a n c) n (ncells l)) (k : Nat) (hk : k < l.length) : ∃ b off, a = some ⟨b, off, none⟩ ∧ w.cell? ⟨b, off + k, none⟩ = some (.int .u64 ((l.getD k 0 : Nat) : Int)) := by
  obtain ⟨a', c', hv, _, hc⟩ := h
  injection hv with e1 _ _
  subst e1
  exact hc k _ (ncells_at l k hk)

set_option maxRecDepth 100000 in
set_option maxHeartbeats 1000000 in
theorem prime_any (n : Nat) (w : World) (hn : n ≤ 1000000) :
    Calls Try.prog 98 #[.int .i64 (n : Int)] w fun e w' => e = .returned (.bool (primeF n)) ∧ Below w.heap.size w w' := by
  go_enter Try.func98, Try.ntmps98
  go_wp2
  go_loop [3] (fun t => ∃ k f : Nat, k + f = n + 2 ∧ 2 ≤ k ∧ k ≤ 1000002 ∧ t = .int .i64 (k : Int) ∧ Hid (primeF n = primeGo f n k)) (fun t => n + 10 - (intOf t).toNat)
  case atStart => exact ⟨2, n, by omega, by omega, by omega, rfl, rfl⟩
  case round =>
    obtain ⟨k, f, hkf, hk2, hk3, rfl, HP⟩ := hrel
    have hm : (k : Int) * (k : Int) ≤ 1000004000004 := by
      have := Nat.mul_le_mul hk3 hk3
      have e : ((k * k : Nat) : Int) = (k : Int) * (k : Int) := by push_cast; rfl
      rw [← e]; omega
    have hm0 : (0 : Int) ≤ (k : Int) * (k : Int) := by
      have e : ((k * k : Nat) : Int) = (k : Int) * (k : Int) := by push_cast; rfl
      rw [← e]; omega
    have hk0 : (k : Int) ≠ 0 := by omega
    have hk1 : (0 : Int) < (k : Int) := by omega
    have hkk : k ≤ k * k := Nat.le_mul_of_pos_left k (by omega)
    cases f with
    | zero =>
      have c1 : ¬ (k : Int) * (k : Int) ≤ (n : Int) := by
        have e : ((k * k : Nat) : Int) = (k : Int) * (k : Int) := by push_cast; rfl
        rw [← e]; omega
      have HF := Lib.hid (show primeF n = decide (1 < n) by rw [HP.out]; rfl)
      clear hkk
      go_wp2
      go_ret
      refine ⟨?_, b_refl _⟩
      rw [HF.out]
      simp <;> omega
    | succ f =>
      by_cases h1 : k * k ≤ n
      · have c1 : (k : Int) * (k : Int) ≤ (n : Int) := by
          have e : ((k * k : Nat) : Int) = (k : Int) * (k : Int) := by push_cast; rfl
          rw [← e]; omega
        by_cases h2 : n % k = 0
        · have c2 : (n : Int) % (k : Int) = 0 := by
            have e : ((n % k : Nat) : Int) = (n : Int) % (k : Int) := by push_cast; rfl
            rw [← e]; omega
          have HF := Lib.hid (show primeF n = false by rw [HP.out, primeGo, if_pos h1, if_pos h2])
          clear hkk h1 h2
          go_wp2
          go_ret
          exact ⟨by rw [HF.out]; rfl, b_refl _⟩
        · have c2 : ((n : Int) % (k : Int) == 0) = false := by
            have e : ((n % k : Nat) : Int) = (n : Int) % (k : Int) := by push_cast; rfl
            rw [← e]; rw [beq_eq_false_iff_ne]; omega
          have HF := Lib.hid (show primeF n = primeGo f n (k + 1) by rw [HP.out, primeGo, if_pos h1, if_neg h2])
          have hkn : k ≤ n := by omega
          clear hkk h1 h2
          go_wp2
          go_round
          case rel => exact ⟨k + 1, f, by omega, by omega, by omega, by go_num, HF⟩
          case measure => simp [intOf]; omega
      · have c1 : ¬ (k : Int) * (k : Int) ≤ (n : Int) := by
          have e : ((k * k : Nat) : Int) = (k : Int) * (k : Int) := by push_cast; rfl
          rw [← e]; omega
        have HF := Lib.hid (show primeF n = decide (1 < n) by rw [HP.out, primeGo, if_neg h1])
        clear hkk h1
        go_wp2
        go_ret
        refine ⟨?_, b_refl _⟩
        rw [HF.out]
        simp <;> omega

set_option maxRecDepth 100000 in
set_option maxHeartbeats 1000000 in
theorem digits_any (y : Nat) (w : World) (hy : y < 281474976710656) :
    Calls Try.prog 100 #[.int .u64 (y : Int)] w fun e w' => e = .returned (.slice (some ⟨w.heap.size, 0, none⟩) 3 3) ∧ Reads w' (.slice (some ⟨w.heap.size, 0, none⟩) 3 3) 3 (ncells (digF y)) ∧ Below w.heap.size w w' := by
  go_enter Try.func100, Try.ntmps100
  go_wp2
  go_ret
  refine ⟨rfl, ?_, b_alloc _ _⟩
  have e : (#[.int .u64 ((y : Int) % 65536), .int .u64 ((y : Int) / 65536 % 65536), .int .u64 ((y : Int) / 65536 / 65536)] : Array Value) = (ncells (digF y)).toArray := by simp [ncells, digF]
  rw [e]
  exact Reads.new w (ncells (digF y)) 3 _ 3

theorem outr_step (a b : List Nat) (i : Nat) : outr a b (i + 1) = (inn (outr a b i) b i (a.getD i 0) b.length).1.set (i + b.length) (inn (outr a b i) b i (a.getD i 0) b.length).2 := rfl
theorem inn_step (out b : List Nat) (i ai k : Nat) : inn out b i ai (k + 1) = ((inn out b i ai k).1.set (i + k) (((inn out b i ai k).1.getD (i + k) 0 + ai * b.getD k 0 + (inn out b i ai k).2) % 65536), ((inn out b i ai k).1.getD (i + k) 0 + ai * b.getD k 0 + (inn out b i ai k).2) / 65536) := rfl
set_option maxRecDepth 100000 in
set_option maxHeartbeats 2000000 in
theorem times_any (va vb : Value) (a b : List Nat) (w : World) (ha : Reads w va a.length (ncells a)) (hb : Reads w vb b.length (ncells b)) (hla : a.length ≤ 100) (hlb : b.length ≤ 100) (sa : Small a) (sb : Small b) :
    Calls Try.prog 99 #[va, vb] w fun e w' => ∃ g n, e = .returned (.slice (some ⟨g, 0, none⟩) n n) ∧ n = a.length + b.length ∧ Reads w' (.slice (some ⟨g, 0, none⟩) n n) n (ncells (timesF a b)) ∧ Below w.heap.size w w' := by
  obtain ⟨aa, ca, rfl, hx1, _⟩ := id ha
  obtain ⟨ab, cb, rfl, hx2, _⟩ := id hb
  have HA := Lib.hid ha
  have HB := Lib.hid hb
  have HSA := Lib.hid sa
  have HSB := Lib.hid sb
  have hmk : (Instr.makeSlice 126 (.int .i64 ((a.length : Int) + (b.length : Int))) (.int .i64 ((a.length : Int) + (b.length : Int)))).run Try.prog w = .ok (.slice (some ⟨w.heap.size, 0, none⟩) (a.length + b.length) (a.length + b.length)) (w.alloc (.cells (List.replicate (a.length + b.length) (.int .u64 0)).toArray 87)) := by
    have := make_one (P := Try.prog) 126 87 (.int .u64 0) 8 Try.underlying126 (by kernel_rfl) rfl (a.length + b.length) (by push_cast; omega) (by omega) w
    rw [Int.natCast_add] at this
    exact this
  clear ha hb hx1 hx2
  go_enter Try.func99, Try.ntmps99
  go_wp2
  clear hmk
  go_loopw [6] (fun t wx => ∃ i : Nat, i ≤ a.length ∧ t = .int .i64 (i : Int) ∧ Hid (Blk wx w.heap.size 87 (ncells (outr a b i))) ∧ Hid (Below w.heap.size w wx)) (fun t _ => a.length - (intOf t).toNat)
  case atStart =>
    refine ⟨0, by omega, rfl, ?_, b_alloc w _⟩
    have := Blk.new w (ncells (outr a b 0)) 87
    have e : ncells (outr a b 0) = List.replicate (a.length + b.length) (.int .u64 0) := by simp [ncells, outr]
    rw [e] at this ⊢
    exact this
  case round =>
    obtain ⟨i, hi, rfl, HBl, HW⟩ := hrel
    by_cases hil : i < a.length
    · have i0 : (0 : Int) ≤ (i : Int) := by omega
      have i1 : (i : Int) < (a.length : Int) := by omega
      have HO := Lib.hid (outr_ok a b HSA.out HSB.out i)
      obtain ⟨ba, oa, rfl, da⟩ := HA.out.n i hil
      have hai := HSA.out i
      have HST := Lib.hid (outr_step a b i)
      generalize a.getD i 0 = ai at *
      obtain ⟨O, hO⟩ : ∃ O, O = outr a b i := ⟨_, rfl⟩
      rw [← hO] at HBl HO HST
      obtain ⟨Wr, hWr⟩ : ∃ Wr, Wr = wr := ⟨_, rfl⟩
      subst hWr
      have HAI := Lib.hid hai
      have HDA := Lib.hid da
      clear hO hai da
      go_wp2
      go_loopw [7, 8] (fun c t wx => ∃ k : Nat, k ≤ b.length ∧ t = .int .i64 (k : Int) ∧ c = .int .u64 (((inn O b i ai k).2 : Nat) : Int) ∧ Hid (Blk wx w.heap.size 87 (ncells (inn O b i ai k).1)) ∧ Hid (Below w.heap.size w wx)) (fun _ t _ => b.length - (intOf t).toNat)
      case atStart => exact ⟨0, by omega, rfl, rfl, HBl, HW⟩
      case round =>
        clear HBl HW
        obtain ⟨k, hk, rfl, rfl, HBl, HW⟩ := hrel
        obtain ⟨q1, q2, q3⟩ := inn_ok O b i ai HO.out.1 HSB.out HAI.out k
        by_cases hkl : k < b.length
        · have k0 : (0 : Int) ≤ (k : Int) := by omega
          have k1 : (k : Int) < (b.length : Int) := by omega
          have ik0 : (0 : Int) ≤ (i : Int) + (k : Int) := by omega
          have ik1 : (i : Int) + (k : Int) < (a.length : Int) + (b.length : Int) := by omega
          have hol : i + k < (inn O b i ai k).1.length := by rw [q3, HO.out.2]; omega
          have d1 := HBl.out.cell (ncells_at _ (i + k) hol)
          have f1 := HBl.out.free (k := i + k) (by rw [ncells_length]; exact hol)
          obtain ⟨bb, ob, rfl, d2⟩ := (HB.out.below HW.out).n k hkl
          have d3 := Below.keeps HW.out HDA.out
          have hs := inn_step O b i ai k
          have hx := q1 (i + k)
          have hm := mul_small HAI.out (HSB.out k)
          generalize hv1 : (inn O b i ai k).1 = L at *
          generalize hv2 : (inn O b i ai k).2 = c at *
          generalize L.getD (i + k) 0 = x at *
          generalize b.getD k 0 = y at *
          have hp0 : (0 : Int) ≤ (ai : Int) * (y : Int) := by rw [← Int.natCast_mul]; omega
          have hp1 : (ai : Int) * (y : Int) ≤ 4294836225 := by rw [← Int.natCast_mul]; omega
          have HS := Lib.hid hs
          have HV := Lib.hid (show (((x + ai * y + c) % 65536 : Nat) : Int) = ((x : Int) + (ai : Int) * (y : Int) + (c : Int)) % 65536 ∧ (((x + ai * y + c) / 65536 : Nat) : Int) = ((x : Int) + (ai : Int) * (y : Int) + (c : Int)) / 65536 from ⟨by rw [Int.natCast_emod, Int.natCast_add, Int.natCast_add, Int.natCast_mul]; rfl, by rw [Int.natCast_ediv, Int.natCast_add, Int.natCast_add, Int.natCast_mul]; rfl⟩)
          have hc0 : (0 : Int) ≤ (c : Int) := by omega
          have hx0 : (0 : Int) ≤ (x : Int) := by omega
          clear hs hv1 hv2 hm hol
          go_wp2
          go_quiet (fail)
          go_wp2
          refine ⟨⟨k + 1, by omega, by go_num, by rw [HS.out]; exact v_int HV.out.2.symm, ?_, (bt HW.out (Below.drewN' wr nq)).setCell (Nat.le_refl _) _⟩, by simp [intOf]; omega⟩
          rw [HS.out]
          have hb := (HBl.out.below (Below.drewN' wr nq)).set (i + k) (.int .u64 (((x + ai * y + c) % 65536 : Nat) : Int))
          rw [ncells_set] at hb
          rw [← HV.out.1]
          exact hb
        · have hkb : k = b.length := by omega
          subst hkb
          have hol : i + b.length < (inn O b i ai b.length).1.length := by rw [q3, HO.out.2]; omega
          obtain ⟨cu, d1⟩ := HBl.out.ex (k := i + b.length) (by rw [ncells_length]; exact hol)
          have f1 := HBl.out.free (k := i + b.length) (by rw [ncells_length]; exact hol)
          have HSt := Lib.hid (HBl.out.set (i + b.length) (.int .u64 (((inn O b i ai b.length).2 : Nat) : Int)))
          have ib0 : (0 : Int) ≤ (i : Int) + (b.length : Int) := by omega
          have ib1 : (i : Int) + (b.length : Int) < (a.length : Int) + (b.length : Int) := by omega
          generalize hv1 : (inn O b i ai b.length).1 = L at *
          generalize hv2 : (inn O b i ai b.length).2 = c at *
          clear hv1 hv2 q1 q2 q3 hol
          go_wp2
          refine ⟨⟨i + 1, by omega, by go_num, ?_, HW.out.setCell (Nat.le_refl _) _⟩, by simp [intOf]; omega⟩
          rw [HST.out]
          have hb := HSt.out
          rw [ncells_set] at hb
          exact hb
    · obtain rfl : i = a.length := by omega
      have hl := (timesF_ok a b HSA.out HSB.out).2
      go_wp2
      go_ret
      refine ⟨_, _, rfl, rfl, ?_, HW.out⟩
      exact ⟨_, _, rfl, (by simp), fun j u hj => ⟨_, 0, rfl, by rw [Nat.zero_add]; exact HBl.out.cell hj⟩⟩
end Go.Proofs.Ytdebgkjekcppmaa
