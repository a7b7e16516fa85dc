/- Walks of package maslinref02: root, constants, Plain. -/
import Derived.Test.YtdebgkjekcppmaaSU
namespace Go.Proofs.Ytdebgkjekcppmaa
open Go.RowKit Oct

def rstep (n : Nat) (cube : Bool) (x b : Nat) : Nat :=
  let y := x ||| 2 ^ b
  let p := timesF (digF y) (digF y)
  if (bif cube then mostF (timesF p (digF y)) n 6 else mostF p n 4) then y else x
def rootGo (n : Nat) (cube : Bool) : Nat → Nat → Nat
  | 0, x => x
  | b + 1, x => rootGo n cube b (rstep n cube x b)
def rootF (n : Nat) (cube : Bool) : Nat := rootGo n cube 41 0 % 4294967296

theorem wrap_u64 (z : Int) : IntKind.u64.wrap z = z % (18446744073709551616 : Int) := by
  simp [IntKind.wrap, IntKind.bits, IntKind.signed]
set_option maxRecDepth 100000 in
set_option maxHeartbeats 2000000 in
theorem root_any (n : Nat) (cube : Bool) (w : World) (hn : n < 4294967296) :
    Calls Try.prog 85 #[.int .i64 (n : Int), .bool cube] w fun e w' => e = .returned (.int .u64 ((rootF n cube : Nat) : Int)) ∧ Below w.heap.size w w' := by
  obtain ⟨R0, hR0⟩ : ∃ R0, R0 = rootGo n cube 41 0 := ⟨_, rfl⟩
  have HRF := Lib.hid (show rootF n cube = R0 % 4294967296 by rw [hR0]; rfl)
  have HR0 := Lib.hid hR0
  clear hR0
  go_enter Try.func85, Try.ntmps85
  go_wp2
  go_loopw [5, 6] (fun x t wx => ∃ z m : Nat, m ≤ 41 ∧ z < 2199023255552 ∧ t = .int .i64 ((m : Int) - 1) ∧ x = .int .u64 (z : Int) ∧ Hid (R0 = rootGo n cube m z) ∧ Hid (Below w.heap.size w wx)) (fun _ t _ => (intOf t + 1).toNat)
  case atStart => exact ⟨0, 41, by omega, by omega, rfl, rfl, HR0, b_refl _⟩
  case round =>
    obtain ⟨z, m, hm, hz, rfl, rfl, HR, HW⟩ := hrel
    by_cases h0 : 0 < m
    · obtain ⟨b, rfl⟩ : ∃ b, m = b + 1 := ⟨m - 1, by omega⟩
      have e1 : (((b + 1 : Nat) : Int) - 1) = (b : Int) := by omega
      rw [e1]
      have b0 : (0 : Int) ≤ (b : Int) := by omega
      have b1 : (b : Int) ≤ 40 := by omega
      have hP40 : 2 ^ b ≤ 1099511627776 := Nat.pow_le_pow_right (n := 2) (j := 40) (by decide) (by omega)
      have hy : z ||| 2 ^ b < 2199023255552 := Nat.or_lt_two_pow (n := 41) hz (by
        show 2 ^ b < 2199023255552
        omega)
      have hw2 : IntKind.u64.wrap ((2 : Int) ^ b) = ((2 ^ b : Nat) : Int) := by
        rw [show (2 : Int) ^ b = ((2 ^ b : Nat) : Int) by norm_cast, wrap_u64]
        exact Int.emod_eq_of_lt (Int.natCast_nonneg _) (Int.ofNat_lt.2 (show 2 ^ b < 18446744073709551616 by omega))
      have hor : bits .or .u64 (z : Int) (IntKind.u64.wrap ((2 : Int) ^ b)) = ((z ||| 2 ^ b : Nat) : Int) := by
        rw [hw2, u64_or_nat _ _ (by omega) (by omega)]
      clear hP40
      have HST := Lib.hid (show rootGo n cube (b + 1) z = rootGo n cube b (rstep n cube z b) from rfl)
      obtain ⟨y, hyd⟩ : ∃ y, y = z ||| 2 ^ b := ⟨_, rfl⟩
      have HRS := Lib.hid (show rstep n cube z b = if (bif cube then mostF (timesF (timesF (digF y) (digF y)) (digF y)) n 6 else mostF (timesF (digF y) (digF y)) n 4) then y else z by rw [hyd]; rfl)
      rw [← hyd] at hor hy
      clear hw2 hyd
      have hSY := digF_small y (by omega)
      have hLY : (digF y).length = 3 := rfl
      have hdig := digits_any y
      generalize digF y = D at *
      have HDG := Lib.hid hdig
      have HSY := Lib.hid hSY
      have HLY := Lib.hid hLY
      have hTY := timesF_ok _ _ HSY.out HSY.out
      have htim := fun va vb w ha hb => times_any va vb D D w ha hb (by omega) (by omega) hSY hSY
      have hmo := fun va w ha => most_any va (timesF D D) n 4 w ha (by rw [hTY.2]; omega) (by rw [hTY.2]; omega) (by rw [hTY.2]; omega) hTY.1 hn
      have htim2 := fun va vb w ha hb => times_any va vb (timesF D D) D w ha hb (by rw [hTY.2]; omega) (by omega) hTY.1 hSY
      have hT9 := timesF_ok _ _ hTY.1 hSY
      have hmo2 := fun va w ha => most_any va (timesF (timesF D D) D) n 6 w ha (by rw [hT9.2, hTY.2]; omega) (by rw [hT9.2, hTY.2]; omega) (by rw [hT9.2, hTY.2]; omega) hT9.1 hn
      rw [hT9.2, hTY.2, hLY] at hmo2
      rw [hTY.2, hLY] at htim2 hmo
      rw [hLY] at htim
      generalize timesF (timesF D D) D = T9 at *
      generalize timesF D D = T6 at *
      have HTIM := Lib.hid htim
      have HTIM2 := Lib.hid htim2
      have HMO := Lib.hid hmo
      have HMO2 := Lib.hid hmo2
      clear hdig hSY hLY hTY htim hmo htim2 hT9 hmo2
      go_wp2_with fail
      clear hor
      refine (HDG.out _ (by omega)).mono ?_
      rintro e w1 ⟨rfl, hr1, hB1⟩
      obtain ⟨W0, hW0⟩ : ∃ W0, W0 = wr.heap.size := ⟨_, rfl⟩
      rw [← hW0] at hr1 ⊢
      have HR1 := Lib.hid hr1
      have HB1 := Lib.hid (bt HW.out hB1)
      clear hr1 hB1 hW0
      go_wp2_with fail
      refine (HDG.out _ (by omega)).mono ?_
      rintro e w2 ⟨rfl, hr2, hB2⟩
      obtain ⟨W1, hW1⟩ : ∃ W1, W1 = w1.heap.size := ⟨_, rfl⟩
      rw [← hW1] at hr2 ⊢
      have HR2 := Lib.hid (HR1.out.below hB2)
      have HR3 := Lib.hid hr2
      have HB2 := Lib.hid (bt HB1.out hB2)
      clear hr2 hB2 hW1
      go_wp2_with fail
      refine (HTIM.out _ _ _ HR2.out HR3.out).mono ?_
      rintro e w3 ⟨g, n3, rfl, hn3, hr3, hB3⟩
      have hn6 : n3 = 6 := hn3
      subst hn6
      have HR4 := Lib.hid hr3
      have HB3 := Lib.hid (bt HB2.out hB3)
      clear hr3 hB3 hn3
      cases cube with
      | false =>
        go_wp2_with fail
        refine (HMO.out _ _ HR4.out).mono ?_
        rintro e w4 ⟨rfl, hB4⟩
        have HB4 := Lib.hid (bt HB3.out hB4)
        clear hB4
        cases hmf : mostF T6 n 4 with
        | true =>
          have HN := Lib.hid (show R0 = rootGo n false b y by rw [HR.out, HST.out, HRS.out, Bool.cond_false, hmf]; rfl)
          clear hmf
          go_wp2
          refine ⟨?_, by simp [intOf]⟩
          first
            | exact ⟨y, b, by omega, hy, rfl, rfl, HN, HB4.out⟩
            | ((repeat apply Exists.intro); exact ⟨⟨y, b, by omega, hy, rfl, rfl, HN, HB4.out⟩, rfl⟩)
        | false =>
          have HN := Lib.hid (show R0 = rootGo n false b z by rw [HR.out, HST.out, HRS.out, Bool.cond_false, hmf]; rfl)
          clear hmf
          go_wp2
          refine ⟨?_, by simp [intOf]⟩
          first
            | exact ⟨z, b, by omega, hz, rfl, rfl, HN, HB4.out⟩
            | ((repeat apply Exists.intro); exact ⟨⟨z, b, by omega, hz, rfl, rfl, HN, HB4.out⟩, rfl⟩)
      | true =>
        go_wp2_with fail
        refine (HDG.out _ (by omega)).mono ?_
        rintro e w4 ⟨rfl, hr4, hB4⟩
        obtain ⟨W3, hW3⟩ : ∃ W3, W3 = w3.heap.size := ⟨_, rfl⟩
        rw [← hW3] at hr4 ⊢
        have HR5 := Lib.hid (HR4.out.below hB4)
        have HR6 := Lib.hid hr4
        have HB4 := Lib.hid (bt HB3.out hB4)
        clear hr4 hB4 hW3
        go_wp2_with fail
        refine (HTIM2.out _ _ _ HR5.out HR6.out).mono ?_
        rintro e w5 ⟨g5, n5, rfl, hn5, hr5, hB5⟩
        have hn9 : n5 = 9 := hn5
        subst hn9
        have HR7 := Lib.hid hr5
        have HB5 := Lib.hid (bt HB4.out hB5)
        clear hr5 hB5 hn5
        go_wp2_with fail
        refine (HMO2.out _ _ HR7.out).mono ?_
        rintro e w6 ⟨rfl, hB6⟩
        have HB6 := Lib.hid (bt HB5.out hB6)
        clear hB6
        cases hmf : mostF T9 n 6 with
        | true =>
          have HN := Lib.hid (show R0 = rootGo n true b y by rw [HR.out, HST.out, HRS.out, Bool.cond_true, hmf]; rfl)
          clear hmf
          go_wp2
          refine ⟨?_, by simp [intOf]⟩
          first
            | exact ⟨y, b, by omega, hy, rfl, rfl, HN, HB6.out⟩
            | ((repeat apply Exists.intro); exact ⟨⟨y, b, by omega, hy, rfl, rfl, HN, HB6.out⟩, rfl⟩)
        | false =>
          have HN := Lib.hid (show R0 = rootGo n true b z by rw [HR.out, HST.out, HRS.out, Bool.cond_true, hmf]; rfl)
          clear hmf
          go_wp2
          refine ⟨?_, by simp [intOf]⟩
          first
            | exact ⟨z, b, by omega, hz, rfl, rfl, HN, HB6.out⟩
            | ((repeat apply Exists.intro); exact ⟨⟨z, b, by omega, hz, rfl, rfl, HN, HB6.out⟩, rfl⟩)
    · obtain rfl : m = 0 := by omega
      have HF := Lib.hid (show rootF n cube = z % 4294967296 by rw [HRF.out, HR.out]; rfl)
      go_wp2
      go_ret
      refine ⟨?_, HW.out⟩
      rw [HF.out, Int.natCast_emod]
      rfl
end Go.Proofs.Ytdebgkjekcppmaa
