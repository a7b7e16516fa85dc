/- Walks of package maslinref02: constants, Plain; the law ShaSums. -/
import Derived.Test.YtdebgkjekcppmaaSX
import Derived.Test.YtdebgkjekcppmaaSF
namespace Go.Proofs.Ytdebgkjekcppmaa
open Go.RowKit Oct

theorem P64_lt : ∀ j, j < 64 → P64.getD j 0 < 1000 := by decide +kernel
theorem rootF_lt (n : Nat) (c : Bool) : rootF n c < 4294967296 := Nat.mod_lt _ (by decide)
theorem U_ofNat (r : Nat) (h : r < 4294967296) : (r : Int) = U (UInt32.ofNat r) := by
  rw [U_nat, UInt32.toNat_ofNat_of_lt' h]
theorem Reads.i {w : World} {a : Option Addr} {n c : Nat} {l : List Nat} (h : Reads w (.slice a n c) n (icells l)) (k : Nat) (hk : k < l.length) : ∃ b off, a = some ⟨b, off, none⟩ ∧ w.cell? ⟨b, off + k, none⟩ = some (.int .i64 ((l.getD k 0 : Nat) : Int)) := by
  obtain ⟨a', c', hv, _, hc⟩ := h
  injection hv with e1 _ _
  subst e1
  exact hc k _ (icells_at l k hk)

set_option maxRecDepth 100000 in
set_option maxHeartbeats 2000000 in
theorem constants_any (w : World) :
    Calls Try.prog 54 #[] w fun e w' => ∃ a c b d, e = .returned (.tuple #[.slice a 64 c, .slice b 8 d]) ∧ Reads w' (.slice a 64 c) 64 (ucells ktab) ∧ Reads w' (.slice b 8 d) 8 (ucells h0) ∧ Below w.heap.size w w' := by
  have HPL := Lib.hid P64_length
  go_enter Try.func54, Try.ntmps54
  go_wp2_with fail
  refine (primes_any w).mono ?_
  rintro e w1 ⟨ap, cp, rfl, hP, hB1⟩
  have HP := Lib.hid hP
  have HB1 := Lib.hid hB1
  have hsz1 := hB1.size
  clear hP hB1
  go_wp2
  go_loopw [2, 5] (fun v i wx => ∃ k : Nat, k ≤ 64 ∧ i = .int .i64 (k : Int) ∧ Hid (wx.ownsRow w1.heap.size 85 1 v k (ucells (cF true k))) ∧ Hid (Below w1.heap.size w1 wx)) (fun _ i _ => 64 - (intOf i).toNat)
  case atStart => exact ⟨0, by omega, rfl, World.ownsRow_nil _ _ _ _, b_refl _⟩
  case round =>
    obtain ⟨k, hk, rfl, HO, HW⟩ := hrel
    obtain ⟨ao, co, rfl⟩ := owns_slice HO.out
    by_cases hk64 : k < 64
    · have k0 : (0 : Int) ≤ (k : Int) := by omega
      have k1 : (k : Int) < 64 := by omega
      obtain ⟨bp, op, rfl, dp⟩ := (HP.out.below HW.out).i k (by rw [HPL.out]; exact hk64)
      have hlt := P64_lt k hk64
      have hr := root_any (P64.getD k 0) true wr (by omega)
      have hrl := rootF_lt (P64.getD k 0) true
      have hcs := cF_step true k
      generalize P64.getD k 0 = x at *
      generalize rootF x true = r at *
      have HCS := Lib.hid hcs
      have HR := Lib.hid hr
      have HU := Lib.hid (U_ofNat r hrl)
      clear hcs hr
      go_wp2_with fail
      refine HR.out.mono ?_
      rintro e w2 ⟨rfl, hB2⟩
      have HO2 := Lib.hid (ownsRow_below HO.out hB2)
      have HW2 := Lib.hid (bt HW.out hB2)
      have hsz2 : w1.heap.size ≤ w2.heap.size := HW2.out.size
      clear hB2 dp
      go_wp2_with (at_builtin; go_must (refine append1 w2 [_] 85 rfl _ _ 70 rfl w1.heap.size (.int .u32 0) 1 4 Try.underlying70 infoU32 rfl (by decide) _ _ _ rfl HO2.out _ rfl rfl (by simp [Value.oneCell']) (by omega) (by decide) hsz2 ?_); intro v' w3 hown3 hB3)
      have hown4 : w3.ownsRow w1.heap.size 85 1 v' (k + 1) (ucells (cF true (k + 1))) := by
        rw [HCS.out, ucells_app]
        rw [HU.out] at hown3
        exact hown3
      refine ⟨?_, by simp [intOf]; omega⟩
      first
        | exact ⟨k + 1, by omega, by go_num, hown4, HW2.out.trans hB3⟩
        | ((repeat apply Exists.intro); exact ⟨⟨k + 1, by omega, by go_num, hown4, HW2.out.trans hB3⟩, rfl⟩)
    · obtain rfl : k = 64 := by omega
      have hR := Reads.owned HO.out
      rw [cF_k] at hR
      have HK := Lib.hid hR
      obtain ⟨Wr, hWr⟩ : ∃ Wr, Wr = wr := ⟨_, rfl⟩
      subst hWr
      clear hR
      go_wp2
      go_loopw [3, 6] (fun v i wx => ∃ k : Nat, k ≤ 8 ∧ i = .int .i64 (k : Int) ∧ Hid (wx.ownsRow Wr.heap.size 85 1 v k (ucells (cF false k))) ∧ Hid (Below Wr.heap.size Wr wx)) (fun _ i _ => 8 - (intOf i).toNat)
      case atStart => exact ⟨0, by omega, rfl, World.ownsRow_nil _ _ _ _, b_refl _⟩
      case round =>
        obtain ⟨k, hk8', rfl, HO3, HX⟩ := hrel
        obtain ⟨ao2, co2, rfl⟩ := owns_slice HO3.out
        by_cases hk8 : k < 8
        · have k0 : (0 : Int) ≤ (k : Int) := by omega
          have k1 : (k : Int) < 8 := by omega
          have k2 : (k : Int) < 64 := by omega
          obtain ⟨bp, op, rfl, dp⟩ := ((HP.out.below HW.out).below HX.out).i k (by rw [HPL.out]; omega)
          have hlt := P64_lt k (by omega)
          have hr := root_any (P64.getD k 0) false wr (by omega)
          have hrl := rootF_lt (P64.getD k 0) false
          have hcs := cF_step false k
          generalize P64.getD k 0 = x at *
          generalize rootF x false = r at *
          have HCS := Lib.hid hcs
          have HR := Lib.hid hr
          have HU := Lib.hid (U_ofNat r hrl)
          clear hcs hr
          go_wp2_with fail
          refine HR.out.mono ?_
          rintro e w2 ⟨rfl, hB2⟩
          have HO2 := Lib.hid (ownsRow_below HO3.out hB2)
          have HW2 := Lib.hid (bt HX.out hB2)
          have hsz2 : Wr.heap.size ≤ w2.heap.size := HW2.out.size
          clear hB2 dp
          go_wp2_with (at_builtin; go_must (refine append1 w2 [_] 85 rfl _ _ 70 rfl Wr.heap.size (.int .u32 0) 1 4 Try.underlying70 infoU32 rfl (by decide) _ _ _ rfl HO2.out _ rfl rfl (by simp [Value.oneCell']) (by omega) (by decide) hsz2 ?_); intro v' w3 hown3 hB3)
          have hown4 : w3.ownsRow Wr.heap.size 85 1 v' (k + 1) (ucells (cF false (k + 1))) := by
            rw [HCS.out, ucells_app]
            rw [HU.out] at hown3
            exact hown3
          refine ⟨?_, by simp [intOf]; omega⟩
          first
            | exact ⟨k + 1, by omega, by go_num, hown4, HW2.out.trans hB3⟩
            | ((repeat apply Exists.intro); exact ⟨⟨k + 1, by omega, by go_num, hown4, HW2.out.trans hB3⟩, rfl⟩)
        · obtain rfl : k = 8 := by omega
          have hR := Reads.owned HO3.out
          rw [cF_h] at hR
          have HH := Lib.hid hR
          clear hR
          go_wp2
          go_ret2
          exact ⟨_, _, _, _, rfl, HK.out.below HX.out, HH.out, bt HB1.out (bt HW.out HX.out)⟩

set_option maxRecDepth 100000 in
set_option maxHeartbeats 1000000 in
theorem rPlain_any (l : List UInt8) (w : World) (hl : l.length ≤ 1099511627776) :
    Calls Try.prog 16 #[.string (bs l)] w fun e w' => e = .returned (.string (bs (shaF l))) ∧ Below w.heap.size w w' := by
  go_enter Try.func16, Try.ntmps16
  go_wp2_with fail
  refine (constants_any w).mono ?_
  rintro e w1 ⟨a, c, b, d, rfl, hk, hh, hB1⟩
  have HK := Lib.hid hk
  have HH := Lib.hid hh
  have HB1 := Lib.hid hB1
  clear hk hh hB1
  go_wp2_with fail
  refine (rsum_any _ _ l w1 hl HK.out HH.out).mono ?_
  rintro e w2 ⟨rfl, hB2⟩
  have HB2 := Lib.hid (bt HB1.out hB2)
  clear hB2
  go_wp2_with fail
  go_ret
  exact ⟨rfl, HB2.out⟩

set_option maxRecDepth 100000 in
set_option maxHeartbeats 1000000 in
theorem ShaSums_any (s : List UInt8) (w : World) (hs : s.length ≤ 140737488355328) :
    Calls Try.prog 3 #[.string (bs s)] w fun e w' => e = .returned (.bool true) ∧ Below w.heap.size w w' := by
  by_cases hb : s.length > 1024
  · have k1 : (1024 : Int) < (s.length : Int) := by omega
    clear hb
    go_enter Try.func3, Try.ntmps3
    go_wp2_with fail
    refine (alive02 _).mono ?_
    rintro e w1 ⟨rfl, hB1⟩
    have HB1 := Lib.hid hB1
    clear hB1
    go_wp2_with fail
    go_ret
    exact ⟨rfl, HB1.out⟩
  · have k1 : ¬ (1024 : Int) < (s.length : Int) := by omega
    have hs2 : s.length ≤ 1024 := by omega
    clear hb
    go_enter Try.func3, Try.ntmps3
    go_wp2_with fail
    refine (Sum_any s _ (by omega)).mono ?_
    rintro e w1 ⟨rfl, hB1⟩
    have HB1 := Lib.hid hB1
    clear hB1
    go_wp2_with fail
    refine (rPlain_any s _ (by omega)).mono ?_
    rintro e w2 ⟨rfl, hB2⟩
    have HB2 := Lib.hid (bt HB1.out hB2)
    clear hB2
    go_wp2_with fail
    refine (Sum_any s _ (by omega)).mono ?_
    rintro e w3 ⟨rfl, hB3⟩
    have HB3 := Lib.hid (bt HB2.out hB3)
    clear hB3
    go_wp2_with fail
    refine (rSum_any s _ (by omega)).mono ?_
    rintro e w4 ⟨rfl, hB4⟩
    have HB4 := Lib.hid (bt HB3.out hB4)
    clear hB4
    go_wp2_with fail
    refine (alive02 _).mono ?_
    rintro e w5 ⟨rfl, hB5⟩
    have HB5 := Lib.hid (bt HB4.out hB5)
    clear hB5
    go_wp2_with fail
    go_ret
    exact ⟨rfl, HB5.out⟩
end Go.Proofs.Ytdebgkjekcppmaa
