/- Walks of package sha: Hex, Unhex. -/
import Derived.Test.YtdebgkjekcppmaaSH
import Derived.Test.YtdebgkjekcppmaaB2
namespace Go.Proofs.Ytdebgkjekcppmaa
open Go.RowKit Oct

set_option maxRecDepth 100000 in
set_option maxHeartbeats 1000000 in
theorem Hex_any (l : List UInt8) (w : World) (hl : l.length ≤ 1099511627776) :
    Calls Try.prog 20 #[.string (bs l)] w fun e w' => e = .returned (.string (bs (hexF l))) ∧ Below w.heap.size w w' := by
  go_enter Try.func20, Try.ntmps20
  go_wp2
  obtain ⟨W1, hW1⟩ : ∃ W1, W1 = w.alloc (.cells #[.pointer none, .slice none 0 0] 77) := ⟨_, rfl⟩
  have hBld : Bld w.heap.size w.heap.size [] W1 := by rw [hW1]; exact Bld.fresh w
  have hBW : Below w.heap.size w W1 := by rw [hW1]; exact b_alloc _ _
  rw [← hW1]
  have HBld := Lib.hid hBld
  have HBW := Lib.hid hBW
  clear hW1 hBld hBW
  go_loopw [7] (fun i wx => ∃ k : Nat, k ≤ l.length ∧ i = .int .i64 k ∧ Hid (Bld w.heap.size w.heap.size (hexF (l.take k)) wx) ∧ Hid (Below w.heap.size w wx)) (fun i _ => l.length - (intOf i).toNat)
  case atStart => exact ⟨0, by omega, rfl, HBld, HBW⟩
  case round =>
    obtain ⟨k, hk, rfl, HB, HW⟩ := hrel
    by_cases hkl : k < l.length
    · have k1 : (k : Int) < (l.length : Int) := by omega
      have k0 : (0 : Int) ≤ (k : Int) := by omega
      have HS := Lib.hid (hexF_snoc l k hkl)
      have HL := Lib.hid (show (hexF (l.take k)).length + 2 ≤ 140737488355328 by rw [hexF_length, List.length_take]; omega)
      have hlt := l[k].toNat_lt
      have hi1 : ∀ w, (Instr.index 9 (.string ⟨#[48, 49, 50, 51, 52, 53, 54, 55, 56, 57, 97, 98, 99, 100, 101, 102]⟩) (.int .u8 ((l[k].toNat : Int) / 16))).run Try.prog w = .ok (.int .u8 ((hexd (l[k].toNat / 16)).toNat : Int)) w := fun w => by
        rw [show (l[k].toNat : Int) / 16 = ((l[k].toNat / 16 : Nat) : Int) by omega]; exact index16 _ (by omega) w
      have hi2 : ∀ w, (Instr.index 9 (.string ⟨#[48, 49, 50, 51, 52, 53, 54, 55, 56, 57, 97, 98, 99, 100, 101, 102]⟩) (.int .u8 ((l[k].toNat : Int) % 16))).run Try.prog w = .ok (.int .u8 ((hexd (l[k].toNat % 16)).toNat : Int)) w := fun w => by
        rw [show (l[k].toNat : Int) % 16 = ((l[k].toNat % 16 : Nat) : Int) by omega]; exact index16 _ (by omega) w
      generalize hexd (l[k].toNat / 16) = x1 at *
      generalize hexd (l[k].toNat % 16) = x2 at *
      go_wp2_with fail
      refine (WriteByte_kept w.heap.size w.heap.size _ x1 _ HB.out (by have := HL.out; omega)).mono ?_
      rintro e w2 ⟨rfl, hB2, hb2, _⟩
      have HB2 := Lib.hid hB2
      have HW2 := Lib.hid (HW.out.trans hb2)
      clear hB2 hb2
      go_wp2_with fail
      refine (WriteByte_kept w.heap.size w.heap.size _ x2 _ HB2.out (by rw [List.length_append]; have := HL.out; show _ + 1 + 1 ≤ _; omega)).mono ?_
      rintro e w3 ⟨rfl, hB3, hb3, _⟩
      have HB3 := Lib.hid hB3
      have HW3 := Lib.hid (HW2.out.trans hb3)
      clear hB3 hb3
      go_wp2_with fail
      refine ⟨⟨k + 1, by omega, by go_num, ?_, HW3.out⟩, by simp [intOf]; omega⟩
      have := HB3.out
      rw [List.append_assoc] at this
      rw [HS.out]
      exact this
    · have hk : k = l.length := by omega
      subst hk
      have HF := Lib.hid (List.take_length (l := l))
      go_wp2_with fail
      refine (BString_any w.heap.size w.heap.size _ _ HB.out).mono ?_
      rintro e w7 ⟨rfl, hB7⟩
      go_wp2_with fail
      go_ret
      exact ⟨rfl, HW.out.trans hB7⟩
theorem or16F : ∀ x y : Fin 16, bits .or .u8 ((x.val : Int) * 16) (y.val : Int) = ((UInt8.ofNat (16 * x.val + y.val)).toNat : Int) := by decide +kernel
theorem or16 (x y : Nat) (hx : x < 16) (hy : y < 16) : bits .or .u8 ((x : Int) * 16) (y : Int) = ((UInt8.ofNat (16 * x + y)).toNat : Int) := or16F ⟨x, hx⟩ ⟨y, hy⟩
set_option maxRecDepth 100000 in
set_option maxHeartbeats 1000000 in
theorem Unhex_any (l : List UInt8) (w : World) (hl : l.length ≤ 1099511627776) :
    Calls Try.prog 18 #[.string (bs l)] w fun e w' => e = .returned (uV l) ∧ Below w.heap.size w w' := by
  by_cases hp : l.length % 2 = 0
  · have p1 : (l.length : Int) % 2 = 0 := by omega
    have HP := Lib.hid hp
    have HU := Lib.hid (show unhF l = unhGo [] l by rw [unhF, if_neg (by omega)])
    clear hp
    go_enter Try.func18, Try.ntmps18
    go_wp2_with fail
    obtain ⟨W1, hW1⟩ : ∃ W1, W1 = w.alloc (.cells #[.pointer none, .slice none 0 0] 77) := ⟨_, rfl⟩
    have hBld : Bld w.heap.size w.heap.size [] W1 := by rw [hW1]; exact Bld.fresh w
    have hBW : Below w.heap.size w W1 := by rw [hW1]; exact b_alloc _ _
    rw [← hW1]
    have HBld := Lib.hid hBld
    have HBW := Lib.hid hBW
    clear hW1 hBld hBW p1
    go_loopw [5] (fun i wx => ∃ (m : Nat) (out : List UInt8), m ≤ l.length ∧ m % 2 = 0 ∧ out.length ≤ m ∧ i = .int .i64 m ∧ Hid (Bld w.heap.size w.heap.size out wx) ∧ Hid (unhF l = unhGo out (l.drop m)) ∧ Hid (Below w.heap.size w wx)) (fun i _ => l.length - (intOf i).toNat)
    case atStart => exact ⟨0, [], by omega, by omega, by simp, rfl, HBld, HU, HBW⟩
    case round =>
      clear HBld HBW
      obtain ⟨m, out, hj, hm, hol, rfl, HR, HG, HW⟩ := hrel
      have HM : Hid (m % 2 = 0) := hm
      have HOL := Lib.hid hol
      clear hm hol
      by_cases hjl : m < l.length
      · have hj1 : m + 1 < l.length := by have := HP.out; have := HM.out; omega
        have hat := unhGo_at out l m hj1
        have k1 : (m : Int) < (l.length : Int) := by omega
        have k0 : (0 : Int) ≤ (m : Int) := by omega
        have k2 : (m : Int) + 1 < (l.length : Int) := by omega
        have k3 : (0 : Int) ≤ (m : Int) + 1 := by omega
        obtain ⟨a, ha⟩ : ∃ a, l[m] = a := ⟨_, rfl⟩
        obtain ⟨b, hb⟩ : ∃ b, l[m + 1] = b := ⟨_, rfl⟩
        rw [ha, hb] at hat
        have HA := Lib.hid hat
        have HJ := Lib.hid hj1
        clear hat
        go_wp2_with fail
        refine (digit_any a _).mono ?_
        rintro e w2 ⟨rfl, hB2⟩
        have HR2 := Lib.hid (HR.out.below hB2)
        have HW2 := Lib.hid (bt HW.out hB2)
        clear hB2 HR HW
        go_wp2_with fail
        refine (digit_any b _).mono ?_
        rintro e w3 ⟨rfl, hB3⟩
        have HR3 := Lib.hid (HR2.out.below hB3)
        have HW3 := Lib.hid (bt HW2.out hB3)
        clear hB3 HR2 HW2
        cases hda : dig a with
        | none =>
          have HN := Lib.hid (uV_none (l := l) (by rw [HG.out, HA.out, hda]))
          simp only [Option.getD_none, Option.isSome_none]
          clear hda
          go_wp2
          go_ret2
          rw [HN.out]
          exact ⟨rfl, HW3.out⟩
        | some x =>
          have hx := dig_lt a x hda
          cases hdb : dig b with
          | none =>
            have HN := Lib.hid (uV_none (l := l) (by rw [HG.out, HA.out, hda, hdb]))
            simp only [Option.getD_none, Option.isSome_none, Option.getD_some, Option.isSome_some]
            clear hda hdb
            go_wp2
            go_ret2
            rw [HN.out]
            exact ⟨rfl, HW3.out⟩
          | some y =>
            have hy := dig_lt b y hdb
            have HN := Lib.hid (show unhF l = unhGo (out ++ [UInt8.ofNat (16 * x + y)]) (l.drop (m + 2)) by rw [HG.out, HA.out, hda, hdb])
            have hor := or16 x y hx hy
            have hx1 : (x : Int) < 16 := by omega
            simp only [Option.getD_none, Option.isSome_none, Option.getD_some, Option.isSome_some]
            clear hda hdb
            go_wp2_with fail
            refine (WriteByte_kept w.heap.size w.heap.size out (UInt8.ofNat (16 * x + y)) _ HR3.out (by have := HOL.out; omega)).mono ?_
            rintro e w4 ⟨rfl, hB4, hb4, _⟩
            have HB4 := Lib.hid hB4
            have HW4 := Lib.hid (HW3.out.trans hb4)
            clear hB4 hb4
            go_wp2_with fail
            refine ⟨?_, by simp [intOf]; omega⟩
            exact ⟨m + 2, out ++ [UInt8.ofNat (16 * x + y)], by have := HJ.out; omega, by have := HM.out; omega, by rw [List.length_append]; have := HOL.out; show _ + 1 ≤ _; omega, by go_num, HB4, HN, HW4⟩
      · have hk : m = l.length := by omega
        subst hk
        have k2 : ¬ (l.length : Int) + 1 < (l.length : Int) := by omega
        have HN := Lib.hid (uV_some (l := l) (o := out) (by rw [HG.out, List.drop_length]; rfl))
        go_wp2_with fail
        refine (BString_any w.heap.size w.heap.size _ _ HR.out).mono ?_
        rintro e w7 ⟨rfl, hB7⟩
        have HB7 := Lib.hid hB7
        clear hB7
        go_wp2_with fail
        go_ret2
        refine ⟨?_, HW.out.trans HB7.out⟩
        rw [HN.out]
        rfl
  · have p1 : (l.length : Int) % 2 = 1 := by omega
    have HN := Lib.hid (uV_none (l := l) (by rw [unhF, if_pos hp]))
    clear hp
    go_enter Try.func18, Try.ntmps18
    go_wp2
    go_ret2
    rw [HN.out]
    exact ⟨rfl, Below.refl _ _⟩
end Go.Proofs.Ytdebgkjekcppmaa
