/- Walk of the law OctetBack. -/
import Derived.Test.YtdfppopmephaaaaW14
import Derived.Test.YtdfppopmephaaaaP4
import Derived.Deep.DeepCutAuto
namespace Go.Proofs.Ytdfppopmephaaaa
open Go.RowKit Oct

theorem beq_self_list (l : List UInt8) : (l == l) = true := by simp

set_option maxRecDepth 100000 in
set_option maxHeartbeats 4000000 in
theorem Back_main (v : Nat) (n : Int) (l : List UInt8) (w : World) (hv : v < 18446744073709551616) (hl : l.length ≤ 131072) :
    Calls Try.prog 4 #[.int .u64 v, .int .i64 n, .string (bs l)] w fun e w' => e = .returned (.bool true) ∧ Below w.heap.size w w' := by
  have hm : (bs l).size ≤ maxLen := by rw [bs_size]; unfold maxLen; omega
  obtain ⟨a, ea, hpa⟩ : ∃ x e, putS v n = (x, e) := ⟨_, _, rfl⟩
  have HPA := Lib.hid hpa; clear hpa
  go_enter Try.func4, Try.ntmps4
  go_wp2_with fail
  refine (Put_any v n _ (by omega) (by omega)).mono ?_; rw [HPA.out]; rintro e w1 ⟨rfl, hB1⟩
  go_upto_if 38 with fail
  go_cut [] (fun wx => Below w.heap.size w wx)
  case first =>
    by_cases he : ea = 0
    · subst he
      obtain ⟨g1, g2⟩ := put_back v n (by omega) a HPA.out
      have G1 := Lib.hid g1; clear g1
      have ha : a.length ≤ 8 := by
        have := HPA.out; unfold putS at this; split at this
        · rename_i hp; simp only [putOk, decide_eq_true_eq] at hp; omega
        · simp at this
      subst g2
      have ha2 : (bs a).size ≤ maxLen := by rw [bs_size]; unfold maxLen; omega
      go_wp2_with fail
      refine (Get_any (bs a) _ ha2).mono ?_; rw [bs_data, G1.out]; rintro e w2 ⟨rfl, rfl⟩
      go_wp2_with fail
      go_meet
      case rel => exact hB1
    · have he2 : (ea == 0) = false := by simpa using he
      clear he
      go_wp2_with fail
      go_meet
      case rel => exact hB1
  case rest =>
  clear hB1
  have hB := hcut
  clear hcut
  obtain ⟨x, ex, hgx⟩ : ∃ x e, getS l = (x, e) := ⟨_, _, rfl⟩
  have HGX := Lib.hid hgx; clear hgx
  go_wp2_with fail
  refine (Get_any (bs l) _ hm).mono ?_; rw [bs_data, HGX.out]; rintro e w2 ⟨rfl, rfl⟩
  go_upto_if 63 with fail
  go_cut [] (fun wx => Below w.heap.size w wx)
  case first =>
    by_cases he : ex = 0
    · subst he
      obtain ⟨g1, g2, g3⟩ := get_back l x HGX.out
      have G3 := Lib.hid g3; clear g3
      go_wp2_with fail
      refine (Put_any x l.length _ g1 (by omega)).mono ?_; rw [G3.out]; rintro e w2 ⟨rfl, hB2⟩
      go_wp2_with fail
      go_meet
      case rel => exact bt hB hB2
    · have he2 : (ex == 0) = false := by simpa using he
      clear he
      go_wp2_with fail
      go_meet
      case rel => exact hB
  case rest =>
  clear hB
  have hB := hcut
  clear hcut
  have hsl := shortF_length 10 v
  have hsl2 : (short v).length ≤ 10 := hsl
  clear hsl
  have RS := Lib.hid (readShort_short v hv l)
  go_wp2_with fail
  refine (Short_any v _ hv).mono ?_; rintro e w2 ⟨rfl, hB2⟩
  go_wp2_with fail
  refine (ReadShort_any (bs (short v ++ l)) _ (by rw [bs_size]; unfold maxLen; simp; omega)).mono ?_; rw [bs_data, RS.out, rsV_mk]; rintro e w3 ⟨rfl, rfl⟩
  go_wp2_with fail
  obtain ⟨z, m, h, hz⟩ : ∃ z m h, readShort l = (z, m, h) := ⟨_, _, _, rfl⟩
  have HZ := Lib.hid hz; clear hz
  refine (ReadShort_any (bs l) _ hm).mono ?_; rw [bs_data, HZ.out, rsV_mk]; rintro e w3 ⟨rfl, rfl⟩
  have hB := bt hB hB2
  clear hB2
  go_upto_region 18 with fail
  go_cut [126] (fun s wx => s = .bool false ∧ Below w.heap.size w wx)
  case first =>
    by_cases he : h = 0
    · subst he
      obtain ⟨r1, r2, r3, r4⟩ := readShort_back l z m HZ.out
      have R4 := Lib.hid r4; clear r4
      have q1 : ¬ (m : Int) < 1 := by omega
      have q2 : ¬ (l.length : Int) < (m : Int) := by omega
      have q3 : (m : Int) ≤ (l.length : Int) := by omega
      have q4 : decide ((m : Int) < 1) = false := decide_eq_false q1
      have q5 : decide ((l.length : Int) < (m : Int)) = false := decide_eq_false q2
      clear RS
      have hS : ∀ w', Calls Try.prog 16 #[.int .u64 z] w' fun e w'' => e = .returned (.string (bs (l.take m))) ∧ Below w'.heap.size w' w'' := by
        intro w'
        have := Short_any z w' r3
        rwa [R4.out] at this
      have HS := Lib.hid hS; clear hS
      refine region_grow (by kernel_rfl) (by kernel_rfl) ?_
      repeat (first | go_big_quiet_skip | (go_big_quiet_want; go_big_quiet_op; (first | go_big_quiet_on | (refine ⟨_, fun _ _ => rfl, ?_⟩; go_big_quiet_on) | (refine ⟨_, fun _ hC => calls_grow hC (HS.out _), ?_⟩; go_big_quiet_on))))
      refine wpQuiet_nil ?_
      intro w3 hB3
      go_wp2_with fail
      go_meet
      case rel => exact ⟨by simp, bt hB hB3⟩
    · have he2 : (h == 0) = false := by simpa using he
      clear he RS
      go_quiet (fail)
      go_wp2_with fail
      go_meet
      case rel => exact ⟨rfl, bt hB (Below.drewN' _ _)⟩
  case rest =>
  clear hB RS
  obtain ⟨rfl, hB⟩ := hcut
  by_cases ht : l.length ≤ 65535
  · obtain ⟨b1, b2⟩ := text_back l (num l.length 2 ++ l) (short v) (text_le l ht)
    have B1 := Lib.hid b1; clear b1
    have T1 := Lib.hid (text_le l ht)
    go_wp2_with fail
    refine (Text_any l _ (by omega)).mono ?_; rw [T1.out, txV_mk]; rintro e w3 ⟨rfl, hB3⟩
    go_wp2_with fail
    refine (Read_any (num l.length 2 ++ l ++ short v) _ (by simp; omega)).mono ?_; rw [B1.out, rdV_mk]; rintro e w4 ⟨rfl, hB4⟩
    go_wp2_with fail
    refine (alive01 _).mono ?_; rintro e w5 ⟨rfl, hB5⟩
    go_wp2_with fail
    go_ret
    exact ⟨rfl, bt hB (bt hB3 (bt hB4 hB5))⟩
  · have T1 := Lib.hid (text_gt l ht)
    go_wp2_with fail
    refine (Text_any l _ (by omega)).mono ?_; rw [T1.out, txV_mk]; rintro e w3 ⟨rfl, hB3⟩
    go_wp2_with fail
    refine (alive01 _).mono ?_; rintro e w4 ⟨rfl, hB4⟩
    go_wp2_with fail
    go_ret
    exact ⟨rfl, bt hB (bt hB3 hB4)⟩

set_option maxRecDepth 100000 in
set_option maxHeartbeats 1000000 in
theorem OctetBack_any (v : Nat) (n : Int) (l : List UInt8) (w : World) (hv : v < 18446744073709551616) (_hn : (Lit.int .i64 n).wf = true) (hl : l.length ≤ 140737488355328) :
    Calls Try.prog 4 #[.int .u64 v, .int .i64 n, .string (bs l)] w fun e w' => e = .returned (.bool true) ∧ Below w.heap.size w w' := by
  by_cases h : l.length ≤ 131072
  · exact Back_main v n l w hv h
  · go_enter Try.func4, Try.ntmps4
    go_wp2_with (go_at_call 9; refine (alive01 _).mono ?_; rintro e w1 ⟨rfl, hB1⟩)
    go_ret
    exact ⟨rfl, hB1⟩
end Go.Proofs.Ytdfppopmephaaaa
