/- Walks of package octet: the law's examples. -/
import Derived.Test.YtdfppopmephaaaaW8
namespace Go.Proofs.Ytdfppopmephaaaa
open Go.RowKit Oct

set_option maxRecDepth 100000 in
set_option maxHeartbeats 1000000 in
theorem alive01 (w : World) :
    Calls Try.prog 9 #[] w fun e w' => e = .returned (.bool true) ∧ Below w.heap.size w w' := by
  have e1 : putS 258 2 = ([2, 1], 0) := by decide
  have e2 : putS 256 1 = ([], 2) := by decide
  have e3 : text [97, 98] = ([2, 0, 97, 98], 0) := by decide
  have e4 : readT [2, 0, 97] = ([], 0, 6) := by decide
  have e5 : row [[97], []] = ([2, 0, 1, 0, 97, 0, 0], 0) := by decide
  have e6 : readShort [128, 0] = (0, 0, 7) := by decide
  have e7 : short 300 = [172, 2] := by decide
  have E1 := Lib.hid e1; have E2 := Lib.hid e2; have E3 := Lib.hid e3; have E4 := Lib.hid e4; have E5 := Lib.hid e5; have E6 := Lib.hid e6; have E7 := Lib.hid e7
  clear e1 e2 e3 e4 e5 e6 e7
  go_enter Try.func9, Try.ntmps9
  go_wp2_with fail
  refine (Put_any 258 2 _ (by omega) (by omega)).mono ?_
  rw [E1.out]; rintro e w1 ⟨rfl, hB1⟩
  go_wp2_with fail
  refine (Put_any 256 1 _ (by omega) (by omega)).mono ?_
  rw [E2.out]; rintro e w2 ⟨rfl, hB2⟩
  go_wp2_with fail
  refine (Text_any [97, 98] _ (by simp)).mono ?_
  rw [E3.out, txV_mk]; rintro e w3 ⟨rfl, hB3⟩
  go_wp2_with fail
  refine (Read_any [2, 0, 97] _ (by simp)).mono ?_
  rw [E4.out, rdV_mk]; rintro e w4 ⟨rfl, hB4⟩
  go_wp2_with fail
  refine (Row_any _ [[97], []] _ (by exact Reads.new w4 (tcells [[97], []]) 2 _ _) (by decide) (by decide)).mono ?_
  rw [E5.out, txV_mk]; rintro e w5 ⟨rfl, hB5⟩
  go_wp2_with fail
  refine (ReadShort_any (bs [128, 0]) _ (by simp [maxLen])).mono ?_
  rw [bs_data, E6.out, rsV_mk]; rintro e w6 ⟨rfl, rfl⟩
  go_wp2_with fail
  refine (Short_any 300 _ (by omega)).mono ?_
  rw [E7.out]; rintro e w7 ⟨rfl, hB7⟩
  go_wp2_with fail
  go_ret
  exact ⟨rfl, bt hB1 (bt hB2 (bt hB3 (bt hB4 (bt (b_alloc _ _) (bt hB5 hB7)))))⟩

theorem rsV_at (r : Nat × Nat × Int) : rsV r = .tuple #[.int .u64 r.1, .int .i64 r.2.1, .int .i64 r.2.2] := rfl

set_option maxRecDepth 100000 in
set_option maxHeartbeats 1000000 in
theorem OctetNumbers_any (v : Nat) (n : Int) (l : List UInt8) (w : World) (hv : v < 18446744073709551616) (_hn : (Lit.int .i64 n).wf = true) (hl : l.length ≤ 140737488355328) :
    Calls Try.prog 3 #[.int .u64 v, .int .i64 n, .string (bs l)] w fun e w' => e = .returned (.bool true) ∧ Below w.heap.size w w' := by
  have hs : (bs l).size ≤ maxLen := by rw [bs_size]; unfold maxLen; omega
  generalize bs l = s at hs ⊢
  have hs' := hs
  unfold maxLen at hs'
  by_cases h : 1024 < s.size
  · go_enter Try.func3, Try.ntmps3
    go_wp2_with (go_at_call 9; refine (alive01 _).mono ?_; rintro e w1 ⟨rfl, hB1⟩)
    go_ret
    exact ⟨rfl, hB1⟩
  · go_enter Try.func3, Try.ntmps3
    go_wp2_with fail
    refine (Put_any v n _ (by omega) (by omega)).mono ?_; rintro e w1 ⟨rfl, hB1⟩
    go_wp2_with fail
    refine (rPut_any v n _ (by omega) (by omega)).mono ?_; rintro e w2 ⟨rfl, hB2⟩
    go_wp2_with fail
    refine (Get_any s _ hs).mono ?_; rintro e w3 ⟨rfl, rfl⟩
    go_wp2_with fail
    refine (rGet_any s _ hs).mono ?_; rintro e w3 ⟨rfl, rfl⟩
    go_wp2_with fail
    refine (ReadShort_any s _ hs).mono ?_; rintro e w3 ⟨rfl, rfl⟩
    rw [rsV_at]
    go_wp2_with fail
    refine (rReadShort_any s _ hs).mono ?_; rintro e w3 ⟨rfl, hB3⟩
    rw [rsV_at]
    go_wp2_with fail
    refine (Short_any v _ hv).mono ?_; rintro e w4 ⟨rfl, hB4⟩
    go_wp2_with fail
    refine (rShort_any v _ hv).mono ?_; rintro e w5 ⟨rfl, hB5⟩
    go_wp2_with fail
    refine (alive01 _).mono ?_; rintro e w6 ⟨rfl, hB6⟩
    go_wp2_with fail
    go_ret
    exact ⟨rfl, bt hB1 (bt hB2 (bt hB3 (bt hB4 (bt hB5 hB6))))⟩
end Go.Proofs.Ytdfppopmephaaaa
