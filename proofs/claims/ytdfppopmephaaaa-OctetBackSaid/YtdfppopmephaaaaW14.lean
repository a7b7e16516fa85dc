/- Walks of the laws OctetRows, OctetUnlike. -/
import Derived.Test.YtdfppopmephaaaaW9
import Derived.Test.YtdfppopmephaaaaW12
import Derived.Test.YtdfppopmephaaaaW13
namespace Go.Proofs.Ytdfppopmephaaaa
open Go.RowKit Oct

theorem long01_le (r : List (List UInt8)) (h : long01 r = false) : r.length ≤ 300 ∧ (texts r).length ≤ 1000000 := by
  simp only [long01, Bool.or_eq_false_iff, decide_eq_false_iff_not] at h
  have e : r.take 400 = r := List.take_of_length_le (by omega)
  rw [e] at h
  have := texts_len r
  omega

theorem txV_at (r : List UInt8 × Int) : txV r = .tuple #[.string (bs r.1), .int .i64 r.2] := rfl
theorem RowRes_some {r : List (List UInt8)} {base : Nat} {e : Ending} {w : World} (h : RowRes (some r) base e w) : ∃ v, e = .returned (.tuple #[v, .int .i64 0]) ∧ w.ownsRow base 9 1 v r.length (tcells r) := h
theorem RowRes_none {base : Nat} {e : Ending} {w : World} (h : RowRes none base e w) : e = .returned (.tuple #[.slice none 0 0, .int .i64 7]) := h

set_option maxRecDepth 100000 in
set_option maxHeartbeats 2000000 in
theorem OctetRows_any (v : Value) (r : List (List UInt8)) (l : List UInt8) (w : World) (hr : Reads w v r.length (tcells r)) (hl : r.length ≤ 140737488355328) (hm : ∀ l ∈ r, l.length ≤ 140737488355328) (hs : l.length ≤ 140737488355328) :
    Calls Try.prog 5 #[v, .string (bs l)] w fun e w' => e = .returned (.bool true) ∧ Below w.heap.size w w' := by
  obtain ⟨a, cap, rfl, _, hc⟩ := id hr
  cases hL : long01 r
  · obtain ⟨h1, h2⟩ := long01_le r hL
    by_cases h3 : 131072 < l.length
    · have HL := Lib.hid hL; clear hL
      go_enter Try.func5, Try.ntmps5
      go_wp2_with fail
      refine (Long_any _ r _ hr hl hm).mono ?_; rw [HL.out]; rintro e w1 ⟨rfl, rfl⟩
      go_wp2_with (go_at_call 9; refine (alive01 _).mono ?_; rintro e w1 ⟨rfl, hB1⟩)
      go_ret
      exact ⟨rfl, hB1⟩
    · have HL := Lib.hid hL; clear hL
      go_enter Try.func5, Try.ntmps5
      go_wp2_with fail
      refine (Long_any _ r _ hr hl hm).mono ?_; rw [HL.out]; rintro e w1 ⟨rfl, rfl⟩
      go_wp2_with (at_builtin; refine appendN w (tcells r) 9 rfl _ _ 36 rfl w.heap.size (.string ByteArray.empty) 1 16 Try.underlying36 infoStr rfl (by decide) _ _ _ rfl (World.ownsRow_nil _ _ _ _) _ r.length rfl hr (by simp [tcells]) (by simp [tcells, Value.oneCell']) (by omega) (by decide) (Nat.le_refl _) ?_; intro v' w1 hown1 hB1)
      rw [List.nil_append, Nat.zero_add] at hown1
      refine (Row_any _ r _ (Reads.owned hown1) (by omega) (by omega)).mono ?_; rw [txV_at]; rintro e w2 ⟨rfl, hB2⟩
      go_wp2_with fail
      refine (rRow_any _ r _ (hr.below (hB1.trans (hB2.mono hB1.size))) (by omega) (by omega)).mono ?_; rw [txV_at]; rintro e w3 ⟨rfl, hB3⟩
      have hB03 := hB1.trans ((hB2.mono hB1.size).trans (hB3.mono (Nat.le_trans hB1.size hB2.size)))
      clear hB1 hB2 hB3
      cases hq : readRow l with
      | none =>
        have HQ := Lib.hid hq; clear hq
        go_wp2_with fail
        refine (ReadRow_any l _ hs).mono ?_; rw [HQ.out]; rintro e w4 ⟨hres, hB4⟩; obtain rfl := RowRes_none hres; clear hres
        go_wp2_with fail
        refine (rReadRow_any l _ hs).mono ?_; rw [HQ.out]; rintro e w5 ⟨hres, hB5⟩; obtain rfl := RowRes_none hres; clear hres
        go_wp2_with fail
        refine (Read_any l _ hs).mono ?_; rw [rdV_at]; rintro e w6 ⟨rfl, hB6⟩
        go_wp2_with fail
        refine (rRead_any l _ hs).mono ?_; rw [rdV_at]; rintro e w7 ⟨rfl, hB7⟩
        go_wp2_with fail
        refine (Text_any l _ hs).mono ?_; rw [txV_at]; rintro e w8 ⟨rfl, hB8⟩
        go_wp2_with fail
        refine (rText_any l _ hs).mono ?_; rw [txV_at]; rintro e w9 ⟨rfl, hB9⟩
        go_wp2_with fail
        refine (Same_any _ _ [] [] _ (Reads.nil _) (Reads.nil _) (by simp) (by simp)).mono ?_; rw [decide_eq_true rfl]; rintro e w10 ⟨rfl, hB10⟩
        go_wp2_with fail
        refine (alive01 _).mono ?_; rintro e w11 ⟨rfl, hB11⟩
        go_wp2_with fail
        go_ret
        exact ⟨rfl, bt hB03 (bt hB4 (bt hB5 (bt hB6 (bt hB7 (bt hB8 (bt hB9 (bt hB10 hB11)))))))⟩
      | some q =>
        have hql := readRow_length l q hq
        have HQ := Lib.hid hq; clear hq
        go_wp2_with fail
        refine (ReadRow_any l _ hs).mono ?_; rw [HQ.out]; rintro e w4 ⟨hres, hB4⟩; obtain ⟨v1, rfl, hr1⟩ := RowRes_some hres; clear hres
        go_wp2_with fail
        refine (rReadRow_any l _ hs).mono ?_; rw [HQ.out]; rintro e w5 ⟨hres, hB5⟩; obtain ⟨v2, rfl, hr2⟩ := RowRes_some hres; clear hres
        go_wp2_with fail
        refine (Read_any l _ hs).mono ?_; rw [rdV_at]; rintro e w6 ⟨rfl, hB6⟩
        go_wp2_with fail
        refine (rRead_any l _ hs).mono ?_; rw [rdV_at]; rintro e w7 ⟨rfl, hB7⟩
        go_wp2_with fail
        refine (Text_any l _ hs).mono ?_; rw [txV_at]; rintro e w8 ⟨rfl, hB8⟩
        go_wp2_with fail
        refine (rText_any l _ hs).mono ?_; rw [txV_at]; rintro e w9 ⟨rfl, hB9⟩
        have hB59 := bt hB6 (bt hB7 (bt hB8 hB9))
        go_wp2_with fail
        refine (Same_any _ _ q q _ ((Reads.owned hr1).below (bt hB5 hB59)) ((Reads.owned hr2).below hB59) (by omega) (by omega)).mono ?_; rw [decide_eq_true rfl]; rintro e w10 ⟨rfl, hB10⟩
        go_wp2_with fail
        refine (alive01 _).mono ?_; rintro e w11 ⟨rfl, hB11⟩
        go_wp2_with fail
        go_ret
        exact ⟨rfl, bt hB03 (bt hB4 (bt hB5 (bt hB59 (bt hB10 hB11))))⟩
  · have HL := Lib.hid hL; clear hL
    go_enter Try.func5, Try.ntmps5
    go_wp2_with fail
    refine (Long_any _ r _ hr hl hm).mono ?_; rw [HL.out]; rintro e w1 ⟨rfl, rfl⟩
    go_wp2_with (go_at_call 9; refine (alive01 _).mono ?_; rintro e w1 ⟨rfl, hB1⟩)
    go_ret
    exact ⟨rfl, hB1⟩
end Go.Proofs.Ytdfppopmephaaaa
