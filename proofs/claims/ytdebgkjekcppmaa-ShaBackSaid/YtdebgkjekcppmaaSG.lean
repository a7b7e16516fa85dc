/- Walks of the laws ShaHex, ShaBack. -/
import Derived.Test.YtdebgkjekcppmaaSF
namespace Go.Proofs.Ytdebgkjekcppmaa
open Go.RowKit Oct

theorem unhGo_length : ∀ (n : Nat) (l acc o : List UInt8), l.length ≤ n → unhGo acc l = some o → o.length ≤ acc.length + l.length
  | 0, l, acc, o, h, ho => by
    obtain rfl : l = [] := List.eq_nil_of_length_eq_zero (by omega)
    cases ho; simp
  | n + 1, [], acc, o, h, ho => by cases ho; simp
  | n + 1, [_], acc, o, h, ho => by cases ho
  | n + 1, a :: b :: r, acc, o, h, ho => by
    have e : unhGo acc (a :: b :: r) = match dig a, dig b with
      | some x, some y => unhGo (acc ++ [UInt8.ofNat (16 * x + y)]) r
      | _, _ => none := rfl
    rw [e] at ho
    split at ho
    · have := unhGo_length n r _ o (by simp at h; omega) ho
      simp at this ⊢
      omega
    · cases ho
theorem unhF_length (l o : List UInt8) (h : unhF l = some o) : o.length ≤ l.length := by
  unfold unhF at h
  split at h
  · cases h
  · have := unhGo_length _ l [] o (Nat.le_refl _) h
    simpa using this

set_option maxRecDepth 100000 in
set_option maxHeartbeats 2000000 in
theorem ShaHex_any (s t : List UInt8) (w : World) (hs : s.length ≤ 140737488355328) (ht : t.length ≤ 140737488355328) :
    Calls Try.prog 4 #[.string (bs s), .string (bs t)] w fun e w' => e = .returned (.bool true) ∧ Below w.heap.size w w' := by
  by_cases hb : s.length + t.length > 16384
  · have k1 : (16384 : Int) < (s.length : Int) + (t.length : Int) := by omega
    clear hb
    go_enter Try.func4, Try.ntmps4
    go_wp2_with fail
    refine (alive02 _).mono ?_
    rintro e w1 ⟨rfl, hB1⟩
    have HB1 := Lib.hid hB1
    clear hB1
    go_wp2_with fail
    go_ret
    exact ⟨rfl, HB1.out⟩
  · have k1 : ¬ (16384 : Int) < (s.length : Int) + (t.length : Int) := by omega
    have hs2 : s.length ≤ 16384 := by omega
    have ht2 : t.length ≤ 16384 := by omega
    clear hb
    go_enter Try.func4, Try.ntmps4
    go_wp2_with fail
    refine (Unhex_any t _ (by omega)).mono ?_
    rintro e w1 ⟨rfl, hB1⟩
    have HB1 := Lib.hid hB1
    clear hB1
    obtain ⟨x, y, hxy⟩ : ∃ (x : List UInt8) (y : Int), uV t = .tuple #[.string (bs x), .int .i64 y] := by
      unfold uV; split <;> exact ⟨_, _, rfl⟩
    have HX := Lib.hid hxy
    rw [hxy]
    clear hxy
    go_wp2_with fail
    refine (rUnhex_any t _ (by omega)).mono ?_
    rw [HX.out]
    rintro e w2 ⟨rfl, hB2⟩
    have HB2 := Lib.hid (bt HB1.out hB2)
    clear hB2
    go_wp2_with fail
    refine (Hex_any s _ (by omega)).mono ?_
    rintro e w3 ⟨rfl, hB3⟩
    have HB3 := Lib.hid (bt HB2.out hB3)
    clear hB3
    go_wp2_with fail
    refine (rHex_any s _ (by omega)).mono ?_
    rintro e w4 ⟨rfl, hB4⟩
    have HB4 := Lib.hid (bt HB3.out hB4)
    clear hB4
    go_wp2_with fail
    refine (alive02 _).mono ?_
    rintro e w5 ⟨rfl, hB5⟩
    have HB5 := Lib.hid (bt HB4.out hB5)
    clear hB5
    go_wp2_with fail
    go_ret
    exact ⟨rfl, HB5.out⟩

set_option maxRecDepth 100000 in
set_option maxHeartbeats 2000000 in
theorem ShaBack_any (s t : List UInt8) (w : World) (hs : s.length ≤ 140737488355328) (ht : t.length ≤ 140737488355328) :
    Calls Try.prog 6 #[.string (bs s), .string (bs t)] w fun e w' => e = .returned (.bool true) ∧ Below w.heap.size w w' := by
  by_cases hb : s.length + t.length > 16384
  · have k1 : (16384 : Int) < (s.length : Int) + (t.length : Int) := by omega
    clear hb
    go_enter Try.func6, Try.ntmps6
    go_wp2_with fail
    refine (alive02 _).mono ?_
    rintro e w1 ⟨rfl, hB1⟩
    have HB1 := Lib.hid hB1
    clear hB1
    go_wp2_with fail
    go_ret
    exact ⟨rfl, HB1.out⟩
  · have k1 : ¬ (16384 : Int) < (s.length : Int) + (t.length : Int) := by omega
    have hs2 : s.length ≤ 16384 := by omega
    have ht2 : t.length ≤ 16384 := by omega
    have HL := Lib.hid (hexF_length s)
    have HX := Lib.hid (uV_some (unhF_hex s))
    clear hb
    go_enter Try.func6, Try.ntmps6
    go_wp2_with fail
    refine (Hex_any s _ (by omega)).mono ?_
    rintro e w1 ⟨rfl, hB1⟩
    have HB1 := Lib.hid hB1
    clear hB1
    go_wp2_with fail
    refine (Unhex_any (hexF s) _ (by have := HL.out; omega)).mono ?_
    rw [HX.out]
    rintro e w2 ⟨rfl, hB2⟩
    have HB2 := Lib.hid (bt HB1.out hB2)
    clear hB2
    go_wp2_with fail
    refine (Unhex_any t _ (by omega)).mono ?_
    rintro e w3 ⟨rfl, hB3⟩
    have HB3 := Lib.hid (bt HB2.out hB3)
    clear hB3
    cases hu : unhF t with
    | some o =>
      have HO := Lib.hid (hex_unhF t o hu)
      have HOL := Lib.hid (unhF_length t o hu)
      rw [uV_some hu]
      clear hu
      go_wp2_with fail
      refine (Hex_any s _ (by omega)).mono ?_
      rintro e w4 ⟨rfl, hB4⟩
      have HB4 := Lib.hid (bt HB3.out hB4)
      have hlen : ((hexF s).length : Int) = 2 * (s.length : Int) := by have := HL.out; omega
      clear hB4
      go_wp2_with fail
      refine (Hex_any o _ (by have := HOL.out; omega)).mono ?_
      rw [HO.out]
      rintro e w5 ⟨rfl, hB5⟩
      have HB5 := Lib.hid (bt HB4.out hB5)
      clear hB5
      go_wp2_with fail
      refine (alive02 _).mono ?_
      rintro e w6 ⟨rfl, hB6⟩
      have HB6 := Lib.hid (bt HB5.out hB6)
      clear hB6
      go_wp2_with fail
      go_ret
      exact ⟨rfl, HB6.out⟩
    | none =>
      rw [uV_none hu]
      clear hu
      go_wp2_with fail
      refine (Hex_any s _ (by omega)).mono ?_
      rintro e w4 ⟨rfl, hB4⟩
      have HB4 := Lib.hid (bt HB3.out hB4)
      have hlen : ((hexF s).length : Int) = 2 * (s.length : Int) := by have := HL.out; omega
      clear hB4
      go_wp2_with fail
      refine (alive02 _).mono ?_
      rintro e w6 ⟨rfl, hB6⟩
      have HB6 := Lib.hid (bt HB4.out hB6)
      clear hB6
      go_wp2_with fail
      go_ret
      exact ⟨rfl, HB6.out⟩
end Go.Proofs.Ytdebgkjekcppmaa
