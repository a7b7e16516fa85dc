/- Walks of package octet: Text, Read. -/
import Derived.Test.YtdebgkjekcppmaaW1
import Derived.Test.YtdebgkjekcppmaaP3
namespace Go.Proofs.Ytdebgkjekcppmaa
open Go.RowKit Oct

/-- what Text gives, as a value -/
def txV (r : List UInt8 × Int) : Value := .tuple #[.string (bs r.1), .int .i64 r.2]
theorem txV_mk (a : List UInt8) (c : Int) : txV (a, c) = .tuple #[.string (bs a), .int .i64 c] := rfl

set_option maxRecDepth 100000 in
set_option maxHeartbeats 400000 in
theorem Text_any (l : List UInt8) (w : World) (hs : l.length ≤ 140737488355328) :
    Calls Try.prog 66 #[.string (bs l)] w fun e w' => e = .returned (txV (text l)) ∧ Below w.heap.size w w' := by
  by_cases h : l.length ≤ 65535
  · rw [text_le l h, txV_mk]
    go_enter Try.func66, Try.ntmps66
    go_wp2_with (go_at_call 93; refine (bytes_any _ _ _ (by omega) (by omega) (by omega) (by omega)).mono ?_; rintro e w' ⟨rfl, hB⟩)
    go_ret2
    exact ⟨by rw [← bs_append]; rfl, hB⟩
  · rw [text_gt l h, txV_mk]
    go_enter Try.func66, Try.ntmps66
    go_wp2
    go_ret2
    exact ⟨rfl, Below.refl _ _⟩

set_option maxRecDepth 100000 in
set_option maxHeartbeats 400000 in
theorem rText_any (l : List UInt8) (w : World) (hs : l.length ≤ 140737488355328) :
    Calls Try.prog 68 #[.string (bs l)] w fun e w' => e = .returned (txV (text l)) ∧ Below w.heap.size w w' := by
  by_cases h : l.length ≤ 65535
  · rw [text_le l h, txV_mk]
    go_enter Try.func68, Try.ntmps68
    go_wp2_with (go_at_call 67; refine (num_any _ _ _ (by omega) (by omega) (by omega) (by omega)).mono ?_; rintro e w' ⟨rfl, hB⟩)
    go_ret2
    exact ⟨by rw [← bs_append]; rfl, hB⟩
  · rw [text_gt l h, txV_mk]
    go_enter Try.func68, Try.ntmps68
    go_wp2
    go_ret2
    exact ⟨rfl, Below.refl _ _⟩

/-- what Read gives, as a value -/
def rdV (r : List UInt8 × Nat × Int) : Value := .tuple #[.string (bs r.1), .int .i64 r.2.1, .int .i64 r.2.2]
theorem rdV_mk (a : List UInt8) (b : Nat) (c : Int) : rdV (a, b, c) = .tuple #[.string (bs a), .int .i64 b, .int .i64 c] := rfl
theorem rd_fin {a a' : List UInt8} {b : Int} {b' : Nat} {c : Int} (h1 : a = a') (h2 : b = (b' : Int)) : Ending.returned (.tuple #[.string (bs a), .int .i64 b, .int .i64 c]) = .returned (rdV (a', b', c)) := by subst h1; subst h2; rfl
theorem readT_short (l : List UInt8) (h : l.length < 2) : readT l = ([], 0, 6) := if_pos h
theorem readT_end (l : List UInt8) (h : ¬ l.length < 2) (h' : l.length < 2 + val (l.take 2)) : readT l = ([], 0, 6) := by rw [readT, if_neg h, if_pos h']
theorem readT_ok (l : List UInt8) (h : ¬ l.length < 2) (h' : ¬ l.length < 2 + val (l.take 2)) : readT l = ((l.drop 2).take (val (l.take 2)), 2 + val (l.take 2), 0) := by rw [readT, if_neg h, if_neg h']

set_option maxRecDepth 100000 in
set_option maxHeartbeats 400000 in
theorem Read_any (l : List UInt8) (w : World) (hs : l.length ≤ 140737488355328) :
    Calls Try.prog 71 #[.string (bs l)] w fun e w' => e = .returned (rdV (readT l)) ∧ Below w.heap.size w w' := by
  by_cases h : l.length < 2
  · rw [readT_short l h, rdV_mk]
    go_enter Try.func71, Try.ntmps71
    go_wp2
    go_ret3
    exact ⟨rfl, Below.refl _ _⟩
  · have HV := Lib.hid (val2 l (by omega))
    have z0 : 0 < l.length := by omega
    have z1 : 1 < l.length := by omega
    have y1 : (1 : Int) < (l.length : Int) := by omega
    have c0 := l[0].toNat_lt
    have c1 := l[1].toNat_lt
    by_cases h2 : l.length < 2 + val (l.take 2)
    · rw [readT_end l h h2, rdV_mk]
      have h3 : (l.length : Int) < 2 + (l[0].toNat : Int) + (l[1].toNat : Int) * 256 := by have := HV.out; omega
      go_enter Try.func71, Try.ntmps71
      go_wp2
      go_quiet (fail)
      go_wp2
      go_ret3
      exact ⟨rfl, Below.drewN' _ _⟩
    · rw [readT_ok l h h2]
      have h3 : 2 + (l[0].toNat : Int) + (l[1].toNat : Int) * 256 ≤ (l.length : Int) := by have := HV.out; omega
      go_enter Try.func71, Try.ntmps71
      go_wp2
      go_quiet (fail)
      go_wp2
      go_ret3
      exact ⟨rd_fin (by have := HV.out; congr 1; omega) (by have := HV.out; omega), Below.drewN' _ _⟩

set_option maxRecDepth 100000 in
set_option maxHeartbeats 400000 in
theorem rRead_any (l : List UInt8) (w : World) (hs : l.length ≤ 140737488355328) :
    Calls Try.prog 73 #[.string (bs l)] w fun e w' => e = .returned (rdV (readT l)) ∧ Below w.heap.size w w' := by
  by_cases h : l.length < 2
  · rw [readT_short l h, rdV_mk]
    go_enter Try.func73, Try.ntmps73
    go_wp2
    go_ret3
    exact ⟨rfl, Below.refl _ _⟩
  · have hv := val2_lt l
    by_cases h2 : l.length < 2 + val (l.take 2)
    · rw [readT_end l h h2, rdV_mk]
      go_enter Try.func73, Try.ntmps73
      go_wp2_with (go_at_call 72; refine (value_any _ _ (by simp; omega)).mono ?_; rw [bs_data]; rintro e w' ⟨rfl, rfl⟩)
      go_ret3
      exact ⟨rfl, Below.refl _ _⟩
    · rw [readT_ok l h h2]
      go_enter Try.func73, Try.ntmps73
      go_wp2_with (go_at_call 72; refine (value_any _ _ (by simp; omega)).mono ?_; rw [bs_data]; rintro e w' ⟨rfl, rfl⟩)
      go_ret3
      exact ⟨rd_fin (by congr 1; omega) (by omega), Below.refl _ _⟩
end Go.Proofs.Ytdebgkjekcppmaa
