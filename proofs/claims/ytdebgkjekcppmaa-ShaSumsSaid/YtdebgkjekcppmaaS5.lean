/- Walks of package sha: New, digit. -/
import Derived.Test.YtdebgkjekcppmaaS4
namespace Go.Proofs.Ytdebgkjekcppmaa
open Go.RowKit Oct

set_option maxRecDepth 100000 in
set_option maxHeartbeats 1000000 in
theorem New_any (w : World) :
    Calls Try.prog 22 #[] w fun e w' => ∃ b, e = .returned (.pointer (some ⟨b, 0, none⟩)) ∧ w.heap.size ≤ b ∧ Blk w' b 89 (hcells h0 [] 0) ∧ Below w.heap.size w w' := by
  go_enter Try.func22, Try.ntmps22
  go_wp2_with (refine blk_build (ucells h0) rfl _ _ rfl (by kernel_rfl) ?_; refine blk_build (hcells h0 [] 0) rfl _ _ rfl (by kernel_rfl) ?_)
  go_ret
  exact ⟨_, rfl, Nat.le_refl _, Blk.new _ _ _, b_alloc _ _⟩

/-- the worth of a digit -/
def dig (c : UInt8) : Option Nat := if 48 ≤ c.toNat ∧ c.toNat ≤ 57 then some (c.toNat - 48) else if 97 ≤ c.toNat ∧ c.toNat ≤ 102 then some (c.toNat - 87) else none
theorem dig_lt (c : UInt8) (d : Nat) (h : dig c = some d) : d < 16 := by
  unfold dig at h
  split at h
  · cases h; omega
  · split at h
    · cases h; omega
    · cases h
set_option maxRecDepth 100000 in
set_option maxHeartbeats 1000000 in
theorem digit_any (c : UInt8) (w : World) :
    Calls Try.prog 57 #[.int .u8 (c.toNat : Int)] w fun e w' => e = .returned (.tuple #[.int .u8 (((dig c).getD 0 : Nat) : Int), .bool (dig c).isSome]) ∧ Below w.heap.size w w' := by
  have hc := c.toNat_lt
  obtain ⟨x, hx⟩ : ∃ x : Nat, x = c.toNat := ⟨_, rfl⟩
  rcases (by omega : x < 48 ∨ (48 ≤ x ∧ x ≤ 57) ∨ (57 < x ∧ x < 97) ∨ (97 ≤ x ∧ x ≤ 102) ∨ 102 < x) with h | ⟨h, h'⟩ | ⟨h, h'⟩ | ⟨h, h'⟩ | h
  · have hd : dig c = none := by unfold dig; rw [if_neg (by omega), if_neg (by omega)]
    rw [hd, ← hx]
    have a1 : ¬ (48 : Int) ≤ (x : Int) := by omega
    have a2 : ¬ (97 : Int) ≤ (x : Int) := by omega
    clear hx hd hc
    go_enter Try.func57, Try.ntmps57
    go_wp2
    go_ret2
    exact ⟨rfl, Below.refl _ _⟩
  · have hd : dig c = some (x - 48) := by unfold dig; rw [if_pos (by omega), hx]
    rw [hd, ← hx]
    have a1 : (48 : Int) ≤ (x : Int) := by omega
    have a2 : (x : Int) ≤ 57 := by omega
    clear hx hd hc
    go_enter Try.func57, Try.ntmps57
    go_wp2
    go_ret2
    refine ⟨?_, Below.refl _ _⟩
    simp only [Option.getD_some, Option.isSome_some]
    rw [show ((x - 48 : Nat) : Int) = (x : Int) - 48 by omega]
    rfl
  · have hd : dig c = none := by unfold dig; rw [if_neg (by omega), if_neg (by omega)]
    rw [hd, ← hx]
    have a1 : (48 : Int) ≤ (x : Int) := by omega
    have a2 : ¬ (x : Int) ≤ 57 := by omega
    have a3 : ¬ (97 : Int) ≤ (x : Int) := by omega
    clear hx hd hc
    go_enter Try.func57, Try.ntmps57
    go_wp2
    go_ret2
    exact ⟨rfl, Below.refl _ _⟩
  · have hd : dig c = some (x - 87) := by unfold dig; rw [if_neg (by omega), if_pos (by omega), hx]
    rw [hd, ← hx]
    have a1 : (48 : Int) ≤ (x : Int) := by omega
    have a2 : ¬ (x : Int) ≤ 57 := by omega
    have a3 : (97 : Int) ≤ (x : Int) := by omega
    have a4 : (x : Int) ≤ 102 := by omega
    clear hx hd hc
    go_enter Try.func57, Try.ntmps57
    go_wp2
    go_ret2
    refine ⟨?_, Below.refl _ _⟩
    simp only [Option.getD_some, Option.isSome_some]
    rw [show ((x - 87 : Nat) : Int) = (x : Int) - 97 + 10 by omega]
    rfl
  · have hd : dig c = none := by unfold dig; rw [if_neg (by omega), if_neg (by omega)]
    rw [hd, ← hx]
    have a1 : (48 : Int) ≤ (x : Int) := by omega
    have a2 : ¬ (x : Int) ≤ 57 := by omega
    have a3 : (97 : Int) ≤ (x : Int) := by omega
    have a4 : ¬ (x : Int) ≤ 102 := by omega
    clear hx hd hc
    go_enter Try.func57, Try.ntmps57
    go_wp2
    go_ret2
    exact ⟨rfl, Below.refl _ _⟩
/-- .. as the reference tells it -/
def rdig (c : UInt8) : Int := match dig c with | some d => (d : Int) | none => -1
set_option maxRecDepth 100000 in
set_option maxHeartbeats 1000000 in
theorem rdigit_any (c : UInt8) (w : World) :
    Calls Try.prog 60 #[.int .u8 (c.toNat : Int)] w fun e w' => e = .returned (.int .i64 (rdig c)) ∧ Below w.heap.size w w' := by
  have hc := c.toNat_lt
  obtain ⟨x, hx⟩ : ∃ x : Nat, x = c.toNat := ⟨_, rfl⟩
  rcases (by omega : x < 48 ∨ (48 ≤ x ∧ x ≤ 57) ∨ (57 < x ∧ x < 97) ∨ (97 ≤ x ∧ x ≤ 102) ∨ 102 < x) with h | ⟨h, h'⟩ | ⟨h, h'⟩ | ⟨h, h'⟩ | h
  · have hd : dig c = none := by unfold dig; rw [if_neg (by omega), if_neg (by omega)]
    rw [rdig, hd, ← hx]
    have a1 : ¬ (48 : Int) ≤ (x : Int) := by omega
    have a2 : ¬ (97 : Int) ≤ (x : Int) := by omega
    clear hx hd hc
    go_enter Try.func60, Try.ntmps60
    go_wp2
    go_ret
    exact ⟨rfl, Below.refl _ _⟩
  · have hd : dig c = some (x - 48) := by unfold dig; rw [if_pos (by omega), hx]
    rw [rdig, hd, ← hx]
    have a1 : (48 : Int) ≤ (x : Int) := by omega
    have a2 : (x : Int) ≤ 57 := by omega
    clear hx hd hc
    go_enter Try.func60, Try.ntmps60
    go_wp2
    go_ret
    refine ⟨?_, Below.refl _ _⟩
    simp only []
    rw [show ((x - 48 : Nat) : Int) = (x : Int) - 48 by omega]
    rfl
  · have hd : dig c = none := by unfold dig; rw [if_neg (by omega), if_neg (by omega)]
    rw [rdig, hd, ← hx]
    have a1 : (48 : Int) ≤ (x : Int) := by omega
    have a2 : ¬ (x : Int) ≤ 57 := by omega
    have a3 : ¬ (97 : Int) ≤ (x : Int) := by omega
    clear hx hd hc
    go_enter Try.func60, Try.ntmps60
    go_wp2
    go_ret
    exact ⟨rfl, Below.refl _ _⟩
  · have hd : dig c = some (x - 87) := by unfold dig; rw [if_neg (by omega), if_pos (by omega), hx]
    rw [rdig, hd, ← hx]
    have a1 : (48 : Int) ≤ (x : Int) := by omega
    have a2 : ¬ (x : Int) ≤ 57 := by omega
    have a3 : (97 : Int) ≤ (x : Int) := by omega
    have a4 : (x : Int) ≤ 102 := by omega
    clear hx hd hc
    go_enter Try.func60, Try.ntmps60
    go_wp2
    go_ret
    refine ⟨?_, Below.refl _ _⟩
    simp only []
    rw [show ((x - 87 : Nat) : Int) = (x : Int) - 97 + 10 by omega]
    rfl
  · have hd : dig c = none := by unfold dig; rw [if_neg (by omega), if_neg (by omega)]
    rw [rdig, hd, ← hx]
    have a1 : (48 : Int) ≤ (x : Int) := by omega
    have a2 : ¬ (x : Int) ≤ 57 := by omega
    have a3 : (97 : Int) ≤ (x : Int) := by omega
    have a4 : ¬ (x : Int) ≤ 102 := by omega
    clear hx hd hc
    go_enter Try.func60, Try.ntmps60
    go_wp2
    go_ret
    exact ⟨rfl, Below.refl _ _⟩
end Go.Proofs.Ytdebgkjekcppmaa
