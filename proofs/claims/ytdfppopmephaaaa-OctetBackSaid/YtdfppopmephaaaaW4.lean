/- Walks of package octet: Short. -/
import Derived.Test.YtdfppopmephaaaaW3
namespace Go.Proofs.Ytdfppopmephaaaa
open Go.RowKit Oct

/-- the state of the loop of Short -/
def ShInv (v x k : Nat) (l : List UInt8) : Prop := x < 128 ^ (k + 1) ∧ l ++ shortF (k + 1) x = shortF 10 v ∧ l.length + k ≤ 9
theorem ShInv.start (v : Nat) (h : v < 18446744073709551616) : ShInv v v 9 [] := ⟨by omega, rfl, by simp⟩
theorem ShInv.step {v x k : Nat} {l : List UInt8} (h : ShInv v x k l) (hx : 128 ≤ x) : ∃ k', k = k' + 1 ∧ ShInv v (x / 128) k' (l ++ [UInt8.ofNat (x % 128) + 128]) := by
  obtain ⟨h1, h2, h3⟩ := h
  obtain ⟨k, rfl⟩ : ∃ k', k = k' + 1 := by
    cases k with
    | zero => simp at h1; omega
    | succ k => exact ⟨k, rfl⟩
  refine ⟨k, rfl, ?_, ?_, ?_⟩
  · rw [Nat.pow_succ] at h1; omega
  · rw [← h2, shortF_ge _ _ hx]; simp
  · simp; omega
theorem ShInv.fin {v x k : Nat} {l : List UInt8} (h : ShInv v x k l) (hx : x < 128) : l ++ [UInt8.ofNat x] = short v := by
  obtain ⟨h1, h2, h3⟩ := h
  rw [short, ← h2, shortF_lt _ _ hx]

set_option maxRecDepth 100000 in
set_option maxHeartbeats 400000 in
theorem rShort_any (v : Nat) (w : World) (h4 : v < 18446744073709551616) :
    Calls Try.prog 17 #[.int .u64 v] w fun e w' => e = .returned (.string (bs (short v))) ∧ Below w.heap.size w w' := by
  have hcv := conv1
  go_enter Try.func17, Try.ntmps17
  go_wp2
  go_loopw [0, 3] (fun u s wr => ∃ x : Nat, ∃ l : List UInt8, u = .int .u64 x ∧ x < 18446744073709551616 ∧ s = .string (bs l) ∧ l.length ≤ 9 ∧ Hid (∃ k, ShInv v x k l) ∧ Below w.heap.size w wr) (fun u _ _ => (intOf u).toNat)
  case atStart => exact ⟨v, [], rfl, h4, rfl, by simp, ⟨9, ShInv.start v h4⟩, Below.refl _ _⟩
  case round =>
    obtain ⟨x, l, rfl, hx, rfl, hl, hH, hB⟩ := hrel
    by_cases h0 : (128 : Int) ≤ x
    · go_wp2
      go_roundw
      case rel =>
        obtain ⟨k, hk⟩ := hH.out
        obtain ⟨k', rfl, hk'⟩ := hk.step (by omega)
        refine ⟨x / 128, _, by go_num, by omega, rfl, ?_, ⟨k', ?_⟩, hB.alloc hB.size _⟩
        · have := hk.2.2; simp; omega
        · exact hk'
      case measure => simp [intOf]; omega
    · go_wp2
      go_ret
      obtain ⟨k, hk⟩ := hH.out
      refine ⟨ret_str ?_, hB.alloc hB.size _⟩
      rw [← hk.fin (by omega)]


set_option maxRecDepth 10000 in
/-- the byte that Short puts where more follow -/
theorem or128 (x : Nat) : bits .or .u8 ((x : Int) % 256) 128 = ((UInt8.ofNat (x % 128) + 128).toNat : Int) := by
  have h : ∀ y : Nat, y < 256 → bits .or .u8 (y : Int) 128 = ((UInt8.ofNat (y % 128) + 128).toNat : Int) := by decide
  have := h (x % 256) (Nat.mod_lt _ (by decide))
  rw [show ((x : Int) % 256) = ((x % 256 : Nat) : Int) from by simp, this]
  rw [show x % 256 % 128 = x % 128 from by omega]

set_option maxRecDepth 100000 in
set_option maxHeartbeats 400000 in
theorem Short_any (v : Nat) (w : World) (h4 : v < 18446744073709551616) :
    Calls Try.prog 16 #[.int .u64 v] w fun e w' => e = .returned (.string (bs (short v))) ∧ Below w.heap.size w w' := by
  go_enter Try.func16, Try.ntmps16
  go_wp2
  go_loopw [0, 3] (fun u s wr => ∃ x : Nat, ∃ l : List UInt8, u = .int .u64 x ∧ x < 18446744073709551616 ∧ wr.ownsRow w.heap.size 5 1 s l.length (bcells l) ∧ l.length ≤ 9 ∧ Hid (∃ k, ShInv v x k l) ∧ Below w.heap.size w wr) (fun u _ _ => (intOf u).toNat)
  case atStart => exact ⟨v, [], rfl, h4, World.ownsRow_nil _ _ _ _, by simp, ⟨9, ShInv.start v h4⟩, Below.refl _ _⟩
  case round =>
    obtain ⟨x, l, rfl, hx, hown, hl, hH, hB⟩ := hrel
    by_cases h0 : (128 : Int) ≤ x
    · go_wp2_with (at_builtin; refine append1 wr [_] 5 rfl _ _ 64 rfl w.heap.size (.int .u8 0) 1 1 Try.underlying64 infoU8 rfl (by decide) _ _ _ rfl hown _ rfl rfl (by simp [Value.oneCell']) (by omega) (by decide) hB.size ?_; intro v' w1 hown1 hB1)
      go_roundw
      case rel =>
        obtain ⟨k, hk⟩ := hH.out
        obtain ⟨k', rfl, hk'⟩ := hk.step (by omega)
        rw [or128, bcells_snoc] at hown1
        refine ⟨x / 128, l ++ [UInt8.ofNat (x % 128) + 128], by go_num, by omega, by simpa using hown1, ?_, ⟨k', hk'⟩, hB.trans hB1⟩
        have := hk.2.2; simp; omega
      case measure => simp [intOf]; omega
    · go_wp2_with (at_builtin; refine append1 wr [_] 5 rfl _ _ 64 rfl w.heap.size (.int .u8 0) 1 1 Try.underlying64 infoU8 rfl (by decide) _ _ _ rfl hown _ rfl rfl (by simp [Value.oneCell']) (by omega) (by decide) hB.size ?_; intro v' w1 hown1 hB1; have e1 : (x : Int) = ((UInt8.ofNat x).toNat : Int) := (by simp; omega); rw [e1, bcells_snoc] at hown1; clear e1; have hcv := conv_own 64 9 5 Try.underlying64 Try.underlying5 Try.underlying9 _ _ _ _ _ hown1)
      go_ret
      obtain ⟨k, hk⟩ := hH.out
      exact ⟨ret_str (by rw [hk.fin (by omega)]), hB.trans hB1⟩
end Go.Proofs.Ytdfppopmephaaaa
