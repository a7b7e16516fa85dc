/- The rounds of a block as plain functions; more laws on blocks. -/
import Derived.Test.YtdebgkjekcppmaaSP
namespace Go.Proofs.Ytdebgkjekcppmaa
open Go.RowKit Oct

theorem not_xor (x : UInt32) : (0xFFFFFFFF : UInt32) ^^^ x = ~~~x := by
  apply UInt32.toBitVec_inj.1
  simp only [UInt32.toBitVec_xor, UInt32.toBitVec_not]
  exact BitVec.allOnes_xor
theorem U_not (x : UInt32) : bits .xor .u32 (if IntKind.u32.signed = true then -1 else IntKind.u32.max) (U x) = U (~~~x) := by
  have e : (if IntKind.u32.signed = true then -1 else IntKind.u32.max : Int) = U 0xFFFFFFFF := rfl
  rw [e, U_xor, not_xor]

def ktab : List UInt32 := [
    0x428a2f98, 0x71374491, 0xb5c0fbcf, 0xe9b5dba5, 0x3956c25b, 0x59f111f1, 0x923f82a4, 0xab1c5ed5,
    0xd807aa98, 0x12835b01, 0x243185be, 0x550c7dc3, 0x72be5d74, 0x80deb1fe, 0x9bdc06a7, 0xc19bf174,
    0xe49b69c1, 0xefbe4786, 0x0fc19dc6, 0x240ca1cc, 0x2de92c6f, 0x4a7484aa, 0x5cb0a9dc, 0x76f988da,
    0x983e5152, 0xa831c66d, 0xb00327c8, 0xbf597fc7, 0xc6e00bf3, 0xd5a79147, 0x06ca6351, 0x14292967,
    0x27b70a85, 0x2e1b2138, 0x4d2c6dfc, 0x53380d13, 0x650a7354, 0x766a0abb, 0x81c2c92e, 0x92722c85,
    0xa2bfe8a1, 0xa81a664b, 0xc24b8b70, 0xc76c51a3, 0xd192e819, 0xd6990624, 0xf40e3585, 0x106aa070,
    0x19a4c116, 0x1e376c08, 0x2748774c, 0x34b0bcb5, 0x391c0cb3, 0x4ed8aa4a, 0x5b9cca4f, 0x682e6ff3,
    0x748f82ee, 0x78a5636f, 0x84c87814, 0x8cc70208, 0x90befffa, 0xa4506ceb, 0xbef9a3f7, 0xc67178f2]
theorem ktab_length : ktab.length = 64 := rfl
def h0 : List UInt32 := [0x6a09e667, 0xbb67ae85, 0x3c6ef372, 0xa54ff53a, 0x510e527f, 0x9b05688c, 0x1f83d9ab, 0x5be0cd19]
def zrow (n : Nat) : List UInt32 := List.replicate n 0

def tmp1 (e f g h k w : UInt32) : UInt32 := h + (rotr e 6 ^^^ rotr e 11 ^^^ rotr e 25) + ((e &&& f) ^^^ (~~~e &&& g)) + k + w
def tmp2 (a b c : UInt32) : UInt32 := (rotr a 2 ^^^ rotr a 13 ^^^ rotr a 22) + ((a &&& b) ^^^ (a &&& c) ^^^ (b &&& c))
def step (k w : UInt32) : List UInt32 → List UInt32
  | [a, b, c, d, e, f, g, h] => [tmp1 e f g h k w + tmp2 a b c, a, b, c, d + tmp1 e f g h k w, e, f, g]
  | v => v
def rounds (w h : List UInt32) : Nat → List UInt32
  | 0 => h
  | t + 1 => step (ktab.getD t 0) (w.getD t 0) (rounds w h t)
def blockF (h : List UInt32) (b : List UInt8) : List UInt32 := List.zipWith (· + ·) h (rounds (wl b 64) h 64)
theorem step_length (k w : UInt32) (v : List UInt32) (h : v.length = 8) : (step k w v).length = 8 := by
  match v, h with
  | [a, b, c, d, e, f, g, h], _ => rfl
theorem rounds_length (w h : List UInt32) (hl : h.length = 8) (t : Nat) : (rounds w h t).length = 8 := by
  induction t with
  | zero => exact hl
  | succ t ih => exact step_length _ _ _ ih
theorem blockF_length (h : List UInt32) (b : List UInt8) (hl : h.length = 8) : (blockF h b).length = 8 := by simp [blockF, rounds_length _ h hl, hl]
theorem eight (v : List UInt32) (h : v.length = 8) : ∃ a b c d e f g k, v = [a, b, c, d, e, f, g, k] := by
  match v, h with
  | [a, b, c, d, e, f, g, h], _ => exact ⟨a, b, c, d, e, f, g, h, rfl⟩
theorem u_at (l : List UInt32) (k n : Nat) (hn : l.length = n) (h : k < n) : (ucells l)[k]? = some (.int .u32 (U (l.getD k 0))) := by
  subst hn
  rw [ucells_at l k h, List.getD_eq_getElem?_getD, List.getElem?_eq_getElem h, Option.getD_some]
/-- the cells of a Hash -/
def hcells (h : List UInt32) (rest : List UInt8) (n : Int) : List Value := ucells h ++ [.string (bs rest), .int .u64 n]
theorem hcells_at (h : List UInt32) (rest : List UInt8) (n : Int) (k : Nat) (hl : h.length = 8) (hk : k < 8) : (hcells h rest n)[k]? = some (.int .u32 (U (h.getD k 0))) := by
  rw [hcells, List.getElem?_append_left (by rw [ucells_length]; omega)]
  exact u_at h k 8 hl hk
theorem hcells_length (h : List UInt32) (rest : List UInt8) (n : Int) (hl : h.length = 8) : (hcells h rest n).length = 10 := by simp [hcells, ucells_length, hl]
theorem hcells_rest (h : List UInt32) (rest : List UInt8) (n : Int) (hl : h.length = 8) : (hcells h rest n)[8]? = some (.string (bs rest)) := by
  rw [hcells, List.getElem?_append_right (by rw [ucells_length]; omega), ucells_length, hl]; rfl
theorem hcells_n (h : List UInt32) (rest : List UInt8) (n : Int) (hl : h.length = 8) : (hcells h rest n)[9]? = some (.int .u64 n) := by
  rw [hcells, List.getElem?_append_right (by rw [ucells_length]; omega), ucells_length, hl]; rfl
theorem hcells_set (h : List UInt32) (rest : List UInt8) (n : Int) (k : Nat) (x : UInt32) (hl : h.length = 8) (hk : k < 8) : (hcells h rest n).set k (.int .u32 (U x)) = hcells (h.set k x) rest n := by
  rw [hcells, List.set_append_left _ _ (by rw [ucells_length]; omega), ucells_set]; rfl
theorem hcells_set8 (h : List UInt32) (rest r' : List UInt8) (n : Int) (hl : h.length = 8) : (hcells h rest n).set 8 (.string (bs r')) = hcells h r' n := by
  rw [hcells, List.set_append_right _ _ (by rw [ucells_length]; omega), ucells_length, hl]; rfl
theorem hcells_set9 (h : List UInt32) (rest : List UInt8) (n n' : Int) (hl : h.length = 8) : (hcells h rest n).set 9 (.int .u64 n') = hcells h rest n' := by
  rw [hcells, List.set_append_right _ _ (by rw [ucells_length]; omega), ucells_length, hl]; rfl
/-- the first k words added -/
def added (h v : List UInt32) (k : Nat) : List UInt32 := List.zipWith (· + ·) (h.take k) (v.take k) ++ h.drop k
theorem added_zero (h v : List UInt32) : added h v 0 = h := by simp [added]
theorem added_all (h v : List UInt32) (hl : h.length = 8) (hv : v.length = 8) : added h v 8 = List.zipWith (· + ·) h v := by
  simp [added, List.take_of_length_le (Nat.le_of_eq hl), List.take_of_length_le (Nat.le_of_eq hv), List.drop_of_length_le (Nat.le_of_eq hl)]
theorem added_length (h v : List UInt32) (hl : h.length = 8) (hv : v.length = 8) (k : Nat) (hk : k ≤ 8) : (added h v k).length = 8 := by
  simp [added, hl, hv]; omega
theorem added_step (h v : List UInt32) (hl : h.length = 8) (hv : v.length = 8) (k : Nat) (hk : k < 8) :
    (added h v k).getD k 0 = h.getD k 0 ∧ (added h v k).set k (h.getD k 0 + v.getD k 0) = added h v (k + 1) := by
  obtain ⟨a, b, c, d, e, f, g, i, rfl⟩ := eight h hl
  obtain ⟨a', b', c', d', e', f', g', i', rfl⟩ := eight v hv
  match k, hk with
  | 0, _ | 1, _ | 2, _ | 3, _ | 4, _ | 5, _ | 6, _ | 7, _ => exact ⟨rfl, rfl⟩
end Go.Proofs.Ytdebgkjekcppmaa
