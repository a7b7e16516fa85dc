/- The whole sum of a text as a plain function; writing in pieces. -/
import Derived.Test.YtdebgkjekcppmaaSB
namespace Go.Proofs.Ytdebgkjekcppmaa
open Go.RowKit Oct

def chunksN : Nat → List UInt8 → List (List UInt8)
  | 0, _ => []
  | n + 1, l => l.take 64 :: chunksN n (l.drop 64)
/-- the whole blocks of a text -/
def chunks (l : List UInt8) : List (List UInt8) := chunksN (l.length / 64) l
/-- what is behind them -/
def tailB (l : List UInt8) : List UInt8 := l.drop (64 * (l.length / 64))
def absorb (h : List UInt32) (l : List UInt8) : List UInt32 := (chunks l).foldl blockF h
theorem chunks_step (l : List UInt8) (h : 64 ≤ l.length) : chunks l = l.take 64 :: chunks (l.drop 64) := by
  unfold chunks
  rw [List.length_drop, show l.length / 64 = (l.length - 64) / 64 + 1 by omega]; rfl
theorem chunks_short (l : List UInt8) (h : l.length < 64) : chunks l = [] := by
  unfold chunks; rw [show l.length / 64 = 0 by omega]; rfl
theorem tailB_step (l : List UInt8) (h : 64 ≤ l.length) : tailB l = tailB (l.drop 64) := by
  unfold tailB
  rw [List.length_drop, List.drop_drop]; congr 1; omega
theorem tailB_short (l : List UInt8) (h : l.length < 64) : tailB l = l := by
  unfold tailB; rw [show l.length / 64 = 0 by omega]; rfl
theorem tailB_length (l : List UInt8) : (tailB l).length = l.length % 64 := by
  unfold tailB; rw [List.length_drop]; omega
theorem chunks_append (b : List UInt8) : ∀ (n : Nat) (a : List UInt8), a.length = 64 * n → chunks (a ++ b) = chunks a ++ chunks b ∧ tailB (a ++ b) = tailB b := by
  intro n
  induction n with
  | zero =>
    intro a ha
    obtain rfl : a = [] := List.eq_nil_of_length_eq_zero (by omega)
    exact ⟨rfl, rfl⟩
  | succ n ih =>
    intro a ha
    obtain ⟨h1, h2⟩ := ih (a.drop 64) (by rw [List.length_drop]; omega)
    rw [chunks_step (a ++ b) (by rw [List.length_append]; omega), chunks_step a (by omega), tailB_step (a ++ b) (by rw [List.length_append]; omega)]
    rw [List.drop_append_of_le_length (by omega), List.take_append_of_le_length (by omega), h1, h2]
    exact ⟨rfl, rfl⟩
theorem split_tailB (t : List UInt8) : ∃ a, t = a ++ tailB t ∧ a.length = 64 * (t.length / 64) := by
  refine ⟨t.take (64 * (t.length / 64)), ?_, ?_⟩
  · unfold tailB; rw [List.take_append_drop]
  · rw [List.length_take]; omega
theorem absorb_tail (h : List UInt32) (t s : List UInt8) : absorb (absorb h t) (tailB t ++ s) = absorb h (t ++ s) ∧ tailB (tailB t ++ s) = tailB (t ++ s) := by
  obtain ⟨a, h1, h2⟩ := split_tailB t
  have e1 := chunks_append (tailB t ++ s) _ a h2
  have e2 := chunks_append (tailB t) _ a h2
  rw [← List.append_assoc, ← h1] at e1
  rw [← h1] at e2
  have hs : chunks (tailB t) = [] := chunks_short _ (by rw [tailB_length]; omega)
  unfold absorb
  rw [e1.1, e2.1, hs, List.append_nil, List.foldl_append]
  exact ⟨rfl, e1.2.symm⟩
theorem absorb_length (h : List UInt32) (l : List UInt8) (hl : h.length = 8) : (absorb h l).length = 8 := by
  unfold absorb
  generalize chunks l = c
  induction c generalizing h with
  | nil => exact hl
  | cons x c ih => exact ih _ (blockF_length h x hl)
theorem foldl_length (h : List UInt32) (c : List (List UInt8)) (hl : h.length = 8) : (c.foldl blockF h).length = 8 := by
  induction c generalizing h with
  | nil => exact hl
  | cons x c ih => exact ih _ (blockF_length h x hl)
/-- how many zero bytes are put -/
def zc (n : Nat) : Nat := (119 - n % 64) % 64
/-- the bytes of a number of 64 bits, the highest first -/
def be8 (n : Nat) : List UInt8 := [UInt8.ofNat (n / 72057594037927936), UInt8.ofNat (n / 281474976710656), UInt8.ofNat (n / 1099511627776), UInt8.ofNat (n / 4294967296), UInt8.ofNat (n / 16777216), UInt8.ofNat (n / 65536), UInt8.ofNat (n / 256), UInt8.ofNat n]
def padTail (r : List UInt8) (n : Nat) : List UInt8 := r ++ [0x80] ++ List.replicate (zc r.length) 0 ++ be8 (8 * n)
theorem padTail_length (r : List UInt8) (n : Nat) : (padTail r n).length = r.length + 9 + zc r.length := by
  simp [padTail, be8]; omega
theorem padTail_mod (r : List UInt8) (n : Nat) : (padTail r n).length % 64 = 0 := by
  rw [padTail_length]; unfold zc; omega
def wb (x : UInt32) : List UInt8 := [UInt8.ofNat (x.toNat / 16777216), UInt8.ofNat (x.toNat / 65536), UInt8.ofNat (x.toNat / 256), UInt8.ofNat x.toNat]
def outB (v : List UInt32) : List UInt8 := v.flatMap wb
/-- the sum of a text -/
def shaF (t : List UInt8) : List UInt8 := outB (absorb h0 (padTail t t.length))
theorem shaF_pieces (t : List UInt8) : outB (absorb (absorb h0 t) (padTail (tailB t) t.length)) = shaF t := by
  have h := absorb_tail h0 t ([0x80] ++ List.replicate (zc t.length) 0 ++ be8 (8 * t.length))
  have e : padTail (tailB t) t.length = tailB t ++ ([0x80] ++ List.replicate (zc t.length) 0 ++ be8 (8 * t.length)) := by
    have hz : zc (tailB t).length = zc t.length := by rw [tailB_length]; unfold zc; omega
    simp only [padTail, hz, List.append_assoc]
  rw [e, h.1]
  simp only [shaF, padTail, List.append_assoc]
theorem outB_length (v : List UInt32) : (outB v).length = 4 * v.length := by
  induction v with
  | nil => rfl
  | cons x v ih => simp [outB, wb] at ih ⊢; omega
theorem shaF_length (t : List UInt8) : (shaF t).length = 32 := by
  rw [shaF, outB_length, absorb_length _ _ rfl]
theorem outB_take (v : List UInt32) (k : Nat) (h : k < v.length) : outB (v.take (k + 1)) = outB (v.take k) ++ wb (v.getD k 0) := by
  rw [List.take_succ_eq_append_getElem h, outB, List.flatMap_append, List.getD_eq_getElem?_getD, List.getElem?_eq_getElem h]
  simp [outB]
end Go.Proofs.Ytdebgkjekcppmaa
