/- The sum as plain functions of words. -/
import Derived.Test.YtdebgkjekcppmaaS0
namespace Go.Proofs.Ytdebgkjekcppmaa
open Go.RowKit

def rotr (x : UInt32) (n : Nat) : UInt32 := (x >>> UInt32.ofNat n) ||| (x <<< UInt32.ofNat (32 - n))
def byteAt (b : List UInt8) (k : Nat) : UInt32 := (b.getD k 0).toUInt32
def be32 (b : List UInt8) (k : Nat) : UInt32 := ((byteAt b k <<< 24 ||| byteAt b (k + 1) <<< 16) ||| byteAt b (k + 2) <<< 8) ||| byteAt b (k + 3)
def sg0 (x : UInt32) : UInt32 := rotr x 7 ^^^ rotr x 18 ^^^ (x >>> 3)
def sg1 (x : UInt32) : UInt32 := rotr x 17 ^^^ rotr x 19 ^^^ (x >>> 10)
def wnext (b : List UInt8) (l : List UInt32) : UInt32 :=
  if l.length < 16 then be32 b (4 * l.length)
  else l.getD (l.length - 16) 0 + sg0 (l.getD (l.length - 15) 0) + l.getD (l.length - 7) 0 + sg1 (l.getD (l.length - 2) 0)
def wl (b : List UInt8) : Nat → List UInt32
  | 0 => []
  | t + 1 => wl b t ++ [wnext b (wl b t)]
theorem wl_length (b : List UInt8) (t : Nat) : (wl b t).length = t := by induction t with | zero => rfl | succ t ih => simp [wl, ih]
/-- .. the row while it is filled -/
def wrow (b : List UInt8) (t : Nat) : List UInt32 := wl b t ++ List.replicate (64 - t) 0
theorem wrow_length (b : List UInt8) (t : Nat) (h : t ≤ 64) : (wrow b t).length = 64 := by simp [wrow, wl_length]; omega
theorem wrow_set (b : List UInt8) (t : Nat) (h : t < 64) : (wrow b t).set t (wnext b (wl b t)) = wrow b (t + 1) := by
  have e : 64 - t = (64 - (t + 1)) + 1 := by omega
  have e2 : wl b (t + 1) = wl b t ++ [wnext b (wl b t)] := rfl
  unfold wrow
  rw [e2, List.set_append_right _ _ (by rw [wl_length]; exact Nat.le_refl _), wl_length, Nat.sub_self, e, List.replicate_succ, List.set_cons_zero]
  simp only [List.append_assoc, List.singleton_append]
theorem wrow_end (b : List UInt8) : wrow b 64 = wl b 64 := by simp [wrow]
theorem wrow_at (b : List UInt8) (t k : Nat) (h : k < t) (h' : t ≤ 64) : (ucells (wrow b t))[k]? = some (.int .u32 (U ((wl b t).getD k 0))) := by
  have hl : k < (wl b t).length := by rw [wl_length]; exact h
  have hx : k < (wrow b t).length := by rw [wrow_length b t h']; omega
  rw [ucells_at _ _ hx]
  have : (wrow b t)[k] = (wl b t).getD k 0 := by
    simp only [wrow, List.getElem_append_left hl, List.getD_eq_getElem?_getD, List.getElem?_eq_getElem hl, Option.getD_some]
  rw [this]
theorem wnext_low (b : List UInt8) (t : Nat) (h : t < 16) : wnext b (wl b t) = be32 b (4 * t) := by rw [wnext, wl_length, if_pos h]
theorem wnext_high (b : List UInt8) (t : Nat) (h : 16 ≤ t) : wnext b (wl b t) = (wl b t).getD (t - 16) 0 + sg0 ((wl b t).getD (t - 15) 0) + (wl b t).getD (t - 7) 0 + sg1 ((wl b t).getD (t - 2) 0) := by rw [wnext, wl_length, if_neg (by omega)]
theorem byteAt_get (b : List UInt8) (k : Nat) (h : k < b.length) : b[k].toUInt32 = byteAt b k := by
  simp [byteAt, List.getD_eq_getElem?_getD, h]
theorem be32_get (b : List UInt8) (k : Nat) (h0 : k < b.length) (h1 : k + 1 < b.length) (h2 : k + 2 < b.length) (h3 : k + 3 < b.length) :
    ((b[k].toUInt32 <<< 24 ||| b[k + 1].toUInt32 <<< 16) ||| b[k + 2].toUInt32 <<< 8) ||| b[k + 3].toUInt32 = be32 b k := by
  rw [byteAt_get, byteAt_get, byteAt_get, byteAt_get]; rfl
theorem Blk.ex {w : World} {b : Nat} {t : TypeId} {cs : List Value} (h : Blk w b t cs) {k : Nat} (hk : k < cs.length) : ∃ u, w.cell? ⟨b, k, none⟩ = some u := ⟨_, h.cell (List.getElem?_eq_getElem hk)⟩
/-- a load out of a block that is known -/
theorem Blk.got {w w' : World} {b : Nat} {t : TypeId} {cs : List Value} (h : Blk w b t cs) (hB : Below w.heap.size w w') {k : Nat} {v : Value} (hv : cs[k]? = some v) : w'.cell? ⟨b, k, none⟩ = some v := (h.below hB).cell hv
end Go.Proofs.Ytdebgkjekcppmaa
