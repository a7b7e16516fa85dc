/- Plain laws of rows of pairs that are read back. -/
import Derived.Test.YtdebgkjekcppmaaQR
namespace Go.Proofs.Ytdebgkjekcppmaa
open Go.RowKit Oct

/-- a pair's first text, its rest, its second -/
def rest1 (l : List UInt8) : List UInt8 := l.drop (readT l).2.1
def pok (l : List UInt8) : Prop := (readT l).2.2 = 0 ∧ (readT (rest1 l)).2.2 = 0
instance (l : List UInt8) : Decidable (pok l) := by unfold pok; infer_instance
def pnow (l : List UInt8) : PR := ((readT l).1, (readT (rest1 l)).1)
def plen (l : List UInt8) : Nat := (readT l).2.1 + (readT (rest1 l)).2.1
def readPs : Nat → List UInt8 → Option (List PR)
  | 0, l => if l = [] then some [] else none
  | k + 1, l => if pok l then (readPs k (l.drop (plen l))).map (pnow l :: ·) else none
/-- Get -/
def getP (l : List UInt8) : Option (List PR) :=
  if l.length < 2 then none else (readPs (val (l.take 2)) (l.drop 2)).bind fun r => if sorted r then some r else none
theorem readPs_ok (k : Nat) (l : List UInt8) (h : pok l) : readPs (k + 1) l = (readPs k (l.drop (plen l))).map (pnow l :: ·) := if_pos h
theorem readPs_no (k : Nat) (l : List UInt8) (h : ¬ pok l) : readPs (k + 1) l = none := if_neg h
theorem plen_le (l : List UInt8) (h : pok l) : plen l ≤ l.length := by
  have h1 := (readT_le l h.1).1
  have h2 := (readT_le _ h.2).1
  unfold plen
  unfold rest1 at h2 ⊢
  rw [List.length_drop] at h2
  omega
def PsInv (l0 : List UInt8) (k0 m : Nat) (r : List PR) (l : List UInt8) : Prop := readPs k0 l0 = (readPs m l).map (r ++ ·)
theorem PsInv.start (l0 : List UInt8) (k0 : Nat) : PsInv l0 k0 k0 [] l0 := by simp [PsInv]
theorem PsInv.step {l0 : List UInt8} {k0 m : Nat} {r : List PR} {l : List UInt8} (h : PsInv l0 k0 (m + 1) r l) (ho : pok l) : PsInv l0 k0 m (r ++ [pnow l]) (l.drop (plen l)) := by
  unfold PsInv at h ⊢
  rw [h, readPs_ok m l ho, Option.map_map]
  congr 1
  funext x
  simp
theorem PsInv.no {l0 : List UInt8} {k0 m : Nat} {r : List PR} {l : List UInt8} (h : PsInv l0 k0 (m + 1) r l) (ho : ¬ pok l) : readPs k0 l0 = none := by
  rw [h, readPs_no m l ho]; rfl
theorem PsInv.fin {l0 : List UInt8} {k0 : Nat} {r : List PR} {l : List UInt8} (h : PsInv l0 k0 0 r l) : readPs k0 l0 = if l = [] then some r else none := by
  rw [h, readPs]; split <;> simp
theorem getP_short (l : List UInt8) (h : l.length < 2) : getP l = none := if_pos h
theorem getP_no (l : List UInt8) (h : readPs (val (l.take 2)) (l.drop 2) = none) : getP l = none := by
  unfold getP; split
  · rfl
  · rw [h]; rfl
theorem getP_some (l : List UInt8) (h0 : ¬ l.length < 2) (r : List PR) (h : readPs (val (l.take 2)) (l.drop 2) = some r) : getP l = if sorted r then some r else none := by
  rw [getP, if_neg h0, h]; rfl
end Go.Proofs.Ytdebgkjekcppmaa
