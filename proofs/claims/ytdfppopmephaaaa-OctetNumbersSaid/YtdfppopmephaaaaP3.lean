/- Plain facts on texts and rows. -/
import Derived.Test.YtdfppopmephaaaaP2
namespace Go.Proofs.Ytdfppopmephaaaa.Oct

/-- Text -/
def text (l : List UInt8) : List UInt8 × Int := if l.length ≤ 65535 then (num l.length 2 ++ l, 0) else ([], 5)
/-- Read -/
def readT (l : List UInt8) : List UInt8 × Nat × Int :=
  if l.length < 2 then ([], 0, 6) else if l.length < 2 + val (l.take 2) then ([], 0, 6) else ((l.drop 2).take (val (l.take 2)), 2 + val (l.take 2), 0)
/-- the texts of a row, one behind the other -/
def texts : List (List UInt8) → List UInt8
  | [] => []
  | l :: r => num l.length 2 ++ l ++ texts r
def fits (r : List (List UInt8)) : Bool := r.all fun l => decide (l.length ≤ 65535)
/-- Row -/
def row (r : List (List UInt8)) : List UInt8 × Int :=
  if r.length ≤ 65535 then if fits r then (num r.length 2 ++ texts r, 0) else ([], 5) else ([], 5)
/-- ReadRow: k texts -/
def readTexts : Nat → List UInt8 → Option (List (List UInt8))
  | 0, l => if l = [] then some [] else none
  | k + 1, l => if (readT l).2.2 = 0 then (readTexts k (l.drop (readT l).2.1)).map ((readT l).1 :: ·) else none
def readRow (l : List UInt8) : Option (List (List UInt8)) :=
  if l.length < 2 then none else readTexts (val (l.take 2)) (l.drop 2)

theorem texts_snoc (r : List (List UInt8)) (l : List UInt8) : texts (r ++ [l]) = texts r ++ (num l.length 2 ++ l) := by
  induction r with
  | nil => simp [texts]
  | cons a r ih => simp [texts, ih]
theorem val2_lt (l : List UInt8) : val (l.take 2) < 65536 := by
  have h := val_lt (l.take 2)
  have h2 : (l.take 2).length ≤ 2 := by simp; omega
  have := pow256_le h2
  omega
theorem val2 (l : List UInt8) (h : 2 ≤ l.length) : val (l.take 2) = l[0].toNat + 256 * l[1].toNat := by
  match l, h with
  | a :: b :: l, _ => simp [val]
theorem text_le (l : List UInt8) (h : l.length ≤ 65535) : text l = (num l.length 2 ++ l, 0) := if_pos h
theorem text_gt (l : List UInt8) (h : ¬ l.length ≤ 65535) : text l = ([], 5) := if_neg h
theorem texts_take (r : List (List UInt8)) (k : Nat) (h : k < r.length) : texts (r.take (k + 1)) = texts (r.take k) ++ (num r[k].length 2 ++ r[k]) := by
  rw [List.take_succ_eq_append_getElem h, texts_snoc]
theorem texts_append (a b : List (List UInt8)) : texts (a ++ b) = texts a ++ texts b := by
  induction a with
  | nil => rfl
  | cons x a ih => simp [texts, ih]
theorem texts_take_le (r : List (List UInt8)) (k : Nat) : (texts (r.take k)).length ≤ (texts r).length := by
  have h := congrArg (fun r => (texts r).length) (List.take_append_drop k r)
  simp only [texts_append, List.length_append] at h
  omega
theorem texts_mem_le (r : List (List UInt8)) (k : Nat) (h : k < r.length) : r[k].length ≤ (texts r).length := by
  have := texts_take_le r (k + 1)
  rw [texts_take r k h] at this
  simp at this; omega
theorem fits_take (r : List (List UInt8)) (k : Nat) (h : k < r.length) (h' : fits (r.take k) = true) (h2 : r[k].length ≤ 65535) : fits (r.take (k + 1)) = true := by
  rw [List.take_succ_eq_append_getElem h]; simp only [fits, List.all_append] at h' ⊢; simp [h', h2]
theorem fits_not (r : List (List UInt8)) (k : Nat) (h : k < r.length) (h2 : ¬ r[k].length ≤ 65535) : fits r = false := by
  rw [fits, List.all_eq_false]; exact ⟨r[k], List.getElem_mem h, by simpa using h2⟩
theorem row_long (r : List (List UInt8)) (h : ¬ r.length ≤ 65535) : row r = ([], 5) := if_neg h
theorem row_ok (r : List (List UInt8)) (h : r.length ≤ 65535) (h' : fits r = true) : row r = (num r.length 2 ++ texts r, 0) := by rw [row, if_pos h, if_pos h']
theorem row_no (r : List (List UInt8)) (h : r.length ≤ 65535) (h' : fits r = false) : row r = ([], 5) := by rw [row, if_pos h, h']; rfl
end Go.Proofs.Ytdfppopmephaaaa.Oct
