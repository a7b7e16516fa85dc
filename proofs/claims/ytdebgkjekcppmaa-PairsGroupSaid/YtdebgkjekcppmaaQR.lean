/- Plain laws of written rows of pairs. -/
import Derived.Test.YtdebgkjekcppmaaQP
import Derived.Test.YtdebgkjekcppmaaP3
namespace Go.Proofs.Ytdebgkjekcppmaa
open Go.RowKit Oct

/-- keys and values, one behind the other -/
def tx : List PR → List (List UInt8)
  | [] => []
  | p :: l => p.1 :: p.2 :: tx l
theorem tx_append (a b : List PR) : tx (a ++ b) = tx a ++ tx b := by
  induction a with
  | nil => rfl
  | cons x a ih => simp [tx, ih]
theorem tx_take (l : List PR) (k : Nat) (h : k < l.length) : tx (l.take (k + 1)) = tx (l.take k) ++ [l[k].1, l[k].2] := by
  rw [List.take_succ_eq_append_getElem h, tx_append]; rfl
theorem texts_take_p (l : List PR) (k : Nat) (h : k < l.length) : texts (tx (l.take (k + 1))) = texts (tx (l.take k)) ++ (num l[k].1.length 2 ++ l[k].1) ++ (num l[k].2.length 2 ++ l[k].2) := by
  rw [tx_take l k h, texts_append]; simp [texts]
theorem texts_le_p (l : List PR) (k : Nat) : (texts (tx (l.take k))).length ≤ (texts (tx l)).length := by
  have h := congrArg (fun r => (texts (tx r)).length) (List.take_append_drop k l)
  simp only [tx_append, texts_append, List.length_append] at h
  omega
theorem texts_mem_p (l : List PR) (k : Nat) (h : k < l.length) : l[k].1.length + l[k].2.length ≤ (texts (tx l)).length := by
  have := texts_le_p l (k + 1)
  rw [texts_take_p l k h] at this
  simp at this; omega
theorem fits_app (a b : List (List UInt8)) : fits (a ++ b) = (fits a && fits b) := by simp [fits]
theorem fits_take_p (l : List PR) (k : Nat) (h : k < l.length) (h' : fits (tx (l.take k)) = true) (h1 : l[k].1.length ≤ 65535) (h2 : l[k].2.length ≤ 65535) : fits (tx (l.take (k + 1))) = true := by
  rw [tx_take l k h, fits_app, h']; simp [fits, h1, h2]
theorem fits_not_p (l : List PR) (k : Nat) (h : k < l.length) (h2 : ¬ (l[k].1.length ≤ 65535 ∧ l[k].2.length ≤ 65535)) : fits (tx l) = false := by
  have e : tx l = tx (l.take k) ++ ([l[k].1, l[k].2] ++ tx (l.drop (k + 1))) := by
    rw [← List.append_assoc, ← tx_take l k h, ← tx_append, List.take_append_drop]
  rw [e, fits_app, fits_app]
  have : fits [l[k].1, l[k].2] = false := by
    cases hf : fits [l[k].1, l[k].2]
    · rfl
    · simp [fits] at hf; exact absurd hf h2
  rw [this]; simp
/-- Put -/
def putP (l : List PR) : List UInt8 × Int :=
  if l.length ≤ 65535 then if fits (tx l) then if sorted l then (num l.length 2 ++ texts (tx l), 0) else ([], 2) else ([], 5) else ([], 5)
theorem putP_long (l : List PR) (h : ¬ l.length ≤ 65535) : putP l = ([], 5) := if_neg h
theorem putP_fat (l : List PR) (h : l.length ≤ 65535) (h' : fits (tx l) = false) : putP l = ([], 5) := by rw [putP, if_pos h, h']; rfl
theorem putP_mixed (l : List PR) (h : l.length ≤ 65535) (h' : fits (tx l) = true) (h2 : sorted l = false) : putP l = ([], 2) := by rw [putP, if_pos h, h', h2]; rfl
theorem putP_ok (l : List PR) (h : l.length ≤ 65535) (h' : fits (tx l) = true) (h2 : sorted l = true) : putP l = (num l.length 2 ++ texts (tx l), 0) := by rw [putP, if_pos h, h', h2]; rfl
end Go.Proofs.Ytdebgkjekcppmaa
