/- Plain facts on texts and rows. -/
import Derived.Test.YtdebgkjekcppmaaP2
namespace Go.Proofs.Ytdebgkjekcppmaa.Oct

/-- Text -/
def text (l : List UInt8) : List UInt8 × Int := if l.length ≤ 65535 then (num l.length 2 ++ l, 0) else ([], 5)
/-- Read -/
def readT (l : List UInt8) : List UInt8 × Nat × Int :=
  if l.length < 2 then ([], 0, 6) else if l.length < 2 + val (l.take 2) then ([], 0, 6) else ((l.drop 2).take (val (l.take 2)), 2 + val (l.take 2), 0)
/-- the texts of a row, one behind the other -/
def texts : List (List UInt8) → List UInt8
  | [] => []
  | l :: r => num l.length 2 ++ l ++ texts r
def fits (r : List (List UInt8)) : Bool := r.all fun l => decide (l.length ≤ 65535)
/-- Row -/
def row (r : List (List UInt8)) : List UInt8 × Int :=
  if r.length ≤ 65535 then if fits r then (num r.length 2 ++ texts r, 0) else ([], 5) else ([], 5)
/-- ReadRow: k texts -/
def readTexts : Nat → List UInt8 → Option (List (List UInt8))
  | 0, l => if l = [] then some [] else none
  | k + 1, l => if (readT l).2.2 = 0 then (readTexts k (l.drop (readT l).2.1)).map ((readT l).1 :: ·) else none
def readRow (l : List UInt8) : Option (List (List UInt8)) :=
  if l.length < 2 then none else readTexts (val (l.take 2)) (l.drop 2)

theorem texts_snoc (r : List (List UInt8)) (l : List UInt8) : texts (r ++ [l]) = texts r ++ (num l.length 2 ++ l) := by
  induction r with
  | nil => simp [texts]
  | cons a r ih => simp [texts, ih]
theorem val2_lt (l : List UInt8) : val (l.take 2) < 65536 := by
  have h := val_lt (l.take 2)
  have h2 : (l.take 2).length ≤ 2 := by simp; omega
  have := pow256_le h2
  omega
theorem val2 (l : List UInt8) (h : 2 ≤ l.length) : val (l.take 2) = l[0].toNat + 256 * l[1].toNat := by
  match l, h with
  | a :: b :: l, _ => simp [val]
theorem text_le (l : List UInt8) (h : l.length ≤ 65535) : text l = (num l.length 2 ++ l, 0) := if_pos h
theorem text_gt (l : List UInt8) (h : ¬ l.length ≤ 65535) : text l = ([], 5) := if_neg h
theorem texts_take (r : List (List UInt8)) (k : Nat) (h : k < r.length) : texts (r.take (k + 1)) = texts (r.take k) ++ (num r[k].length 2 ++ r[k]) := by
  rw [List.take_succ_eq_append_getElem h, texts_snoc]
theorem texts_append (a b : List (List UInt8)) : texts (a ++ b) = texts a ++ texts b := by
  induction a with
  | nil => rfl
  | cons x a ih => simp [texts, ih]
theorem texts_take_le (r : List (List UInt8)) (k : Nat) : (texts (r.take k)).length ≤ (texts r).length := by
  have h := congrArg (fun r => (texts r).length) (List.take_append_drop k r)
  simp only [texts_append, List.length_append] at h
  omega
theorem texts_mem_le (r : List (List UInt8)) (k : Nat) (h : k < r.length) : r[k].length ≤ (texts r).length := by
  have := texts_take_le r (k + 1)
  rw [texts_take r k h] at this
  simp at this; omega
theorem fits_take (r : List (List UInt8)) (k : Nat) (h : k < r.length) (h' : fits (r.take k) = true) (h2 : r[k].length ≤ 65535) : fits (r.take (k + 1)) = true := by
  rw [List.take_succ_eq_append_getElem h]; simp only [fits, List.all_append] at h' ⊢; simp [h', h2]
theorem fits_not (r : List (List UInt8)) (k : Nat) (h : k < r.length) (h2 : ¬ r[k].length ≤ 65535) : fits r = false := by
  rw [fits, List.all_eq_false]; exact ⟨r[k], List.getElem_mem h, by simpa using h2⟩
theorem row_long (r : List (List UInt8)) (h : ¬ r.length ≤ 65535) : row r = ([], 5) := if_neg h
theorem row_ok (r : List (List UInt8)) (h : r.length ≤ 65535) (h' : fits r = true) : row r = (num r.length 2 ++ texts r, 0) := by rw [row, if_pos h, if_pos h']
theorem row_no (r : List (List UInt8)) (h : r.length ≤ 65535) (h' : fits r = false) : row r = ([], 5) := by rw [row, if_pos h, h']; rfl
theorem readT_le (l : List UInt8) (h : (readT l).2.2 = 0) : (readT l).2.1 ≤ l.length ∧ 2 ≤ (readT l).2.1 := by
  unfold readT at h ⊢
  split at h
  · simp at h
  · split at h
    · simp at h
    · rename_i h1 h2
      rw [if_neg h1, if_neg h2]
      exact ⟨by dsimp only; omega, by dsimp only; omega⟩
theorem readTexts_ok (k : Nat) (l : List UInt8) (h : (readT l).2.2 = 0) : readTexts (k + 1) l = (readTexts k (l.drop (readT l).2.1)).map ((readT l).1 :: ·) := if_pos h
theorem readTexts_no (k : Nat) (l : List UInt8) (h : ¬ (readT l).2.2 = 0) : readTexts (k + 1) l = none := if_neg h
/-- the state of ReadRow's loop: k texts are read, r; m are wanted yet, of l -/
def RrInv (l0 : List UInt8) (k0 m : Nat) (r : List (List UInt8)) (l : List UInt8) : Prop := readTexts k0 l0 = (readTexts m l).map (r ++ ·)
theorem RrInv.start (l0 : List UInt8) (k0 : Nat) : RrInv l0 k0 k0 [] l0 := by simp [RrInv]
theorem RrInv.step {l0 : List UInt8} {k0 m : Nat} {r : List (List UInt8)} {l : List UInt8} (h : RrInv l0 k0 (m + 1) r l) (ho : (readT l).2.2 = 0) : RrInv l0 k0 m (r ++ [(readT l).1]) (l.drop (readT l).2.1) := by
  unfold RrInv at h ⊢
  rw [h, readTexts_ok m l ho, Option.map_map]
  congr 1
  funext x
  simp
theorem RrInv.no {l0 : List UInt8} {k0 m : Nat} {r : List (List UInt8)} {l : List UInt8} (h : RrInv l0 k0 (m + 1) r l) (ho : ¬ (readT l).2.2 = 0) : readTexts k0 l0 = none := by
  rw [h, readTexts_no m l ho]; rfl
theorem RrInv.fin {l0 : List UInt8} {k0 : Nat} {r : List (List UInt8)} {l : List UInt8} (h : RrInv l0 k0 0 r l) : readTexts k0 l0 = if l = [] then some r else none := by
  rw [h, readTexts]; split <;> simp
theorem readRow_short (l : List UInt8) (h : l.length < 2) : readRow l = none := if_pos h
theorem readRow_at (l : List UInt8) (h : ¬ l.length < 2) : readRow l = readTexts (val (l.take 2)) (l.drop 2) := if_neg h
theorem readTexts_length : ∀ (k : Nat) (l : List UInt8) (q : List (List UInt8)), readTexts k l = some q → q.length = k
  | 0, l, q, h => by
    rw [readTexts] at h
    split at h
    · simp at h; subst h; rfl
    · simp at h
  | k + 1, l, q, h => by
    by_cases ho : (readT l).2.2 = 0
    · rw [readTexts_ok k l ho] at h
      obtain ⟨q', h1, h2⟩ := Option.map_eq_some_iff.1 h
      subst h2
      simp [readTexts_length k _ q' h1]
    · rw [readTexts_no k l ho] at h; simp at h
theorem readRow_length (l : List UInt8) (q : List (List UInt8)) (h : readRow l = some q) : q.length ≤ 65535 := by
  by_cases hl : l.length < 2
  · rw [readRow_short l hl] at h; simp at h
  · rw [readRow_at l hl] at h
    have := readTexts_length _ _ _ h
    have := val2_lt l
    omega
theorem readT_text (l rest : List UInt8) (h : l.length ≤ 65535) : readT (num l.length 2 ++ l ++ rest) = (l, 2 + l.length, 0) := by
  have e1 : (num l.length 2 ++ l ++ rest).take 2 = num l.length 2 := by
    rw [List.append_assoc, List.take_left' (num_length 2 _)]
  have e2 : val (num l.length 2) = l.length := by rw [val_num]; omega
  have e3 : (num l.length 2 ++ l ++ rest).drop 2 = l ++ rest := by
    rw [List.append_assoc, List.drop_left' (num_length 2 _)]
  have e4 : (num l.length 2 ++ l ++ rest).length = 2 + l.length + rest.length := by simp; omega
  rw [readT, e1, e2, e3, e4, if_neg (by omega), if_neg (by omega), List.take_left' rfl]
theorem readTexts_texts : ∀ r : List (List UInt8), fits r = true → readTexts r.length (texts r) = some r
  | [], _ => rfl
  | l :: r, h => by
    simp only [fits, List.all_cons, Bool.and_eq_true, decide_eq_true_eq] at h
    have ih := readTexts_texts r h.2
    have e := readT_text l (texts r) h.1
    have ed : (num l.length 2 ++ l ++ texts r).drop (2 + l.length) = texts r := by
      rw [List.drop_left' (by simp)]
    rw [texts, List.length_cons, readTexts_ok _ _ (by rw [e]), e, ed, ih]; rfl
theorem readRow_row (r : List (List UInt8)) (h : r.length ≤ 65535) (hf : fits r = true) : readRow (num r.length 2 ++ texts r) = some r := by
  have e1 : (num r.length 2 ++ texts r).take 2 = num r.length 2 := List.take_left' (num_length 2 _)
  have e2 : val (num r.length 2) = r.length := by rw [val_num]; omega
  have e3 : (num r.length 2 ++ texts r).drop 2 = texts r := List.drop_left' (num_length 2 _)
  rw [readRow_at _ (by simp), e1, e2, e3, readTexts_texts r hf]
theorem readT_back (l : List UInt8) (h : (readT l).2.2 = 0) : (readT l).1.length ≤ 65535 ∧ num (readT l).1.length 2 ++ (readT l).1 ++ l.drop (readT l).2.1 = l := by
  have hv := val2_lt l
  unfold readT at h ⊢
  split at h
  · simp at h
  · split at h
    · simp at h
    · rename_i h1 h2
      rw [if_neg h1, if_neg h2]
      dsimp only
      have e1 : ((l.drop 2).take (val (l.take 2))).length = val (l.take 2) := by simp; omega
      have e2 : num (val (l.take 2)) 2 = l.take 2 := by
        have := num_val (l.take 2)
        rwa [show (l.take 2).length = 2 by simp; omega] at this
      refine ⟨by omega, ?_⟩
      rw [e1, e2, List.append_assoc, ← List.drop_drop, List.take_append_drop, List.take_append_drop]
theorem readTexts_back : ∀ (k : Nat) (l : List UInt8) (q : List (List UInt8)), readTexts k l = some q → fits q = true ∧ texts q = l
  | 0, l, q, h => by
    rw [readTexts] at h
    split at h
    · rename_i hl
      simp at h; subst h; exact ⟨rfl, hl.symm⟩
    · simp at h
  | k + 1, l, q, h => by
    by_cases ho : (readT l).2.2 = 0
    · rw [readTexts_ok k l ho] at h
      obtain ⟨q', h1, h2⟩ := Option.map_eq_some_iff.1 h
      subst h2
      obtain ⟨f1, f2⟩ := readTexts_back k _ q' h1
      obtain ⟨b1, b2⟩ := readT_back l ho
      refine ⟨?_, ?_⟩
      · simp only [fits, List.all_cons, Bool.and_eq_true, decide_eq_true_eq]; exact ⟨b1, f1⟩
      · rw [texts, f2, b2]
    · rw [readTexts_no k l ho] at h; simp at h
theorem row_readRow (l : List UInt8) (q : List (List UInt8)) (h : readRow l = some q) : row q = (l, 0) := by
  have hl := readRow_length l q h
  by_cases h2 : l.length < 2
  · rw [readRow_short l h2] at h; simp at h
  · rw [readRow_at l h2] at h
    have e := readTexts_length _ _ _ h
    obtain ⟨f1, f2⟩ := readTexts_back _ _ _ h
    rw [row_ok q hl f1, f2, e]
    have e2 := num_val (l.take 2)
    rw [show (l.take 2).length = 2 by simp; omega] at e2
    rw [e2, List.take_append_drop]
theorem row_cases (r : List (List UInt8)) (h : r.length ≤ 65535) : (∃ x, row r = (x, 0) ∧ readRow x = some r ∧ x.length = 2 + (texts r).length) ∨ row r = ([], 5) := by
  cases hf : fits r
  · exact .inr (row_no r h hf)
  · exact .inl ⟨_, row_ok r h hf, readRow_row r h hf, by simp⟩
theorem row_inj {a b : List (List UInt8)} {x y : List UInt8} (ha : readRow x = some a) (hb : readRow y = some b) : (x == y) = decide (a = b) := by
  rw [Bool.eq_iff_iff]
  simp only [beq_iff_eq, decide_eq_true_eq]
  constructor
  · rintro rfl; rw [ha] at hb; exact Option.some.inj hb
  · rintro rfl
    have h1 := row_readRow x a ha
    have h2 := row_readRow y a hb
    rw [h1] at h2
    exact congrArg Prod.fst h2
end Go.Proofs.Ytdebgkjekcppmaa.Oct
