/- Plain laws of sorted rows. -/
import Derived.Test.YtdebgkjekcppmaaQ1
import Derived.Lib.MinMaxS
namespace Go.Proofs.Ytdebgkjekcppmaa
open Go.RowKit Oct

theorem lt_iff (a b : List UInt8) : lt a b = true ↔ a < b := by simp [lt, Proofs.bytesLess_eq]
theorem lt_trans' {a b c : List UInt8} (h1 : lt a b = true) (h2 : lt b c = true) : lt a c = true := by
  rw [lt_iff] at *; exact List.lt_trans h1 h2
theorem lt_irr (a : List UInt8) : lt a a = false := by
  cases h : lt a a
  · rfl
  · rw [lt_iff] at h; exact absurd h (List.lt_irrefl a)
theorem le_trans' {a b c : List UInt8} (h1 : lt b a = false) (h2 : lt c b = false) : lt c a = false := by
  have h1' : ¬ b < a := by rw [← lt_iff, h1]; simp
  have h2' : ¬ c < b := by rw [← lt_iff, h2]; simp
  cases h : lt c a
  · rfl
  · rw [lt_iff] at h
    exact absurd (List.lt_of_le_of_lt (List.not_lt.1 h2') h) h1'
theorem lt_asymm' {a b : List UInt8} (h : lt a b = true) : lt b a = false := by
  cases h2 : lt b a
  · rfl
  · rw [← lt_irr a, lt_trans' h h2]
theorem gt_eq (a b : List UInt8) : (!(lt a b || a == b)) = lt b a := by
  cases h1 : lt a b
  · cases h2 : a == b
    · have n1 : ¬ a < b := by rw [← lt_iff, h1]; simp
      have n2 : a ≠ b := by intro e; simp [e] at h2
      cases h3 : lt b a
      · have n3 : ¬ b < a := by rw [← lt_iff, h3]; simp
        exact absurd (List.le_antisymm (List.not_lt.1 n3) (List.not_lt.1 n1)) n2
      · rfl
    · have e : a = b := by simpa using h2
      rw [e, lt_irr]; rfl
  · rw [lt_asymm' h1]; rfl
/-- two rows, merged -/
def mrg : List PR → List PR → List PR
  | [], b => b
  | a, [] => a
  | x :: a, y :: b => if lt y.1 x.1 then y :: mrg (x :: a) b else x :: mrg a (y :: b)
termination_by a b => a.length + b.length
theorem mrg_nil_l (b : List PR) : mrg [] b = b := by rw [mrg]
theorem mrg_nil_r (a : List PR) : mrg a [] = a := by cases a <;> simp [mrg]
theorem mrg_cons (x y : PR) (a b : List PR) : mrg (x :: a) (y :: b) = if lt y.1 x.1 then y :: mrg (x :: a) b else x :: mrg a (y :: b) := by rw [mrg]
theorem mrg_length : ∀ a b : List PR, (mrg a b).length = a.length + b.length := by
  intro a b
  induction a, b using mrg.induct with
  | case1 b => simp [mrg_nil_l]
  | case2 a h => simp [mrg_nil_r]
  | case3 x a y b h ih => rw [mrg_cons, if_pos h, List.length_cons, ih]; simp; omega
  | case4 x a y b h ih => rw [mrg_cons, if_neg h, List.length_cons, ih]; simp; omega


/-- p, put in behind what is not above it -/
def ins (p : PR) : List PR → List PR
  | [] => [p]
  | x :: l => if lt p.1 x.1 then p :: x :: l else x :: ins p l
/-- a row, sorted -/
def srt (l : List PR) : List PR := l.foldl (fun o p => ins p o) []
theorem srt_snoc (l : List PR) (p : PR) : srt (l ++ [p]) = ins p (srt l) := by simp [srt]
theorem ins_length (p : PR) : ∀ l : List PR, (ins p l).length = l.length + 1
  | [] => rfl
  | x :: l => by rw [ins]; split <;> simp [ins_length p l]
theorem srt_length (l : List PR) : (srt l).length = l.length := by
  suffices h : ∀ (l o : List PR), (l.foldl (fun o p => ins p o) o).length = o.length + l.length by simpa [srt] using h l []
  intro l
  induction l with
  | nil => simp
  | cons p l ih => intro o; simp [ih, ins_length]; omega
theorem mrg_ins (p : PR) : ∀ a b : List PR, mrg a (ins p b) = ins p (mrg a b) := by
  intro a b
  induction a, b using mrg.induct with
  | case1 b => simp [mrg_nil_l]
  | case2 a h =>
    rw [mrg_nil_r]
    clear h
    induction a with
    | nil => simp [mrg_nil_l, ins]
    | cons x a ih =>
      rw [ins, ins, mrg_cons]
      split
      · rw [mrg_nil_r]
      · have : mrg a [p] = mrg a (ins p []) := rfl
        rw [this, ih]
  | case3 x a y b h ih =>
    cases hp : lt p.1 y.1
    · rw [ins, if_neg (by rw [hp]; simp), mrg_cons, if_pos h, ih, mrg_cons, if_pos h, ins, if_neg (by rw [hp]; simp)]
    · rw [ins, if_pos hp, mrg_cons, if_pos (lt_trans' hp h), mrg_cons, if_pos h, ins, if_pos hp]
  | case4 x a y b h ih =>
    have h' : lt y.1 x.1 = false := by simpa using h
    cases hp : lt p.1 y.1
    · have hx : lt p.1 x.1 = false := le_trans' h' hp
      rw [ins, if_neg (by rw [hp]; simp)] at ih ⊢
      rw [mrg_cons, if_neg h, ih, mrg_cons, if_neg h, ins, if_neg (by rw [hx]; simp)]
    · rw [ins, if_pos hp] at ih ⊢
      rw [mrg_cons x y, if_neg h, ins, mrg_cons]
      split
      · rw [mrg_cons, if_neg h]
      · rw [ih]
theorem mrg_srt (a b : List PR) : mrg (srt a) (srt b) = srt (a ++ b) := by
  have : ∀ n (b : List PR), b.length = n → mrg (srt a) (srt b) = srt (a ++ b) := by
    intro n
    induction n with
    | zero => intro b hb; rw [List.eq_nil_of_length_eq_zero hb]; simp [srt, mrg_nil_r]
    | succ n ih =>
      intro b hb
      obtain ⟨b', p, rfl⟩ : ∃ b' p, b = b' ++ [p] := ⟨b.dropLast, b.getLast (by intro e; rw [e] at hb; simp at hb), (List.dropLast_concat_getLast _).symm⟩
      rw [srt_snoc, mrg_ins, ih b' (by simpa using hb), ← List.append_assoc, srt_snoc]
  exact this _ b rfl
theorem srt_two (p q : PR) : srt [p, q] = if lt q.1 p.1 then [q, p] else [p, q] := by simp [srt, ins]
theorem srt_one (p : PR) : srt [p] = [p] := rfl
theorem srt_nil : srt [] = [] := rfl
/-- sorted, from the head on -/
theorem sorted_cons {x : PR} {l : List PR} : sorted (x :: l) = true ↔ (∀ y ∈ l, lt y.1 x.1 = false) ∧ sorted l = true := by
  induction l generalizing x with
  | nil => simp [sorted]
  | cons y l ih =>
    rw [sorted, Bool.and_eq_true, Bool.not_eq_true']
    constructor
    · rintro ⟨h1, h2⟩
      refine ⟨?_, h2⟩
      intro z hz
      rcases List.mem_cons.1 hz with rfl | hz
      · exact h1
      · exact le_trans' h1 ((ih.1 h2).1 z hz)
    · rintro ⟨h1, h2⟩
      exact ⟨h1 y (by simp), h2⟩
theorem mem_ins {p z : PR} : ∀ {l : List PR}, z ∈ ins p l ↔ z = p ∨ z ∈ l
  | [] => by simp [ins]
  | x :: l => by
    rw [ins]
    split
    · simp
    · simp [mem_ins (l := l)]
      constructor
      · rintro (h | h | h) <;> simp [h]
      · rintro (h | h | h) <;> simp [h]
theorem ins_sorted (p : PR) : ∀ l : List PR, sorted l = true → sorted (ins p l) = true
  | [], _ => rfl
  | x :: l, h => by
    rw [ins]
    split
    · rename_i hp
      rw [sorted, h, lt_asymm' hp]; rfl
    · rename_i hp
      have hp' : lt p.1 x.1 = false := by simpa using hp
      obtain ⟨h1, h2⟩ := sorted_cons.1 h
      refine sorted_cons.2 ⟨?_, ins_sorted p l h2⟩
      intro z hz
      rcases mem_ins.1 hz with rfl | hz
      · exact hp'
      · exact h1 z hz
theorem srt_sorted (l : List PR) : sorted (srt l) = true := by
  suffices h : ∀ (l o : List PR), sorted o = true → sorted (l.foldl (fun o p => ins p o) o) = true from h l [] rfl
  intro l
  induction l with
  | nil => intro o h; exact h
  | cons p l ih => intro o h; exact ih _ (ins_sorted p o h)
theorem ins_last (p : PR) : ∀ l : List PR, (∀ x ∈ l, lt p.1 x.1 = false) → ins p l = l ++ [p]
  | [], _ => rfl
  | x :: l, h => by
    rw [ins, if_neg (by rw [h x (by simp)]; simp), ins_last p l (fun y hy => h y (by simp [hy]))]; rfl
theorem sorted_snoc {p : PR} : ∀ {l : List PR}, sorted (l ++ [p]) = true → sorted l = true ∧ ∀ x ∈ l, lt p.1 x.1 = false
  | [], _ => by simp [sorted]
  | x :: l, h => by
    rw [List.cons_append, sorted_cons] at h
    obtain ⟨h1, h2⟩ := h
    obtain ⟨h3, h4⟩ := sorted_snoc h2
    refine ⟨sorted_cons.2 ⟨fun y hy => h1 y (by simp [hy]), h3⟩, ?_⟩
    intro y hy
    rcases List.mem_cons.1 hy with rfl | hy
    · exact h1 p (by simp)
    · exact h4 y hy
theorem srt_of_sorted (l : List PR) (h : sorted l = true) : srt l = l := by
  have : ∀ n (l : List PR), l.length = n → sorted l = true → srt l = l := by
    intro n
    induction n with
    | zero => intro l hl _; rw [List.eq_nil_of_length_eq_zero hl]; rfl
    | succ n ih =>
      intro l hl h
      obtain ⟨l', p, rfl⟩ : ∃ b' p, l = b' ++ [p] := ⟨l.dropLast, l.getLast (by intro e; rw [e] at hl; simp at hl), (List.dropLast_concat_getLast _).symm⟩
      obtain ⟨h1, h2⟩ := sorted_snoc h
      rw [srt_snoc, ih l' (by simpa using hl) h1, ins_last p l' h2]
  exact this _ l rfl h
theorem srt_srt (l : List PR) : srt (srt l) = srt l := srt_of_sorted _ (srt_sorted l)
/-- the place at which the reference puts p in -/
theorem ins_at (p : PR) : ∀ (l : List PR) (k : Nat), k ≤ l.length → sorted l = true → (∀ j (h : j < l.length), k ≤ j → lt p.1 l[j].1 = true) → (∀ (h : 0 < k) (h' : k - 1 < l.length), lt p.1 l[k - 1].1 = false) → ins p l = l.take k ++ p :: l.drop k
  | [], k, hk, _, _, _ => by simp [ins]
  | x :: l, 0, _, _, h, _ => by
    have := h 0 (by simp) (Nat.le_refl _)
    rw [ins, if_pos (by simpa using this)]; rfl
  | x :: l, k + 1, hk, hs, h, h' => by
    obtain ⟨h1, h2⟩ := sorted_cons.1 hs
    have hpx : lt p.1 x.1 = false := by
      have hq := h' (by omega) (by simp at hk ⊢; omega)
      cases k with
      | zero => simpa using hq
      | succ k =>
        have hm : ((x :: l)[k + 1 + 1 - 1]'(by simp at hk ⊢; omega)) ∈ l := by simp
        exact le_trans' (h1 _ hm) hq
    rw [ins, if_neg (by rw [hpx]; simp), ins_at p l k (by simpa using hk) h2]
    · rfl
    · intro j hj hkj
      have := h (j + 1) (by simpa using hj) (by omega)
      simpa using this
    · intro hk0 hj
      obtain ⟨m, rfl⟩ : ∃ m, k = m + 1 := ⟨k - 1, by omega⟩
      have := h' (by omega) (by simp at hj ⊢; omega)
      simpa using this
end Go.Proofs.Ytdebgkjekcppmaa
