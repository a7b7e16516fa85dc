/- Plain laws of groups: each is what the row has of its key, in order; the keys rise. -/
import Derived.Test.YtdebgkjekcppmaaQG
namespace Go.Proofs.Ytdebgkjekcppmaa
open Go.RowKit Oct

/-- what a row has of a key -/
def ofKey (k : List UInt8) (l : List PR) : List PR := l.filter fun p => p.1 == k
theorem ofKey_nil (k : List UInt8) : ofKey k [] = [] := rfl
theorem ofKey_app (k : List UInt8) (a b : List PR) : ofKey k (a ++ b) = ofKey k a ++ ofKey k b := by simp [ofKey]
theorem ofKey_none (k : List UInt8) (l : List PR) (h : ∀ p ∈ l, p.1 ≠ k) : ofKey k l = [] := by
  rw [ofKey, List.filter_eq_nil_iff]
  intro p hp
  simpa using h p hp
theorem ofKey_all (k : List UInt8) (l : List PR) (h : ∀ p ∈ l, p.1 = k) : ofKey k l = l := by
  rw [ofKey, List.filter_eq_self]
  intro p hp
  simpa using h p hp
theorem lt_ne {a b : List UInt8} (h : lt a b = true) : a ≠ b := by
  rintro rfl
  rw [lt_irr] at h
  cases h
theorem ofKey_ins (k : List UInt8) (p : PR) : ∀ l : List PR, sorted l = true → ofKey k (ins p l) = ofKey k l ++ ofKey k [p]
  | [], _ => by simp [ins, ofKey]
  | q :: l, hs => by
    obtain ⟨h1, h2⟩ := sorted_cons.1 hs
    unfold ins
    split
    · rename_i hlt
      have e : p :: q :: l = [p] ++ (q :: l) := rfl
      rw [e, ofKey_app]
      by_cases hp : p.1 = k
      · have : ofKey k (q :: l) = [] := by
          refine ofKey_none _ _ fun y hy => ?_
          rcases List.mem_cons.1 hy with rfl | hy
          · exact fun e => lt_ne hlt (hp.trans e.symm)
          · intro e
            have h3 := h1 y hy
            have h4 : lt q.1 p.1 = false := by
              rw [e, ← hp] at h3; exact lt_asymm' hlt
            have h5 : lt y.1 q.1 = true := by rw [e, ← hp]; exact hlt
            rw [h5] at h3
            cases h3
        rw [this, List.append_nil, List.nil_append]
      · have : ofKey k [p] = [] := ofKey_none _ _ fun y hy => by simp at hy; subst hy; exact hp
        rw [this, List.append_nil, List.nil_append]
    · have ih := ofKey_ins k p l h2
      have e1 : q :: ins p l = [q] ++ ins p l := rfl
      have e2 : q :: l = [q] ++ l := rfl
      rw [e1, e2, ofKey_app, ofKey_app, ih, List.append_assoc]
theorem ofKey_srt (k : List UInt8) (l : List PR) : ofKey k (srt l) = ofKey k l := by
  have h : ∀ (l : List PR), ofKey k (srt l.reverse) = ofKey k l.reverse := by
    intro l
    induction l with
    | nil => rfl
    | cons p l ih => rw [List.reverse_cons, srt_snoc, ofKey_ins _ _ _ (srt_sorted _), ih, ofKey_app]
  have := h l.reverse
  rwa [List.reverse_reverse] at this

theorem sorted_drop (l : List PR) (k : Nat) (h : sorted l = true) : sorted (l.drop k) = true := by
  rw [sorted_iff] at h ⊢
  intro j hj
  simp only [List.getElem_drop]
  exact h (k + j) (by simp at hj; omega)
/-- a later pair's key is at least as great -/
theorem sorted_le (l : List PR) (h : sorted l = true) : ∀ (i j : Nat) (hi : i ≤ j) (hj : j < l.length), lt l[j].1 l[i].1 = false := by
  intro i j hi hj
  induction j with
  | zero => obtain rfl : i = 0 := by omega
            exact lt_irr _
  | succ j ih =>
    by_cases he : i = j + 1
    · subst he; exact lt_irr _
    · have h1 := ih (by omega) (by omega)
      have h2 := (sorted_iff l).1 h j hj
      exact le_trans' h1 h2
theorem lt_of_le_ne {a b : List UInt8} (h : lt b a = false) (hne : a ≠ b) : lt a b = true := by
  have := gt_eq b a
  rw [h, Bool.false_or] at this
  have e : (b == a) = false := by simpa using fun e : b = a => hne e.symm
  rw [e] at this
  simpa using this.symm
theorem head1_key (l : List PR) (h : 0 < l.length) : ∀ p ∈ l.take (head1 l), p.1 = l[0].1 := by
  intro p hp
  obtain ⟨k, hk, rfl⟩ := List.getElem_of_mem hp
  rw [List.getElem_take]
  exact head1_in l h k (by simp at hk; omega) (by simp at hk; omega)
theorem drop_key (l : List PR) (h : 0 < l.length) (hs : sorted l = true) : ∀ p ∈ l.drop (head1 l), lt l[0].1 p.1 = true := by
  intro p hp
  obtain ⟨k, hk, rfl⟩ := List.getElem_of_mem hp
  rw [List.getElem_drop]
  have hk' : head1 l + k < l.length := by simp at hk; omega
  have h1 := head1_out l h (by omega)
  have h2 := sorted_le l hs 0 (head1 l) (by omega) (by omega)
  have h3 := sorted_le l hs (head1 l) (head1 l + k) (by omega) hk'
  have h4 : lt l[0].1 l[head1 l].1 = true := lt_of_le_ne h2 (Ne.symm h1)
  by_cases he : l[head1 l + k].1 = l[head1 l].1
  · rw [he]; exact h4
  · exact lt_trans' h4 (lt_of_le_ne h3 (Ne.symm he))
/-- a group's key -/
def hk1 : List PR → List UInt8
  | [] => []
  | p :: _ => p.1
/-- each group is what the row has of its key; the keys rise -/
def GrpOk (G : List (List PR)) (l : List PR) : Prop := (∀ g ∈ G, g = ofKey (hk1 g) l ∧ (∃ p ∈ l, hk1 g = p.1)) ∧ ∀ i (h : i + 1 < G.length), lt (hk1 G[i]) (hk1 G[i + 1]) = true
theorem grp_spec : ∀ (n : Nat) (l : List PR), l.length ≤ n → sorted l = true → GrpOk (grp l) l
  | 0, l, hn, _ => by
    have : l = [] := List.eq_nil_of_length_eq_zero (by omega)
    subst this
    rw [grp_nil]
    exact ⟨by simp, fun i h => by simp at h⟩
  | n + 1, l, hn, hs => by
    by_cases h0 : 0 < l.length
    · have hp := head1_pos l h0
      obtain ⟨ih1, ih2⟩ := grp_spec n (l.drop (head1 l)) (by simp; omega) (sorted_drop l _ hs)
      have hk0 : hk1 (l.take (head1 l)) = l[0].1 := by
        cases l with
        | nil => simp at h0
        | cons p l => obtain ⟨m, hm⟩ : ∃ m, head1 (p :: l) = m + 1 := ⟨head1 (p :: l) - 1, by omega⟩
                      rw [hm]; rfl
      have hsplit : ∀ k, ofKey k l = ofKey k (l.take (head1 l)) ++ ofKey k (l.drop (head1 l)) := fun k => by rw [← ofKey_app, List.take_append_drop]
      have hfirst : ∀ g ∈ grp (l.drop (head1 l)), lt l[0].1 (hk1 g) = true := by
        intro g hg
        obtain ⟨_, p, hp1, hp2⟩ := ih1 g hg
        rw [hp2]
        exact drop_key l h0 hs p hp1
      rw [grp_step l h0]
      refine ⟨fun g hg => ?_, fun i hi => ?_⟩
      · rcases List.mem_cons.1 hg with rfl | hg
        · rw [hk0, hsplit, ofKey_all _ _ (head1_key l h0), ofKey_none _ (l.drop (head1 l)) (fun p hp e => lt_ne (drop_key l h0 hs p hp) e.symm), List.append_nil]
          exact ⟨rfl, l[0], List.getElem_mem h0, rfl⟩
        · obtain ⟨e1, p, hp1, hp2⟩ := ih1 g hg
          refine ⟨?_, p, List.mem_of_mem_drop hp1, hp2⟩
          rw [hsplit, ofKey_none _ (l.take (head1 l)) (fun q hq e => lt_ne (hfirst g hg) (by rw [← e]; exact (head1_key l h0 q hq).symm)), List.nil_append]
          exact e1
      · cases i with
        | zero =>
          simp only [List.getElem_cons_zero, List.getElem_cons_succ, Nat.zero_add]
          rw [hk0]
          exact hfirst _ (List.getElem_mem _)
        | succ i =>
          simp only [List.getElem_cons_succ]
          exact ih2 i (by simpa using hi)
    · have : l = [] := List.eq_nil_of_length_eq_zero (by omega)
      subst this
      rw [grp_nil]
      exact ⟨by simp, fun i h => by simp at h⟩
theorem ofKey_take (k : List UInt8) (l : List PR) (j : Nat) (h : j < l.length) : ofKey k (l.take (j + 1)) = ofKey k (l.take j) ++ (if l[j].1 = k then [l[j]] else []) := by
  rw [List.take_succ_eq_append_getElem h, ofKey_app]
  congr 1
  by_cases hk : l[j].1 = k
  · rw [if_pos hk, ofKey_all]; intro p hp; simp at hp; subst hp; exact hk
  · rw [if_neg hk, ofKey_none]; intro p hp; simp at hp; subst hp; exact hk
theorem ofKey_len (k : List UInt8) (l : List PR) (j : Nat) : (ofKey k (l.take j)).length ≤ (ofKey k l).length := by
  have h : ofKey k l = ofKey k (l.take j) ++ ofKey k (l.drop j) := by rw [← ofKey_app, List.take_append_drop]
  rw [h, List.length_append]; omega
theorem ofKey_at (k : List UInt8) (l : List PR) (j : Nat) (h : j < l.length) (hk : l[j].1 = k) : ∃ hn : (ofKey k (l.take j)).length < (ofKey k l).length, (ofKey k l)[(ofKey k (l.take j)).length] = l[j] := by
  have h1 : ofKey k l = ofKey k (l.take j) ++ (l[j] :: ofKey k (l.drop (j + 1))) := by
    have e : l = l.take j ++ (l[j] :: l.drop (j + 1)) := by rw [← List.drop_eq_getElem_cons h, List.take_append_drop]
    have := congrArg (ofKey k) e
    rw [ofKey_app] at this
    rw [this]
    congr 1
    show ofKey k ([l[j]] ++ l.drop (j + 1)) = _
    rw [ofKey_app, ofKey_all k [l[j]] (by intro p hp; simp at hp; subst hp; exact hk)]; rfl
  refine ⟨by rw [h1]; simp, ?_⟩
  have h2 : ∀ (x y : List PR) (p : PR) (hx : x.length < (x ++ p :: y).length), (x ++ p :: y)[x.length] = p := by
    intro x y p hx; simp
  have h3 : ∀ (a b : List PR) (i : Nat) (ha : i < a.length) (e : a = b), a[i] = b[i]'(e ▸ ha) := by rintro a b i ha rfl; rfl
  rw [h3 _ _ _ _ h1]
  exact h2 _ _ _ _
end Go.Proofs.Ytdebgkjekcppmaa
