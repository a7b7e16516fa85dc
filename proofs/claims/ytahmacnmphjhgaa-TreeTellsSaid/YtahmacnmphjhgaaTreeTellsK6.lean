/- Lemmas for TreeTells, part 6: walks of the functions that it reaches, and the plain laws behind them. -/
import Derived.Lib.MinMaxS
import Derived.Maps.RangeWalk
import Derived.Deep.DeepCutAuto
import Derived.OwnWalkIn
import Derived.TacticsInMore
import Derived.LoopNIn
import Derived.LoopIn
import Derived.Test.YtahmacnmphjhgaaTreeTellsK5
set_option linter.unusedSimpArgs false
set_option linter.unusedVariables false
namespace Go.Proofs.Ytahmacnmphjhgaa
open Oct

/-- spans that lie one behind the other, from a to b -/
def Tiles : Nat → Nat → List (Nat × Nat) → Prop
  | a, b, [] => a = b
  | a, b, g :: gs => g.1 = a ∧ g.1 < g.2 ∧ Tiles g.2 b gs
theorem Tiles.le : ∀ {gs : List (Nat × Nat)} {a b : Nat}, Tiles a b gs → a ≤ b
  | [], a, b, h => by have : a = b := h; omega
  | g :: gs, a, b, ⟨h1, h2, h3⟩ => by have := h3.le; omega
theorem Tiles.mem : ∀ {gs : List (Nat × Nat)} {a b : Nat}, Tiles a b gs → ∀ g ∈ gs, a ≤ g.1 ∧ g.1 < g.2 ∧ g.2 ≤ b
  | [], _, _, _, g, h => absurd h (by simp)
  | x :: gs, a, b, ⟨h1, h2, h3⟩, g, h => by
    rcases List.mem_cons.1 h with rfl | h
    · have := h3.le; omega
    · have := h3.mem g h; omega
theorem spansF_tiles (l : List (List UInt8)) : ∀ (n f k : Nat), n = l.length - k → f ≤ k → k ≤ l.length → (k = l.length → f = k) → Tiles f l.length (spansF l n f k)
  | 0, f, k, hn, hf, hk, he => by have := he (by omega); show f = l.length; omega
  | n + 1, f, k, hn, hf, hk, he => by
    rw [spansF, if_pos (by omega)]
    split
    · exact ⟨rfl, by show f < k + 1; omega, spansF_tiles l n (k + 1) (k + 1) (by omega) (Nat.le_refl _) (by omega) (fun _ => rfl)⟩
    · rename_i hc
      refine spansF_tiles l n f (k + 1) (by omega) (by omega) (by omega) (fun e => ?_)
      exact absurd (by simp [cutAt, e]) hc
theorem groups23_tiles (l : List (List UInt8)) : Tiles 0 l.length (groups23 l) := spansF_tiles l _ 0 0 rfl (Nat.le_refl _) (Nat.zero_le _) (fun _ => rfl)
theorem spansF_size (l : List (List UInt8)) : ∀ (n f k : Nat), k - f ≤ 7 → f ≤ k → ∀ g ∈ spansF l n f k, g.2 - g.1 ≤ 8 ∧ (2 ≤ g.2 - g.1 ∨ g.2 = l.length)
  | 0, _, _, _, _, g, h => absurd h (by simp [spansF])
  | n + 1, f, k, h7, hf, g, h => by
    rw [spansF] at h
    split at h
    · split at h
      · rename_i hc
        rcases List.mem_cons.1 h with rfl | h
        · refine ⟨by simp; omega, ?_⟩
          simp only [cutAt, Bool.or_eq_true, Bool.and_eq_true, decide_eq_true_eq] at hc
          simp only
          omega
        · exact spansF_size l n (k + 1) (k + 1) (by omega) (Nat.le_refl _) g h
      · rename_i hc
        refine spansF_size l n f (k + 1) ?_ (by omega) g h
        simp only [cutAt, Bool.or_eq_true, Bool.and_eq_true, decide_eq_true_eq, not_or] at hc
        omega
    · simp at h
theorem groups23_size (l : List (List UInt8)) : ∀ g ∈ groups23 l, g.2 - g.1 ≤ 8 ∧ (2 ≤ g.2 - g.1 ∨ g.2 = l.length) := spansF_size l _ 0 0 (by omega) (Nat.le_refl _)
theorem tiles_count {n : Nat} : ∀ {gs : List (Nat × Nat)} {a : Nat}, Tiles a n gs → (∀ g ∈ gs, 2 ≤ g.2 - g.1 ∨ g.2 = n) → 2 * gs.length ≤ n - a + 1
  | [], _, _, _ => by simp
  | g :: gs, a, ⟨h1, h2, h3⟩, h => by
    have hle := h3.le
    have hr := tiles_count h3 (fun x hx => h x (by simp [hx]))
    have := h g (by simp)
    simp only [List.length_cons]
    by_cases e : g.2 = n
    · cases gs with
      | nil => simp; omega
      | cons x xs =>
        obtain ⟨k1, k2, k3⟩ := h3
        have := k3.le
        omega
    · omega
theorem groups23_count (l : List (List UInt8)) : 2 * (groups23 l).length ≤ l.length + 1 := tiles_count (groups23_tiles l) (fun g hg => (groups23_size l g hg).2)

/-- the identities of a level -/
def idsOf (nodes : List Nd) (level : List Int) : List (List UInt8) := level.map fun k => (nodes.getD k.toNat ([], [])).1
/-- one group of a level -/
def stepB (ids : List (List UInt8)) (level : List Int) (x : List Nd × List Int) (g : Nat × Nat) : List Nd × List Int :=
  if g.2 - g.1 = 1 then (x.1, x.2 ++ [level.getD g.1 0])
  else (x.1 ++ [(joinF ((ids.drop g.1).take (g.2 - g.1)), (level.drop g.1).take (g.2 - g.1))], x.2 ++ [(x.1.length : Int)])
def lvl (nodes : List Nd) (level : List Int) : List Nd × List Int := (groups23 (idsOf nodes level)).foldl (stepB (idsOf nodes level) level) (nodes, [])
def levels : Nat → List Nd → List Int → List Nd
  | 0, nodes, _ => nodes
  | n + 1, nodes, level => if 1 < level.length then levels n (lvl nodes level).1 (lvl nodes level).2 else nodes
def leaves (l : List (List UInt8)) : List Nd := l.map fun s => (s, [])
def rangeI (n : Nat) : List Int := (List.range n).map Int.ofNat
def buildF (l : List (List UInt8)) : List Nd := levels l.length (leaves l) (rangeI l.length)

/-- a level of a tree that is being built -/
structure OkL (nodes : List Nd) (level : List Int) : Prop where
  ids : ∀ x ∈ nodes, x.1.length = 32
  lev : ∀ k ∈ level, 0 ≤ k ∧ k < (nodes.length : Int)
theorem idsOf_length (nodes : List Nd) (level : List Int) : (idsOf nodes level).length = level.length := by simp [idsOf]
theorem OkL.all {nodes : List Nd} {level : List Int} (h : OkL nodes level) : allIds (idsOf nodes level) = true := by
  refine allIds_true fun k hk => ?_
  simp only [idsOf, List.length_map] at hk
  have h1 := h.lev level[k] (List.getElem_mem hk)
  have h2 : level[k].toNat < nodes.length := by omega
  simp only [idsOf, List.getElem_map, isId, List.getD, List.getElem?_eq_getElem h2, Option.getD_some, beq_iff_eq]
  exact h.ids _ (List.getElem_mem h2)
theorem OkL.start (l : List (List UInt8)) (h : allIds l = true) : OkL (leaves l) (rangeI l.length) := by
  refine ⟨fun x hx => ?_, fun k hk => ?_⟩
  · simp only [leaves, List.mem_map] at hx
    obtain ⟨s, hs, rfl⟩ := hx
    have := List.all_eq_true.1 h s hs
    simpa [isId] using this
  · simp only [rangeI, List.mem_map, List.mem_range] at hk
    obtain ⟨j, hj, rfl⟩ := hk
    simp [leaves]
    omega
/-- what a fold over some first groups has -/
structure OkS (nodes : List Nd) (level : List Int) (gs : List (Nat × Nat)) (a : Nat) (x : List Nd × List Int) : Prop where
  ids : ∀ y ∈ x.1, y.1.length = 32
  lev : ∀ k ∈ x.2, 0 ≤ k ∧ k < (x.1.length : Int)
  len : x.2.length = gs.length
  sum : x.1.length + x.2.length ≤ nodes.length + a
  ge : nodes.length ≤ x.1.length
  pre : nodes <+: x.1
theorem stepB_ok {nodes : List Nd} {level : List Int} {ids : List (List UInt8)} {gs : List (Nat × Nat)} {x : List Nd × List Int} {a b : Nat} (hl : ∀ k ∈ level, 0 ≤ k ∧ k < (nodes.length : Int)) (h : OkS nodes level gs a x) (hab : a < b) (hb : b ≤ level.length) :
    OkS nodes level (gs ++ [(a, b)]) b (stepB ids level x (a, b)) := by
  obtain ⟨h1, h2, h3, h4, h5, h6⟩ := h
  unfold stepB
  simp only
  split
  · refine ⟨h1, fun k hk => ?_, by simp [h3], by simp; omega, h5, h6⟩
    rcases List.mem_append.1 hk with hk | hk
    · exact h2 k hk
    · have ha : a < level.length := by omega
      have e : k = level[a] := by simpa [List.getD, List.getElem?_eq_getElem ha] using hk
      have := hl level[a] (List.getElem_mem ha)
      show 0 ≤ k ∧ k < (x.1.length : Int)
      omega
  · refine ⟨fun y hy => ?_, fun k hk => ?_, by simp [h3], by simp; omega, by simp; omega, h6.trans (List.prefix_append _ _)⟩
    · rcases List.mem_append.1 hy with hy | hy
      · exact h1 y hy
      · obtain rfl := List.mem_singleton.1 hy
        exact joinF_length _
    · rcases List.mem_append.1 hk with hk | hk
      · have := h2 k hk; simp; omega
      · obtain rfl := List.mem_singleton.1 hk
        simp; omega
theorem Tiles.split : ∀ {pre gs : List (Nat × Nat)} {a b : Nat}, Tiles a b (pre ++ gs) → ∃ c, Tiles a c pre ∧ Tiles c b gs
  | [], gs, a, b, h => ⟨a, rfl, h⟩
  | g :: pre, gs, a, b, ⟨h1, h2, h3⟩ => by
    obtain ⟨c, k1, k2⟩ := h3.split
    exact ⟨c, ⟨h1, h2, k1⟩, k2⟩
theorem fold_ok' {nodes : List Nd} {level : List Int} {ids : List (List UInt8)} (hl : ∀ k ∈ level, 0 ≤ k ∧ k < (nodes.length : Int)) : ∀ (gs : List (Nat × Nat)) (a b : Nat) (pre : List (Nat × Nat)) (x : List Nd × List Int), Tiles a b gs → b ≤ level.length → OkS nodes level pre a x →
    OkS nodes level (pre ++ gs) b (gs.foldl (stepB ids level) x)
  | [], a, b, pre, x, ht, _, h => by
    have e : a = b := ht
    subst e
    simpa using h
  | g :: gs, a, b, pre, x, ⟨h1, h2, h3⟩, hb, h => by
    obtain ⟨g1, g2⟩ := g
    obtain rfl : g1 = a := h1
    have := fold_ok' (ids := ids) hl gs g2 b (pre ++ [(g1, g2)]) (stepB ids level x (g1, g2)) h3 hb (stepB_ok hl h h2 (Nat.le_trans h3.le hb))
    simpa using this
theorem OkS.nil {nodes : List Nd} {level : List Int} (h : OkL nodes level) : OkS nodes level [] 0 (nodes, []) := ⟨h.ids, fun k hk => absurd hk (by simp), rfl, by simp, Nat.le_refl _, List.prefix_refl _⟩
/-- some first groups: where they end, and what the fold has there -/
theorem fold_pre {nodes : List Nd} {level : List Int} (h : OkL nodes level) {pre : List (Nat × Nat)} {f t : Nat} (hp : pre ++ [(f, t)] <+: groups23 (idsOf nodes level)) :
    f < t ∧ t ≤ level.length ∧ OkS nodes level pre f (pre.foldl (stepB (idsOf nodes level) level) (nodes, [])) := by
  obtain ⟨r, hr⟩ := hp
  have ht := groups23_tiles (idsOf nodes level)
  rw [← hr, idsOf_length, List.append_assoc] at ht
  obtain ⟨c, h1, h2⟩ := ht.split
  obtain ⟨k1, k2, k3⟩ := h2
  obtain rfl : f = c := k1
  have := k3.le
  exact ⟨k2, this, by simpa using fold_ok' (ids := idsOf nodes level) h.lev pre 0 f [] (nodes, []) h1 (by have : f < t := k2; omega) (OkS.nil h)⟩
theorem lvl_ok {nodes : List Nd} {level : List Int} (h : OkL nodes level) : OkS nodes level (groups23 (idsOf nodes level)) level.length (lvl nodes level) := by
  have ht := groups23_tiles (idsOf nodes level)
  rw [idsOf_length] at ht
  have := fold_ok' (ids := idsOf nodes level) h.lev (groups23 (idsOf nodes level)) 0 level.length [] (nodes, []) ht (Nat.le_refl _) (OkS.nil h)
  rw [List.nil_append] at this
  exact this
theorem lvl_less {nodes : List Nd} {level : List Int} (h : OkL nodes level) (h1 : 1 < level.length) : (lvl nodes level).2.length < level.length := by
  have h2 := (lvl_ok h).len
  have h3 := groups23_count (idsOf nodes level)
  rw [idsOf_length] at h3
  omega
theorem levels_on {n : Nat} {nodes : List Nd} {level : List Int} (h1 : 1 < level.length) (hn : level.length ≤ n) : levels n nodes level = levels (n - 1) (lvl nodes level).1 (lvl nodes level).2 := by
  obtain ⟨m, rfl⟩ : ∃ m, n = m + 1 := ⟨n - 1, by omega⟩
  rw [levels, if_pos h1]; rfl
theorem levels_end {n : Nat} {nodes : List Nd} {level : List Int} (h1 : ¬ 1 < level.length) : levels n nodes level = nodes := by
  cases n with
  | zero => rfl
  | succ n => rw [levels, if_neg h1]
end Go.Proofs.Ytahmacnmphjhgaa
namespace Go.Proofs.Ytahmacnmphjhgaa
open Go.RowKit Oct

/-- does one text stand ahead of another one? -/
def lt (a b : List UInt8) : Bool := Op.bytesLess a b
/-- is a row sorted? -/
def sorted : List PR → Bool
  | [] => true
  | [_] => true
  | p :: q :: l => !lt q.1 p.1 && sorted (q :: l)
theorem sorted_iff (l : List PR) : sorted l = true ↔ ∀ k (h : k + 1 < l.length), lt l[k + 1].1 l[k].1 = false := by
  match l with
  | [] => simp [sorted]
  | [_] => simp [sorted]
  | p :: q :: l =>
    have ih := sorted_iff (q :: l)
    simp only [sorted, Bool.and_eq_true, Bool.not_eq_true', ih]
    constructor
    · rintro ⟨h1, h2⟩ k hk
      cases k with
      | zero => exact h1
      | succ k => exact h2 k (by simpa using hk)
    · intro h
      exact ⟨h 0 (by simp), fun k hk => h (k + 1) (by simpa using hk)⟩

/-- what Check gives -/
def chk (l : List PR) : Int := if sorted l then 0 else 2
theorem sorted_false (l : List PR) (k : Nat) (h : k + 1 < l.length) (hlt : lt l[k + 1].1 l[k].1 = true) : sorted l = false := by
  cases hs : sorted l
  · rfl
  · rw [(sorted_iff l).1 hs k h] at hlt; simp at hlt
theorem sorted_true (l : List PR) (k : Nat) (hk : l.length ≤ k + 1) (h : ∀ j (h : j + 1 < l.length), j < k → lt l[j + 1].1 l[j].1 = false) : sorted l = true :=
  (sorted_iff l).2 fun j hj => h j hj (by omega)

end Go.Proofs.Ytahmacnmphjhgaa
namespace Go.Proofs.Ytahmacnmphjhgaa
open Go.RowKit Oct

theorem pr_ne_of {a b : List PR} (k : Nat) (h : k < a.length) (h' : k < b.length) (hne : a[k] ≠ b[k]) : a ≠ b := by
  rintro rfl; exact hne rfl
theorem pr_eq (p q : PR) : (p.1 == q.1 && p.2 == q.2) = decide (p = q) := by
  rw [Bool.eq_iff_iff]; simp [Prod.ext_iff]

end Go.Proofs.Ytahmacnmphjhgaa
namespace Go.Proofs.Ytahmacnmphjhgaa
open Go.RowKit Oct

theorem lt_iff (a b : List UInt8) : lt a b = true ↔ a < b := by simp [lt, Proofs.bytesLess_eq]
theorem lt_trans' {a b c : List UInt8} (h1 : lt a b = true) (h2 : lt b c = true) : lt a c = true := by
  rw [lt_iff] at *; exact List.lt_trans h1 h2
theorem lt_irr (a : List UInt8) : lt a a = false := by
  cases h : lt a a
  · rfl
  · rw [lt_iff] at h; exact absurd h (List.lt_irrefl a)
theorem le_trans' {a b c : List UInt8} (h1 : lt b a = false) (h2 : lt c b = false) : lt c a = false := by
  have h1' : ¬ b < a := by rw [← lt_iff, h1]; simp
  have h2' : ¬ c < b := by rw [← lt_iff, h2]; simp
  cases h : lt c a
  · rfl
  · rw [lt_iff] at h
    exact absurd (List.lt_of_le_of_lt (List.not_lt.1 h2') h) h1'
theorem lt_asymm' {a b : List UInt8} (h : lt a b = true) : lt b a = false := by
  cases h2 : lt b a
  · rfl
  · rw [← lt_irr a, lt_trans' h h2]
theorem gt_eq (a b : List UInt8) : (!(lt a b || a == b)) = lt b a := by
  cases h1 : lt a b
  · cases h2 : a == b
    · have n1 : ¬ a < b := by rw [← lt_iff, h1]; simp
      have n2 : a ≠ b := by intro e; simp [e] at h2
      cases h3 : lt b a
      · have n3 : ¬ b < a := by rw [← lt_iff, h3]; simp
        exact absurd (List.le_antisymm (List.not_lt.1 n3) (List.not_lt.1 n1)) n2
      · rfl
    · have e : a = b := by simpa using h2
      rw [e, lt_irr]; rfl
  · rw [lt_asymm' h1]; rfl
/-- two rows, merged -/
def mrg : List PR → List PR → List PR
  | [], b => b
  | a, [] => a
  | x :: a, y :: b => if lt y.1 x.1 then y :: mrg (x :: a) b else x :: mrg a (y :: b)
termination_by a b => a.length + b.length
theorem mrg_nil_l (b : List PR) : mrg [] b = b := by rw [mrg]
theorem mrg_nil_r (a : List PR) : mrg a [] = a := by cases a <;> simp [mrg]
theorem mrg_cons (x y : PR) (a b : List PR) : mrg (x :: a) (y :: b) = if lt y.1 x.1 then y :: mrg (x :: a) b else x :: mrg a (y :: b) := by rw [mrg]
theorem mrg_length : ∀ a b : List PR, (mrg a b).length = a.length + b.length := by
  intro a b
  induction a, b using mrg.induct with
  | case1 b => simp [mrg_nil_l]
  | case2 a h => simp [mrg_nil_r]
  | case3 x a y b h ih => rw [mrg_cons, if_pos h, List.length_cons, ih]; simp; omega
  | case4 x a y b h ih => rw [mrg_cons, if_neg h, List.length_cons, ih]; simp; omega


/-- p, put in behind what is not above it -/
def ins (p : PR) : List PR → List PR
  | [] => [p]
  | x :: l => if lt p.1 x.1 then p :: x :: l else x :: ins p l
/-- a row, sorted -/
def srt (l : List PR) : List PR := l.foldl (fun o p => ins p o) []
theorem srt_snoc (l : List PR) (p : PR) : srt (l ++ [p]) = ins p (srt l) := by simp [srt]
theorem ins_length (p : PR) : ∀ l : List PR, (ins p l).length = l.length + 1
  | [] => rfl
  | x :: l => by rw [ins]; split <;> simp [ins_length p l]
theorem srt_length (l : List PR) : (srt l).length = l.length := by
  suffices h : ∀ (l o : List PR), (l.foldl (fun o p => ins p o) o).length = o.length + l.length by simpa [srt] using h l []
  intro l
  induction l with
  | nil => simp
  | cons p l ih => intro o; simp [ih, ins_length]; omega
theorem mrg_ins (p : PR) : ∀ a b : List PR, mrg a (ins p b) = ins p (mrg a b) := by
  intro a b
  induction a, b using mrg.induct with
  | case1 b => simp [mrg_nil_l]
  | case2 a h =>
    rw [mrg_nil_r]
    clear h
    induction a with
    | nil => simp [mrg_nil_l, ins]
    | cons x a ih =>
      rw [ins, ins, mrg_cons]
      split
      · rw [mrg_nil_r]
      · have : mrg a [p] = mrg a (ins p []) := rfl
        rw [this, ih]
  | case3 x a y b h ih =>
    cases hp : lt p.1 y.1
    · rw [ins, if_neg (by rw [hp]; simp), mrg_cons, if_pos h, ih, mrg_cons, if_pos h, ins, if_neg (by rw [hp]; simp)]
    · rw [ins, if_pos hp, mrg_cons, if_pos (lt_trans' hp h), mrg_cons, if_pos h, ins, if_pos hp]
  | case4 x a y b h ih =>
    have h' : lt y.1 x.1 = false := by simpa using h
    cases hp : lt p.1 y.1
    · have hx : lt p.1 x.1 = false := le_trans' h' hp
      rw [ins, if_neg (by rw [hp]; simp)] at ih ⊢
      rw [mrg_cons, if_neg h, ih, mrg_cons, if_neg h, ins, if_neg (by rw [hx]; simp)]
    · rw [ins, if_pos hp] at ih ⊢
      rw [mrg_cons x y, if_neg h, ins, mrg_cons]
      split
      · rw [mrg_cons, if_neg h]
      · rw [ih]
theorem mrg_srt (a b : List PR) : mrg (srt a) (srt b) = srt (a ++ b) := by
  have : ∀ n (b : List PR), b.length = n → mrg (srt a) (srt b) = srt (a ++ b) := by
    intro n
    induction n with
    | zero => intro b hb; rw [List.eq_nil_of_length_eq_zero hb]; simp [srt, mrg_nil_r]
    | succ n ih =>
      intro b hb
      obtain ⟨b', p, rfl⟩ : ∃ b' p, b = b' ++ [p] := ⟨b.dropLast, b.getLast (by intro e; rw [e] at hb; simp at hb), (List.dropLast_concat_getLast _).symm⟩
      rw [srt_snoc, mrg_ins, ih b' (by simpa using hb), ← List.append_assoc, srt_snoc]
  exact this _ b rfl
theorem srt_two (p q : PR) : srt [p, q] = if lt q.1 p.1 then [q, p] else [p, q] := by simp [srt, ins]
theorem srt_one (p : PR) : srt [p] = [p] := rfl
theorem srt_nil : srt [] = [] := rfl
/-- sorted, from the head on -/
theorem sorted_cons {x : PR} {l : List PR} : sorted (x :: l) = true ↔ (∀ y ∈ l, lt y.1 x.1 = false) ∧ sorted l = true := by
  induction l generalizing x with
  | nil => simp [sorted]
  | cons y l ih =>
    rw [sorted, Bool.and_eq_true, Bool.not_eq_true']
    constructor
    · rintro ⟨h1, h2⟩
      refine ⟨?_, h2⟩
      intro z hz
      rcases List.mem_cons.1 hz with rfl | hz
      · exact h1
      · exact le_trans' h1 ((ih.1 h2).1 z hz)
    · rintro ⟨h1, h2⟩
      exact ⟨h1 y (by simp), h2⟩
theorem mem_ins {p z : PR} : ∀ {l : List PR}, z ∈ ins p l ↔ z = p ∨ z ∈ l
  | [] => by simp [ins]
  | x :: l => by
    rw [ins]
    split
    · simp
    · simp [mem_ins (l := l)]
      constructor
      · rintro (h | h | h) <;> simp [h]
      · rintro (h | h | h) <;> simp [h]
theorem ins_sorted (p : PR) : ∀ l : List PR, sorted l = true → sorted (ins p l) = true
  | [], _ => rfl
  | x :: l, h => by
    rw [ins]
    split
    · rename_i hp
      rw [sorted, h, lt_asymm' hp]; rfl
    · rename_i hp
      have hp' : lt p.1 x.1 = false := by simpa using hp
      obtain ⟨h1, h2⟩ := sorted_cons.1 h
      refine sorted_cons.2 ⟨?_, ins_sorted p l h2⟩
      intro z hz
      rcases mem_ins.1 hz with rfl | hz
      · exact hp'
      · exact h1 z hz
theorem srt_sorted (l : List PR) : sorted (srt l) = true := by
  suffices h : ∀ (l o : List PR), sorted o = true → sorted (l.foldl (fun o p => ins p o) o) = true from h l [] rfl
  intro l
  induction l with
  | nil => intro o h; exact h
  | cons p l ih => intro o h; exact ih _ (ins_sorted p o h)
theorem ins_last (p : PR) : ∀ l : List PR, (∀ x ∈ l, lt p.1 x.1 = false) → ins p l = l ++ [p]
  | [], _ => rfl
  | x :: l, h => by
    rw [ins, if_neg (by rw [h x (by simp)]; simp), ins_last p l (fun y hy => h y (by simp [hy]))]; rfl
theorem sorted_snoc {p : PR} : ∀ {l : List PR}, sorted (l ++ [p]) = true → sorted l = true ∧ ∀ x ∈ l, lt p.1 x.1 = false
  | [], _ => by simp [sorted]
  | x :: l, h => by
    rw [List.cons_append, sorted_cons] at h
    obtain ⟨h1, h2⟩ := h
    obtain ⟨h3, h4⟩ := sorted_snoc h2
    refine ⟨sorted_cons.2 ⟨fun y hy => h1 y (by simp [hy]), h3⟩, ?_⟩
    intro y hy
    rcases List.mem_cons.1 hy with rfl | hy
    · exact h1 p (by simp)
    · exact h4 y hy
theorem srt_of_sorted (l : List PR) (h : sorted l = true) : srt l = l := by
  have : ∀ n (l : List PR), l.length = n → sorted l = true → srt l = l := by
    intro n
    induction n with
    | zero => intro l hl _; rw [List.eq_nil_of_length_eq_zero hl]; rfl
    | succ n ih =>
      intro l hl h
      obtain ⟨l', p, rfl⟩ : ∃ b' p, l = b' ++ [p] := ⟨l.dropLast, l.getLast (by intro e; rw [e] at hl; simp at hl), (List.dropLast_concat_getLast _).symm⟩
      obtain ⟨h1, h2⟩ := sorted_snoc h
      rw [srt_snoc, ih l' (by simpa using hl) h1, ins_last p l' h2]
  exact this _ l rfl h
theorem srt_srt (l : List PR) : srt (srt l) = srt l := srt_of_sorted _ (srt_sorted l)
/-- the place at which the reference puts p in -/
theorem ins_at (p : PR) : ∀ (l : List PR) (k : Nat), k ≤ l.length → sorted l = true → (∀ j (h : j < l.length), k ≤ j → lt p.1 l[j].1 = true) → (∀ (h : 0 < k) (h' : k - 1 < l.length), lt p.1 l[k - 1].1 = false) → ins p l = l.take k ++ p :: l.drop k
  | [], k, hk, _, _, _ => by simp [ins]
  | x :: l, 0, _, _, h, _ => by
    have := h 0 (by simp) (Nat.le_refl _)
    rw [ins, if_pos (by simpa using this)]; rfl
  | x :: l, k + 1, hk, hs, h, h' => by
    obtain ⟨h1, h2⟩ := sorted_cons.1 hs
    have hpx : lt p.1 x.1 = false := by
      have hq := h' (by omega) (by simp at hk ⊢; omega)
      cases k with
      | zero => simpa using hq
      | succ k =>
        have hm : ((x :: l)[k + 1 + 1 - 1]'(by simp at hk ⊢; omega)) ∈ l := by simp
        exact le_trans' (h1 _ hm) hq
    rw [ins, if_neg (by rw [hpx]; simp), ins_at p l k (by simpa using hk) h2]
    · rfl
    · intro j hj hkj
      have := h (j + 1) (by simpa using hj) (by omega)
      simpa using this
    · intro hk0 hj
      obtain ⟨m, rfl⟩ : ∃ m, k = m + 1 := ⟨k - 1, by omega⟩
      have := h' (by omega) (by simp at hj ⊢; omega)
      simpa using this
end Go.Proofs.Ytahmacnmphjhgaa
namespace Go.Proofs.Ytahmacnmphjhgaa
open Go.RowKit Oct

theorem b_drew' (w : World) (b : Nat) : Below b w w.drew := (Below.refl _ _).drew
theorem OP.empty (w : World) : OP (w.alloc (.cells #[] 71)) w.heap.size (.slice (some ⟨w.heap.size, 0, none⟩) 0 0) [] :=
  ⟨rfl, .inr ⟨w.heap.size, 0, #[], rfl, Nat.le_refl _, by show (w.heap.push _)[w.heap.size]? = _; simp, Nat.le_refl _, by decide, rfl, rfl⟩⟩

/-- a slice's length -/
def slen : Value → Nat
  | .slice _ n _ => n
  | _ => 0
/-- make([]Pair, 0, n) -/
theorem makeP (w : World) (n : Nat) (hb : 32 * n ≤ 281474976710656) : ∃ w', (Instr.makeSlice 22 (.int .i64 0) (.int .i64 (n : Int))).run Try.prog w = .ok (.slice (some ⟨w.heap.size, 0, none⟩) 0 n) w' ∧
    OP w' w.heap.size (.slice (some ⟨w.heap.size, 0, none⟩) 0 n) [] ∧ Below w.heap.size w w' := by
  obtain ⟨i, hi, hz, hi1, hi2⟩ := info_parts infoPair
  obtain ⟨w', h1, h2, h3⟩ := run_make_own (P := Try.prog) w w.heap.size 22 71 i _ 2 Try.underlying22 hi hz hi1 .i64 .i64 n (by rw [hi2]; exact hb) (by unfold maxLen; omega) (Nat.le_refl _)
  exact ⟨w', h1, h2, (Below.refl _ _).grown h3 (Nat.le_refl _) (by simp)⟩

end Go.Proofs.Ytahmacnmphjhgaa
namespace Go.Proofs.Ytahmacnmphjhgaa
open Go.RowKit Oct

theorem OP.mono {w : World} {base base' : Nat} {v : Value} {l : List PR} (h : OP w base v l) (hb : base' ≤ base) : OP w base' v l := owns_mono h hb

theorem owns_two {w : World} {base : Nat} {v : Value} {p q : PR} (h : OP w base v [p, q]) : ∃ g cap, v = .slice (some ⟨g, 0, none⟩) 2 cap ∧ base ≤ g := by
  rcases h.2 with ⟨_, h0⟩ | ⟨g', cap', cur, hv, hg, _⟩
  · simp at h0
  · exact ⟨g', cap', hv, hg⟩
theorem owns_cells2 {w : World} {base g cap : Nat} {p q : PR} (h : OP w base (.slice (some ⟨g, 0, none⟩) 2 cap) [p, q]) :
    w.cell? ⟨g, 0, none⟩ = some (.string (bs p.1)) ∧ w.cell? ⟨g, 1, none⟩ = some (.string (bs p.2)) ∧ w.cell? ⟨g, 2, none⟩ = some (.string (bs q.1)) ∧ w.cell? ⟨g, 3, none⟩ = some (.string (bs q.2)) ∧
    w.frozen? ⟨g, 0, none⟩ = false ∧ w.frozen? ⟨g, 1, none⟩ = false ∧ w.frozen? ⟨g, 2, none⟩ = false ∧ w.frozen? ⟨g, 3, none⟩ = false := by
  have hc := World.ownsRow.cells (g := g) h rfl
  have hf : ∀ j, w.frozen? ⟨g, j, none⟩ = false := by
    rcases h.2 with ⟨hv, _⟩ | ⟨g', cap', cur, hv, _, hh, _⟩
    · simp at hv
    · simp only [Value.slice.injEq, Option.some.injEq, Addr.mk.injEq, and_true, true_and] at hv
      obtain ⟨rfl, _, rfl⟩ := hv
      intro j
      simp [World.frozen?, hh]
  refine ⟨?_, ?_, ?_, ?_, hf _, hf _, hf _, hf _⟩
  · have := hc 0 _ rfl; rwa [Addr.add_lit] at this
  · have := hc 1 _ rfl; rwa [Addr.add_lit] at this
  · have := hc 2 _ rfl; rwa [Addr.add_lit] at this
  · have := hc 3 _ rfl; rwa [Addr.add_lit] at this

theorem owns_swap {w : World} {base g cap : Nat} {p q : PR} (h : OP w base (.slice (some ⟨g, 0, none⟩) 2 cap) [p, q]) (hb : base ≤ g) (hs : base ≤ w.heap.size) :
    OP ((((w.setCell ⟨g, 0, none⟩ (.string (bs q.1))).setCell ⟨g, 1, none⟩ (.string (bs q.2))).setCell ⟨g, 2, none⟩ (.string (bs p.1))).setCell ⟨g, 3, none⟩ (.string (bs p.2))).drew base (.slice (some ⟨g, 0, none⟩) 2 cap) [q, p] ∧
    Below base w ((((w.setCell ⟨g, 0, none⟩ (.string (bs q.1))).setCell ⟨g, 1, none⟩ (.string (bs q.2))).setCell ⟨g, 2, none⟩ (.string (bs p.1))).setCell ⟨g, 3, none⟩ (.string (bs p.2))).drew := by
  have h1 := (World.ownsRow.stored h 0 (.string (bs q.1))).1
  have h2 := (World.ownsRow.stored h1 1 (.string (bs q.2))).1
  have h3 := (World.ownsRow.stored h2 2 (.string (bs p.1))).1
  have h4 := (World.ownsRow.stored h3 3 (.string (bs p.2))).1
  exact ⟨World.ownsRow.drew h4, (((((Below.refl base w).setCell hb _).setCell hb _).setCell hb _).setCell hb _).drew⟩

end Go.Proofs.Ytahmacnmphjhgaa
namespace Go.Proofs.Ytahmacnmphjhgaa
open Go.RowKit Oct

/-- how many pairs at the head have this key -/
def run1 (k : List UInt8) : List PR → Nat
  | [] => 0
  | p :: l => if p.1 = k then run1 k l + 1 else 0
theorem run1_le (k : List UInt8) : ∀ l, run1 k l ≤ l.length
  | [] => Nat.le_refl _
  | p :: l => by have := run1_le k l; unfold run1; split <;> simp; omega
/-- the first group's length -/
def head1 : List PR → Nat
  | [] => 0
  | p :: l => run1 p.1 l + 1
theorem head1_pos (l : List PR) (h : 0 < l.length) : 1 ≤ head1 l ∧ head1 l ≤ l.length := by
  cases l with
  | nil => simp at h
  | cons p l => have := run1_le p.1 l; simp only [head1, List.length_cons]; omega
theorem head1_in (l : List PR) (h : 0 < l.length) (k : Nat) (hk : k < head1 l) (hl : k < l.length) : l[k].1 = l[0].1 := by
  cases l with
  | nil => simp at h
  | cons p l =>
    have key : ∀ (l : List PR) (k : Nat) (hl : k < l.length), k < run1 p.1 l → l[k].1 = p.1 := by
      intro l
      induction l with
      | nil => intro k hl; simp at hl
      | cons q l ih =>
        intro k hl hk
        unfold run1 at hk
        split at hk
        · cases k with
          | zero => assumption
          | succ k => exact ih k (by simpa using hl) (by omega)
        · omega
    cases k with
    | zero => rfl
    | succ k => exact key l k (by simpa using hl) (by simpa [head1] using hk)
theorem head1_out (l : List PR) (h : 0 < l.length) (hl : head1 l < l.length) : l[head1 l].1 ≠ l[0].1 := by
  cases l with
  | nil => simp at h
  | cons p l =>
    have key : ∀ (l : List PR) (hl : run1 p.1 l < l.length), l[run1 p.1 l].1 ≠ p.1 := by
      intro l
      induction l with
      | nil => intro hl; simp at hl
      | cons q l ih =>
        intro hl
        by_cases hq : q.1 = p.1
        · have e : run1 p.1 (q :: l) = run1 p.1 l + 1 := if_pos hq
          simp only [e, List.getElem_cons_succ]
          exact ih (by rw [e] at hl; simpa using hl)
        · have e : run1 p.1 (q :: l) = 0 := if_neg hq
          simp only [e, List.getElem_cons_zero]
          exact hq
    simp only [head1, List.getElem_cons_succ, List.getElem_cons_zero]
    exact key l (by simpa [head1] using hl)
/-- it is the one number of its kind -/
theorem head1_eq (l : List PR) (h : 0 < l.length) (k : Nat) (h1 : 1 ≤ k) (hl : k ≤ l.length) (hin : ∀ j (hj : j < k), l[j].1 = l[0].1) (hout : ∀ (hk : k < l.length), l[k].1 ≠ l[0].1) : k = head1 l := by
  have hp := head1_pos l h
  rcases Nat.lt_trichotomy k (head1 l) with hlt | he | hgt
  · exact absurd (head1_in l h k hlt (by omega)) (hout (by omega))
  · exact he
  · exact absurd (hin (head1 l) hgt) (head1_out l h (by omega))
def grpF : Nat → List PR → List (List PR)
  | 0, _ => []
  | n + 1, l => if l.length = 0 then [] else l.take (head1 l) :: grpF n (l.drop (head1 l))
/-- the groups -/
def grp (l : List PR) : List (List PR) := grpF l.length l
theorem grpF_more : ∀ (n m : Nat) (l : List PR), l.length ≤ n → l.length ≤ m → grpF n l = grpF m l
  | 0, 0, _, _, _ => rfl
  | 0, m + 1, l, h, _ => by simp [grpF, show l.length = 0 by omega]
  | n + 1, 0, l, _, h => by simp [grpF, show l.length = 0 by omega]
  | n + 1, m + 1, l, h, h' => by
    unfold grpF
    split
    · rfl
    · have := head1_pos l (by omega)
      rw [grpF_more n m _ (by simp; omega) (by simp; omega)]
theorem grp_nil : grp [] = [] := rfl
theorem grp_step (l : List PR) (h : 0 < l.length) : grp l = l.take (head1 l) :: grp (l.drop (head1 l)) := by
  have hp := head1_pos l h
  obtain ⟨n, hn⟩ : ∃ n, l.length = n + 1 := ⟨l.length - 1, by omega⟩
  unfold grp
  rw [hn, grpF, if_neg (by omega)]
  congr 1
  exact grpF_more _ _ _ (by simp; omega) (by simp)
theorem grp_length_le : ∀ (n : Nat) (l : List PR), l.length ≤ n → (grp l).length ≤ l.length
  | 0, l, h => by
    have : l = [] := List.eq_nil_of_length_eq_zero (by omega)
    subst this; simp [grp_nil]
  | n + 1, l, h => by
    by_cases h0 : 0 < l.length
    · have hp := head1_pos l h0
      rw [grp_step l h0]
      have := grp_length_le n (l.drop (head1 l)) (by simp; omega)
      simp at this ⊢; omega
    · have : l = [] := List.eq_nil_of_length_eq_zero (by omega)
      subst this; simp [grp_nil]
theorem grp_flat : ∀ (n : Nat) (l : List PR), l.length ≤ n → (grp l).flatten = l
  | 0, l, h => by
    have : l = [] := List.eq_nil_of_length_eq_zero (by omega)
    subst this; rfl
  | n + 1, l, h => by
    by_cases h0 : 0 < l.length
    · have hp := head1_pos l h0
      rw [grp_step l h0, List.flatten_cons, grp_flat n _ (by simp; omega), List.take_append_drop]
    · have : l = [] := List.eq_nil_of_length_eq_zero (by omega)
      subst this; rfl
theorem grp_ne : ∀ (n : Nat) (l : List PR), l.length ≤ n → ∀ g ∈ grp l, 0 < g.length
  | 0, l, h => by
    have : l = [] := List.eq_nil_of_length_eq_zero (by omega)
    subst this; simp [grp_nil]
  | n + 1, l, h => by
    by_cases h0 : 0 < l.length
    · have hp := head1_pos l h0
      rw [grp_step l h0]
      intro g hg
      rcases List.mem_cons.1 hg with rfl | hg
      · simp; omega
      · exact grp_ne n _ (by simp; omega) g hg
    · have : l = [] := List.eq_nil_of_length_eq_zero (by omega)
      subst this; simp [grp_nil]
end Go.Proofs.Ytahmacnmphjhgaa
namespace Go.Proofs.Ytahmacnmphjhgaa
open Go.RowKit Oct
attribute [local go_sem] Oper.semAt_some

theorem add_block (a : Addr) (i : Nat) : (a.add i).block = a.block := by unfold Addr.add; split <;> rfl
theorem RP.move {w w' : World} {a : Option Addr} {n c : Nat} {l : List PR} (h : RP w (.slice a n c) l) (hk : ∀ ad, a = some ad → w'.heap[ad.block]? = w.heap[ad.block]?) : RP w' (.slice a n c) l := by
  obtain ⟨⟨a', cap, hv, hn, hc⟩, h2⟩ := h
  injection hv with e1 e2 e3
  subst e1 e3
  refine ⟨⟨a, c, by rw [e2], hn, fun j u hj => ?_⟩, h2⟩
  obtain ⟨b, off, ha, hu⟩ := hc j u hj
  have e : w'.cell? ⟨b, off + j, none⟩ = w.cell? ⟨b, off + j, none⟩ := World.cell?_of_block (w := w) (a := ⟨b, off + j, none⟩) (hk ⟨b, off, none⟩ ha)
  exact ⟨b, off, ha, e.trans hu⟩
theorem RP.cutRunB {w : World} {a : Option Addr} {cap : Nat} {l : List PR} (h : RP w (.slice a l.length cap) l) (k : Nat) (hk : k ≤ l.length) :
    ∃ A C, (∀ wx, (Instr.slice 22 (.slice a l.length cap) (some (.int .i64 (k : Int))) none none).run Try.prog wx = .ok (.slice A (l.length - k) C) wx) ∧ RP w (.slice A (l.length - k) C) (l.drop k) ∧ (∀ ad, A = some ad → ∃ ad0, a = some ad0 ∧ ad.block = ad0.block) := by
  refine ⟨_, _, fun wx => ?_, h.cut k hk, ?_⟩
  · rw [run_slice_l wx 22 a l.length cap (by kernel_rfl) .i64 k (by omega) (by omega)]
    have he : (sizeOf (Try.prog.elem 22)).run Try.prog wx = .ok 2 wx := by kernel_rfl
    rw [he]
    simp [Result.andThen, sliced]
  · intro ad hA
    split at hA
    · exact ⟨ad, hA, rfl⟩
    · obtain ⟨ad0, h1, h2⟩ := Option.map_eq_some_iff.1 hA
      exact ⟨ad0, h1, by rw [← h2, add_block]⟩
/-- s[:k:k], run -/
theorem RP.fullRun {w : World} {a : Option Addr} {cap : Nat} {l : List PR} (h : RP w (.slice a l.length cap) l) (k : Nat) (h1 : 1 ≤ k) (hk : k ≤ l.length) :
    ∃ A, (∀ wx, (Instr.slice 22 (.slice a l.length cap) none (some (.int .i64 (k : Int))) (some (.int .i64 (k : Int)))).run Try.prog wx = .ok (.slice A k k) wx) ∧ RP w (.slice A k k) (l.take k) ∧ (∀ ad, A = some ad → ∃ ad0, a = some ad0 ∧ ad.block = ad0.block) := by
  have hx := RP.head h k hk
  obtain ⟨_, a', cap', hv, hle⟩ := id h
  injection hv with _ _ h3
  subst h3
  refine ⟨a.map (·.add (0 * 2)), fun wx => ?_, ?_, fun ad hA => by obtain ⟨ad0, h1, h2⟩ := Option.map_eq_some_iff.1 hA; exact ⟨ad0, h1, by rw [← h2, add_block]⟩⟩
  · rw [run_slice_hm wx 22 a l.length cap (by kernel_rfl) .i64 .i64 k k (by omega) (by omega) (by omega)]
    have he : (sizeOf (Try.prog.elem 22)).run Try.prog wx = .ok 2 wx := by kernel_rfl
    rw [he]
    simp [Result.andThen, sliced, show k ≠ 0 by omega]
  · have hlen : (l.take k).length = k := by simp; omega
    unfold sliced at hx
    rw [if_neg (by omega)] at hx
    obtain ⟨⟨a1, c1, hv1, hn1, hc1⟩, _⟩ := hx
    injection hv1 with e1 e2 e3
    refine ⟨⟨_, k, by rw [hlen], ?_, ?_⟩, _, k, by rw [hlen], by rw [hlen]; exact Nat.le_refl _⟩
    · intro hnone
      rw [e1] at hnone
      have := hn1 hnone
      omega
    · rw [e1]; exact hc1

/-- what an iterator over groups hands out -/
def ElP (Yr : Nat → Prop) (x : List PR) (vs : Array Value) (U : World) : Prop := ∃ A C, vs = #[.slice A x.length C] ∧ RP U (.slice A x.length C) x ∧ ∀ ad, A = some ad → Yr ad.block
/-- a slice's length, in a cell -/
def mlen : Option Value → Nat
  | some (.slice _ n _) => n
  | _ => 0

theorem one_in (q : List PR) : Hid (∀ j (hj : j < 1) (h : j < q.length), q[j].1 = q[0].1) := by
  intro j hj h
  obtain rfl : j = 0 := by omega
  rfl
theorem grp_rel {B k n : Nat} {q r : List PR} {dn : List (List PR)} {Yr : Nat → Prop} {J : List (List PR) → World → Prop} {W6 W7 : World} {Ac : Option Addr} {Cc : Nat} (hc : Chg (fun k => ¬ (k = B ∨ Yr k)) W6 W7)
    (hB : W6.heap[B]? = some (.cells #[.slice Ac (q.length - k) Cc] 22 (0, 0))) (hR : RP W6 (.slice Ac (q.length - k) Cc) (q.drop k)) (hb : ∀ ad, Ac = some ad → Yr ad.block) (hG : grp r = (dn ++ [q.take k]) ++ grp (q.drop k)) (hJ : J (dn ++ [q.take k]) W7) (hq : q.length ≤ n) (hk : k ≤ q.length) :
    ∃ (q : List PR) (A : Option Addr) (C : Nat) (dn : List (List PR)), q.length ≤ n ∧ Hid (W7.heap[B]? = some (.cells #[.slice A q.length C] 22 (0, 0))) ∧ Hid (RP W7 (.slice A q.length C) q) ∧ Hid (∀ ad, A = some ad → Yr ad.block) ∧ Hid (grp r = dn ++ grp q) ∧ Hid (J dn W7) := by
  have hl : (q.drop k).length = q.length - k := by simp
  refine ⟨q.drop k, Ac, Cc, dn ++ [q.take k], by omega, ?_, ?_, hb, hG, hJ⟩
  · rw [hl]; exact hc.at hB fun h => h (.inl rfl)
  · rw [hl]
    by_cases h0 : (q.drop k).length = 0
    · obtain ⟨⟨a', cap, hv, hn, hcc⟩, h2⟩ := hR
      refine ⟨⟨a', cap, hv, hn, fun j u hj => ?_⟩, h2⟩
      have : q.drop k = [] := List.eq_nil_of_length_eq_zero h0
      rw [this] at hj
      simp [pcells] at hj
    · refine hR.move fun ad had => ?_
      rw [← hl] at hR
      obtain ⟨a', cap', hv, _, hcc⟩ := hR.open
      injection hv with e1 _ _
      subst e1
      obtain ⟨b, off, hab, hu, _⟩ := hcc 0 (by omega)
      rw [had] at hab
      cases hab
      exact hc.block b (lt_of_cell hu) fun h => h (.inr (hb _ had))
theorem grp_left {B m : Nat} {Yr : Nat → Prop} {W6 W7 : World} {Ac : Option Addr} {Cc : Nat} (hc : Chg (fun k => ¬ (k = B ∨ Yr k)) W6 W7) (hB : W6.heap[B]? = some (.cells #[.slice Ac m Cc] 22 (0, 0))) : mlen (W7.cell? ⟨B, 0, none⟩) = m := by
  rw [cell_of_one (hc.at hB fun h => h (.inl rfl))]; rfl
theorem take_len {α : Type} {q : List α} {k : Nat} (h : k ≤ q.length) : (q.take k).length = k := by simp [Nat.min_eq_left h]
theorem grp_at6 {B k nq : Nat} {q r : List PR} {dn : List (List PR)} {Yr : Nat → Prop} {W0 wr : World} {A Ac Af : Option Addr} {C Cc : Nat} (hB : W0.heap[B]? = some (.cells #[.slice A q.length C] 22 (0, 0))) (hbel : Below W0.heap.size W0 wr)
    (hRF : RP W0 (.slice Af k k) (q.take k)) (hRC : RP W0 (.slice Ac (q.length - k) Cc) (q.drop k)) (hbF : ∀ ad, Af = some ad → Yr ad.block) (hbC : ∀ ad, Ac = some ad → Yr ad.block) (hYB : ¬ Yr B) (hG : grp r = dn ++ grp q) (hk : k = head1 q) (h0 : 0 < q.length) :
    ((wr.drewN nq).setCell ⟨B, 0, none⟩ (.slice Ac (q.length - k) Cc)).heap[B]? = some (.cells #[.slice Ac (q.length - k) Cc] 22 (0, 0)) ∧ Chg (fun k => k = B) W0 ((wr.drewN nq).setCell ⟨B, 0, none⟩ (.slice Ac (q.length - k) Cc)) ∧
      RP ((wr.drewN nq).setCell ⟨B, 0, none⟩ (.slice Ac (q.length - k) Cc)) (.slice Af k k) (q.take k) ∧ RP ((wr.drewN nq).setCell ⟨B, 0, none⟩ (.slice Ac (q.length - k) Cc)) (.slice Ac (q.length - k) Cc) (q.drop k) ∧
      (dn ++ [q.take k] <+: grp r) ∧ grp r = (dn ++ [q.take k]) ++ grp (q.drop k) := by
  have hlt := (Array.getElem?_eq_some_iff.1 hB).1
  have hc : Chg (fun k => k = B) W0 ((wr.drewN nq).setCell ⟨B, 0, none⟩ (.slice Ac (q.length - k) Cc)) :=
    (Chg.of_below (bt hbel (Below.drewN' wr nq))).trans (Chg.setCell _ _ _ rfl)
  have hg : grp r = (dn ++ [q.take k]) ++ grp (q.drop k) := by rw [hG, grp_step q h0, ← hk]; simp
  have mv : ∀ {a : Option Addr} {n c : Nat} {l : List PR}, RP W0 (.slice a n c) l → (∀ ad, a = some ad → Yr ad.block) → RP ((wr.drewN nq).setCell ⟨B, 0, none⟩ (.slice Ac (q.length - k) Cc)) (.slice a n c) l := by
    intro a n c l h hb
    by_cases hl : l.length = 0
    · obtain ⟨⟨a', cap, hv, hn, hcc⟩, h2⟩ := h
      refine ⟨⟨a', cap, hv, hn, fun j u hj => ?_⟩, h2⟩
      have : l = [] := List.eq_nil_of_length_eq_zero hl
      subst this
      simp [pcells] at hj
    · refine h.move fun ad had => ?_
      obtain ⟨a', cap', hv, _, hcc⟩ := h.open
      injection hv with e1 _ _
      subst e1
      obtain ⟨b, off, hab, hu, _⟩ := hcc 0 (by omega)
      rw [had] at hab
      cases hab
      exact hc.block b (lt_of_cell hu) fun e => hYB (by rw [← e]; exact hb _ had)
  exact ⟨one_setCell (v := .slice A q.length C) ((hbel.block B hlt).trans hB), hc, mv hRF hbF, mv hRC hbC, ⟨_, hg.symm⟩, hg⟩

end Go.Proofs.Ytahmacnmphjhgaa
namespace Go.Proofs.Ytahmacnmphjhgaa
open Go.RowKit Oct
attribute [local go_sem] Oper.semAt_some

/-- what the iterator hands out -/
def ElSp (x : Nat × Nat) (vs : Array Value) (_ : World) : Prop := vs = #[.agg #[.int .i64 (x.1 : Int), .int .i64 (x.2 : Int)]]

set_option maxRecDepth 100000 in
theorem and3 (c : UInt8) : bits .and .u8 (c.toNat : Int) 3 = (c.toNat : Int) % 4 := by
  have h : ∀ y : Nat, y < 256 → bits .and .u8 (y : Int) 3 = (y : Int) % 4 := by decide
  exact h _ c.toNat_lt

set_option maxRecDepth 100000 in
set_option maxHeartbeats 4000000 in
theorem groups23_iter (n B : Nat) (l : List (List UInt8)) (Y : Nat → Prop) (v : Value) (W : World) (hB : W.heap[B]? = some (.cells #[v] 40 (0, 0))) (hr : recS.Row W v l) (hblk : ∀ b, v.ownBlock = some b → Y b) (hYB : Y B) (hl : l.length ≤ 1000000) (hid : allIds l = true) :
    IterC Fence.wide n Try.prog 69 #[.pointer (some ⟨B, 0, none⟩)] (fun _ => False) Y ElSp (groups23 l) W := by
  intro yl J Jx hJ hJx hY hJ0
  refine callsIn_wide.2 ?_
  have HJ := Lib.hid hJ
  have HJx := Lib.hid hJx
  have HY := Lib.hid hY
  obtain ⟨a, cap, rfl, _, hc⟩ := recS_open hr
  have HC := Lib.hid hc
  have HBlk := Lib.hid hblk
  have hcb := cell_of_one hB
  have HB := Lib.hid hB
  have h32 : ∀ k (hk : k < l.length), l[k].length = 32 := fun k hk => by
    have := List.all_eq_true.1 hid l[k] (List.getElem_mem hk)
    simpa [isId] using this
  have H32 := Lib.hid h32
  clear hJ hJx hY hB hblk hc hr hid h32
  go_enter Try.func69, Try.ntmps69
  go_wp2
  go_loopw [3, 9] (fun vf vk wr => ∃ f k : Nat, ∃ S, vf = .int .i64 (f : Int) ∧ vk = .int .i64 (k : Int) ∧ f ≤ k ∧ k ≤ l.length ∧ Hid (S ++ spansF l (l.length - k) f k = groups23 l) ∧ Hid (Chg (fun k => ¬ Y k) W wr) ∧ Hid (J S wr)) (fun _ k _ => l.length - (intOf k).toNat)
  case atStart => exact ⟨0, 0, [], rfl, rfl, by omega, by omega, rfl, Chg.refl _ _, hJ0⟩
  case round =>
    obtain ⟨f, k, S, rfl, rfl, hfk, hk, HS, HCH, HJd⟩ := hrel
    by_cases h0 : k < l.length
    · obtain ⟨b, off, rfl, c1⟩ := HC.out k h0
      have c2 := HCH.out.cell c1 (fun hn => hn (HBlk.out b rfl))
      have c3 := HCH.out.cell hcb (fun hn => hn hYB)
      have h3 := H32.out k h0
      obtain ⟨x, hx⟩ : ∃ x, x = l[k] := ⟨_, rfl⟩
      rw [← hx] at c2 h3
      have hx31 : (31 : Int) < (x.length : Int) := by omega
      have hxn : 31 < x.length := by omega
      have k0 : (0 : Int) ≤ (k : Int) := by omega
      have k1 : (k : Int) < (l.length : Int) := by omega
      have k2 : (l.length : Int) ≤ 1000000 := by omega
      have k3 : (f : Int) ≤ (k : Int) := by omega
      have hg : l.getD k [] = x := by rw [hx]; simp [List.getD, h0]
      have hm : mark x = ((x[31].toNat : Int) % 4 == 3) := by
        unfold mark last32
        rw [show x.getD 31 0 = x[31] by simp [List.getD, hxn], Bool.eq_iff_iff, beq_iff_eq, beq_iff_eq]
        omega
      obtain ⟨m, hmm⟩ : ∃ m, m = mark x := ⟨_, rfl⟩
      rw [← hmm] at hm
      have HCA := Lib.hid (show cutAt l f k = ((m && decide (2 ≤ k + 1 - f)) || decide (8 ≤ k + 1 - f) || decide (k + 1 = l.length)) by unfold cutAt; rw [hg, ← hmm])
      have HX := Lib.hid hx
      have e0 := and3 x[31]
      have HM := Lib.hid hm
      clear c1 hg hx hmm hm
      cases m with
      | true =>
        have e1 : bits BinOp.and IntKind.u8 (x[31].toNat : Int) 3 = 3 := by rw [e0]; have := HM.out.symm; rwa [beq_iff_eq] at this
        clear e0
        by_cases p2 : 2 ≤ k + 1 - f
        · have q2 : (2 : Int) ≤ (k : Int) + 1 - (f : Int) := by omega
          have HP2 := Lib.hid p2
          clear p2
          have HC1 := Lib.hid (show cutAt l f k = true by rw [HCA.out]; simp [HP2.out])
          go_upto_region 6 with (fail)
          (have hcons := spansF_cut h0 HC1.out; have hpre : S ++ [(f, k + 1)] <+: groups23 l := ⟨_, by rw [List.append_assoc, ← HS.out, hcons]; rfl⟩; have HCO := Lib.hid hcons; have HPRE := Lib.hid hpre; obtain ⟨fn, tm, asg, bod, hy, hRd⟩ := HY.out S (f, k + 1) #[.agg #[.int .i64 (f : Int), .int .i64 ((k : Int) + 1)]] wr HJd.out (by unfold ElSp; simp) hpre; clear hcons hpre; refine (wpIn_wide (n := n)).1 ?_; gi_wp2; refine ⟨fun h => (by cases h), ?_⟩; refine hRd.mono ?_; rintro e W7 (⟨rfl, hJ7, hc7⟩ | ⟨rfl, hJx7⟩); (gi_wp2; go_wp2; refine ⟨⟨k + 1, k + 1, S ++ [(f, k + 1)], by go_num, by go_num, by omega, by omega, by (unfold Hid; rw [List.append_assoc, ← HS.out, HCO.out]; rfl), HCH.out.trans hc7, hJ7⟩, by simp [intOf]; omega⟩); (gi_wp2; go_wp2; refine bodyPost_ret (results_none rfl _ _ _) rfl ?_; exact ⟨⟨_, rfl⟩, .inr ⟨_, HPRE.out, hJx7⟩⟩))
        · have q2 : ¬ (2 : Int) ≤ (k : Int) + 1 - (f : Int) := by omega
          have q3 : (k : Int) + 1 - (f : Int) < 2 := by omega
          have q8 : ¬ (8 : Int) ≤ (k : Int) + 1 - (f : Int) := by omega
          have q9 : (k : Int) + 1 - (f : Int) < 8 := by omega
          have HP2 := Lib.hid (show ¬ 8 ≤ k + 1 - f by omega)
          have HP3 := Lib.hid p2
          clear p2
          by_cases p1 : k + 1 = l.length
          · have q1 : ((k : Int) + 1 == (l.length : Int)) = true := by rw [beq_iff_eq]; omega
            have HC1 := Lib.hid (show cutAt l f k = true by rw [HCA.out]; simp [p1])
            clear p1
            go_upto_region 6 with (fail)
            (have hcons := spansF_cut h0 HC1.out; have hpre : S ++ [(f, k + 1)] <+: groups23 l := ⟨_, by rw [List.append_assoc, ← HS.out, hcons]; rfl⟩; have HCO := Lib.hid hcons; have HPRE := Lib.hid hpre; obtain ⟨fn, tm, asg, bod, hy, hRd⟩ := HY.out S (f, k + 1) #[.agg #[.int .i64 (f : Int), .int .i64 ((k : Int) + 1)]] wr HJd.out (by unfold ElSp; simp) hpre; clear hcons hpre; refine (wpIn_wide (n := n)).1 ?_; gi_wp2; refine ⟨fun h => (by cases h), ?_⟩; refine hRd.mono ?_; rintro e W7 (⟨rfl, hJ7, hc7⟩ | ⟨rfl, hJx7⟩); (gi_wp2; go_wp2; refine ⟨⟨k + 1, k + 1, S ++ [(f, k + 1)], by go_num, by go_num, by omega, by omega, by (unfold Hid; rw [List.append_assoc, ← HS.out, HCO.out]; rfl), HCH.out.trans hc7, hJ7⟩, by simp [intOf]; omega⟩); (gi_wp2; go_wp2; refine bodyPost_ret (results_none rfl _ _ _) rfl ?_; exact ⟨⟨_, rfl⟩, .inr ⟨_, HPRE.out, hJx7⟩⟩))
          · have q1 : ((k : Int) + 1 == (l.length : Int)) = false := by rw [beq_eq_false_iff_ne]; omega
            have HC1 := Lib.hid (show cutAt l f k = false by rw [HCA.out]; simp [p1, HP2.out, HP3.out])
            clear p1
            go_wp2
            (refine ⟨⟨f, k + 1, S, rfl, by go_num, by omega, by omega, by (unfold Hid; rw [← HS.out, spansF_on h0 HC1.out]), HCH.out, HJd.out⟩, by simp [intOf]; omega⟩)
      | false =>
        have e1 : ¬ bits BinOp.and IntKind.u8 (x[31].toNat : Int) 3 = 3 := by rw [e0]; have := HM.out.symm; rwa [beq_eq_false_iff_ne] at this
        have e2 : (bits BinOp.and IntKind.u8 (x[31].toNat : Int) 3 == 3) = false := by rw [beq_eq_false_iff_ne]; exact e1
        clear e0
        by_cases p8 : 8 ≤ k + 1 - f
        · have q8 : (8 : Int) ≤ (k : Int) + 1 - (f : Int) := by omega
          have HC1 := Lib.hid (show cutAt l f k = true by rw [HCA.out]; simp [p8])
          clear p8
          go_upto_region 6 with (fail)
          (have hcons := spansF_cut h0 HC1.out; have hpre : S ++ [(f, k + 1)] <+: groups23 l := ⟨_, by rw [List.append_assoc, ← HS.out, hcons]; rfl⟩; have HCO := Lib.hid hcons; have HPRE := Lib.hid hpre; obtain ⟨fn, tm, asg, bod, hy, hRd⟩ := HY.out S (f, k + 1) #[.agg #[.int .i64 (f : Int), .int .i64 ((k : Int) + 1)]] wr HJd.out (by unfold ElSp; simp) hpre; clear hcons hpre; refine (wpIn_wide (n := n)).1 ?_; gi_wp2; refine ⟨fun h => (by cases h), ?_⟩; refine hRd.mono ?_; rintro e W7 (⟨rfl, hJ7, hc7⟩ | ⟨rfl, hJx7⟩); (gi_wp2; go_wp2; refine ⟨⟨k + 1, k + 1, S ++ [(f, k + 1)], by go_num, by go_num, by omega, by omega, by (unfold Hid; rw [List.append_assoc, ← HS.out, HCO.out]; rfl), HCH.out.trans hc7, hJ7⟩, by simp [intOf]; omega⟩); (gi_wp2; go_wp2; refine bodyPost_ret (results_none rfl _ _ _) rfl ?_; exact ⟨⟨_, rfl⟩, .inr ⟨_, HPRE.out, hJx7⟩⟩))
        · have q8 : ¬ (8 : Int) ≤ (k : Int) + 1 - (f : Int) := by omega
          have q9 : (k : Int) + 1 - (f : Int) < 8 := by omega
          have HP8 := Lib.hid p8
          clear p8
          by_cases p1 : k + 1 = l.length
          · have q1 : ((k : Int) + 1 == (l.length : Int)) = true := by rw [beq_iff_eq]; omega
            have HC1 := Lib.hid (show cutAt l f k = true by rw [HCA.out]; simp [p1])
            clear p1
            go_upto_region 6 with (fail)
            (have hcons := spansF_cut h0 HC1.out; have hpre : S ++ [(f, k + 1)] <+: groups23 l := ⟨_, by rw [List.append_assoc, ← HS.out, hcons]; rfl⟩; have HCO := Lib.hid hcons; have HPRE := Lib.hid hpre; obtain ⟨fn, tm, asg, bod, hy, hRd⟩ := HY.out S (f, k + 1) #[.agg #[.int .i64 (f : Int), .int .i64 ((k : Int) + 1)]] wr HJd.out (by unfold ElSp; simp) hpre; clear hcons hpre; refine (wpIn_wide (n := n)).1 ?_; gi_wp2; refine ⟨fun h => (by cases h), ?_⟩; refine hRd.mono ?_; rintro e W7 (⟨rfl, hJ7, hc7⟩ | ⟨rfl, hJx7⟩); (gi_wp2; go_wp2; refine ⟨⟨k + 1, k + 1, S ++ [(f, k + 1)], by go_num, by go_num, by omega, by omega, by (unfold Hid; rw [List.append_assoc, ← HS.out, HCO.out]; rfl), HCH.out.trans hc7, hJ7⟩, by simp [intOf]; omega⟩); (gi_wp2; go_wp2; refine bodyPost_ret (results_none rfl _ _ _) rfl ?_; exact ⟨⟨_, rfl⟩, .inr ⟨_, HPRE.out, hJx7⟩⟩))
          · have q1 : ((k : Int) + 1 == (l.length : Int)) = false := by rw [beq_eq_false_iff_ne]; omega
            have HC1 := Lib.hid (show cutAt l f k = false by rw [HCA.out]; simp [p1, HP8.out])
            clear p1
            go_wp2
            (refine ⟨⟨f, k + 1, S, rfl, by go_num, by omega, by omega, by (unfold Hid; rw [← HS.out, spansF_on h0 HC1.out]), HCH.out, HJd.out⟩, by simp [intOf]; omega⟩)
    · obtain rfl : k = l.length := by omega
      have hfin := HS.out
      rw [spansF_end, List.append_nil] at hfin
      have HF := Lib.hid hfin
      clear hfin
      go_wp2
      go_end0
      exact ⟨⟨_, rfl⟩, .inl (by rw [← HF.out]; exact HJd.out)⟩
end Go.Proofs.Ytahmacnmphjhgaa
namespace Go.Proofs.Ytahmacnmphjhgaa
open Go.RowKit Oct
attribute [local go_sem] Oper.semAt_some

/-- what holds between two rounds -/
def ColS (s : Nat) (w : World) (pre : List (Nat × Nat)) (U : World) : Prop := BoxRow s (s + 3) 61 53 2 U pre.length (recSp.cells pre) ∧ Chg (fun k => s ≤ k) w U
theorem ColS.chg {s : Nat} {w U U' : World} {pre : List (Nat × Nat)} (h : ColS s w pre U) (hc : Chg (fun k => k = s + 1 ∨ k = s + 1 + 1) U U') : ColS s w pre U' :=
  ⟨h.1.chg hc (fun k hk => by omega), h.2.trans (hc.mono fun k hk => by omega)⟩

set_option maxRecDepth 100000 in
set_option maxHeartbeats 2000000 in
theorem AppendSeq23_any (B : Nat) (l : List (List UInt8)) (v : Value) (w : World) (hB : w.heap[B]? = some (.cells #[v] 40 (0, 0))) (hr : recS.Row w v l) (hblk : ∀ b, v.ownBlock = some b → b < w.heap.size) (hl : l.length ≤ 1000000) (hid : allIds l = true) :
    Calls Try.prog 76 #[.slice none 0 0, .func (.func 69) #[] #[.pointer (some ⟨B, 0, none⟩)]] w fun e w' => ∃ v, e = .returned v ∧ recSp.Own w' w.heap.size v (groups23 l) ∧ Below w.heap.size w w' := by
  have hgl := spansF_le l l.length 0 0
  have hBlt := (Array.getElem?_eq_some_iff.1 hB).1
  refine calls_of_wp_marks Try.func76 rfl ?_
  simp only [Try.ntmps76, List.size_toArray, List.length_cons, List.length_nil, Nat.reduceAdd, Nat.reduceSub, Array.replicate_succ, Array.replicate_zero, List.push_toArray, List.append_toArray, List.nil_append, List.cons_append]
  go_wp2
  obtain ⟨W1, hW1⟩ : ∃ W1, W1 = w.alloc (.cells #[.slice none 0 0] 61) := ⟨_, rfl⟩
  have hs1 : W1.heap.size = w.heap.size + 1 := by rw [hW1]; simp
  have hbx : W1.heap[w.heap.size]? = some (.cells #[.slice none 0 0] 61 (0, 0)) := by rw [hW1]; exact World.alloc_heap_new w _
  have hc1 : ∀ X, Chg X w W1 := fun X => by rw [hW1]; exact Chg.alloc X w _
  have hb1 : Below w.heap.size w W1 := by rw [hW1]; exact b_alloc w _
  rw [← hW1]
  clear hW1
  have hB1 := (hc1 (fun _ => False)).at hB (fun h => h)
  refine wp_range (D := w.heap.size + 1) hs1 (gf := 69) (lb := #[.pointer (some ⟨B, 0, none⟩)]) rfl (enters_of Try.func69 (by kernel_rfl) rfl)
    (X := fun _ => False) (Y := fun k => k < w.heap.size) (El := ElSp) (out := groups23 l) (fun k hk => hk.elim) (fun k hk => by omega)
    (fun W hW => groups23_iter 2 B l _ v W ((hW.block B (by omega)).trans hB1) ((hr.below hb1).below (hW.mono (by omega))) hblk hBlt hl hid)
    (fun x vs U h => by rw [show vs = _ from h]; rfl) (fun x vs U U' h hc => h)
    (ColS w.heap.size w) (fun _ _ _ => False) (fun pre U U' h hc => h.chg (hc.mono fun k hk => by simpa using hk)) (fun _ _ _ _ h _ => h.elim)
    ⟨⟨_, hbx, World.ownsRow_nil _ _ _ _⟩, hc1 _⟩ ?round ?done ?stop
  case round =>
    rintro yl pre x vs U hsz hI hvs hpre
    obtain rfl : vs = _ := hvs
    have hlen := hpre.length_le
    rw [List.length_append] at hlen
    have hby : (pre.length + 1) * 16 ≤ 140737488355328 := by unfold groups23 at hlen; simp at hlen; omega
    gi_wp2
    refine ⟨b_alloc U _, ?_⟩
    rintro U2 h2 ⟨⟨v2, hbox, hown⟩, hchg⟩ _ hc2
    obtain ⟨av, cv, rfl⟩ := owns_slice hown
    have c5 := hc2.at (World.alloc_heap_new U _) (by omega)
    have c6 : U2.cell? ⟨U.heap.size, 0, none⟩ = some (.int .i64 (x.1 : Int)) := by simp [World.cell?, c5]
    have c7 : U2.cell? ⟨U.heap.size, 1, none⟩ = some (.int .i64 (x.2 : Int)) := by simp [World.cell?, c5]
    have c := cell_of_one hbox
    have f := free_of_one hbox
    clear hlen hpre hc2 c5
    gi_wp2_with (gi_at_builtin; refine append1In U2 [_, _] 53 rfl _ _ 61 rfl (w.heap.size + 3) (.agg #[.int .i64 0, .int .i64 0]) 2 16 Try.underlying61 recSp.info rfl (by decide) _ _ _ rfl hown _ rfl rfl (by simp [Value.oneCell']) hby (by decide) h2 ?_; intro g cap W3 hown3 hB3; have c3 := cell_of_one ((hB3.block w.heap.size (by omega)).trans hbox); have f3 := free_of_one ((hB3.block w.heap.size (by omega)).trans hbox))
    obtain ⟨h1, h3⟩ := BoxRow.stored (s := w.heap.size) (by omega) hbox hB3 hown3
    exact ⟨h3.mono fun k hk => by omega, by rw [List.length_append, Rec.cells_append]; exact h1, hchg.trans (h3.mono fun k hk => by omega)⟩
  case done =>
    rintro W h2 ⟨⟨v2, hbox, hown⟩, hchg⟩ hK
    obtain ⟨av, cv, rfl⟩ := owns_slice hown
    have c := cell_of_one hbox
    go_wp2
    have hp : ∀ X : Nat → Prop, X (w.heap.size + 1) → Chg X W (W.putObj (w.heap.size + 1) (.deferred none)) := fun X hx => Chg.putObj _ _ _ hx
    refine marks_ret (D := w.heap.size + 1) rfl hK (results_tmp rfl _ _ _) ⟨_, rfl, ?_, ?_⟩
    · exact owns_mono (ownsRow_chg hown (hp (fun k => k = w.heap.size + 1) rfl) fun k hk => by omega) (by omega)
    · have hc := hchg.trans (hp _ (by omega))
      exact hc.below (fun k hk => hk) (Nat.le_refl _)
  case stop => exact fun _ _ _ _ _ h _ => h.elim

set_option maxRecDepth 100000 in
theorem groups23_mk (v : Value) (w : World) (hv : v.oneCell' = true) : Calls Try.prog 53 #[v] w fun e w' => e = .returned (.func (.func 69) #[] #[.pointer (some ⟨w.heap.size, 0, none⟩)]) ∧ w' = w.alloc (.cells #[v] 40) := by
  cases v <;> simp [Value.oneCell'] at hv
  all_goals
    go_enter Try.func53, Try.ntmps53
    go_wp2
    go_ret
    exact ⟨rfl, rfl⟩
set_option maxRecDepth 100000 in
theorem Collect23_any (B : Nat) (l : List (List UInt8)) (v : Value) (w : World) (hB : w.heap[B]? = some (.cells #[v] 40 (0, 0))) (hr : recS.Row w v l) (hblk : ∀ b, v.ownBlock = some b → b < w.heap.size) (hl : l.length ≤ 1000000) (hid : allIds l = true) :
    Calls Try.prog 63 #[.func (.func 69) #[] #[.pointer (some ⟨B, 0, none⟩)]] w fun e w' => ∃ v, e = .returned v ∧ recSp.Own w' w.heap.size v (groups23 l) ∧ Below w.heap.size w w' := by
  have H := Lib.hid (AppendSeq23_any B l v w hB hr hblk hl hid)
  clear hB hr hblk hl hid
  go_enter Try.func63, Try.ntmps63
  go_wp2_with fail
  refine H.out.mono ?_; rintro e w1 ⟨v, rfl, hown, hB1⟩
  obtain ⟨a, c, rfl⟩ := owns_slice hown
  have HO := Lib.hid hown
  clear hown
  go_wp2_with fail
  go_ret
  exact ⟨_, rfl, HO, hB1⟩
/-- what Groups answers -/
def g23R (w w' : World) (l : List (List UInt8)) (e : Ending) : Prop :=
  if allIds l then ∃ v, e = .returned (.tuple #[v, .int .i64 0]) ∧ recSp.Own w' w.heap.size v (groups23 l) else e = .returned (.tuple #[.slice none 0 0, .int .i64 2])
theorem g23R_no {w w' : World} {l : List (List UInt8)} (h : allIds l = false) : g23R w w' l (.returned (.tuple #[.slice none 0 0, .int .i64 2])) := by unfold g23R; rw [if_neg (by simp [h])]
theorem g23R_yes {w w' : World} {l : List (List UInt8)} {v : Value} (h : allIds l = true) (ho : recSp.Own w' w.heap.size v (groups23 l)) : g23R w w' l (.returned (.tuple #[v, .int .i64 0])) := by unfold g23R; rw [if_pos h]; exact ⟨_, rfl, ho⟩
set_option maxRecDepth 100000 in
set_option maxHeartbeats 1000000 in
theorem Groups23_any (v : Value) (l : List (List UInt8)) (w : World) (hr : recS.Row w v l) (hblk : ∀ b, v.ownBlock = some b → b < w.heap.size) (hl : l.length ≤ 1000000) (hm : ∀ s ∈ l, s.length ≤ 140737488355328) :
    Calls Try.prog 31 #[v] w fun e w' => g23R w w' l e ∧ Below w.heap.size w w' := by
  have HB := Lib.hid (contains_bad v l w hr (by omega) hm)
  obtain ⟨a, cap, rfl, _⟩ := hr.2
  have HR := Lib.hid hr
  have HBK := Lib.hid hblk
  have HL := Lib.hid hl
  clear hr hblk hl hm
  obtain ⟨q, hq⟩ : ∃ q, q = allIds l := ⟨_, rfl⟩
  rw [← hq] at HB
  have HQ := Lib.hid hq.symm
  clear hq
  go_enter Try.func31, Try.ntmps31
  cases q with
  | false =>
    go_wp2_with fail
    refine HB.out.mono ?_; rintro e w1 ⟨rfl, rfl⟩
    go_wp2_with fail
    go_ret2
    exact ⟨g23R_no HQ.out, b_refl _⟩
  | true =>
    go_wp2_with fail
    refine HB.out.mono ?_; rintro e w1 ⟨rfl, rfl⟩
    go_wp2_with fail
    refine (groups23_mk (.slice a l.length cap) w rfl).mono ?_; rintro e w2 ⟨rfl, hw2⟩
    have hb2 : w2.heap[w.heap.size]? = some (.cells #[.slice a l.length cap] 40 (0, 0)) := by rw [hw2]; exact World.alloc_heap_new w _
    have hB2 : Below w.heap.size w w2 := by rw [hw2]; exact b_alloc w _
    have HC := Lib.hid (Collect23_any w.heap.size l _ w2 hb2 (HR.out.below hB2) (fun b h => Nat.lt_of_lt_of_le (HBK.out b h) hB2.size) HL.out HQ.out)
    clear hw2 hb2
    go_wp2_with fail
    refine HC.out.mono ?_; rintro e w3 ⟨v3, rfl, hown3, hB3⟩
    obtain ⟨a3, c3, rfl⟩ := owns_slice hown3
    have HO := Lib.hid hown3
    clear hown3
    go_wp2_with fail
    go_ret2
    exact ⟨g23R_yes HQ.out (HO.out.mono hB2.size), bt hB2 hB3⟩
end Go.Proofs.Ytahmacnmphjhgaa
namespace Go.Proofs.Ytahmacnmphjhgaa
open Go.RowKit

/-- what is no block of cells may have changed -/
def Tidy (w w' : World) : Prop := Chg (fun k => ∀ cs e fr, w.heap[k]? ≠ some (.cells cs e fr)) w w'
theorem Tidy.refl (w : World) : Tidy w w := Chg.refl _ _
theorem Tidy.trans {a b c : World} (h : Tidy a b) (k : Tidy b c) : Tidy a c :=
  ⟨k.os.trans h.os, k.tape.trans h.tape, k.output.trans h.output, Nat.le_trans h.size k.size, fun i hi hx => by
    have e := h.block i hi hx
    rw [← e]
    exact k.block i (Nat.lt_of_lt_of_le hi h.size) (fun hn => hx fun cs el fr => by rw [← e]; exact hn cs el fr)⟩
theorem Tidy.mark {w : World} {D : Nat} {o o' : Obj} (h : w.heap[D]? = some o) (hn : ∀ cs e fr, o ≠ .cells cs e fr) : Tidy w (w.putObj D o') :=
  Chg.putObj _ _ _ (fun cs e fr => by rw [h]; intro e2; exact hn cs e fr (Option.some.inj e2))
theorem Tidy.at {w w' : World} (h : Tidy w w') {k : Nat} {cs : Array Value} {e : TypeId} {fr : Nat × Nat} (hk : w.heap[k]? = some (.cells cs e fr)) : w'.heap[k]? = some (.cells cs e fr) :=
  Chg.at h hk (fun hn => hn cs e fr hk)
theorem Tidy.cell {w w' : World} (h : Tidy w w') {a : Addr} {u : Value} (ha : w.cell? a = some u) : w'.cell? a = some u := by
  refine Chg.cell h ha fun hn => ?_
  have hb := lt_of_cell ha
  cases ho : w.heap[a.block]? with
  | none => rw [Array.getElem?_eq_none_iff] at ho; omega
  | some o =>
    cases o with
    | cells cs e fr => exact hn cs e fr ho
    | _ => simp [World.cell?, ho] at ha

/-- marks of ranges that are over -/
def Marks (B : Nat) (w : World) : List Deferred → Prop
  | [] => True
  | d :: ds => (∃ D, d = { target := .collected D, args := #[] } ∧ B ≤ D ∧ w.heap[D]? = some (.deferred (some [])) ∧ ∀ d' ∈ ds, d'.target ≠ .collected D) ∧ Marks B w ds
theorem Marks.lt {B : Nat} {w : World} : ∀ {ds : List Deferred}, Marks B w ds → ∀ d ∈ ds, ∃ D, d.target = .collected D ∧ w.heap[D]? = some (.deferred (some []))
  | [], _, d, h => absurd h (by simp)
  | x :: ds, ⟨⟨D, h1, _, h2, _⟩, h4⟩, d, h => by
    rcases List.mem_cons.1 h with rfl | h
    · exact ⟨D, by rw [h1], h2⟩
    · exact h4.lt d h
theorem Marks.chg {X : Nat → Prop} {B : Nat} {w w' : World} : ∀ {ds : List Deferred}, Marks B w ds → Chg X w w' → (∀ D, w.heap[D]? = some (.deferred (some [])) → ¬ X D) → Marks B w' ds
  | [], _, _, _ => trivial
  | _ :: _, ⟨⟨D, h1, hb, h2, h3⟩, h4⟩, hc, hX => ⟨⟨D, h1, hb, hc.at h2 (hX D h2), h3⟩, h4.chg hc hX⟩
theorem Marks.other {B : Nat} {w w' : World} {D : Nat} (ho : ∀ k, k ≠ D → w'.heap[k]? = w.heap[k]?) : ∀ {ds : List Deferred}, Marks B w ds → (∀ d ∈ ds, d.target ≠ .collected D) → Marks B w' ds
  | [], _, _ => trivial
  | x :: ds, ⟨⟨D', h1, hb, h2, h3⟩, h4⟩, hn => by
    refine ⟨⟨D', h1, hb, ?_, h3⟩, h4.other ho (fun d hd => hn d (by simp [hd]))⟩
    rw [ho D' (fun e => hn x (by simp) (by rw [h1, e]))]
    exact h2
theorem Marks.cons {B : Nat} {w : World} {ds : List Deferred} {D : Nat} (h : Marks B w ds) (hB : B ≤ D) (hD : w.heap[D]? = some (.deferred (some []))) (hn : ∀ d ∈ ds, d.target ≠ .collected D) : Marks B w ({ target := .collected D, args := #[] } :: ds) := ⟨⟨D, rfl, hB, hD, hn⟩, h⟩
section
variable {P : Program}
theorem leaves_marks {B : Nat} {fn : Func} {tmps : Array Value} {R : Ending → World → Prop} : ∀ (ds : List Deferred) (w : World), Marks B w ds → (∀ w', Tidy w w' → Below B w w' → ∃ v, (results fn tmps).run P w' = .ok v w' ∧ R (.returned v) w') → LeavesInM Fence.wide 1 P fn tmps R ds .returning w
  | [], w, _, h => by
    obtain ⟨v, h1, h2⟩ := h w (Tidy.refl w) (Below.refl _ _)
    exact ⟨v, h1, h2⟩
  | d :: ds, w, ⟨⟨D, h1, hb, h2, h3⟩, h4⟩, h => by
    have ht : Tidy w (w.putObj D (.deferred none)) := Tidy.mark h2 (fun _ _ _ e => by cases e)
    have hbl : Below B w (w.putObj D (.deferred none)) := ⟨rfl, rfl, rfl, by simp, fun k hk => World.putObj_heap_other (by omega)⟩
    refine ⟨by simp, .inl ⟨D, _, by rw [h1], run_takeDeferred h2, leaves_marks ds _ (h4.other (fun k hk => World.putObj_heap_other hk) h3) fun w' hw' hb' => h w' (ht.trans hw') (hbl.trans hb')⟩⟩
/-- a body that ends by 'return', marks and all -/
theorem ret_marks {B : Nat} {fn : Func} {R : Ending → World → Prop} {a : Act} {w : World} (hm : Marks B w a.defers) (h : ∀ w', Tidy w w' → Below B w w' → ∃ v, (results fn a.tmps).run P w' = .ok v w' ∧ R (.returned v) w') : bodyPostM Fence.wide 1 P fn R .ret a w :=
  leaves_marks a.defers w hm h
end
theorem ownsRow_tidy {w w' : World} {base : Nat} {e : TypeId} {size : Nat} {v : Value} {n : Nat} {xs : List Value} (h : w.ownsRow base e size v n xs) (hc : Tidy w w') : w'.ownsRow base e size v n xs := by
  obtain ⟨h1, h2⟩ := h
  refine ⟨h1, ?_⟩
  rcases h2 with h2 | ⟨g, cap, cur, hv, hg, hh, r⟩
  · exact .inl h2
  · exact .inr ⟨g, cap, cur, hv, hg, hc.at hh, r⟩
theorem Reads.tidy {w w' : World} {v : Value} {n : Nat} {xs : List Value} (h : Reads w v n xs) (hc : Tidy w w') : Reads w' v n xs := by
  obtain ⟨a, cap, rfl, hn, hu⟩ := h
  exact ⟨a, cap, rfl, hn, fun j u hj => by obtain ⟨b, off, ha, hx⟩ := hu j u hj; exact ⟨b, off, ha, hc.cell hx⟩⟩
end Go.Proofs.Ytahmacnmphjhgaa
