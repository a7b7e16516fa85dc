/- A drawn region by an invariant over what has been done. Over any program. -/
import Derived.Test.YtdebgkjekcppmaaG1
namespace Go.Proofs.Ytdebgkjekcppmaa
open Go.RowKit

/-- each operation waits for earlier ones alone -/
def lexDeps (md : Region.Mode) (ops : Array Oper) : Bool :=
  (List.range ops.size).all fun i => match ops[i]? with
    | some o => o.after.all fun e => !Region.binds md e || decide (e.on < i)
    | none => true
def invSteps (P : Program) (md : Region.Mode) (ops : Array Oper) (I : Array Bool → Act → World → Prop) (Q : Exit → Act → World → Prop) : Nat → List Oper → Prop
  | _, [] => True
  | k, o :: rest => (∀ listed a w, I listed a w → listed.getD k true = false → (∀ e ∈ o.after, Region.binds md e = true → listed.getD e.on false = true) →
      (if Region.wanted o (yielded ops a.tmps) = true then o.wp P a w (fun a' w' => I (listed.setIfInBounds k true) a' w') Q else I (listed.setIfInBounds k true) (a.put o.dst undef) w)) ∧ invSteps P md ops I Q (k + 1) rest

section
variable {P : Program} {md : Region.Mode} {ops : Array Oper} {I : Array Bool → Act → World → Prop} {Q : Exit → Act → World → Prop}
theorem invSteps_at : ∀ (l : List Oper) (k i : Nat) (o : Oper), invSteps P md ops I Q k l → l[i]? = some o →
    ∀ listed a w, I listed a w → listed.getD (k + i) true = false → (∀ e ∈ o.after, Region.binds md e = true → listed.getD e.on false = true) →
      (if Region.wanted o (yielded ops a.tmps) = true then o.wp P a w (fun a' w' => I (listed.setIfInBounds (k + i) true) a' w') Q else I (listed.setIfInBounds (k + i) true) (a.put o.dst undef) w)
  | [], _, _, _, _, h => by simp at h
  | o :: l, k, 0, o', hs, h => by
    simp only [List.getElem?_cons_zero, Option.some.injEq] at h
    subst h
    exact hs.1
  | o :: l, k, i + 1, o', hs, h => by
    have := invSteps_at l (k + 1) i o' hs.2 (by simpa using h)
    rw [show k + (i + 1) = k + 1 + i by omega]
    exact this
theorem all_listed (hl : lexDeps md ops = true) {listed : Array Bool} (hs : listed.size = ops.size) (hr : Region.ready md ops listed = []) : ∀ n i, i < n → i < ops.size → listed.getD i false = true := by
  intro n
  induction n with
  | zero => intro i h; omega
  | succ n ih =>
    intro i hi his
    have ho : ops[i]? = some ops[i] := Array.getElem?_eq_getElem his
    have h1 := List.all_eq_true.1 hl i (List.mem_range.2 his)
    simp only [ho, Array.all_eq_true_iff_forall_mem] at h1
    cases hb : listed.getD i true with
    | true =>
      have hx : i < listed.size := by omega
      simp only [Array.getD_eq_getD_getElem?, Array.getElem?_eq_getElem hx, Option.getD_some] at hb ⊢
      exact hb
    | false =>
      have : i ∈ Region.ready md ops listed := mem_ready.2 ⟨hb, _, ho, fun e he hbi => by
        have h2 := h1 e he
        rw [hbi] at h2
        have h3 : e.on < i := by simpa using h2
        exact ih e.on (by omega) (by omega)⟩
      rw [hr] at this
      cases this
theorem count_set_true : ∀ (l : List Bool) (i : Nat), l[i]? = some false → (l.set i true).count false + 1 = l.count false
  | [], _, h => by simp at h
  | b :: l, 0, h => by simp at h; subst h; simp
  | b :: l, i + 1, h => by
    have := count_set_true l i (by simpa using h)
    cases b <;> simp [List.set_cons_succ, List.count_cons] <;> omega
theorem wpAny_inv (hlex : lexDeps md ops = true)
    (hend : ∀ listed a w, I listed a w → listed.size = ops.size → (∀ i, i < ops.size → listed.getD i false = true) → Q .normal a w) (hstep : invSteps P md ops I Q 0 ops.toList) :
    ∀ (fuel : Nat) (listed : Array Bool) (a : Act) (w : World), listed.size = ops.size → listed.toList.count false ≤ fuel → I listed a w → wpAny P md ops Q fuel listed a w := by
  intro fuel
  induction fuel with
  | zero =>
    intro listed a w hs hc hI
    have hr : Region.ready md ops listed = [] := by
      rw [List.eq_nil_iff_forall_not_mem]
      intro j hj
      obtain ⟨h1, o, h2, _⟩ := mem_ready.1 hj
      have hjs : j < listed.size := by rw [hs]; exact (Array.getElem?_eq_some_iff.1 h2).1
      have : false ∈ listed.toList := by
        simp only [Array.getD_eq_getD_getElem?, Array.getElem?_eq_getElem hjs, Option.getD_some] at h1
        rw [← h1]; simp
      have := List.count_pos_iff.2 this
      omega
    exact ⟨hr, hend listed a w hI hs fun i hi => all_listed hlex hs hr (i + 1) i (by omega) hi⟩
  | succ fuel ih =>
    intro listed a w hs hc hI
    refine ⟨fun hr => hend listed a w hI hs fun i hi => all_listed hlex hs hr (i + 1) i (by omega) hi, fun i hi => ?_⟩
    obtain ⟨h1, o, h2, h3⟩ := mem_ready.1 hi
    have his : i < listed.size := by rw [hs]; exact (Array.getElem?_eq_some_iff.1 h2).1
    have hget : listed.toList[i]? = some false := by
      simp only [Array.getD_eq_getD_getElem?, Array.getElem?_eq_getElem his, Option.getD_some] at h1
      rw [Array.getElem?_toList, Array.getElem?_eq_getElem his, h1]
    have hcc := count_set_true _ _ hget
    have hnext : ∀ a' w', I (listed.setIfInBounds i true) a' w' → wpAny P md ops Q fuel (listed.setIfInBounds i true) a' w' := fun a' w' hI' =>
      ih _ a' w' (by simpa using hs) (by rw [Array.toList_setIfInBounds]; omega) hI'
    have hk := invSteps_at ops.toList 0 i o hstep (by simpa using h2) listed a w hI (by simpa using h1) h3
    rw [Nat.zero_add] at hk
    unfold wpOp
    simp only [h2]
    split
    · rename_i hw
      rw [if_pos hw] at hk
      exact .inl (Oper.wp_mono hnext hk)
    · rename_i hw
      rw [if_neg hw] at hk
      exact hnext _ _ hk
/-- a drawn region by an invariant -/
theorem region_inv {id : Nat} {a : Act} {w : World} {l : List Oper} (I : Array Bool → Act → World → Prop) (hm : P.follows .mixedOrders = true) (hlex : lexDeps .any l.toArray = true)
    (h0 : I (Array.replicate l.length false) a w.drew) (hend : ∀ listed a w, I listed a w → listed.size = l.length → (∀ i, i < l.length → listed.getD i false = true) → Q .normal a w)
    (hstep : invSteps P .any l.toArray I Q 0 l) : (Code.region id l.toArray true).wp P Q a w :=
  wp_region_any hm (wpAny_inv hlex (fun listed a w h hs hall => hend listed a w h (by simpa using hs) (fun i hi => hall i (by simpa using hi))) (by simpa using hstep) _ _ _ _ (by simp) (by simp) (by simpa using h0))
end
end Go.Proofs.Ytdebgkjekcppmaa
