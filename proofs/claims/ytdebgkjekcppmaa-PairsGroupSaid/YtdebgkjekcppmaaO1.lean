/- Arguments of any depth, opened. -/
import Derived.Test.YtdebgkjekcppmaaO0
import Derived.Test.YtdebgkjekcppmaaRows
import Derived.Deep.Slices
import Derived.ChangeSame
namespace Go.Proofs.Ytdebgkjekcppmaa
open Go.ChangeShapes Go.WideShapes Go.ChangeAt Go.RowKit Oct
open Go.ChangeMaps (open_string shut_string)

section
variable {P : Program} {H : Type} {enc : TypeId × Value → H} {W : World} {α β γ : Type}

/-- whatever the cells of a type read as, they hold an x; its measure is at most the datum's bulk -/
def Opens (enc : TypeId × Value → H) (P : Program) (W : World) (t : TypeId) (mu : α → Nat) (He : List Value → α → Prop) : Prop :=
  ∀ n cs d ps, DataW.trod enc P W 0 (fun _ => true) true n t cs = some (d, ps) → (∀ x ∈ d.weights P t, x ≤ reachBytes) → ∃ x, He cs x ∧ mu x ≤ Rows.uptoBulk d
theorem bulk_range (D : Nat → DataW H) (f : Nat → α) (mu : α → Nat) : ∀ n, (∀ i, i < n → mu (f i) ≤ Rows.uptoBulk (D i)) → (((List.range n).map f).map mu).sum ≤ Rows.uptoBulkAll ((List.range n).map D)
  | 0, _ => by simp
  | n + 1, h => by
    have ih := bulk_range D f mu n (fun i hi => h i (by omega))
    have app : ∀ (l r : List (DataW H)), Rows.uptoBulkAll (l ++ r) = Rows.uptoBulkAll l + Rows.uptoBulkAll r := by
      intro l r
      induction l with
      | nil => simp [Rows.uptoBulkAll]
      | cons x l ih => simp only [List.cons_append, Rows.uptoBulkAll, ih]; omega
    have := h n (by omega)
    simp only [List.range_succ, List.map_append, List.sum_append, app, List.map_cons, List.map_nil, List.sum_cons, List.sum_nil, Rows.uptoBulkAll]
    omega

theorem Opens.imp {t : TypeId} {mu : α → Nat} {He He' : List Value → α → Prop} (h : Opens enc P W t mu He) (hi : ∀ cs x, He cs x → He' cs x) : Opens enc P W t mu He' := by
  intro n cs d ps hd hw
  obtain ⟨x, hx, hb⟩ := h n cs d ps hd hw
  exact ⟨x, hi _ _ hx, hb⟩
/-- v is a row of elements of 'size' cells -/
def SliceOf (W : World) (size : Nat) (He : List Value → α → Prop) (v : Value) (xs : List α) : Prop :=
  ∃ a cap, v = .slice a xs.length cap ∧ xs.length ≤ cap ∧ (a = none → xs.length = 0 ∧ cap = 0) ∧
    ∀ k (h : k < xs.length), ∃ b off cs, a = some ⟨b, off, none⟩ ∧ cs.length = size ∧ (∀ j u, cs[j]? = some u → W.cell? ⟨b, off + k * size + j, none⟩ = some u) ∧ He cs xs[k]

theorem weights_all_mem (e : TypeId) : ∀ (ds : List (DataW H)) (d : DataW H), d ∈ ds → ∀ x ∈ d.weights P e, x ∈ DataW.weightsAll P e ds
  | [], _, h => by simp at h
  | d0 :: ds, d, h => by
    intro x hx
    rw [DataW.weightsAll]
    rcases List.mem_cons.1 h with rfl | h
    · exact List.mem_append.2 (.inl hx)
    · exact List.mem_append.2 (.inr (weights_all_mem e ds d h x hx))

theorem opens_str {t : TypeId} (ht : P.underlying t = some .string) : Opens enc P W t (fun l : List UInt8 => l.length + 1) fun cs (l : List UInt8) => cs = [.string (bs l)] ∧ l.length ≤ 140737488355328 := by
  intro n cs d ps h hw
  obtain ⟨s, rfl, hx, _⟩ := DataW.trod_string ht h
  simp only [Prod.mk.injEq] at hx
  obtain ⟨rfl, rfl⟩ := hx
  have := hw s.data.toList.length (by simp [DataW.weights])
  have h2 := reachBytes_lt
  exact ⟨s.data.toList, ⟨by rw [bs_of], by omega⟩, by simp [Rows.uptoBulk]⟩
theorem opens_int {t : TypeId} {k : IntKind} (ht : P.underlying t = some (.int k)) : Opens enc P W t (fun _ => 1) fun cs (a : Int) => cs = [.int k a] ∧ (Lit.int k a).wf = true := by
  intro n cs d ps h hw
  obtain ⟨a, rfl, hx, hwf⟩ := DataW.trod_int ht h
  simp only [Prod.mk.injEq] at hx
  obtain ⟨rfl, rfl⟩ := hx
  exact ⟨a, ⟨rfl, hwf⟩, by simp [Rows.uptoBulk]⟩
theorem opens_struct2 {t : TypeId} {f0 f1 : Field} {c0 c1 : Nat} {m0 : α → Nat} {m1 : β → Nat} {H0 : List Value → α → Prop} {H1 : List Value → β → Prop} (ht : P.underlying t = some (.struct #[f0, f1])) (hc : P.cellsOf t = c0 + c1)
    (hc0 : P.cellsOf f0.type = c0) (hc1 : P.cellsOf f1.type = c1) (o0 : f0.offset = 0) (o1 : f1.offset = c0)
    (h0 : Opens enc P W f0.type m0 H0) (h1 : Opens enc P W f1.type m1 H1) : Opens enc P W t (fun p => m0 p.1 + m1 p.2 + 1) fun cs (p : α × β) => ∃ cs0 cs1, cs = cs0 ++ cs1 ∧ cs0.length = c0 ∧ cs1.length = c1 ∧ H0 cs0 p.1 ∧ H1 cs1 p.2 := by
  intro n cs d ps h hw
  obtain ⟨y0, y1, m, hx, hl, e0, e1⟩ := trod_struct2 ht h
  simp only [Prod.mk.injEq] at hx
  obtain ⟨rfl, rfl⟩ := hx
  have hw' : ∀ x, x ∈ y0.1.weights P f0.type ∨ x ∈ y1.1.weights P f1.type → x ≤ reachBytes := by
    intro x hx
    refine hw x ?_
    simp only [DataW.weights, ht, DataW.weightsEach, List.map_cons, List.mem_append]
    rcases hx with hx | hx
    · exact .inl hx
    · exact .inr (.inl hx)
  obtain ⟨x0, k0, b0⟩ := h0 _ _ _ _ e0 (fun x hx => hw' x (.inl hx))
  obtain ⟨x1, k1, b1⟩ := h1 _ _ _ _ e1 (fun x hx => hw' x (.inr hx))
  rw [o0, hc0, List.drop_zero] at k0
  rw [o1, hc1] at k1
  refine ⟨(x0, x1), ⟨cs.take c0, (cs.drop c0).take c1, ?_, ?_, ?_, k0, k1⟩, by simp only [Rows.uptoBulk, Rows.uptoBulkAll]; omega⟩
  · have : (cs.drop c0).take c1 = cs.drop c0 := List.take_of_length_le (by simp; omega)
    rw [this, List.take_append_drop]
  · simp; omega
  · simp; omega
theorem opens_slice {t e : TypeId} {size : Nat} {mu : α → Nat} {He : List Value → α → Prop} (ht : P.underlying t = some (.slice e)) (hc : P.cellsOf e = size) (hpos : 0 < size) (he : Opens enc P W e mu He) :
    Opens enc P W t (fun xs => (xs.map mu).sum + 1) fun cs (xs : List α) => ∃ v, cs = [v] ∧ SliceOf W size He v xs ∧ xs.length * P.bytesOf e ≤ reachBytes := by
  intro n cs d ps h hw
  rcases Deep.open_slice ht h with ⟨rfl, hx⟩ | ⟨a, len, cap, m, n', D, Pl, rfl, _, hl, hm, hmm, hx, hcell⟩
  · simp only [Prod.mk.injEq] at hx
    obtain ⟨rfl, _⟩ := hx
    exact ⟨[], ⟨_, rfl, ⟨none, 0, rfl, Nat.le_refl _, fun _ => ⟨rfl, rfl⟩, fun k hk => by simp at hk⟩, by simp⟩, by simp [Rows.uptoBulk]⟩
  · simp only [Prod.mk.injEq] at hx
    obtain ⟨rfl, _⟩ := hx
    simp only [if_true] at hmm
    subst hmm
    have hin : ∀ i, i < len → ∀ x ∈ (D i).weights P e, x ≤ reachBytes := by
      intro i hi x hx
      refine hw x ?_
      simp only [DataW.weights, ht]
      exact List.mem_cons.2 (.inr (List.mem_append.2 (.inl (weights_all_mem e _ (D i) (List.mem_map.2 ⟨i, by simpa using hi, rfl⟩) x hx))))
    have each : ∀ i, i < len → ∃ x : α, (∃ cs', W.cells? 0 (a.add (i * size)) size = some cs' ∧ He cs' x) ∧ mu x ≤ Rows.uptoBulk (D i) := by
      intro i hi
      obtain ⟨cs', h1, h2⟩ := hcell i (by omega)
      rw [hc] at h1
      obtain ⟨x, hx, hb⟩ := he _ _ _ _ h2 (hin i hi)
      exact ⟨x, ⟨cs', h1, hx⟩, hb⟩
    have hlen := hw ((len + (m - len)) * P.bytesOf e) (by simp [DataW.weights, ht])
    have hlb : len * P.bytesOf e ≤ (len + (m - len)) * P.bytesOf e := Nat.mul_le_mul_right _ (by omega)
    by_cases h0 : len = 0
    · subst h0
      exact ⟨[], ⟨_, rfl, ⟨some a, m, rfl, Nat.zero_le _, by simp, fun k hk => by simp at hk⟩, by simp⟩, by simp [Rows.uptoBulk]⟩
    obtain ⟨x0, _⟩ := each 0 (by omega)
    haveI : Inhabited α := ⟨x0⟩
    obtain ⟨f, hf⟩ := Deep.choose_lt each
    have haddr : a = ⟨a.block, a.off, none⟩ := by
      obtain ⟨⟨cs', h1, _⟩, _⟩ := hf 0 (by omega)
      obtain ⟨_, hl', hcs⟩ := World.cells?_some h1
      have h2 := hcs 0 (by omega)
      rw [Nat.zero_mul] at h2
      have h3 : ∃ u, cs'[0]? = some u := ⟨cs'[0]'(by omega), List.getElem?_eq_getElem _⟩
      obtain ⟨u, hu⟩ := h3
      rw [hu] at h2
      have := add_cell (a := a.add 0) (i := 0) h2
      simpa [Addr.add] using this
    have hbulk := bulk_range D f mu len (fun i hi => (hf i hi).2)
    refine ⟨(List.range len).map f, ⟨_, rfl, ⟨some a, m, by simp, by simpa using hl, by simp, ?_⟩, ?_⟩, by simp only [Rows.uptoBulk]; omega⟩
    · intro k hk
      have hk' : k < len := by simpa using hk
      obtain ⟨⟨cs', h1, hHe⟩, _⟩ := hf k hk'
      obtain ⟨_, hl', hcs⟩ := World.cells?_some h1
      refine ⟨a.block, a.off, cs', by rw [← haddr], hl', ?_, by simpa using hHe⟩
      intro j u hj
      have hjl : j < size := by
        rcases Nat.lt_or_ge j size with h | h
        · exact h
        · rw [List.getElem?_eq_none (by omega)] at hj; cases hj
      have h2 := hcs j hjl
      rw [haddr, hj, Addr.add_lit, Addr.add_lit] at h2
      rw [← h2]
    · simp only [List.length_map, List.length_range]; omega

theorem open_any {t j : Nat} {v : Value} {d : DataW H} {ps : List MemPlace} {ts : List TypeId} {ds : List (DataW H)} {mu : α → Nat} {He : List Value → α → Prop} (ho : Opens enc P W t mu He)
    (h : DataW.Trod enc P W 0 (fun _ => true) true t v d ps) (hsz : (DataW.weightsEach P ts ds).all (· ≤ reachBytes) = true) (hj : ts[j]? = some t) (hd : ds[j]? = some d) : ∃ x, He v.cells.toList x ∧ mu x ≤ Rows.uptoBulk d := by
  obtain ⟨fuel, hf⟩ := h
  refine ho _ _ _ _ hf fun x hx => ?_
  simpa using List.all_eq_true.1 hsz x (DataW.weights_mem_each hj hd x hx)
theorem cells_slice {base : Nat} {t e : TypeId} {v v' : Value} (ht : P.underlying t = some (.slice e)) (hv : Value.okWide P W .any base t v) (h : v.cells.toList = [v']) : v = v' := by
  obtain ⟨a0, len, cap, rfl⟩ := okWide_slice ht hv
  simpa [Value.cells] using h
end
end Go.Proofs.Ytdebgkjekcppmaa
