/- Lemmas for CodeTells, part 7: walks of the functions that it reaches, and the plain laws behind them. -/
import Derived.Test.YtbcjfppdeapamaaDoorRows
import Derived.Deep.Slices
import Derived.ChangeSame
import Derived.Lay
import Derived.LaidMore
import Derived.Lib.LaidU8
import Derived.HandedShaped
import Derived.Stop.LaidErr
import Derived.Shelf.Vars
import Derived.Test.YtbcjfppdeapamaaDoorCodeTellsK6
set_option linter.unusedSimpArgs false
set_option linter.unusedVariables false
namespace Go.Proofs.YtbcjfppdeapamaaDoor
open Go.ChangeShapes Go.WideShapes Go.ChangeAt Go.RowKit Oct
open Go.ChangeMaps (open_string shut_string)

section
variable {P : Program} {H : Type} {enc : TypeId × Value → H} {W : World} {α β γ : Type}

/-- whatever the cells of a type read as, they hold an x; its measure is at most the datum's bulk -/
def Opens (enc : TypeId × Value → H) (P : Program) (W : World) (t : TypeId) (mu : α → Nat) (He : List Value → α → Prop) : Prop :=
  ∀ n cs d ps, DataW.trod enc P W 0 (fun _ => true) true n t cs = some (d, ps) → (∀ x ∈ d.weights P t, x ≤ reachBytes) → ∃ x, He cs x ∧ mu x ≤ Rows.uptoBulk d
theorem bulk_range (D : Nat → DataW H) (f : Nat → α) (mu : α → Nat) : ∀ n, (∀ i, i < n → mu (f i) ≤ Rows.uptoBulk (D i)) → (((List.range n).map f).map mu).sum ≤ Rows.uptoBulkAll ((List.range n).map D)
  | 0, _ => by simp
  | n + 1, h => by
    have ih := bulk_range D f mu n (fun i hi => h i (by omega))
    have app : ∀ (l r : List (DataW H)), Rows.uptoBulkAll (l ++ r) = Rows.uptoBulkAll l + Rows.uptoBulkAll r := by
      intro l r
      induction l with
      | nil => simp [Rows.uptoBulkAll]
      | cons x l ih => simp only [List.cons_append, Rows.uptoBulkAll, ih]; omega
    have := h n (by omega)
    simp only [List.range_succ, List.map_append, List.sum_append, app, List.map_cons, List.map_nil, List.sum_cons, List.sum_nil, Rows.uptoBulkAll]
    omega

theorem Opens.imp {t : TypeId} {mu : α → Nat} {He He' : List Value → α → Prop} (h : Opens enc P W t mu He) (hi : ∀ cs x, He cs x → He' cs x) : Opens enc P W t mu He' := by
  intro n cs d ps hd hw
  obtain ⟨x, hx, hb⟩ := h n cs d ps hd hw
  exact ⟨x, hi _ _ hx, hb⟩
/-- v is a row of elements of 'size' cells -/
def SliceOf (W : World) (size : Nat) (He : List Value → α → Prop) (v : Value) (xs : List α) : Prop :=
  ∃ a cap, v = .slice a xs.length cap ∧ xs.length ≤ cap ∧ (a = none → xs.length = 0 ∧ cap = 0) ∧
    ∀ k (h : k < xs.length), ∃ b off cs, a = some ⟨b, off, none⟩ ∧ cs.length = size ∧ (∀ j u, cs[j]? = some u → W.cell? ⟨b, off + k * size + j, none⟩ = some u) ∧ He cs xs[k]

theorem weights_all_mem (e : TypeId) : ∀ (ds : List (DataW H)) (d : DataW H), d ∈ ds → ∀ x ∈ d.weights P e, x ∈ DataW.weightsAll P e ds
  | [], _, h => by simp at h
  | d0 :: ds, d, h => by
    intro x hx
    rw [DataW.weightsAll]
    rcases List.mem_cons.1 h with rfl | h
    · exact List.mem_append.2 (.inl hx)
    · exact List.mem_append.2 (.inr (weights_all_mem e ds d h x hx))

theorem opens_str {t : TypeId} (ht : P.underlying t = some .string) : Opens enc P W t (fun l : List UInt8 => l.length + 1) fun cs (l : List UInt8) => cs = [.string (bs l)] ∧ l.length ≤ 140737488355328 := by
  intro n cs d ps h hw
  obtain ⟨s, rfl, hx, _⟩ := DataW.trod_string ht h
  simp only [Prod.mk.injEq] at hx
  obtain ⟨rfl, rfl⟩ := hx
  have := hw s.data.toList.length (by simp [DataW.weights])
  have h2 := reachBytes_lt
  exact ⟨s.data.toList, ⟨by rw [bs_of], by omega⟩, by simp [Rows.uptoBulk]⟩
theorem opens_int {t : TypeId} {k : IntKind} (ht : P.underlying t = some (.int k)) : Opens enc P W t (fun _ => 1) fun cs (a : Int) => cs = [.int k a] ∧ (Lit.int k a).wf = true := by
  intro n cs d ps h hw
  obtain ⟨a, rfl, hx, hwf⟩ := DataW.trod_int ht h
  simp only [Prod.mk.injEq] at hx
  obtain ⟨rfl, rfl⟩ := hx
  exact ⟨a, ⟨rfl, hwf⟩, by simp [Rows.uptoBulk]⟩
theorem opens_struct2 {t : TypeId} {f0 f1 : Field} {c0 c1 : Nat} {m0 : α → Nat} {m1 : β → Nat} {H0 : List Value → α → Prop} {H1 : List Value → β → Prop} (ht : P.underlying t = some (.struct #[f0, f1])) (hc : P.cellsOf t = c0 + c1)
    (hc0 : P.cellsOf f0.type = c0) (hc1 : P.cellsOf f1.type = c1) (o0 : f0.offset = 0) (o1 : f1.offset = c0)
    (h0 : Opens enc P W f0.type m0 H0) (h1 : Opens enc P W f1.type m1 H1) : Opens enc P W t (fun p => m0 p.1 + m1 p.2 + 1) fun cs (p : α × β) => ∃ cs0 cs1, cs = cs0 ++ cs1 ∧ cs0.length = c0 ∧ cs1.length = c1 ∧ H0 cs0 p.1 ∧ H1 cs1 p.2 := by
  intro n cs d ps h hw
  obtain ⟨y0, y1, m, hx, hl, e0, e1⟩ := trod_struct2 ht h
  simp only [Prod.mk.injEq] at hx
  obtain ⟨rfl, rfl⟩ := hx
  have hw' : ∀ x, x ∈ y0.1.weights P f0.type ∨ x ∈ y1.1.weights P f1.type → x ≤ reachBytes := by
    intro x hx
    refine hw x ?_
    simp only [DataW.weights, ht, DataW.weightsEach, List.map_cons, List.mem_append]
    rcases hx with hx | hx
    · exact .inl hx
    · exact .inr (.inl hx)
  obtain ⟨x0, k0, b0⟩ := h0 _ _ _ _ e0 (fun x hx => hw' x (.inl hx))
  obtain ⟨x1, k1, b1⟩ := h1 _ _ _ _ e1 (fun x hx => hw' x (.inr hx))
  rw [o0, hc0, List.drop_zero] at k0
  rw [o1, hc1] at k1
  refine ⟨(x0, x1), ⟨cs.take c0, (cs.drop c0).take c1, ?_, ?_, ?_, k0, k1⟩, by simp only [Rows.uptoBulk, Rows.uptoBulkAll]; omega⟩
  · have : (cs.drop c0).take c1 = cs.drop c0 := List.take_of_length_le (by simp; omega)
    rw [this, List.take_append_drop]
  · simp; omega
  · simp; omega
theorem opens_slice {t e : TypeId} {size : Nat} {mu : α → Nat} {He : List Value → α → Prop} (ht : P.underlying t = some (.slice e)) (hc : P.cellsOf e = size) (hpos : 0 < size) (he : Opens enc P W e mu He) :
    Opens enc P W t (fun xs => (xs.map mu).sum + 1) fun cs (xs : List α) => ∃ v, cs = [v] ∧ SliceOf W size He v xs ∧ xs.length * P.bytesOf e ≤ reachBytes := by
  intro n cs d ps h hw
  rcases Deep.open_slice ht h with ⟨rfl, hx⟩ | ⟨a, len, cap, m, n', D, Pl, rfl, _, hl, hm, hmm, hx, hcell⟩
  · simp only [Prod.mk.injEq] at hx
    obtain ⟨rfl, _⟩ := hx
    exact ⟨[], ⟨_, rfl, ⟨none, 0, rfl, Nat.le_refl _, fun _ => ⟨rfl, rfl⟩, fun k hk => by simp at hk⟩, by simp⟩, by simp [Rows.uptoBulk]⟩
  · simp only [Prod.mk.injEq] at hx
    obtain ⟨rfl, _⟩ := hx
    simp only [if_true] at hmm
    subst hmm
    have hin : ∀ i, i < len → ∀ x ∈ (D i).weights P e, x ≤ reachBytes := by
      intro i hi x hx
      refine hw x ?_
      simp only [DataW.weights, ht]
      exact List.mem_cons.2 (.inr (List.mem_append.2 (.inl (weights_all_mem e _ (D i) (List.mem_map.2 ⟨i, by simpa using hi, rfl⟩) x hx))))
    have each : ∀ i, i < len → ∃ x : α, (∃ cs', W.cells? 0 (a.add (i * size)) size = some cs' ∧ He cs' x) ∧ mu x ≤ Rows.uptoBulk (D i) := by
      intro i hi
      obtain ⟨cs', h1, h2⟩ := hcell i (by omega)
      rw [hc] at h1
      obtain ⟨x, hx, hb⟩ := he _ _ _ _ h2 (hin i hi)
      exact ⟨x, ⟨cs', h1, hx⟩, hb⟩
    have hlen := hw ((len + (m - len)) * P.bytesOf e) (by simp [DataW.weights, ht])
    have hlb : len * P.bytesOf e ≤ (len + (m - len)) * P.bytesOf e := Nat.mul_le_mul_right _ (by omega)
    by_cases h0 : len = 0
    · subst h0
      exact ⟨[], ⟨_, rfl, ⟨some a, m, rfl, Nat.zero_le _, by simp, fun k hk => by simp at hk⟩, by simp⟩, by simp [Rows.uptoBulk]⟩
    obtain ⟨x0, _⟩ := each 0 (by omega)
    haveI : Inhabited α := ⟨x0⟩
    obtain ⟨f, hf⟩ := Deep.choose_lt each
    have haddr : a = ⟨a.block, a.off, none⟩ := by
      obtain ⟨⟨cs', h1, _⟩, _⟩ := hf 0 (by omega)
      obtain ⟨_, hl', hcs⟩ := World.cells?_some h1
      have h2 := hcs 0 (by omega)
      rw [Nat.zero_mul] at h2
      have h3 : ∃ u, cs'[0]? = some u := ⟨cs'[0]'(by omega), List.getElem?_eq_getElem _⟩
      obtain ⟨u, hu⟩ := h3
      rw [hu] at h2
      have := add_cell (a := a.add 0) (i := 0) h2
      simpa [Addr.add] using this
    have hbulk := bulk_range D f mu len (fun i hi => (hf i hi).2)
    refine ⟨(List.range len).map f, ⟨_, rfl, ⟨some a, m, by simp, by simpa using hl, by simp, ?_⟩, ?_⟩, by simp only [Rows.uptoBulk]; omega⟩
    · intro k hk
      have hk' : k < len := by simpa using hk
      obtain ⟨⟨cs', h1, hHe⟩, _⟩ := hf k hk'
      obtain ⟨_, hl', hcs⟩ := World.cells?_some h1
      refine ⟨a.block, a.off, cs', by rw [← haddr], hl', ?_, by simpa using hHe⟩
      intro j u hj
      have hjl : j < size := by
        rcases Nat.lt_or_ge j size with h | h
        · exact h
        · rw [List.getElem?_eq_none (by omega)] at hj; cases hj
      have h2 := hcs j hjl
      rw [haddr, hj, Addr.add_lit, Addr.add_lit] at h2
      rw [← h2]
    · simp only [List.length_map, List.length_range]; omega

theorem open_any {t j : Nat} {v : Value} {d : DataW H} {ps : List MemPlace} {ts : List TypeId} {ds : List (DataW H)} {mu : α → Nat} {He : List Value → α → Prop} (ho : Opens enc P W t mu He)
    (h : DataW.Trod enc P W 0 (fun _ => true) true t v d ps) (hsz : (DataW.weightsEach P ts ds).all (· ≤ reachBytes) = true) (hj : ts[j]? = some t) (hd : ds[j]? = some d) : ∃ x, He v.cells.toList x ∧ mu x ≤ Rows.uptoBulk d := by
  obtain ⟨fuel, hf⟩ := h
  refine ho _ _ _ _ hf fun x hx => ?_
  simpa using List.all_eq_true.1 hsz x (DataW.weights_mem_each hj hd x hx)
theorem cells_slice {base : Nat} {t e : TypeId} {v v' : Value} (ht : P.underlying t = some (.slice e)) (hv : Value.okWide P W .any base t v) (h : v.cells.toList = [v']) : v = v' := by
  obtain ⟨a0, len, cap, rfl⟩ := okWide_slice ht hv
  simpa [Value.cells] using h
end
end Go.Proofs.YtbcjfppdeapamaaDoor
namespace Go.Proofs.YtbcjfppdeapamaaDoor
open Go.ChangeShapes Go.WideShapes Go.ChangeAt Go.RowKit Oct

section
variable {H : Type} {enc : TypeId × Value → H} {W : World}
theorem rec_of {α : Type} (R : Rec α) {He : List Value → α → Prop} (hcs0 : ∀ cs x, He cs x → cs = R.cell x) {v : Value} {xs : List α} (h : SliceOf W R.n He v xs) : R.Row W v xs ∧ ∀ x ∈ xs, ∃ cs, He cs x := by
  obtain ⟨a, cap, rfl, hle, hn, hc⟩ := h
  have hpos := R.pos
  refine ⟨⟨⟨a, cap, rfl, hn, ?_⟩, a, cap, rfl, hle⟩, ?_⟩
  · intro j u hj
    have hjl : j < xs.length * R.n := by
      rcases Nat.lt_or_ge j (xs.length * R.n) with h | h
      · exact h
      · rw [List.getElem?_eq_none (by rw [Rec.cells_length]; exact h)] at hj; cases hj
    have hk : j / R.n < xs.length := Nat.div_lt_of_lt_mul (by rw [Nat.mul_comm]; exact hjl)
    obtain ⟨b, off, cs, ha, hl, hcell, hcs⟩ := hc (j / R.n) hk
    obtain rfl := hcs0 _ _ hcs
    refine ⟨b, off, ha, ?_⟩
    have hm : j % R.n < R.n := Nat.mod_lt _ hpos
    have hu : (R.cell xs[j / R.n])[j % R.n]? = some ((R.cell xs[j / R.n])[j % R.n]'(by rw [R.len]; exact hm)) := List.getElem?_eq_getElem _
    have h1 := R.cells_at xs (j / R.n) hk (j % R.n) _ hu
    have e : j / R.n * R.n + j % R.n = j := Nat.div_add_mod' j R.n
    rw [e, hj] at h1
    have h2 := hcell (j % R.n) _ hu
    rw [← Option.some.inj h1, Nat.add_assoc, e] at h2
    exact h2
  · intro p hp
    obtain ⟨k, hk, rfl⟩ := List.getElem_of_mem hp
    obtain ⟨_, _, cs, _, _, _, h⟩ := hc k hk
    exact ⟨cs, h⟩
set_option maxRecDepth 100000 in
theorem open_strs {base j : Nat} {v : Value} {d : DataW H} {ps : List MemPlace} {ts : List TypeId} {ds : List (DataW H)}
    (hv : Value.okWide Tryd.prog W .any base 22 v) (h : DataW.Trod enc Tryd.prog W 0 (fun _ => true) true 22 v d ps) (hsz : (DataW.weightsEach Tryd.prog ts ds).all (· ≤ reachBytes) = true) (hj : ts[j]? = some 22) (hd : ds[j]? = some d) :
    ∃ l : List (List UInt8), recS.Row W v l ∧ l.length ≤ 140737488355328 ∧ ∀ s ∈ l, s.length ≤ 140737488355328 := by
  have ho : Opens enc Tryd.prog W 22 _ _ := opens_slice (size := 1) Tryd.underlying22 (by kernel_rfl) (by decide) (opens_str Tryd.underlying9)
  obtain ⟨l, ⟨v', hcs, h1, h2⟩, _⟩ := open_any ho h hsz hj hd
  obtain rfl := cells_slice Tryd.underlying22 hv hcs
  have hby : Tryd.prog.bytesOf 9 = 16 := by kernel_rfl
  rw [hby] at h2
  have h3 := reachBytes_lt
  obtain ⟨h4, h5⟩ := rec_of recS (fun cs x h => h.1) h1
  exact ⟨l, h4, by omega, fun s hs => by obtain ⟨cs, _, h⟩ := h5 s hs; exact h⟩
end
end Go.Proofs.YtbcjfppdeapamaaDoor
namespace Go.Proofs.YtbcjfppdeapamaaDoor
open Go.ChangeShapes Go.WideShapes Go.ChangeAt Go.RowKit Oct

theorem u8_nat {a : Int} (h : (Lit.int .u8 a).wf = true) : ∃ r : UInt8, a = (r.toNat : Int) := by
  have h2 : 0 ≤ a ∧ a < 256 := by
    simp [Lit.wf, IntKind.min, IntKind.max, IntKind.signed, IntKind.bits] at h
    omega
  refine ⟨UInt8.ofNat a.toNat, ?_⟩
  rw [UInt8.toNat_ofNat']
  omega
section
variable {H : Type} {enc : TypeId × Value → H} {W : World}
theorem Opens.mapV {P : Program} {α β : Type} {t : TypeId} {mu : α → Nat} {mu' : β → Nat} {He : List Value → α → Prop} {He' : List Value → β → Prop} (h : Opens enc P W t mu He) (hi : ∀ cs x, He cs x → ∃ y, He' cs y ∧ mu' y ≤ mu x) : Opens enc P W t mu' He' := by
  intro n cs d ps hd hw
  obtain ⟨x, hx, hb⟩ := h n cs d ps hd hw
  obtain ⟨y, hy, hm⟩ := hi _ _ hx
  exact ⟨y, hy, Nat.le_trans hm hb⟩
theorem opens_ins : Opens enc Tryd.prog W 39 (fun _ : VI => 0) fun cs x => cs = recIns.cell x := by
  refine Opens.mapV (opens_struct2 (c0 := 1) (c1 := 1) Tryd.underlying39 (by kernel_rfl) (by kernel_rfl) (by kernel_rfl) rfl rfl (opens_int (k := .u8) Tryd.underlying5) (opens_int (k := .u8) Tryd.underlying5)) ?_
  rintro cs ⟨a, b⟩ ⟨cs0, cs1, rfl, _, _, ⟨rfl, h0⟩, rfl, h1⟩
  obtain ⟨r0, rfl⟩ := u8_nat h0
  obtain ⟨r1, rfl⟩ := u8_nat h1
  exact ⟨(r0, r1), rfl, Nat.zero_le _⟩
set_option maxRecDepth 100000 in
theorem open_prog {base j : Nat} {v : Value} {d : DataW H} {ps : List MemPlace} {ts : List TypeId} {ds : List (DataW H)}
    (hv : Value.okWide Tryd.prog W .any base 25 v) (h : DataW.Trod enc Tryd.prog W 0 (fun _ => true) true 25 v d ps) (hsz : (DataW.weightsEach Tryd.prog ts ds).all (· ≤ reachBytes) = true) (hj : ts[j]? = some 25) (hd : ds[j]? = some d) :
    ∃ (tv cv : Value) (texts : List (List UInt8)) (code : List VI), v = .agg #[tv, cv] ∧ ProgR W tv cv texts code := by
  have h3 := reachBytes_lt
  have o1 : Opens enc Tryd.prog W 22 _ _ := opens_slice (size := 1) Tryd.underlying22 (by kernel_rfl) (by decide) (opens_str Tryd.underlying9)
  have o2 : Opens enc Tryd.prog W 23 _ _ := opens_slice (size := 2) Tryd.underlying23 (by kernel_rfl) (by decide) opens_ins
  obtain ⟨⟨texts, code⟩, ⟨cs0, cs1, hcs, _, _, ⟨tv, rfl, h1, h2⟩, cv, rfl, h4, h5⟩, _⟩ := open_any (opens_struct2 (c0 := 1) (c1 := 1) Tryd.underlying25 (by kernel_rfl) (by kernel_rfl) (by kernel_rfl) rfl rfl o1 o2) h hsz hj hd
  have hb1 : Tryd.prog.bytesOf 9 = 16 := by kernel_rfl
  have hb2 : Tryd.prog.bytesOf 39 = 2 := by kernel_rfl
  rw [hb1] at h2
  rw [hb2] at h5
  obtain ⟨r1, r2⟩ := rec_of recS (fun cs x h => h.1) h1
  obtain ⟨r3, _⟩ := rec_of recIns (fun cs x h => h) h4
  obtain ⟨cs, rfl, hsize⟩ := okWide_struct Tryd.underlying25 hv
  refine ⟨tv, cv, texts, code, ?_, ⟨r1, r3, ?_, ?_, fun s hs => by obtain ⟨cs, _, h⟩ := r2 s hs; exact h⟩⟩
  · have e : cs.toList = [tv, cv] := by simpa [Value.cells] using hcs
    rw [show cs = #[tv, cv] from by rw [← Array.toArray_toList (xs := cs), e]]
  · have h2' : texts.length * 16 ≤ reachBytes := h2
    omega
  · have h5' : code.length * 2 ≤ reachBytes := h5
    omega
end

theorem str_eqV {s : ByteArray} {l : List UInt8} (h : s.data.toList = l) : Value.string s = .string (bs l) := by subst h; rw [bs_of]
end Go.Proofs.YtbcjfppdeapamaaDoor
namespace Go.Proofs.YtbcjfppdeapamaaDoor
open Go.ChangeShapes Go.WideShapes Go.ChangeAt Go.RowKit Oct
section
variable {H : Type} {enc : TypeId × Value → H} {W : World}
set_option maxRecDepth 100000 in
theorem open_ins {base j : Nat} {v : Value} {d : DataW H} {ps : List MemPlace} {ts : List TypeId} {ds : List (DataW H)}
    (hv : Value.okWide Tryd.prog W .any base 39 v) (h : DataW.Trod enc Tryd.prog W 0 (fun _ => true) true 39 v d ps) (hsz : (DataW.weightsEach Tryd.prog ts ds).all (· ≤ reachBytes) = true) (hj : ts[j]? = some 39) (hd : ds[j]? = some d) :
    ∃ x : VI, v = .agg #[.int .u8 (x.1.toNat : Int), .int .u8 (x.2.toNat : Int)] := by
  obtain ⟨x, hcs, _⟩ := open_any opens_ins h hsz hj hd
  obtain ⟨cs, rfl, hsize⟩ := okWide_struct Tryd.underlying39 hv
  refine ⟨x, ?_⟩
  have e : cs.toList = [.int .u8 (x.1.toNat : Int), .int .u8 (x.2.toNat : Int)] := by
    have h2 : cs.toList = recIns.cell x := by simpa [Value.cells] using hcs
    exact h2
  rw [show cs = #[.int .u8 (x.1.toNat : Int), .int .u8 (x.2.toNat : Int)] from by rw [← Array.toArray_toList (xs := cs), e]]
theorem u16_nat {a : Int} (h : (Lit.int .u16 a).wf = true) : ∃ n : Nat, a = (n : Int) ∧ n ≤ 65535 := by
  have h2 : 0 ≤ a ∧ a < 65536 := by
    simp [Lit.wf, IntKind.min, IntKind.max, IntKind.signed, IntKind.bits] at h
    omega
  exact ⟨a.toNat, by omega, by omega⟩
/-- the lifting, with a condition on the world and the world's shape -/
theorem handed_met_shaped {a : Assume} {C : Checked} {os : Os} {f : FuncId} {fn : Func} {s : ChangeSpec} {conds : List PathCond} {apart fresh handsOn again : Bool} {X : World → Array Value → Prop}
    (hX : ∀ (w w' : World) (args : Array Value), w.heap = w'.heap → X w args → X w' args)
    (own : ownKnob C.prog.godebug = none) (started : os.Started) (noInit : C.prog.inits.idxOf? f = none) (hfn : C.prog.funcs[f]? = some fn)
    (witness : ∃ (w : World) (tape : Tape) (i : Input), w.os = os ∧ (w.forCall tape i).Shaped C.prog ∧ i.vars = [] ∧ Input.okWide C.prog (w.forCall tape i) .any w.heap.size f i ∧
      ((s.pre enc C.prog fn conds apart (w.forCall tape i).memory i.args ∧ X (w.forCall tape i).memory i.args) ∧ sizedMet enc C.prog fn (OpenSpec.ofChange s) apart (w.forCall tape i).memory i.args) ∧ a.holds C.prog (lone (Frame.enter C.prog f i.args .normal) [] (w.forCall tape i)))
    (contract : ∀ (W : World) (base : Nat) (args : Array Value) (ds gs : List (DataW H)) (before : List MemPlace),
      (∀ (j : Nat) t v, fn.params[j]? = some t → args[j]? = some v → Value.okWide C.prog W .any base t v) →
      DataW.Whole enc C.prog fn.params.toList s.vars apart W args.toList ds gs before →
      (DataW.weightsEach C.prog (fn.params.toList ++ s.plain.varTypes C.prog) (ds ++ gs)).all (· ≤ reachBytes) = true → X W args → W.ShapedOpen C.prog →
      Calls C.prog f args W fun e W' => ∃ v, e = .returned v ∧ s.post enc C.prog fn apart fresh handsOn again W args v W') :
    ReturnsInHanded a C os f .any (fun w args => (s.pre enc C.prog fn conds apart w args ∧ X w args) ∧ sizedMet enc C.prog fn (OpenSpec.ofChange s) apart w args) (s.post enc C.prog fn apart fresh handsOn again) := by
  refine returnsInHanded_of_calls own started noInit witness ?_
  intro w tape i _ hsh _ hok hpre _
  obtain ⟨_, _, _, fn', hfn', _, _, _, _, hval⟩ := hok
  have e : fn' = fn := Option.some.inj (hfn'.symm.trans hfn)
  subst e
  obtain ⟨⟨⟨ds, gs, before, hw, _⟩, hx⟩, hz⟩ := hpre
  have hw' := DataW.Whole.of_heap (w' := w.forCall tape i) (by rfl) hw
  refine (contract (w.forCall tape i) w.heap.size i.args ds gs before hval hw' (hz.weights hw) (hX _ _ _ (by rfl) hx) hsh).mono fun e W' ⟨v, he, hp⟩ => ?_
  subst he
  exact ChangeSpec.post_blind hp
end
/-- what is listed of the package's variables for Code -/
def laidC : List (String × DataW Unit) := [("math/bits.deBruijn32tab", Rows.laid_math_bits_deBruijn32tab), ("math/bits.deBruijn64tab", Rows.laid_math_bits_deBruijn64tab), ("internal/strconv.uint64pow10", Rows.laid_internal_strconv_uint64pow10), ("strconv.ErrRange", Rows.laid_strconv_ErrRange), ("strconv.ErrSyntax", Rows.laid_strconv_ErrSyntax), ("maslin/code.names" /- 0 -/, Rows.laid_maslin_code_names)]
theorem laid_names : Rows.laid_maslin_code_names (H := Unit) /- 0 -/ = .agg (namesC.map fun e => .lit (.string e)) := by kernel_rfl
theorem laid_pow : Rows.laid_internal_strconv_uint64pow10 (H := Unit) /- 0 -/ = Lib.tabData .u64 Lib.pow10Tab := by kernel_rfl
theorem str_eqC {s : ByteArray} {l : List UInt8} (h : s.data.toList = l) : Value.string s = .string (bs l) := by subst h; rw [bs_of]
set_option maxRecDepth 100000 in
theorem names_of_laid {W : World} (h : laidMet Tryd.prog laidC W) : ∀ k, k < 24 → W.cell? ⟨0, k, none⟩ = some (.string (bs (namesC.getD k []))) := by
  obtain ⟨g, t, cs, fuel, p, hg, ht, hv, hd⟩ := Lib.laidMet.reads (n := "maslin/code.names") (d := Rows.laid_maslin_code_names) h (.tail _ (.tail _ (.tail _ (.tail _ (.tail _ (.head _))))))
  obtain rfl := Option.some.inj ((show Tryd.prog.globalNamed "maslin/code.names" = some 0 by kernel_rfl).symm.trans hg)
  obtain rfl := Option.some.inj ((show (Tryd.prog.globals[0]?).map (·.type) = some 63 by kernel_rfl).symm.trans ht)
  rw [laid_names] at hd
  obtain ⟨xs, m, _, ex, _, hl, hel⟩ := DataW.trod_array Tryd.underlying63 hd
  have c1 : Tryd.prog.cellsOf 9 = 1 := by kernel_rfl
  have e3 : xs.map (·.1) = namesC.map fun e => .lit (.string e) := (DataW.agg.inj (Prod.mk.inj ex).1).symm
  have hlen : namesC.length = 24 := by decide
  intro k hk
  have hE := hel k hk
  rw [c1, List.getElem?_eq_getElem (by omega)] at hE
  have e4 : (xs.map (·.1))[k]? = (namesC.map fun e => (DataW.lit (.string e) : DataW Unit))[k]? := by rw [e3]
  rw [List.getElem?_map, List.getElem?_map, List.getElem?_eq_getElem (by omega : k < xs.length), List.getElem?_eq_getElem (by omega : k < namesC.length)] at e4
  obtain ⟨s0, q0, hy0, _⟩ := DataW.trod_string Tryd.underlying9 hE
  rw [hy0] at e4
  simp only [Option.map_some, Option.some.injEq, DataW.lit.injEq, Lit.string.injEq] at e4
  have hd' : namesC.getD k [] = namesC[k]'(by omega) := by rw [List.getD, List.getElem?_eq_getElem (by omega : k < namesC.length)]; rfl
  rw [World.var?_cell hg hv, hd', ← str_eqC e4]
  have : ((cs.toList.drop (k * 1)).take 1)[0]? = some (.string s0) := by rw [q0]; rfl
  simpa using this
theorem errRow (u : TypeId) (h : Tryd.prog.typeName? 3 u = some "*errors.errorString") : u = 107 :=
  have hs : "*" ++ "errors.errorString" = "*errors.errorString" := by decide
  typeName_ptr_named (nm := "errors.errorString") (by rw [hs]; kernel_rfl) (by kernel_rfl) (by decide) u (by rw [hs]; exact h)
set_option maxRecDepth 100000 in
theorem glob_of_laid {W : World} (h0 : laidMetH Tryd.prog laidC W) (hsh : W.ShapedOpen Tryd.prog) : GlobC W := by
  have h := h0
  rw [MakeChecks.laidMetH_plain _ _ _ (by kernel_rfl)] at h
  refine ⟨names_of_laid h, ?_, ?_, ?_, ?_⟩
  · have h2 := h.tail.tail
    rw [laid_pow] at h2
    exact Lib.tabIs_of_head (g := 4) (t := 98) (e := 84) (n := 20) (by kernel_rfl) (by kernel_rfl) Tryd.underlying98 Tryd.underlying84 (by kernel_rfl) (by kernel_rfl) h2
  · have hg : Tryd.prog.globalNamed "strconv.ErrSyntax" = some 2 := by kernel_rfl
    obtain ⟨a, s, hv, _, _, _⟩ := laid_sentinel h.tail.tail.tail.tail hg (by kernel_rfl) Tryd.underlying67 errRow Tryd.underlying107 Tryd.underlying109 rfl rfl Tryd.underlying9 (by kernel_rfl) (by kernel_rfl)
    exact ⟨_, _, by rw [World.var?_cell hg hv]; rfl⟩
  · have hg : Tryd.prog.globalNamed "strconv.ErrRange" = some 3 := by kernel_rfl
    obtain ⟨a, s, hv, _, _, _⟩ := laid_sentinel h.tail.tail.tail hg (by kernel_rfl) Tryd.underlying67 errRow Tryd.underlying107 Tryd.underlying109 rfl rfl Tryd.underlying9 (by kernel_rfl) (by kernel_rfl)
    exact ⟨_, _, by rw [World.var?_cell hg hv]; rfl⟩
  · exact cell_of_shapedOpen_int (zero := #[.int .i64 0]) (t := 3) hsh (of_decide_eq_true (by kernel_rfl)) (by kernel_rfl) rfl (by kernel_rfl) (by kernel_rfl) Tryd.underlying3
end Go.Proofs.YtbcjfppdeapamaaDoor
