/- Lemmas for TreeTells, part 7: walks of the functions that it reaches, and the plain laws behind them. -/
import Derived.Laws.EntriesVeiled
import Derived.Maps.OwnIn
import Derived.Test.YtahmacnmphjhgaaTreeTellsK6
set_option linter.unusedSimpArgs false
set_option linter.unusedVariables false
namespace Go.Proofs.Ytahmacnmphjhgaa
open Go.RowKit Oct
attribute [local go_sem] Oper.semAt_some
theorem wpG_nilY {P : Program} {ops : Array Oper} {C : World → Prop} {R : World → World → Prop} {F : Nat → Option (Known R)} {Q : Facts → Act → Prop} {k : Nat} {S : Facts} {a : Act} (h : Q S a) : wpG P ops C R F Q k [] S a := h
attribute [local irreducible] wpG

/-- a row of the call's own, in a slot -/
def kOwnR {α : Type} (R : Rec α) (base : Nat) (l : List α) : Known Bel :=
  ⟨Option Addr × Nat, fun x => .slice x.1 l.length x.2, fun x => some fun w => R.Own w base (.slice x.1 l.length x.2) l, fun _ _ h _ _ hφ hB => by cases h; exact Rec.Own.below hφ hB⟩
@[go_sem] theorem kOwnR_val {α : Type} (R : Rec α) (base : Nat) (l : List α) (a : Option Addr) (c : Nat) : (kOwnR R base l).val (a, c) = .slice a l.length c := rfl

/-- append(s, x) in a round, x a slice of one, and what it leaves alone -/
theorem Rec.append1RIn {F : Fence} {kk : Nat} {α : Type} {ops : Array Oper} {rest : List Oper} {o : Oper} {a : Act} {Q : Exit → Act → World → Prop} (R : Rec α) (w : World) (p : α) (hgd : o.guard = none) (s x : Operand) (t : TypeId)
    (ho : o.op = .call { callee := .builtin .append, args := #[s, x], argTypes := #[t, t] }) (ht : Try.prog.underlying t = some (.slice R.e))
    (base : Nat) (v : Value) (xs : List α) (hown : R.Own w base v xs) (hs : a.eval s = v) (vx : Value) (hx : a.eval x = vx) (hr : Reads w vx 1 (R.cell p))
    (hbytes : (xs.length + 1) * R.bytes ≤ 140737488355328) (hbase : base ≤ w.heap.size)
    (h : ∀ g cap w', R.Own w' base (.slice (some ⟨g, 0, none⟩) (xs.length + 1) cap) (xs ++ [p]) → Chg (fun k => v.ownBlock = some k) w w' → (v.ownBlock = some g ∨ w.heap.size ≤ g) →
      wpListIn F kk Try.prog ops Q rest (a.put o.dst (.slice (some ⟨g, 0, none⟩) (xs.length + 1) cap)) w') : wpListIn F kk Try.prog ops Q (o :: rest) a w := by
  obtain ⟨i, hi, hz, hi1, hi2⟩ := info_parts R.info
  have hn : xs.length + 1 ≤ (xs.length + 1) * R.bytes := Nat.le_mul_of_pos_right _ R.bpos
  obtain ⟨ax, c, rfl, hnone, hc⟩ := hr
  cases ax with
  | none => have := (hnone rfl).1; omega
  | some ad =>
    refine wpListIn_append_own_at _ hgd s x t ho base R.e i R.z R.n R.bytes ht hi hz hi1 hi2 R.zs R.pos v xs.length (R.cells xs) hs hown ad 1 c (R.cell p) hx (by simpa using R.len p) ?_ (R.one p) (by unfold maxLen; omega) hbytes hbase ?_
    · intro j u hj
      obtain ⟨b, off, ha, hu⟩ := hc j u hj
      cases ha
      rw [Addr.add_lit]; exact hu
    · intro v' w' h2 h3 _ h5
      obtain ⟨g, cap, rfl⟩ := ownsRow_succ h2
      have hB : Below base w w' := (Below.refl base w).grown h3 hbase (fun k hk => (Rec.Own.lt hown k hk).1)
      refine h g cap w' ?_ ⟨hB.os, hB.tape, hB.output, hB.size, fun j hj hne => h3.block j hj (fun e => hne e.symm)⟩ ?_
      · unfold Rec.Own; rw [R.cells_append, List.length_append, Rec.cells, Rec.cells, List.append_nil]; exact h2
      · have e1 : (Value.slice (some ⟨g, 0, none⟩) (xs.length + 1) cap).ownBlock = some g := rfl
        rw [e1] at h5
        rcases h5 with h4 | h4
        · exact .inl h4.symm
        · exact .inr (by have := Option.some.inj h4; omega)
theorem Rec.append1R {α : Type} {ops : Array Oper} {rest : List Oper} {o : Oper} {a : Act} {Q : Exit → Act → World → Prop} (R : Rec α) (w : World) (p : α) (hgd : o.guard = none) (s x : Operand) (t : TypeId)
    (ho : o.op = .call { callee := .builtin .append, args := #[s, x], argTypes := #[t, t] }) (ht : Try.prog.underlying t = some (.slice R.e))
    (base : Nat) (v : Value) (xs : List α) (hown : R.Own w base v xs) (hs : a.eval s = v) (vx : Value) (hx : a.eval x = vx) (hr : Reads w vx 1 (R.cell p))
    (hbytes : (xs.length + 1) * R.bytes ≤ 140737488355328) (hbase : base ≤ w.heap.size)
    (h : ∀ g cap w', R.Own w' base (.slice (some ⟨g, 0, none⟩) (xs.length + 1) cap) (xs ++ [p]) → Chg (fun k => v.ownBlock = some k) w w' → (v.ownBlock = some g ∨ w.heap.size ≤ g) →
      wpList Try.prog ops Q rest (a.put o.dst (.slice (some ⟨g, 0, none⟩) (xs.length + 1) cap)) w') : wpList Try.prog ops Q (o :: rest) a w := by
  obtain ⟨i, hi, hz, hi1, hi2⟩ := info_parts R.info
  have hn : xs.length + 1 ≤ (xs.length + 1) * R.bytes := Nat.le_mul_of_pos_right _ R.bpos
  obtain ⟨ax, c, rfl, hnone, hc⟩ := hr
  cases ax with
  | none => have := (hnone rfl).1; omega
  | some ad =>
    refine wpList_append_lies _ hgd s x t ho base R.e i R.z R.n R.bytes ht hi hz hi1 hi2 R.zs R.pos v xs.length (R.cells xs) hs hown ad 1 c (R.cell p) hx (by simpa using R.len p) ?_ (R.one p) (by decide) (by unfold maxLen; omega) hbytes hbase _ rfl ?_
    · intro j u hj
      obtain ⟨b, off, ha, hu⟩ := hc j u hj
      cases ha
      rw [Addr.add_lit]; exact hu
    · intro g cap w' h2 h3 h4 h5
      have hB : Below base w w' := (Below.refl base w).grown h3 hbase (fun k hk => (Rec.Own.lt hown k hk).1)
      refine h g cap w' ?_ ⟨hB.os, hB.tape, hB.output, hB.size, fun j hj hne => h3.block j hj (fun e => hne e.symm)⟩ ?_
      · unfold Rec.Own; rw [R.cells_append, List.length_append, Rec.cells, Rec.cells, List.append_nil]; exact h2
      · rcases h4 with h4 | h4
        · exact .inl h4
        · exact .inr (by omega)

/-- nodes, read -/
def NR (w : World) (v : Value) (nodes : List Nd) : Prop := ∃ raw, recN.Row w v raw ∧ raw.length = nodes.length ∧ ∀ i (h : i < raw.length) (h' : i < nodes.length), raw[i].1 = nodes[i].1 ∧ recI.Row w (.slice raw[i].2.1 raw[i].2.2.1 raw[i].2.2.2) nodes[i].2
theorem NR.below {w w' : World} {v : Value} {nodes : List Nd} (h : NR w v nodes) (hB : Below w.heap.size w w') : NR w' v nodes := by
  obtain ⟨raw, h1, h2, h3⟩ := h
  exact ⟨raw, h1.below hB, h2, fun i hi hi' => ⟨(h3 i hi hi').1, (h3 i hi hi').2.below hB⟩⟩
theorem NL.nr {w : World} {base : Nat} {K : Nat → Prop} {nv lv : Value} {nodes : List Nd} {level : List Int} (h : NL w base K nv lv nodes level) : NR w nv nodes := by
  obtain ⟨⟨raw, h1, h2, h3⟩, _, _⟩ := h
  exact ⟨raw, h1.row, h2, fun i hi hi' => ⟨(h3 i hi hi').1, (h3 i hi hi').2.1⟩⟩

theorem NR_open {w : World} {v : Value} {nodes : List Nd} (h : NR w v nodes) : ∃ a c, v = .slice a nodes.length c ∧ nodes.length ≤ c ∧ ∀ k (hk : k < nodes.length), ∃ b off ak nk ck, a = some ⟨b, off, none⟩ ∧ w.cell? ⟨b, off + k * 2, none⟩ = some (.string (bs nodes[k].1)) ∧ w.cell? ⟨b, off + k * 2 + 1, none⟩ = some (.slice ak nk ck) ∧ recI.Row w (.slice ak nk ck) nodes[k].2 := by
  obtain ⟨raw, h1, h2, h3⟩ := h
  obtain ⟨a, c, rfl, hle, hc⟩ := h1.open
  refine ⟨a, c, by rw [h2], by omega, fun k hk => ?_⟩
  obtain ⟨b, off, ha, hu⟩ := hc k (by omega)
  obtain ⟨k1, k2⟩ := h3 k (by omega) hk
  have u0 := hu 0 _ rfl
  have u1 := hu 1 _ rfl
  rw [k1] at u0
  exact ⟨b, off, _, _, _, ha, u0, u1, k2⟩
theorem idsOf_take {nodes : List Nd} {level : List Int} {j : Nat} (h : j < level.length) : idsOf nodes (level.take (j + 1)) = idsOf nodes (level.take j) ++ [(nodes.getD level[j].toNat ([], [])).1] := by
  unfold idsOf; rw [List.take_succ_eq_append_getElem h, List.map_append]; rfl

/-- what Build answers -/
def b23R (w' : World) (l : List (List UInt8)) (e : Ending) : Prop :=
  if allIds l ∧ l.length ≤ 4096 then ∃ v, e = .returned (.tuple #[.agg #[v, .int .i64 (l.length : Int)], .int .i64 0]) ∧ NR w' v (buildF l) else e = .returned (.tuple #[.agg #[.slice none 0 0, .int .i64 0], .int .i64 2])
theorem b23R_no {w' : World} {l : List (List UInt8)} (h : ¬ (allIds l ∧ l.length ≤ 4096)) : b23R w' l (.returned (.tuple #[.agg #[.slice none 0 0, .int .i64 0], .int .i64 2])) := by unfold b23R; rw [if_neg h]
theorem b23R_yes {w' : World} {l : List (List UInt8)} {v : Value} (h : allIds l ∧ l.length ≤ 4096) (ho : NR w' v (buildF l)) : b23R w' l (.returned (.tuple #[.agg #[v, .int .i64 (l.length : Int)], .int .i64 0])) := by unfold b23R; rw [if_pos h]; exact ⟨_, rfl, ho⟩

/-- where the build stands -/
structure Sit (I T L P base : Nat) (fv : Value) (n0 : Int) (U : World) (iv nv lv : Value) (ids : List (List UInt8)) (nodes : List Nd) (level : List Int) : Prop where
  bi : U.heap[I]? = some (.cells #[iv] 40 (0, 0))
  bp : U.heap[P]? = some (.cells #[fv] 89 (0, 0))
  bx : Boxes U L T lv nv n0
  nl : NL U base (fun k => base ≤ k) nv lv nodes level
  ri : recS.Row U iv ids
  ap : ∀ b, iv.ownBlock = some b → b < U.heap.size ∧ b ≠ I ∧ b ≠ T ∧ b ≠ L ∧ b ≠ P ∧ nv.ownBlock ≠ some b ∧ lv.ownBlock ≠ some b
/-- one more was put -/
theorem Sit.put {I T L P base : Nat} {fv : Value} {n0 : Int} {U U' : World} {iv nv lv nv' lv' : Value} {ids : List (List UInt8)} {nodes nodes' : List Nd} {level level' : List Int} (h : Sit I T L P base fv n0 U iv nv lv ids nodes level)
    (hne : I ≠ L ∧ I ≠ T ∧ P ≠ L ∧ P ≠ T ∧ I < base ∧ P < base) (hbx : Boxes U' L T lv' nv' n0) (hnl : NL U' base (fun k => base ≤ k) nv' lv' nodes' level') (hnv : nv.ownBlock = nv'.ownBlock ∨ ∀ b, nv'.ownBlock = some b → U.heap.size ≤ b) (hlv : lv.ownBlock = lv'.ownBlock ∨ ∀ b, lv'.ownBlock = some b → U.heap.size ≤ b)
    (hc : Chg (fun k => k = L ∨ k = T ∨ lv.ownBlock = some k ∨ nv.ownBlock = some k) U U') : Sit I T L P base fv n0 U' iv nv' lv' ids nodes' level' := by
  obtain ⟨h1, h2, h3, h4, h5, h6⟩ := h
  obtain ⟨n1, n2, n3, n4, n5, n6⟩ := hne
  have hL : ∀ k, lv.ownBlock = some k → base ≤ k := fun k hk => (h4.lev.lt k hk).1
  have hN : ∀ k, nv.ownBlock = some k → base ≤ k := fun k hk => by obtain ⟨raw, r1, _⟩ := h4.raw; exact (r1.lt k hk).1
  refine ⟨hc.at h1 ?_, hc.at h2 ?_, hbx, hnl, h5.chg hc fun b hb => ?_, fun b hb => ?_⟩
  · rintro (e | e | e | e)
    · exact n1 e
    · exact n2 e
    · have := hL _ e; omega
    · have := hN _ e; omega
  · rintro (e | e | e | e)
    · exact n3 e
    · exact n4 e
    · have := hL _ e; omega
    · have := hN _ e; omega
  · obtain ⟨k0, k1, k2, k3, k4, k5, k6⟩ := h6 b hb
    rintro (e | e | e | e)
    · exact k3 e
    · exact k2 e
    · exact k6 e
    · exact k5 e
  · obtain ⟨k0, k1, k2, k3, k4, k5, k6⟩ := h6 b hb
    refine ⟨Nat.lt_of_lt_of_le k0 hc.size, k1, k2, k3, k4, ?_, ?_⟩
    · rcases hnv with e | e
      · rw [← e]; exact k5
      · intro e2; have := e b e2; omega
    · rcases hlv with e | e
      · rw [← e]; exact k6
      · intro e2; have := e b e2; omega
theorem Sit.cells {I T L P base : Nat} {fv : Value} {n0 : Int} {U : World} {iv nv lv : Value} {ids : List (List UInt8)} {nodes : List Nd} {level : List Int} (h : Sit I T L P base fv n0 U iv nv lv ids nodes level) :
    U.cell? ⟨I, 0, none⟩ = some iv ∧ U.cell? ⟨P, 0, none⟩ = some fv ∧ U.frozen? ⟨I, 0, none⟩ = false := ⟨cell_of_one h.bi, cell_of_one h.bp, free_of_one h.bi⟩
theorem four_new (w : World) (o1 o2 o3 o4 : Obj) : ((((w.alloc o1).alloc o2).alloc o3).alloc o4).heap[w.heap.size]? = some o1 ∧ ((((w.alloc o1).alloc o2).alloc o3).alloc o4).heap[w.heap.size + 1]? = some o2 ∧ ((((w.alloc o1).alloc o2).alloc o3).alloc o4).heap[w.heap.size + 1 + 1]? = some o3 ∧
    ((((w.alloc o1).alloc o2).alloc o3).alloc o4).heap[w.heap.size + 1 + 1 + 1]? = some o4 ∧ ((((w.alloc o1).alloc o2).alloc o3).alloc o4).heap.size = w.heap.size + 4 ∧ Below w.heap.size w ((((w.alloc o1).alloc o2).alloc o3).alloc o4) := by
  have e1 : (w.alloc o1).heap.size = w.heap.size + 1 := by simp
  have e2 : ((w.alloc o1).alloc o2).heap.size = w.heap.size + 1 + 1 := by simp
  have e3 : (((w.alloc o1).alloc o2).alloc o3).heap.size = w.heap.size + 1 + 1 + 1 := by simp
  refine ⟨?_, ?_, ?_, ?_, by simp, bt (bt (bt (b_alloc _ _) (b_alloc _ _)) (b_alloc _ _)) (b_alloc _ _)⟩
  · rw [Below.heap_alloc _ _ _ (by omega), Below.heap_alloc _ _ _ (by omega), Below.heap_alloc _ _ _ (by omega)]; exact World.alloc_heap_new w o1
  · rw [Below.heap_alloc _ _ _ (by omega), Below.heap_alloc _ _ _ (by omega), ← e1]; exact World.alloc_heap_new _ o2
  · rw [Below.heap_alloc _ _ _ (by omega), ← e2]; exact World.alloc_heap_new _ o3
  · rw [← e3]; exact World.alloc_heap_new _ o4
theorem rangeI_succ (k : Nat) : rangeI (k + 1) = rangeI k ++ [(k : Int)] := by simp [rangeI, List.range_succ]
theorem leaves_succ {l : List (List UInt8)} {k : Nat} (h : k < l.length) : leaves (l.take (k + 1)) = leaves (l.take k) ++ [(l[k], [])] := by
  unfold leaves; rw [List.take_succ_eq_append_getElem h, List.map_append]; rfl
theorem res_cell_tmp {P : Program} {fn : Func} {p u : Tmp} {ty : TypeId} {tmps : Array Value} {w : World} {v : Value} {b : Nat} (hr : fn.results = #[.cell p ty, .tmp u]) (hp : tmps.getD p undef = .pointer (some ⟨b, 0, none⟩))
    (hl : (loadVar ty ⟨b, 0, none⟩).run P w = .ok v w) : (results fn tmps).run P w = .ok (.tuple #[v, tmps.getD u undef]) w := by
  simp only [Array.getD_eq_getD_getElem?] at hp ⊢
  simp [results, hr, Sem.run_bind, Result.andThen, hp, asAddr, hl]
theorem load_tree {w : World} {b : Nat} {x y : Value} (h : w.heap[b]? = some (.cells #[x, y] 44 (0, 0))) : (loadVar 44 ⟨b, 0, none⟩).run Try.prog w = .ok (.agg #[x, y]) w :=
  run_loadVar_row (P := Try.prog) w b 44 44 #[x, y] (0, 0) _ h Try.underlying44 rfl (by kernel_rfl)
/-- t = t -/
theorem Boxes.same {w : World} {L T : Nat} {lv nv : Value} {n0 : Int} (h : Boxes w L T lv nv n0) (hn : L ≠ T) : Boxes ((w.setCell ⟨T, 0, none⟩ nv).setCell ⟨T, 1, none⟩ (.int .i64 n0)) L T lv nv n0 := by
  have h1 := h.setT (u := nv) hn
  refine ⟨(Below.heap_setCell _ _ _ _ hn).trans h1.1, ?_⟩
  have h2 := h1.2
  have hlt := (Array.getElem?_eq_some_iff.1 h2)
  generalize w.setCell ⟨T, 0, none⟩ nv = w' at *
  simp [World.setCell, Array.getElem?_modify, h2]
theorem idsOf_start (l : List (List UInt8)) : idsOf (leaves l) (rangeI l.length) = l := by
  apply List.ext_getElem
  · simp [idsOf, rangeI]
  · intro i h1 h2
    simp [idsOf, rangeI, leaves, List.getD, h2]
theorem leaves_len (l : List (List UInt8)) : (leaves l).length = l.length := by simp [leaves]
theorem rangeI_len (k : Nat) : (rangeI k).length = k := by simp [rangeI]

theorem NL.cut {w : World} {base : Nat} {K : Nat → Prop} {nv lv : Value} {nodes : List Nd} {level : List Int} (h : NL w base K nv lv nodes level) : NL w base K nv (.slice none 0 0) nodes [] := by
  obtain ⟨⟨raw, h1, h2, h3⟩, h4, h5⟩ := h
  exact ⟨⟨raw, h1, h2, fun i hi hi' => ⟨(h3 i hi hi').1, (h3 i hi hi').2.1, fun b hb => ⟨((h3 i hi hi').2.2 b hb).1, ((h3 i hi hi').2.2 b hb).2.1, ((h3 i hi hi').2.2 b hb).2.2.1, by simp [Value.ownBlock]⟩⟩⟩, Rec.Own.nil _ _, fun b _ => by simp [Value.ownBlock]⟩
theorem NL.blk {w : World} {base : Nat} {K : Nat → Prop} {nv lv : Value} {nodes : List Nd} {level : List Int} (h : NL w base K nv lv nodes level) : (∀ b, nv.ownBlock = some b → base ≤ b ∧ b < w.heap.size) ∧ (∀ b, lv.ownBlock = some b → base ≤ b ∧ b < w.heap.size) := by
  obtain ⟨⟨raw, h1, _⟩, h4, _⟩ := h
  exact ⟨h1.lt, h4.lt⟩
theorem NR.tidy {w w' : World} {v : Value} {nodes : List Nd} (h : NR w v nodes) (hc : Tidy w w') : NR w' v nodes := by
  obtain ⟨raw, h1, h2, h3⟩ := h
  exact ⟨raw, ⟨h1.1.tidy hc, h1.2⟩, h2, fun i hi hi' => ⟨(h3 i hi hi').1, ⟨(h3 i hi hi').2.1.tidy hc, (h3 i hi hi').2.2⟩⟩⟩

/-- what holds between two rounds over a level's groups -/
def RI (L T base D : Nat) (n0 : Int) (nv0 : Value) (nodes : List Nd) (level : List Int) (W0 : World) (pre : List (Nat × Nat)) (U : World) : Prop :=
  ∃ nv lv, Boxes U L T lv nv n0 ∧ NL U base (fun k => base ≤ k ∧ k ≠ D ∧ k ≠ D + 1) nv lv (pre.foldl (stepB (idsOf nodes level) level) (nodes, [])).1 (pre.foldl (stepB (idsOf nodes level) level) (nodes, [])).2 ∧
    (nv.ownBlock = nv0.ownBlock ∨ ∀ b, nv.ownBlock = some b → D + 2 ≤ b) ∧ (∀ b, lv.ownBlock = some b → D + 2 ≤ b) ∧ Chg (fun k => k = L ∨ k = T ∨ nv0.ownBlock = some k ∨ D ≤ k) W0 U
theorem RI.chg {L T base D : Nat} {n0 : Int} {nv0 : Value} {nodes : List Nd} {level : List Int} {W0 U U' : World} {pre : List (Nat × Nat)} (h : RI L T base D n0 nv0 nodes level W0 pre U) (hc : Chg (fun k => k = D ∨ k = D + 1) U U') (hL : L < D) (hT : T < D) (hn : ∀ b, nv0.ownBlock = some b → b < D) : RI L T base D n0 nv0 nodes level W0 pre U' := by
  obtain ⟨nv, lv, h1, h2, h3, h4, h5⟩ := h
  refine ⟨nv, lv, h1.chg hc (by omega) (by omega), h2.chg hc (fun k hk _ => ?_), h3, h4, h5.trans (hc.mono fun k hk => by omega)⟩
  rcases hk with hk | hk | hk
  · omega
  · rcases h3 with h3 | h3
    · rw [h3] at hk; have := hn k hk; omega
    · have := h3 k hk; omega
  · have := h4 k hk; omega

/-- a round is over -/
theorem RI.fin {L T base D : Nat} {n0 : Int} {nv0 nv lv nv' lv' : Value} {nodes : List Nd} {level : List Int} {W0 U W' : World} {pre : List (Nat × Nat)} {g : Nat × Nat} {S' : List Nd × List Int} (hn0 : ∀ b, nv0.ownBlock = some b → b < D) (hnv : nv.ownBlock = nv0.ownBlock ∨ ∀ b, nv.ownBlock = some b → D + 2 ≤ b) (hlv : ∀ b, lv.ownBlock = some b → D + 2 ≤ b)
    (hch : Chg (fun k => k = L ∨ k = T ∨ nv0.ownBlock = some k ∨ D ≤ k) W0 U) (hsz : D + 2 ≤ U.heap.size) (hbx : Boxes W' L T lv' nv' n0) (hnl : NL W' base (fun k => base ≤ k ∧ k ≠ D ∧ k ≠ D + 1) nv' lv' S'.1 S'.2)
    (hS : (pre ++ [g]).foldl (stepB (idsOf nodes level) level) (nodes, []) = S') (hnv' : nv.ownBlock = nv'.ownBlock ∨ ∀ b, nv'.ownBlock = some b → U.heap.size ≤ b) (hlv' : lv.ownBlock = lv'.ownBlock ∨ ∀ b, lv'.ownBlock = some b → U.heap.size ≤ b)
    (hc : Chg (fun k => k = L ∨ k = T ∨ lv.ownBlock = some k ∨ nv.ownBlock = some k) U W') (hL : L < D) (hT : T < D) :
    Chg (fun k => ¬ ((k < D ∧ k ≠ L ∧ k ≠ T ∧ nv0.ownBlock ≠ some k) ∨ k = D ∨ k = D + 1)) U W' ∧ RI L T base D n0 nv0 nodes level W0 (pre ++ [g]) W' := by
  have hnn : ∀ k, nv.ownBlock = some k → nv0.ownBlock = some k ∧ k < D ∨ D + 2 ≤ k := fun k hk => by
    rcases hnv with h | h
    · rw [h] at hk; exact .inl ⟨hk, hn0 k hk⟩
    · exact .inr (h k hk)
  refine ⟨hc.mono fun k hk hn => ?_, nv', lv', hbx, by rw [hS]; exact hnl, ?_, ?_, hch.trans (hc.mono fun k hk => ?_)⟩
  · rcases hk with h | h | h | h
    · rcases hn with hn | hn | hn
      · exact hn.2.1 h
      · omega
      · omega
    · rcases hn with hn | hn | hn
      · exact hn.2.2.1 h
      · omega
      · omega
    · have := hlv k h; omega
    · rcases hnn k h with ⟨h2, h3⟩ | h2
      · rcases hn with hn | hn | hn
        · exact hn.2.2.2 h2
        · omega
        · omega
      · omega
  · rcases hnv' with h | h
    · rw [← h]; exact hnv
    · exact .inr fun b hb => Nat.le_trans hsz (h b hb)
  · rcases hlv' with h | h
    · rw [← h]; exact hlv
    · exact fun b hb => Nat.le_trans hsz (h b hb)
  · rcases hk with h | h | h | h
    · exact .inl h
    · exact .inr (.inl h)
    · have := hlv k h; exact .inr (.inr (.inr (by omega)))
    · rcases hnn k h with ⟨h2, h3⟩ | h2
      · exact .inr (.inr (.inl h2))
      · exact .inr (.inr (.inr (by omega)))
/-- one more on the level, in its box -/
theorem lev_put {L T base g cap : Nat} {K : Nat → Prop} {n0 x : Int} {nv lv : Value} {nodes : List Nd} {level : List Int} {U w' w3 : World} (hbx : Boxes U L T lv nv n0) (hnl : NL U base K nv lv nodes level) (hB : Below U.heap.size U w') (hc : Chg (fun k => lv.ownBlock = some k) w' w3)
    (hg : lv.ownBlock = some g ∨ w'.heap.size ≤ g) (ho : recI.Own w3 base (.slice (some ⟨g, 0, none⟩) (level.length + 1) cap) (level ++ [x])) (hLT : L ≠ T) (hL : L < base) (hT : T < base) (hKL : ¬ K L) :
    Boxes (w3.setCell ⟨L, 0, none⟩ (.slice (some ⟨g, 0, none⟩) (level.length + 1) cap)) L T (.slice (some ⟨g, 0, none⟩) (level.length + 1) cap) nv n0 ∧ NL (w3.setCell ⟨L, 0, none⟩ (.slice (some ⟨g, 0, none⟩) (level.length + 1) cap)) base K nv (.slice (some ⟨g, 0, none⟩) (level.length + 1) cap) nodes (level ++ [x]) ∧
      (lv.ownBlock = (Value.slice (some ⟨g, 0, none⟩) (level.length + 1) cap).ownBlock ∨ ∀ b, (Value.slice (some ⟨g, 0, none⟩) (level.length + 1) cap).ownBlock = some b → U.heap.size ≤ b) ∧
      Chg (fun k => k = L ∨ k = T ∨ lv.ownBlock = some k ∨ nv.ownBlock = some k) U (w3.setCell ⟨L, 0, none⟩ (.slice (some ⟨g, 0, none⟩) (level.length + 1) cap)) := by
  have hb1 := hnl.blk.2
  have hcw : Chg (fun k => lv.ownBlock = some k) U w3 := (Chg.of_below hB).trans hc
  have h1 := (hnl.below hB).level (level' := level ++ [x]) hc hg (by rw [List.length_append]; exact ho)
  rw [List.length_append] at h1
  have h2 := h1.chg (Chg.setCell (X := fun k => k = L) w3 ⟨L, 0, none⟩ (.slice (some ⟨g, 0, none⟩) (level.length + 1) cap) rfl) (h1.avoid (hK := hKL) hL)
  refine ⟨Boxes.setL (hbx.chg hcw (fun e => by have := (hb1 _ e).1; omega) (fun e => by have := (hb1 _ e).1; omega)) hLT, h2, ?_, (hcw.mono fun k hk => .inr (.inr (.inl hk))).trans (Chg.setCell _ _ _ (.inl rfl))⟩
  rcases hg with h | h
  · exact .inl h
  · refine .inr fun b hb => ?_
    have e : g = b := by simpa [Value.ownBlock] using hb
    have := hB.size
    omega
theorem stepB_one {ids : List (List UInt8)} {level : List Int} {x : List Nd × List Int} {f t : Nat} (h : t - f = 1) (hf : f < level.length) : (x.1, x.2 ++ [level[f]]) = stepB ids level x (f, t) := by
  unfold stepB
  rw [if_pos h]
  simp [List.getD, hf]
theorem stepB_more {ids : List (List UInt8)} {level : List Int} {x : List Nd × List Int} {f t : Nat} (h : ¬ t - f = 1) : (x.1 ++ [(joinF ((ids.drop f).take (t - f)), (level.drop f).take (t - f))], x.2 ++ [(x.1.length : Int)]) = stepB ids level x (f, t) := by
  unfold stepB
  rw [if_neg h]

set_option maxRecDepth 100000 in
set_option maxHeartbeats 40000000 in
theorem Build_any (v : Value) (l : List (List UInt8)) (w : World) (hr : recS.Row w v l) (hblk : ∀ b, v.ownBlock = some b → b < w.heap.size) (hl : l.length ≤ 140737488355328) (hm : ∀ s ∈ l, s.length ≤ 140737488355328) :
    Calls Try.prog 23 #[v] w fun e w' => b23R w' l e ∧ Below w.heap.size w w' := by
  have HCB := Lib.hid (fun w' (hB : Below w.heap.size w w') => contains_bad v l w' (hr.below hB) hl hm)
  obtain ⟨a, cap, rfl, _⟩ := hr.2
  have HR := Lib.hid hr
  have HBK := Lib.hid hblk
  clear hr hblk hm
  refine calls_of_wp_marks Try.func23 rfl ?_
  simp only [Try.ntmps23, List.size_toArray, List.length_cons, List.length_nil, Nat.reduceAdd, Nat.reduceSub, Array.replicate_succ, Array.replicate_zero, List.push_toArray, List.append_toArray, List.nil_append, List.cons_append]
  cases hq : allIds l with
  | false =>
    have HQ := Lib.hid hq
    rw [hq] at HCB
    clear hq
    go_wp2_with fail
    refine (HCB.out _ (bt (b_alloc _ _) (b_alloc _ _))).mono ?_; rintro e w1 ⟨rfl, rfl⟩
    go_wp2_with fail
    refine ret_marks (B := w.heap.size) (show Marks w.heap.size _ [] from True.intro) ?_
    intro w' ht hbt
    obtain ⟨k1, k2, k3⟩ := two_new w (.cells #[.slice a l.length cap] 40) (.cells #[.slice none 0 0, .int .i64 0] 44)
    refine ⟨_, res_cell_tmp rfl rfl (load_tree (ht.at k2)), b23R_no (by rw [HQ.out]; simp), k3.trans hbt⟩
  | true =>
    have HQ := Lib.hid hq
    rw [hq] at HCB
    clear hq
    by_cases h4 : l.length ≤ 4096
    · have h4' : ¬ (4096 : Int) < (l.length : Int) := by omega
      go_wp2_with fail
      refine (HCB.out _ (bt (b_alloc _ _) (b_alloc _ _))).mono ?_; rintro e w1 ⟨rfl, rfl⟩
      go_wp2_with fail
      obtain ⟨T, hT⟩ : ∃ T, T = w.heap.size + 1 := ⟨_, rfl⟩
      obtain ⟨L, hL⟩ : ∃ L, L = T + 1 := ⟨_, rfl⟩
      obtain ⟨P, hP⟩ : ∃ P, P = L + 1 := ⟨_, rfl⟩
      obtain ⟨FV, hFV⟩ : ∃ FV, FV = Value.func (.func 52) #[] #[.pointer (some ⟨L, 0, none⟩), .pointer (some ⟨T, 0, none⟩)] := ⟨_, rfl⟩
      rw [← hT, ← hL, ← hP]
      obtain ⟨W1, hW1⟩ : ∃ W1, W1 = ((((w.alloc (.cells #[.slice a l.length cap] 40)).alloc (.cells #[.slice none 0 0, .int .i64 (l.length : Int)] 44)).alloc (.cells #[.slice none 0 0] 49)).alloc (.cells #[.func (.func 52) #[] #[.pointer (some ⟨L, 0, none⟩), .pointer (some ⟨T, 0, none⟩)]] 89)) := ⟨_, rfl⟩
      rw [← hW1]
      have h4n := four_new w (.cells #[.slice a l.length cap] 40) (.cells #[.slice none 0 0, .int .i64 (l.length : Int)] 44) (.cells #[.slice none 0 0] 49) (.cells #[.func (.func 52) #[] #[.pointer (some ⟨L, 0, none⟩), .pointer (some ⟨T, 0, none⟩)]] 89)
      rw [← hW1] at h4n
      obtain ⟨k1, k2, k3, k4, hs1, hb1⟩ := h4n
      rw [← hT] at k2 k3 k4
      rw [← hL] at k3 k4
      rw [← hP] at k4
      have hsit : Sit w.heap.size T L P (w.heap.size + 4) FV (l.length : Int) W1 (.slice a l.length cap) (.slice none 0 0) (.slice none 0 0) l (leaves (l.take 0)) (rangeI 0) := by
        refine ⟨k1, by rw [hFV]; exact k4, ⟨k3, k2⟩, ⟨⟨[], Rec.Own.nil _ _, rfl, fun i h => absurd h (by simp)⟩, Rec.Own.nil _ _, fun b h => by simp [Value.ownBlock] at h⟩, HR.out.below hb1, fun b hb => ?_⟩
        have := HBK.out b hb
        exact ⟨by omega, by omega, by omega, by omega, by omega, by simp [Value.ownBlock], by simp [Value.ownBlock]⟩
      clear k1 k2 k3 k4
      have HS1 := Lib.hid hsit
      have HB1 := Lib.hid hb1
      have HS := Lib.hid hs1
      have HT := Lib.hid hT
      have HL := Lib.hid hL
      have HP := Lib.hid hP
      clear hW1 hsit hb1 hs1 hT hL hP
      go_loopw [26] (fun t wr => ∃ k : Nat, ∃ nv lv, t = .int .i64 (k : Int) ∧ k ≤ l.length ∧ Hid (Sit w.heap.size T L P (w.heap.size + 4) FV (l.length : Int) wr (.slice a l.length cap) nv lv l (leaves (l.take k)) (rangeI k)) ∧ Hid (Below w.heap.size w wr)) (fun t _ => l.length - (intOf t).toNat)
      case atStart => exact ⟨0, _, _, rfl, Nat.zero_le _, HS1, HB1⟩
      case round =>
        obtain ⟨k, nv, lv, rfl, hk, HSI, HB⟩ := hrel
        by_cases h0 : k < l.length
        · obtain ⟨a', cap', hv', _, hc⟩ := recS_open HSI.out.ri
          injection hv' with e1 _ e3
          subst e1 e3
          obtain ⟨b, off, rfl, c1⟩ := hc k h0
          obtain ⟨_, c2, _⟩ := HSI.out.cells
          rw [hFV] at c2
          have k0 : (0 : Int) ≤ (k : Int) := by omega
          have k1 : (k : Int) < (l.length : Int) := by omega
          clear hc
          go_wp2_with fail
          refine (put_any (fun k => w.heap.size + 4 ≤ k) l[k] none 0 0 [] L T (w.heap.size + 4) (l.length : Int) (leaves (l.take k)) (rangeI k) nv lv wr HSI.out.bx (by have := HL.out; omega) (by have := HT.out; have := HL.out; omega) (by have := HT.out; omega) (by have := HT.out; have := HL.out; omega) (by have := HT.out; omega) HSI.out.nl (Rec.Row.nil _) (fun b hb => by simp [Value.ownBlock] at hb) (by simp [leaves]; omega) (by rw [rangeI_len]; omega) ?_).mono ?_
          · have h1 := (Array.getElem?_eq_some_iff.1 HSI.out.bp).1
            have := HT.out; have := HL.out; have := HP.out; omega
          rintro e w2 ⟨⟨v2, rfl⟩, nv2, lv2, hbx, hnl, hnv, hlv, hch⟩
          have hle2 : (leaves (l.take k)).length = k := by rw [leaves_len, List.length_take]; omega
          rw [hle2, ← rangeI_succ, ← leaves_succ h0] at hnl
          have hs2 := HSI.out.put (by have := HT.out; have := HL.out; have := HP.out; omega) hbx hnl hnv hlv hch
          have hb2 : Below w.heap.size w w2 := HB.out.trans (hch.below (fun j hj => by
            rcases hj with e | e | e | e
            · have := HT.out; have := HL.out; omega
            · have := HT.out; omega
            · have := (HSI.out.nl.lev.lt j e).1; omega
            · obtain ⟨raw, r1, _⟩ := HSI.out.nl.raw; have := (r1.lt j e).1; omega) HB.out.size)
          have HS2 := Lib.hid hs2
          have HB2 := Lib.hid hb2
          clear hbx hnl hnv hlv hch hle2 hs2 hb2 c1 c2
          go_wp2
          exact ⟨⟨k + 1, nv2, lv2, by go_num, by omega, HS2, HB2⟩, by simp [intOf]; omega⟩
        · obtain rfl : k = l.length := by omega
          have hs0 := HSI.out
          rw [List.take_length] at hs0
          have HS0 := Lib.hid hs0
          clear hs0
          go_wp2
          refine wp_loop (fun a' wr => ∃ x6 x7 x8 x9 x10 x11 x12 x13 x14 x15 x16 x17 x18 x19 x20 x21 x22 x23 x24 x25 x26 x27 x28 x29 x30 x31 x32 x33 x34 x35 x36 x37 x38 x39 x40 x41 x42 x43 x44 x45 x46 x47 x48 x49 x50 x51 x52 x53 x54 x55 x56 x57 x58 x59 x60 x61 x62 x63 x64 x65 x66 x67 x68 x69 x70 x71 x72 x73 x74 x75 x76 x77 x78 x79 x80 x81 x82 x83 x84 x85 x86 x87 : Value, ∃ ds : List Deferred, (∃ (m : Nat) (iv nv lv : Value) (nodes : List Nd) (level : List Int), Hid (Sit w.heap.size T L P (w.heap.size + 4) FV (l.length : Int) wr iv nv lv (idsOf nodes level) nodes level) ∧ Hid (Below w.heap.size w wr) ∧ Hid (Marks w.heap.size wr ds) ∧ Hid (OkL nodes level) ∧ Hid (levels m nodes level = buildF l) ∧ Hid (level.length ≤ m) ∧ Hid (nodes.length + level.length ≤ 2 * l.length)) ∧ a' = { tmps := (List.toArray (.slice a l.length cap :: .pointer (some ⟨w.heap.size, 0, none⟩) :: .pointer (some ⟨T, 0, none⟩) :: .int .i64 0 :: .pointer (some ⟨L, 0, none⟩) :: .pointer (some ⟨P, 0, none⟩) :: x6 :: x7 :: x8 :: x9 :: x10 :: x11 :: x12 :: x13 :: x14 :: x15 :: x16 :: x17 :: x18 :: x19 :: x20 :: x21 :: x22 :: x23 :: x24 :: x25 :: x26 :: x27 :: x28 :: x29 :: x30 :: x31 :: x32 :: x33 :: x34 :: x35 :: x36 :: x37 :: x38 :: x39 :: x40 :: x41 :: x42 :: x43 :: x44 :: x45 :: x46 :: x47 :: x48 :: x49 :: x50 :: x51 :: x52 :: x53 :: x54 :: x55 :: x56 :: x57 :: x58 :: x59 :: x60 :: x61 :: x62 :: x63 :: x64 :: x65 :: x66 :: x67 :: x68 :: x69 :: x70 :: x71 :: x72 :: x73 :: x74 :: x75 :: x76 :: x77 :: x78 :: x79 :: x80 :: x81 :: x82 :: x83 :: x84 :: x85 :: x86 :: x87 :: [])), defers := ds }) (fun _ wr => mlen (wr.cell? ⟨L, 0, none⟩)) ?_ ?_
          · (repeat apply Exists.intro)
            refine ⟨?_, rfl⟩
            exact ⟨l.length, _, _, _, leaves l, rangeI l.length, by rw [idsOf_start]; exact HS0, HB, trivial, OkL.start l HQ.out, rfl, by unfold Hid; rw [rangeI_len]; exact Nat.le_refl _, by unfold Hid; rw [rangeI_len, leaves_len]; omega⟩
          · intro _ wr hinv
            (obtain ⟨x6, hinv⟩ := hinv; obtain ⟨x7, hinv⟩ := hinv; obtain ⟨x8, hinv⟩ := hinv; obtain ⟨x9, hinv⟩ := hinv; obtain ⟨x10, hinv⟩ := hinv; obtain ⟨x11, hinv⟩ := hinv; obtain ⟨x12, hinv⟩ := hinv; obtain ⟨x13, hinv⟩ := hinv; obtain ⟨x14, hinv⟩ := hinv; obtain ⟨x15, hinv⟩ := hinv; obtain ⟨x16, hinv⟩ := hinv; obtain ⟨x17, hinv⟩ := hinv; obtain ⟨x18, hinv⟩ := hinv; obtain ⟨x19, hinv⟩ := hinv; obtain ⟨x20, hinv⟩ := hinv; obtain ⟨x21, hinv⟩ := hinv; obtain ⟨x22, hinv⟩ := hinv; obtain ⟨x23, hinv⟩ := hinv; obtain ⟨x24, hinv⟩ := hinv; obtain ⟨x25, hinv⟩ := hinv; obtain ⟨x26, hinv⟩ := hinv; obtain ⟨x27, hinv⟩ := hinv; obtain ⟨x28, hinv⟩ := hinv; obtain ⟨x29, hinv⟩ := hinv; obtain ⟨x30, hinv⟩ := hinv; obtain ⟨x31, hinv⟩ := hinv; obtain ⟨x32, hinv⟩ := hinv; obtain ⟨x33, hinv⟩ := hinv; obtain ⟨x34, hinv⟩ := hinv; obtain ⟨x35, hinv⟩ := hinv; obtain ⟨x36, hinv⟩ := hinv; obtain ⟨x37, hinv⟩ := hinv; obtain ⟨x38, hinv⟩ := hinv; obtain ⟨x39, hinv⟩ := hinv; obtain ⟨x40, hinv⟩ := hinv; obtain ⟨x41, hinv⟩ := hinv; obtain ⟨x42, hinv⟩ := hinv; obtain ⟨x43, hinv⟩ := hinv; obtain ⟨x44, hinv⟩ := hinv; obtain ⟨x45, hinv⟩ := hinv; obtain ⟨x46, hinv⟩ := hinv; obtain ⟨x47, hinv⟩ := hinv; obtain ⟨x48, hinv⟩ := hinv; obtain ⟨x49, hinv⟩ := hinv; obtain ⟨x50, hinv⟩ := hinv; obtain ⟨x51, hinv⟩ := hinv; obtain ⟨x52, hinv⟩ := hinv; obtain ⟨x53, hinv⟩ := hinv; obtain ⟨x54, hinv⟩ := hinv; obtain ⟨x55, hinv⟩ := hinv; obtain ⟨x56, hinv⟩ := hinv; obtain ⟨x57, hinv⟩ := hinv; obtain ⟨x58, hinv⟩ := hinv; obtain ⟨x59, hinv⟩ := hinv; obtain ⟨x60, hinv⟩ := hinv; obtain ⟨x61, hinv⟩ := hinv; obtain ⟨x62, hinv⟩ := hinv; obtain ⟨x63, hinv⟩ := hinv; obtain ⟨x64, hinv⟩ := hinv; obtain ⟨x65, hinv⟩ := hinv; obtain ⟨x66, hinv⟩ := hinv; obtain ⟨x67, hinv⟩ := hinv; obtain ⟨x68, hinv⟩ := hinv; obtain ⟨x69, hinv⟩ := hinv; obtain ⟨x70, hinv⟩ := hinv; obtain ⟨x71, hinv⟩ := hinv; obtain ⟨x72, hinv⟩ := hinv; obtain ⟨x73, hinv⟩ := hinv; obtain ⟨x74, hinv⟩ := hinv; obtain ⟨x75, hinv⟩ := hinv; obtain ⟨x76, hinv⟩ := hinv; obtain ⟨x77, hinv⟩ := hinv; obtain ⟨x78, hinv⟩ := hinv; obtain ⟨x79, hinv⟩ := hinv; obtain ⟨x80, hinv⟩ := hinv; obtain ⟨x81, hinv⟩ := hinv; obtain ⟨x82, hinv⟩ := hinv; obtain ⟨x83, hinv⟩ := hinv; obtain ⟨x84, hinv⟩ := hinv; obtain ⟨x85, hinv⟩ := hinv; obtain ⟨x86, hinv⟩ := hinv; obtain ⟨x87, hinv⟩ := hinv)
            obtain ⟨ds, hinv⟩ := hinv
            obtain ⟨hrel, ha⟩ := hinv
            subst ha
            obtain ⟨m, iv, nv, lv, nodes, level, HSI, HB, HM, HOK, HLV, HLM, HSUM⟩ := hrel
            obtain ⟨an, cn, al, cl, rfl, rfl⟩ := HSI.out.nl.slice
            obtain ⟨ai, ci, rfl, _, _⟩ := recS_open HSI.out.ri
            obtain ⟨c1, c2, f1⟩ := HSI.out.cells
            obtain ⟨d1, d2, d3, g1, g2, g3⟩ := HSI.out.bx.cells
            by_cases hn : 1 < level.length
            · have hn1 : (1 : Int) < (level.length : Int) := by omega
              have HN := Lib.hid hn
              clear hn
              have hba := b_alloc wr (.cells #[.slice al level.length cl] 49)
              have e1 := Below.keeps hba d1
              have e2 : (wr.alloc (.cells #[.slice al level.length cl] 49)).frozen? ⟨L, 0, none⟩ = false := (hba.frozen (p := ⟨L, 0, none⟩) (lt_of_cell d1)).trans g1
              have hcs : Chg (fun k => k = L) (wr.alloc (.cells #[.slice al level.length cl] 49)) ((wr.alloc (.cells #[.slice al level.length cl] 49)).setCell ⟨L, 0, none⟩ (.slice none 0 0)) := Chg.setCell _ _ _ rfl
              have e3 := hcs.cell (Below.keeps hba c1) (by have := HT.out; have := HL.out; show ¬ w.heap.size = L; omega)
              go_wp2_with fail
              obtain ⟨Wa, hWa⟩ : ∃ Wa, Wa = ((wr.alloc (.cells #[.slice al level.length cl] 49)).setCell ⟨L, 0, none⟩ (.slice none 0 0)) := ⟨_, rfl⟩
              rw [← hWa] at e3 hcs ⊢
              have hsa : Wa.heap.size = wr.heap.size + 1 := by rw [hWa, size_setC]; simp
              have hlS : L ≠ wr.heap.size := by have := lt_of_cell d1; intro e; rw [e] at this; exact Nat.lt_irrefl _ this
              have hSa : Wa.heap[wr.heap.size]? = some (.cells #[.slice al level.length cl] 49 (0, 0)) := by rw [hWa]; exact (Below.heap_setCell _ _ _ _ (Ne.symm hlS)).trans (World.alloc_heap_new wr _)
              have hbxa := Boxes.setL (u := .slice none 0 0) (HSI.out.bx.chg (X := fun _ => False) (Chg.of_below hba) (fun h => h) (fun h => h)) (by have := HL.out; omega)
              rw [← hWa] at hbxa
              have hca : Chg (fun k => k = L) wr Wa := (Chg.of_below hba).trans hcs
              refine (groups23_mk (.slice ai (idsOf nodes level).length ci) Wa rfl).mono ?_; rintro e W0 ⟨rfl, hW0⟩
              have hs0 : W0.heap.size = wr.heap.size + 2 := by rw [hW0]; simp [hsa]
              have hG0 : W0.heap[Wa.heap.size]? = some (.cells #[.slice ai (idsOf nodes level).length ci] 40 (0, 0)) := by rw [hW0]; exact World.alloc_heap_new Wa _
              have hba0 : Below Wa.heap.size Wa W0 := by rw [hW0]; exact b_alloc Wa _
              rw [hsa] at hG0
              have HWA := Lib.hid hsa
              have hc0 : Chg (fun k => k = L) wr W0 := hca.trans (Chg.of_below hba0)
              have hS0 := (Chg.of_below (X := fun _ => False) hba0).at hSa (fun h => h)
              have hbx0 := hbxa.chg (X := fun _ => False) (Chg.of_below hba0) (fun h => h) (fun h => h)
              have hnl0 := (HSI.out.nl.chg hc0 (HSI.out.nl.avoid (hK := by have := HT.out; have := HL.out; omega) (by have := HT.out; have := HL.out; omega))).cut
              rw [hsa]
              clear e1 e2 e3 hcs hSa hbxa hca hW0 hba0 hWa hsa hba
              go_wp2
              have hnvb := HSI.out.nl.blk
              have hIT : w.heap.size < T ∧ T < L ∧ L < P ∧ P < wr.heap.size ∧ P < w.heap.size + 4 := by have := HT.out; have := HL.out; have := HP.out; have := (Array.getElem?_eq_some_iff.1 HSI.out.bp).1; omega
              have hwas := (HSI.out.nl.lev.row.chg hc0 (fun b hb => by have := (hnvb.2 b hb).1; have := HT.out; have := HL.out; omega))
              have hids := HSI.out.ri.chg hc0 (fun b hb => by obtain ⟨_, _, _, k3, _⟩ := HSI.out.ap b hb; exact k3)
              have hI0 := hc0.at HSI.out.bi (by omega)
              have hP0 := hc0.at HSI.out.bp (by omega)
              have HWAS := Lib.hid hwas
              have HIDS := Lib.hid hids
              have HI0 := Lib.hid hI0
              have HP0 := Lib.hid hP0
              have HS0' := Lib.hid hS0
              have HC0 := Lib.hid hc0
              have HBX0 := Lib.hid hbx0
              clear hwas hids hI0 hP0 hS0 hc0
              have hidl := idsOf_length nodes level
              refine wp_range (D := wr.heap.size + 2) hs0 (gf := 69) (lb := #[.pointer (some ⟨wr.heap.size + 1, 0, none⟩)]) rfl (enters_of Try.func69 (by kernel_rfl) rfl)
                (X := fun _ => False) (Y := fun k => k < wr.heap.size + 2 ∧ k ≠ L ∧ k ≠ T ∧ (Value.slice an nodes.length cn).ownBlock ≠ some k) (El := ElSp) (out := groups23 (idsOf nodes level)) (fun k hk => hk.elim) (fun k hk => hk.1)
                (fun W hW => groups23_iter 2 (wr.heap.size + 1) (idsOf nodes level) _ _ W ((hW.block _ (by omega)).trans hG0) (HIDS.out.below (hW.mono (by omega)))
                  (fun b hb => by obtain ⟨k0, _, k2, k3, _, k5, _⟩ := HSI.out.ap b hb; exact ⟨by omega, k3, k2, k5⟩) ⟨by omega, by omega, by omega, fun e => by have := (hnvb.1 _ e).2; omega⟩ (by rw [hidl]; have := HSUM.out; omega) HOK.out.all)
                (fun x vs U h => by rw [show vs = _ from h]; rfl) (fun x vs U U' h hc => h)
                (RI L T (w.heap.size + 4) (wr.heap.size + 2) (l.length : Int) (.slice an nodes.length cn) nodes level W0) (fun _ _ _ => False)
                (fun pre U U' h hc => h.chg (hc.mono fun k hk => by simpa using hk) (by omega) (by omega) (fun b hb => by have := (hnvb.1 b hb).2; omega)) (fun _ _ _ _ h _ => h.elim)
                ⟨_, _, hbx0, hnl0.mono (fun k hk h => ⟨h, by omega, by omega⟩), .inl rfl, fun b h => by simp [Value.ownBlock] at h, Chg.refl _ _⟩ ?round ?done ?stop
              case round =>
                rintro yl pre ⟨f, t⟩ vs U hsz hRI hvs hpre
                obtain rfl : vs = _ := hvs
                obtain ⟨hft, htl, hoks⟩ := fold_pre HOK.out hpre
                clear hRI hpre
                gi_wp2
                refine ⟨b_alloc U _, ?_⟩
                rintro U2 h2 ⟨nv2, lv2, hbx, hnl, hnv, hlv, hch⟩ _ hc2
                have c5 := hc2.at (World.alloc_heap_new U _) (by omega)
                have c6 : U2.cell? ⟨U.heap.size, 0, none⟩ = some (.int .i64 (f : Int)) := by simp [World.cell?, c5]
                have c7 : U2.cell? ⟨U.heap.size, 1, none⟩ = some (.int .i64 (t : Int)) := by simp [World.cell?, c5]
                obtain ⟨X, hX⟩ : ∃ X, X = pre.foldl (stepB (idsOf nodes level) level) (nodes, []) := ⟨_, rfl⟩
                rw [← hX] at hnl hoks
                have hnew : ∀ Y, Y = stepB (idsOf nodes level) level X (f, t) → (pre ++ [(f, t)]).foldl (stepB (idsOf nodes level) level) (nodes, []) = Y := fun Y hY => by rw [List.foldl_append, ← hX, hY]; rfl
                obtain ⟨an2, cn2, al2, cl2, rfl, rfl⟩ := hnl.slice
                have hin : ∀ k, k < wr.heap.size + 2 → k ≠ L → k ≠ T → (Value.slice an nodes.length cn).ownBlock ≠ some k → ¬ (k = L ∨ k = T ∨ (Value.slice an nodes.length cn).ownBlock = some k ∨ wr.heap.size + 2 ≤ k) := fun k h1 h2 h3 h4 h => by
                  rcases h with h | h | h | h
                  · exact h2 h
                  · exact h3 h
                  · exact h4 h
                  · omega
                have hS2 := hch.at HS0'.out (hin _ (by omega) (by omega) (by omega) (fun e => by have := (hnvb.1 _ e).2; omega))
                have hw2 := HWAS.out.chg hch (fun b hb => hin b (by have := (hnvb.2 b hb).2; omega) (by have := (hnvb.2 b hb).1; have := HT.out; have := HL.out; omega) (by have := (hnvb.2 b hb).1; have := HT.out; omega) (fun e => HSI.out.nl.ap b e hb))
                have HBX := Lib.hid hbx
                have HNL := Lib.hid hnl
                have HNV := Lib.hid hnv
                have HLV2 := Lib.hid hlv
                have HCH := Lib.hid hch
                have HOKS := Lib.hid hoks
                have HW2 := Lib.hid hw2
                have HNEW := Lib.hid hnew
                have HIN := Lib.hid hin
                have HX := Lib.hid hX
                have cS := cell_of_one hS2
                obtain ⟨b1, b2, b3, b4, b5, b6⟩ := hbx.cells
                clear hbx hnl hnv hlv hch hoks hw2 hnew hin hS2 hc2 c5 hX
                have i0 : (f : Int) < (t : Int) := by omega
                have i1 : (t : Int) ≤ 1000000 := by have := HSUM.out; omega
                have i2 : (0 : Int) ≤ (f : Int) := by omega
                by_cases h1 : t - f = 1
                · have q1 : ((t : Int) - (f : Int) == 1) = true := by rw [beq_iff_eq]; omega
                  have hfl : f < level.length := by omega
                  obtain ⟨_, _, hv', _, hcl⟩ := recI_open HW2.out
                  injection hv' with e1 _ e3
                  subst e1 e3
                  obtain ⟨b, off, rfl, cf⟩ := hcl f hfl
                  clear hcl
                  have j0 : (0 : Int) ≤ (f : Int) := by omega
                  have j1 : (f : Int) < (level.length : Int) := by omega
                  gi_wp2
                  refine region_tail_in 7 [(0, .exact _ (.slice al2 X.2.length cl2)), (1, .exact _ (.slice (some ⟨b, off, none⟩) level.length cl)), (3, .exact _ (.int .i64 (f : Int))), (5, .exact _ (.int .i64 level[f])), (6, kReads 1 [.int .i64 level[f]])] (by kernel_rfl) (by kernel_rfl) (by kernel_rfl) ?_
                  simp only [List.take_succ_cons, List.take_zero, List.drop_succ_cons, List.drop_zero]
                  refine wpG_exact rfl (by kernel_rfl) (fun w' G hB hS hG => ?_) (fun K hK => ?_)
                  · have c' := Below.keeps hB b1
                    go_simp; exact hG _ (Bel.refl _)
                  go_simp; refine hK _ ?_; clear hK K; (repeat (first | (refine wpG_skip (by kernel_rfl) (fun K hK => ?_); go_big_quiet_skip; refine wpQuiet_nil (hK _ ?_); clear hK K) | (refine wpG_quiet (by rfl) (by rfl) (fun K hK => ?_); go_big_quiet_want; go_big_quiet_op; go_big_quiet_on; refine wpQuiet_nil (hK _ ?_); clear hK K)))
                  refine wpG_exact rfl (by kernel_rfl) (fun w' G hB hS hG => ?_) (fun K hK => ?_)
                  · have c' := Below.keeps hB cS
                    go_simp; exact hG _ (Bel.refl _)
                  go_simp; refine hK _ ?_; clear hK K; (repeat (first | (refine wpG_skip (by kernel_rfl) (fun K hK => ?_); go_big_quiet_skip; refine wpQuiet_nil (hK _ ?_); clear hK K) | (refine wpG_quiet (by rfl) (by rfl) (fun K hK => ?_); go_big_quiet_want; go_big_quiet_op; go_big_quiet_on; refine wpQuiet_nil (hK _ ?_); clear hK K)))
                  refine wpG_exact rfl (by kernel_rfl) (fun w' G hB hS hG => ?_) (fun K hK => ?_)
                  · have c' := Below.keeps hB c6
                    go_simp; exact hG _ (Bel.refl _)
                  go_simp; refine hK _ ?_; clear hK K; (repeat (first | (refine wpG_skip (by kernel_rfl) (fun K hK => ?_); go_big_quiet_skip; refine wpQuiet_nil (hK _ ?_); clear hK K) | (refine wpG_quiet (by rfl) (by rfl) (fun K hK => ?_); go_big_quiet_want; go_big_quiet_op; go_big_quiet_on; refine wpQuiet_nil (hK _ ?_); clear hK K)))
                  refine wpG_exact rfl (by kernel_rfl) (fun w' G hB hS hG => ?_) (fun K hK => ?_)
                  · have c' := Below.keeps hB cf
                    go_simp; exact hG _ (Bel.refl _)
                  go_simp; refine hK _ ?_; clear hK K; (repeat (first | (refine wpG_skip (by kernel_rfl) (fun K hK => ?_); go_big_quiet_skip; refine wpQuiet_nil (hK _ ?_); clear hK K) | (refine wpG_quiet (by rfl) (by rfl) (fun K hK => ?_); go_big_quiet_want; go_big_quiet_op; go_big_quiet_on; refine wpQuiet_nil (hK _ ?_); clear hK K)))
                  refine wpG_known (kReads 1 [.int .i64 level[f]]) rfl (by kernel_rfl) (fun w' G hB hS hG => ?_) (fun x K hK => ?_)
                  · go_simp; exact reads_new hG rfl
                  obtain ⟨ad, c⟩ := x; go_simp; refine hK _ ?_; clear hK K; (repeat (first | (refine wpG_skip (by kernel_rfl) (fun K hK => ?_); go_big_quiet_skip; refine wpQuiet_nil (hK _ ?_); clear hK K) | (refine wpG_quiet (by rfl) (by rfl) (fun K hK => ?_); go_big_quiet_want; go_big_quiet_op; go_big_quiet_on; refine wpQuiet_nil (hK _ ?_); clear hK K)))
                  refine wpG_nilY ?_
                  intro w' hB hA
                  have hrd := all0 hA
                  have HRD := Lib.hid (show Reads w' (.slice ad 1 c) 1 (recI.cell level[f]) from hrd)
                  have HB' := Lib.hid hB
                  clear hB hA hrd
                  have hbase : w.heap.size + 4 ≤ U2.heap.size := by omega
                  refine recI.append1RIn w' level[f] rfl _ _ 49 rfl Try.underlying49 (w.heap.size + 4) _ X.2 (HNL.out.lev.below HB'.out) rfl _ rfl HRD.out (byI (by have := HOKS.out.len; have := HOKS.out.sum; have := HOKS.out.ge; have := HSUM.out; omega)) (Nat.le_trans hbase HB'.out.size) ?_
                  intro g cap3 w3 hown3 hc3 hg3
                  have hput := lev_put HBX.out HNL.out HB'.out hc3 hg3 hown3 (by omega) (by omega) (by omega) (by omega)
                  have HPUT := Lib.hid hput
                  have hb3 := HBX.out.chg ((Chg.of_below HB'.out).trans hc3) (fun e => by have := HLV2.out _ e; omega) (fun e => by have := HLV2.out _ e; omega)
                  obtain ⟨_, _, _, f3, _, _⟩ := hb3.cells
                  have c3 := hb3.cells.1
                  clear hown3 hc3 hg3 hput hb3
                  gi_wp2
                  obtain ⟨p1, p2, p3, p4⟩ := HPUT.out
                  exact RI.fin (S' := (X.1, X.2 ++ [level[f]])) (fun b hb => by have := (hnvb.1 b hb).2; omega) HNV.out HLV2.out HCH.out h2 p1 p2 (HNEW.out _ (stepB_one h1 hfl)) (.inl rfl) p3 p4 (by omega) (by omega)
                · have q1 : ((t : Int) - (f : Int) == 1) = false := by rw [beq_eq_false_iff_ne]; omega
                  have q2 : ¬ ((t : Int) - (f : Int) = 1) := by omega
                  have hI2 := HCH.out.at HI0.out (HIN.out _ (by omega) (by omega) (by omega) (fun e => by have := (hnvb.1 _ e).1; omega))
                  have hP2 := HCH.out.at HP0.out (HIN.out _ (by omega) (by omega) (by omega) (fun e => by have := (hnvb.1 _ e).1; omega))
                  have hids2 := HIDS.out.chg HCH.out (fun b hb => by obtain ⟨k0, _, k2, k3, _, k5, _⟩ := HSI.out.ap b hb; exact HIN.out b (by omega) k3 k2 k5)
                  rw [hFV] at hP2
                  have cI := cell_of_one hI2
                  have cP := cell_of_one hP2
                  obtain ⟨ids, hids⟩ : ∃ ids, ids = idsOf nodes level := ⟨_, rfl⟩
                  rw [← hids] at hids2 cI hidl
                  obtain ⟨A1, C1, hrun1, hsub1⟩ := Rec.Row.subRun hids2 40 Try.underlying40 (by intro wx; kernel_rfl) f t (by omega) (by omega)
                  obtain ⟨A2, C2, hrun2, hsub2⟩ := Rec.Row.subRun HW2.out 49 Try.underlying49 (by intro wx; kernel_rfl) f t (by omega) (by omega)
                  have hl1 : ((ids.drop f).take (t - f)).length = t - f := by simp; omega
                  have hl2 : ((level.drop f).take (t - f)).length = t - f := by simp; omega
                  have hm32 : ∀ s ∈ (ids.drop f).take (t - f), s.length ≤ 32 := fun s hs => by
                    have h1 := List.mem_of_mem_drop (List.mem_of_mem_take hs)
                    rw [hids] at h1
                    have := List.all_eq_true.1 HOK.out.all s h1
                    have : s.length = 32 := by simpa [isId] using this
                    omega
                  obtain ⟨S1, hS1⟩ : ∃ S1, S1 = (ids.drop f).take (t - f) := ⟨_, rfl⟩
                  obtain ⟨S2, hS2⟩ : ∃ S2, S2 = (level.drop f).take (t - f) := ⟨_, rfl⟩
                  rw [← hS1] at hsub1 hl1 hm32
                  rw [← hS2] at hsub2 hl2
                  rw [← hl1] at hrun1 hsub1
                  rw [← hl2] at hrun2 hsub2
                  have HL1 := Lib.hid hl1
                  have HL2 := Lib.hid hl2
                  have HM32 := Lib.hid hm32
                  have HSB1 := Lib.hid hsub1
                  have HSB2 := Lib.hid hsub2
                  have HS1' := Lib.hid hS1
                  have HS2' := Lib.hid hS2
                  have HIDL := Lib.hid hidl
                  have HIDS2 := Lib.hid hids
                  clear hl1 hl2 hm32 hsub1 hsub2 hS1 hS2 hI2 hP2 hids2 hidl hids
                  gi_wp2
                  refine region_tail_in 15 [(0, .exact _ (.func (.func 52) #[] #[.pointer (some ⟨L, 0, none⟩), .pointer (some ⟨T, 0, none⟩)])), (1, .exact _ (.slice ai ids.length ci)), (3, .exact _ (.int .i64 (f : Int))), (5, .exact _ (.int .i64 (t : Int))), (7, .exact _ (.string (bs (joinF S1)))), (8, .exact _ (.slice al level.length cl)), (10, .exact _ (.int .i64 (f : Int))), (12, .exact _ (.int .i64 (t : Int))), (14, kOwnR recI U2.heap.size S2)] (by kernel_rfl) (by kernel_rfl) (by kernel_rfl) ?_
                  simp only [List.take_succ_cons, List.take_zero, List.drop_succ_cons, List.drop_zero]
                  refine wpG_exact rfl (by kernel_rfl) (fun w' G hB hS hG => ?_) (fun K hK => ?_)
                  · have c' := Below.keeps hB cP
                    go_simp; exact hG _ (Bel.refl _)
                  go_simp; refine hK _ ?_; clear hK K; (repeat (first | (refine wpG_skip (by kernel_rfl) (fun K hK => ?_); go_big_quiet_skip; refine wpQuiet_nil (hK _ ?_); clear hK K) | (refine wpG_quiet (by rfl) (by rfl) (fun K hK => ?_); go_big_quiet_want; go_big_quiet_op; go_big_quiet_on; refine wpQuiet_nil (hK _ ?_); clear hK K)))
                  refine wpG_exact rfl (by kernel_rfl) (fun w' G hB hS hG => ?_) (fun K hK => ?_)
                  · have c' := Below.keeps hB cI
                    go_simp; exact hG _ (Bel.refl _)
                  go_simp; refine hK _ ?_; clear hK K; (repeat (first | (refine wpG_skip (by kernel_rfl) (fun K hK => ?_); go_big_quiet_skip; refine wpQuiet_nil (hK _ ?_); clear hK K) | (refine wpG_quiet (by rfl) (by rfl) (fun K hK => ?_); go_big_quiet_want; go_big_quiet_op; go_big_quiet_on; refine wpQuiet_nil (hK _ ?_); clear hK K)))
                  refine wpG_exact rfl (by kernel_rfl) (fun w' G hB hS hG => ?_) (fun K hK => ?_)
                  · have c' := Below.keeps hB c6
                    go_simp; exact hG _ (Bel.refl _)
                  go_simp; refine hK _ ?_; clear hK K; (repeat (first | (refine wpG_skip (by kernel_rfl) (fun K hK => ?_); go_big_quiet_skip; refine wpQuiet_nil (hK _ ?_); clear hK K) | (refine wpG_quiet (by rfl) (by rfl) (fun K hK => ?_); go_big_quiet_want; go_big_quiet_op; go_big_quiet_on; refine wpQuiet_nil (hK _ ?_); clear hK K)))
                  refine wpG_exact rfl (by kernel_rfl) (fun w' G hB hS hG => ?_) (fun K hK => ?_)
                  · have c' := Below.keeps hB c7
                    go_simp; exact hG _ (Bel.refl _)
                  go_simp; refine hK _ ?_; clear hK K; (repeat (first | (refine wpG_skip (by kernel_rfl) (fun K hK => ?_); go_big_quiet_skip; refine wpQuiet_nil (hK _ ?_); clear hK K) | (refine wpG_quiet (by rfl) (by rfl) (fun K hK => ?_); go_big_quiet_want; go_big_quiet_op; go_big_quiet_on; refine wpQuiet_nil (hK _ ?_); clear hK K)))
                  refine wpG_exact rfl (by kernel_rfl) (fun w' G hB hS hG => ?_) (fun K hK => ?_)
                  · go_simp
                    exact calls_told hG (join_any _ S1 w' (HSB1.out.below hB) (by have := HL1.out; have := HSUM.out; omega) HM32.out)
                  go_simp; refine hK _ ?_; clear hK K; (repeat (first | (refine wpG_skip (by kernel_rfl) (fun K hK => ?_); go_big_quiet_skip; refine wpQuiet_nil (hK _ ?_); clear hK K) | (refine wpG_quiet (by rfl) (by rfl) (fun K hK => ?_); go_big_quiet_want; go_big_quiet_op; go_big_quiet_on; refine wpQuiet_nil (hK _ ?_); clear hK K)))
                  refine wpG_exact rfl (by kernel_rfl) (fun w' G hB hS hG => ?_) (fun K hK => ?_)
                  · have c' := Below.keeps hB cS
                    go_simp; exact hG _ (Bel.refl _)
                  go_simp; refine hK _ ?_; clear hK K; (repeat (first | (refine wpG_skip (by kernel_rfl) (fun K hK => ?_); go_big_quiet_skip; refine wpQuiet_nil (hK _ ?_); clear hK K) | (refine wpG_quiet (by rfl) (by rfl) (fun K hK => ?_); go_big_quiet_want; go_big_quiet_op; go_big_quiet_on; refine wpQuiet_nil (hK _ ?_); clear hK K)))
                  refine wpG_exact rfl (by kernel_rfl) (fun w' G hB hS hG => ?_) (fun K hK => ?_)
                  · have c' := Below.keeps hB c6
                    go_simp; exact hG _ (Bel.refl _)
                  go_simp; refine hK _ ?_; clear hK K; (repeat (first | (refine wpG_skip (by kernel_rfl) (fun K hK => ?_); go_big_quiet_skip; refine wpQuiet_nil (hK _ ?_); clear hK K) | (refine wpG_quiet (by rfl) (by rfl) (fun K hK => ?_); go_big_quiet_want; go_big_quiet_op; go_big_quiet_on; refine wpQuiet_nil (hK _ ?_); clear hK K)))
                  refine wpG_exact rfl (by kernel_rfl) (fun w' G hB hS hG => ?_) (fun K hK => ?_)
                  · have c' := Below.keeps hB c7
                    go_simp; exact hG _ (Bel.refl _)
                  go_simp; refine hK _ ?_; clear hK K; (repeat (first | (refine wpG_skip (by kernel_rfl) (fun K hK => ?_); go_big_quiet_skip; refine wpQuiet_nil (hK _ ?_); clear hK K) | (refine wpG_quiet (by rfl) (by rfl) (fun K hK => ?_); go_big_quiet_want; go_big_quiet_op; go_big_quiet_on; refine wpQuiet_nil (hK _ ?_); clear hK K)))
                  refine wpG_known (kOwnR recI U2.heap.size S2) rfl (by kernel_rfl) (fun w' G hB hS hG => ?_) (fun x K hK => ?_)
                  · go_simp
                    refine (CloneI_any _ S2 w' (HSB2.out.below hB) (by have := HL2.out; have := HSUM.out; omega)).mono ?_
                    rintro e w'' ⟨v', rfl, hown, hB''⟩
                    obtain ⟨a5, c5, rfl⟩ := owns_slice hown
                    exact ⟨_, rfl, hG (a5, c5) w'' hB'' (fun φ h => by cases h; exact hown.mono hB.size)⟩
                  obtain ⟨ad, c⟩ := x; go_simp; refine hK _ ?_; clear hK K; (repeat (first | (refine wpG_skip (by kernel_rfl) (fun K hK => ?_); go_big_quiet_skip; refine wpQuiet_nil (hK _ ?_); clear hK K) | (refine wpG_quiet (by rfl) (by rfl) (fun K hK => ?_); go_big_quiet_want; go_big_quiet_op; go_big_quiet_on; refine wpQuiet_nil (hK _ ?_); clear hK K)))
                  refine wpG_nilY ?_
                  intro w' hB hA
                  have hk := all0 hA
                  have HKO := Lib.hid (show recI.Own w' U2.heap.size (.slice ad S2.length c) S2 from hk)
                  have HB' := Lib.hid hB
                  clear hB hA hk
                  gi_wp2
                  have hbase : w.heap.size + 4 ≤ w'.heap.size := by have := HB'.out.size; omega
                  refine ⟨trivial, CallsIn.inRound _ (callsIn_wide.2 ((put_any (fun k => w.heap.size + 4 ≤ k ∧ k ≠ wr.heap.size + 2 ∧ k ≠ wr.heap.size + 2 + 1) (joinF S1) ad S2.length c S2 L T (w.heap.size + 4) (l.length : Int) X.1 X.2 _ _ w' (HBX.out.chg (X := fun _ => False) (Chg.of_below HB'.out) (fun h => h) (fun h => h)) (by omega) (by omega) (by omega) (by omega) (by omega) (HNL.out.below HB'.out) HKO.out.row ?_ (by have := HOKS.out.sum; have := HOKS.out.ge; have := HSUM.out; omega) (by have := HOKS.out.sum; have := HOKS.out.ge; have := HSUM.out; omega) hbase).mono ?_))⟩
                  · intro b hb
                    have hb1 := HKO.out.lt b hb
                    have hb2 := HNL.out.blk
                    refine ⟨⟨by omega, by omega, by omega⟩, hb1.2, fun e => ?_, fun e => ?_⟩
                    · have := (hb2.1 b e).2; omega
                    · have := (hb2.2 b e).2; omega
                  rintro e w5 ⟨⟨v5, rfl⟩, nv5, lv5, hbx5, hnl5, hnv5, hlv5, hc5⟩
                  have HBX5 := Lib.hid hbx5
                  have HNL5 := Lib.hid hnl5
                  have HNV5 := Lib.hid hnv5
                  have HLV5 := Lib.hid hlv5
                  have HC5 := Lib.hid hc5
                  clear hbx5 hnl5 hnv5 hlv5 hc5
                  gi_wp2
                  refine RI.fin (S' := (X.1 ++ [(joinF S1, S2)], X.2 ++ [(X.1.length : Int)])) (fun b hb => by have := (hnvb.1 b hb).2; omega) HNV.out HLV2.out HCH.out h2 HBX5.out HNL5.out (HNEW.out _ (by rw [HS1'.out, HS2'.out, HIDS2.out]; exact stepB_more h1)) ?_ ?_ ((Chg.of_below HB'.out).trans HC5.out) (by omega) (by omega)
                  · rcases HNV5.out with h | h
                    · exact .inl h
                    · exact .inr fun b hb => Nat.le_trans HB'.out.size (h b hb)
                  · rcases HLV5.out with h | h
                    · exact .inl h
                    · exact .inr fun b hb => Nat.le_trans HB'.out.size (h b hb)
              case done =>
                rintro W h2 ⟨nv2, lv2, hbx, hnl, hnv, hlv, hch⟩ hK
                have HIDL := Lib.hid hidl
                clear hidl
                obtain ⟨X, hX⟩ : ∃ X, X = lvl nodes level := ⟨_, rfl⟩
                have hok := lvl_ok HOK.out
                have hless := lvl_less HOK.out HN.out
                have hlv2 := levels_on HN.out HLM.out (nodes := nodes)
                rw [HLV.out] at hlv2
                change NL W (w.heap.size + 4) _ nv2 lv2 (lvl nodes level).1 (lvl nodes level).2 at hnl
                rw [← hX] at hnl hok hless hlv2
                obtain ⟨an2, cn2, al2, cl2, rfl, rfl⟩ := hnl.slice
                have hin : ∀ k, k < wr.heap.size + 2 → k ≠ L → k ≠ T → (Value.slice an nodes.length cn).ownBlock ≠ some k → ¬ (k = L ∨ k = T ∨ (Value.slice an nodes.length cn).ownBlock = some k ∨ wr.heap.size + 2 ≤ k) := fun k h1 h2 h3 h4 h => by
                  rcases h with h | h | h | h
                  · exact h2 h
                  · exact h3 h
                  · exact h4 h
                  · omega
                have hI2 := hch.at HI0.out (hin _ (by omega) (by omega) (by omega) (fun e => by have := (hnvb.1 _ e).1; omega))
                have hP2 := hch.at HP0.out (hin _ (by omega) (by omega) (by omega) (fun e => by have := (hnvb.1 _ e).1; omega))
                have hbW : Below w.heap.size w W := (HB.out.trans (HC0.out.below (fun k hk => by omega) HB.out.size)).trans (hch.below (fun k hk => by
                  rcases hk with h | h | h | h
                  · omega
                  · omega
                  · have := (hnvb.1 _ h).1; omega
                  · have := HB.out.size; omega) (Nat.le_trans HB.out.size HC0.out.size))
                have hmk0 := HM.out.chg HC0.out (fun D hD e => by rw [e] at hD; rw [HSI.out.bx.1] at hD; cases hD)
                have hmk : Marks w.heap.size W ({ target := .collected (wr.heap.size + 2), args := #[] } :: ds) := by
                  refine Marks.cons (hmk0.chg hch (fun D hD => ?_)) (by have := HB.out.size; omega) hK (fun d hd e => ?_)
                  · have hlt := (Array.getElem?_eq_some_iff.1 hD).1
                    refine hin D (by omega) (fun e => ?_) (fun e => ?_) (fun e => ?_)
                    · rw [e, HBX0.out.1] at hD; cases hD
                    · rw [e, HBX0.out.2] at hD; cases hD
                    · obtain ⟨raw, r1, _⟩ := hnl0.raw
                      rcases r1.2 with ⟨hv, _⟩ | ⟨g, cap, cur, hv, _, hh, _⟩
                      · rw [hv] at e; simp [Value.ownBlock] at e
                      · rw [hv] at e
                        have e2 : g = D := by simpa [Value.ownBlock] using e
                        rw [← e2, hh] at hD
                        cases hD
                  · obtain ⟨D', h1, h3⟩ := hmk0.lt d hd
                    have hlt := (Array.getElem?_eq_some_iff.1 h3).1
                    rw [h1] at e
                    have e2 : D' = wr.heap.size + 2 := by injection e
                    omega
                have cI := cell_of_one hI2
                have fI := free_of_one hI2
                obtain ⟨b1, b2, b3, _⟩ := hbx.cells
                have hcW : Chg (fun k => k = w.heap.size) W (W.setCell ⟨w.heap.size, 0, none⟩ (.slice none 0 0)) := Chg.setCell _ _ _ rfl
                have e1 := hcW.cell b1 (by show ¬ L = w.heap.size; omega)
                have HBX := Lib.hid hbx
                have HNL := Lib.hid hnl
                have HI2 := Lib.hid hI2
                have HP2 := Lib.hid hP2
                have HBW := Lib.hid hbW
                have HMK := Lib.hid hmk
                have HX := Lib.hid hX
                have HOK2 := Lib.hid hok
                have HLESS := Lib.hid hless
                have HLV2 := Lib.hid hlv2
                clear hbx hnl hnv hlv hch hK hX hok hless hlv2 hin hI2 hP2 hbW hmk0 hmk
                go_wp2
                obtain ⟨W1, hW1⟩ : ∃ W1, W1 = W.setCell ⟨w.heap.size, 0, none⟩ (.slice none 0 0) := ⟨_, rfl⟩
                rw [← hW1] at hcW e1 ⊢
                have hI1 : W1.heap[w.heap.size]? = some (.cells #[.slice none 0 0] 40 (0, 0)) := by rw [hW1]; exact one_setCell HI2.out
                have HW1 := Lib.hid hW1
                have HCW := Lib.hid hcW
                have hsW : W1.heap.size = W.heap.size := by rw [hW1, size_setC]
                have HSW := Lib.hid hsW
                have hnl1 := HNL.out.chg hcW (HNL.out.avoid (hK := by omega) (by omega))
                have hbx1 := HBX.out.chg hcW (by omega) (by omega)
                have HNL1 := Lib.hid hnl1
                have HBX1 := Lib.hid hbx1
                have hbl := hnl1.blk
                clear hW1 hcW hsW hnl1 hbx1
                go_loopw [73] (fun tj wx => ∃ j : Nat, ∃ av cv, tj = .int .i64 (j : Int) ∧ j ≤ X.2.length ∧ Hid (wx.heap[w.heap.size]? = some (.cells #[.slice av (idsOf X.1 (X.2.take j)).length cv] 40 (0, 0))) ∧ Hid (recS.Own wx W1.heap.size (.slice av (idsOf X.1 (X.2.take j)).length cv) (idsOf X.1 (X.2.take j))) ∧ Hid (Chg (fun k => k = w.heap.size ∨ W1.heap.size ≤ k) W1 wx)) (fun tj _ => X.2.length - (intOf tj).toNat)
                case atStart => exact ⟨0, none, 0, rfl, Nat.zero_le _, hI1, Rec.Own.nil _ _, Chg.refl _ _⟩
                case round =>
                  obtain ⟨j, av, cv, rfl, hj, HBI, HOW, HCX⟩ := hrel
                  have hlc : ∀ b, (Value.slice al2 X.2.length cl2).ownBlock = some b → ¬ (b = w.heap.size ∨ W1.heap.size ≤ b) := fun b hb => by have := hbl.2 b hb; omega
                  have hlnc : ∀ b, (Value.slice an2 X.1.length cn2).ownBlock = some b → ¬ (b = w.heap.size ∨ W1.heap.size ≤ b) := fun b hb => by have := hbl.1 b hb; omega
                  by_cases hjl : j < X.2.length
                  · obtain ⟨_, _, hv', _, hcl⟩ := recI_open (HNL1.out.lev.row.chg HCX.out hlc)
                    injection hv' with e2 _ e3
                    subst e2 e3
                    obtain ⟨b, off, rfl, cj⟩ := hcl j hjl
                    have hkq := HOK2.out.lev X.2[j] (List.getElem_mem hjl)
                    obtain ⟨q, hq⟩ : ∃ q : Nat, (q : Int) = X.2[j] := ⟨X.2[j].toNat, by omega⟩
                    rw [← hq] at cj hkq
                    have hqn : q < X.1.length := by omega
                    have hnx : idsOf X.1 (X.2.take (j + 1)) = idsOf X.1 (X.2.take j) ++ [X.1[q].1] := by
                      rw [idsOf_take hjl, ← hq]
                      simp [List.getD, hqn]
                    have hLW : L < W1.heap.size ∧ T < W1.heap.size := ⟨(Array.getElem?_eq_some_iff.1 HBX1.out.1).1, (Array.getElem?_eq_some_iff.1 HBX1.out.2).1⟩
                    have hcx2 := HBX1.out.chg HCX.out (by omega) (by omega)
                    have hnx2 := HNL1.out.chg HCX.out (fun k hk hlt => by
                      rcases hk with h | h | h
                      · omega
                      · exact hlnc k h
                      · exact hlc k h)
                    obtain ⟨_, _, hv2, _, hcn⟩ := NR_open hnx2.nr
                    injection hv2 with e4 _ e5
                    subst e4 e5
                    obtain ⟨nb, noff, ak, nk, ck, rfl, cn1, _, _⟩ := hcn q hqn
                    obtain ⟨_, cT, _, _, _, _⟩ := hcx2.cells
                    have cIx := cell_of_one HBI.out
                    have fIx := free_of_one HBI.out
                    have HNX := Lib.hid hnx
                    have HQQ := Lib.hid hq
                    clear hcl hcn hnx hcx2 hnx2 hq
                    have j0 : (0 : Int) ≤ (j : Int) := by omega
                    have j1 : (j : Int) < (X.2.length : Int) := by omega
                    have j2 : (0 : Int) ≤ (q : Int) := by omega
                    have j3 : (q : Int) < (X.1.length : Int) := by omega
                    have j4 : (X.2.length : Int) ≤ 1000000 := by have h1 := HOK2.out.sum; have h3 := HSUM.out; omega
                    obtain ⟨N0, hN0⟩ : ∃ N0, N0 = X.1[q].1 := ⟨_, rfl⟩
                    rw [← hN0] at HNX cn1
                    have HN0 := Lib.hid hN0
                    clear hN0
                    go_wp2
                    refine region_tail 8 [(0, .exact _ (.slice av (idsOf X.1 (X.2.take j)).length cv)), (2, .exact _ (.slice (some ⟨nb, noff, none⟩) X.1.length cn2)), (6, .exact _ (.string (bs N0))), (7, kReads 1 [.string (bs N0)])] (by kernel_rfl) (by kernel_rfl) ?_
                    simp only [List.take_succ_cons, List.take_zero, List.drop_succ_cons, List.drop_zero]
                    refine wpG_exact rfl (by kernel_rfl) (fun w' G hB hS hG => ?_) (fun K hK => ?_)
                    · have c' := Below.keeps hB cIx
                      go_simp; exact hG _ (Bel.refl _)
                    go_simp; refine hK _ ?_; clear hK K; (repeat (first | (refine wpG_skip (by kernel_rfl) (fun K hK => ?_); go_big_quiet_skip; refine wpQuiet_nil (hK _ ?_); clear hK K) | (refine wpG_quiet (by rfl) (by rfl) (fun K hK => ?_); go_big_quiet_want; go_big_quiet_op; go_big_quiet_on; refine wpQuiet_nil (hK _ ?_); clear hK K)))
                    refine wpG_exact rfl (by kernel_rfl) (fun w' G hB hS hG => ?_) (fun K hK => ?_)
                    · have c' := Below.keeps hB cT
                      go_simp; exact hG _ (Bel.refl _)
                    go_simp; refine hK _ ?_; clear hK K; (repeat (first | (refine wpG_skip (by kernel_rfl) (fun K hK => ?_); go_big_quiet_skip; refine wpQuiet_nil (hK _ ?_); clear hK K) | (refine wpG_quiet (by rfl) (by rfl) (fun K hK => ?_); go_big_quiet_want; go_big_quiet_op; go_big_quiet_on; refine wpQuiet_nil (hK _ ?_); clear hK K)))
                    refine wpG_exact rfl (by kernel_rfl) (fun w' G hB hS hG => ?_) (fun K hK => ?_)
                    · have c' := Below.keeps hB cn1
                      go_simp; exact hG _ (Bel.refl _)
                    go_simp; refine hK _ ?_; clear hK K; (repeat (first | (refine wpG_skip (by kernel_rfl) (fun K hK => ?_); go_big_quiet_skip; refine wpQuiet_nil (hK _ ?_); clear hK K) | (refine wpG_quiet (by rfl) (by rfl) (fun K hK => ?_); go_big_quiet_want; go_big_quiet_op; go_big_quiet_on; refine wpQuiet_nil (hK _ ?_); clear hK K)))
                    refine wpG_known (kReads 1 [.string (bs N0)]) rfl (by kernel_rfl) (fun w' G hB hS hG => ?_) (fun x K hK => ?_)
                    · go_simp; exact reads_new hG rfl
                    obtain ⟨ad, c⟩ := x; go_simp; refine hK _ ?_; clear hK K; (repeat (first | (refine wpG_skip (by kernel_rfl) (fun K hK => ?_); go_big_quiet_skip; refine wpQuiet_nil (hK _ ?_); clear hK K) | (refine wpG_quiet (by rfl) (by rfl) (fun K hK => ?_); go_big_quiet_want; go_big_quiet_op; go_big_quiet_on; refine wpQuiet_nil (hK _ ?_); clear hK K)))
                    refine wpG_nilY ?_
                    intro w' hB hA
                    have hrd := all0 hA
                    have HRD := Lib.hid (show Reads w' (.slice ad 1 c) 1 (recS.cell N0) from hrd)
                    have HB' := Lib.hid hB
                    clear hB hA hrd
                    have hszw : W1.heap.size ≤ w'.heap.size := Nat.le_trans HCX.out.size HB'.out.size
                    refine recS.append1R w' N0 rfl _ _ 40 rfl Try.underlying40 W1.heap.size _ (idsOf X.1 (X.2.take j)) (HOW.out.below HB'.out) rfl _ rfl HRD.out (by rw [idsOf_length]; have h1 := HOK2.out.sum; have h2 := HOK2.out.len; have h3 := HSUM.out; have h5 := HOK2.out.ge; show _ * 16 ≤ _; simp; omega) hszw ?_
                    intro g cap3 w3 hown3 hc3 hg3
                    have hcI : Chg (fun k => (Value.slice av (idsOf X.1 (X.2.take j)).length cv).ownBlock = some k) _ w3 := (Chg.of_below HB'.out).trans hc3
                    have hb3 := hcI.at HBI.out (fun e => by have := (HOW.out.lt _ e).1; have := (Array.getElem?_eq_some_iff.1 hI1).1; omega)
                    have cI3 := cell_of_one hb3
                    have fI3 := free_of_one hb3
                    have HOWN3 := Lib.hid hown3
                    have HB3 := Lib.hid hb3
                    have HCI := Lib.hid hcI
                    clear hown3 hc3 hg3 hb3 hcI
                    go_wp2
                    go_roundw
                    case rel =>
                      refine ⟨j + 1, some ⟨g, 0, none⟩, cap3, by go_num, by omega, ?_, ?_, ?_⟩
                      · rw [HNX.out, List.length_append]; exact one_setCell HB3.out
                      · rw [HNX.out, List.length_append]
                        exact HOWN3.out.chg (Chg.setCell (X := fun k => k = w.heap.size) w3 ⟨w.heap.size, 0, none⟩ _ rfl) (fun k hk => by have := (HOWN3.out.lt k hk).1; have := (Array.getElem?_eq_some_iff.1 hI1).1; omega)
                      · exact HCX.out.trans ((HCI.out.mono fun k hk => .inr (HOW.out.lt k hk).1).trans (Chg.setCell w3 ⟨w.heap.size, 0, none⟩ _ (.inl rfl)))
                    case measure => simp [intOf]; omega
                  · obtain rfl : j = X.2.length := by omega
                    have hL1 := HLV2.out
                    have hfull : X.2.take X.2.length = X.2 := List.take_length
                    rw [hfull] at HBI HOW
                    have HL1 := Lib.hid hL1
                    clear hL1 hfull
                    go_wp2
                    refine ⟨⟨_, _, _, _, _, _, _, _, _, _, _, _, _, _, _, _, _, _, _, _, _, _, _, _, _, _, _, _, _, _, _, _, _, _, _, _, _, _, _, _, _, _, _, _, _, _, _, _, _, _, _, _, _, _, _, _, _, _, _, _, _, _, _, _, _, _, _, _, _, _, _, _, _, _, _, _, _, _, _, _, _, _, _, ?rel, rfl⟩, ?measure⟩
                    case rel =>
                      have hlc : ∀ b, (Value.slice al2 X.2.length cl2).ownBlock = some b → ¬ (b = w.heap.size ∨ W1.heap.size ≤ b) := fun b hb => by have := hbl.2 b hb; omega
                      have hlnc : ∀ b, (Value.slice an2 X.1.length cn2).ownBlock = some b → ¬ (b = w.heap.size ∨ W1.heap.size ≤ b) := fun b hb => by have := hbl.1 b hb; omega
                      have hLW : L < W1.heap.size ∧ T < W1.heap.size := ⟨(Array.getElem?_eq_some_iff.1 HBX1.out.1).1, (Array.getElem?_eq_some_iff.1 HBX1.out.2).1⟩
                      have hPW : P < W1.heap.size := by have := HSW.out; omega
                      refine ⟨m - 1, _, _, _, X.1, X.2, ⟨HBI.out, ?_, HBX1.out.chg HCX.out (by omega) (by omega), ?_, HOW.out.row, fun b hb => ?_⟩, ?_, ?_, ⟨HOK2.out.ids, HOK2.out.lev⟩, HL1.out.symm, ?_, ?_⟩
                      · exact HCX.out.at (HCW.out.at HP2.out (by omega)) (by omega)
                      · exact (HNL1.out.chg HCX.out (fun k hk hlt => by
                          rcases hk with h | h | h
                          · omega
                          · exact hlnc k h
                          · exact hlc k h)).mono (fun k _ hk => hk.1)
                      · have hb1 := HOW.out.lt b hb
                        have hb2 := hbl
                        refine ⟨hb1.2, by omega, by omega, by omega, by omega, fun e => ?_, fun e => ?_⟩
                        · have := (hb2.1 b e).2; omega
                        · have := (hb2.2 b e).2; omega
                      · exact (HBW.out.trans (HCW.out.below (fun k hk => by omega) HBW.out.size)).trans (HCX.out.below (fun k hk => by have := HBW.out.size; have := HSW.out; omega) (by have := HBW.out.size; have := HSW.out; omega))
                      · refine (HMK.out.chg HCW.out (fun D hD e => ?_)).chg HCX.out (fun D hD e => ?_)
                        · rw [e, HI2.out] at hD; cases hD
                        · rcases e with e | e
                          · rw [e, hI1] at hD; cases hD
                          · have := (Array.getElem?_eq_some_iff.1 hD).1; omega
                      · show X.2.length ≤ m - 1
                        have := HLESS.out; have := HLM.out; omega
                      · show X.1.length + X.2.length ≤ 2 * l.length
                        have h1 := HOK2.out.sum; have h3 := HSUM.out; omega
                    case measure =>
                      have hLW : L < W1.heap.size ∧ T < W1.heap.size := ⟨(Array.getElem?_eq_some_iff.1 HBX1.out.1).1, (Array.getElem?_eq_some_iff.1 HBX1.out.2).1⟩
                      rw [(HBX1.out.chg HCX.out (by omega) (by omega)).cells.1, d1]
                      exact HLESS.out
              case stop => exact fun _ _ _ _ _ h _ => h.elim
            · have hn1 : ¬ (1 : Int) < (level.length : Int) := by omega
              have hn2 : (level.length : Int) ≤ 1 := by omega
              have HN := Lib.hid hn
              clear hn
              go_wp2_with fail
              have hbs := HSI.out.bx.same (by have := HL.out; omega)
              have hcs : Chg (fun k => k = T) wr ((wr.setCell ⟨T, 0, none⟩ (.slice an nodes.length cn)).setCell ⟨T, 1, none⟩ (.int .i64 (l.length : Int))) := (Chg.setCell (X := fun k => k = T) wr ⟨T, 0, none⟩ _ rfl).trans (Chg.setCell (X := fun k => k = T) _ ⟨T, 1, none⟩ _ rfl)
              refine ret_marks (HM.out.chg hcs (fun D hD e => by rw [e] at hD; rw [HSI.out.bx.2] at hD; cases hD)) ?_
              intro w' ht hbt
              refine ⟨_, res_cell_tmp rfl rfl (load_tree (ht.at hbs.2)), ?_, ?_⟩
              · have hnl := HSI.out.nl.chg hcs (HSI.out.nl.avoid (hK := by have := HT.out; omega) (by have := HT.out; omega))
                refine b23R_yes ⟨HQ.out, h4⟩ (NR.tidy ?_ ht)
                rw [← HLV.out, levels_end HN.out]
                exact hnl.nr
              · exact (HB.out.trans (hcs.below (fun k hk => by have := HT.out; omega) HB.out.size)).trans hbt
    · have h4' : (4096 : Int) < (l.length : Int) := by omega
      have H4 := Lib.hid h4
      clear h4
      go_wp2_with fail
      refine (HCB.out _ (bt (b_alloc _ _) (b_alloc _ _))).mono ?_; rintro e w1 ⟨rfl, rfl⟩
      go_wp2_with fail
      refine ret_marks (B := w.heap.size) (show Marks w.heap.size _ [] from True.intro) ?_
      intro w' ht hbt
      obtain ⟨k1, k2, k3⟩ := two_new w (.cells #[.slice a l.length cap] 40) (.cells #[.slice none 0 0, .int .i64 0] 44)
      refine ⟨_, res_cell_tmp rfl rfl (load_tree (ht.at k2)), b23R_no (fun h => H4.out h.2), k3.trans hbt⟩
end Go.Proofs.Ytahmacnmphjhgaa
namespace Go.Proofs.Ytahmacnmphjhgaa
open Oct

/-- the kids of all nodes -/
def kidsAll (nodes : List Nd) : List Int := nodes.flatMap (·.2)
def spAt (sp : List (Nat × Nat)) (k : Int) : Nat × Nat := sp.getD k.toNat (0, 0)
/-- an inner node is as it must be -/
def Inner (nodes : List Nd) (sp : List (Nat × Nat)) (i : Nat) : Prop :=
  2 ≤ (nodes.getD i ([], [])).2.length ∧ (nodes.getD i ([], [])).2.length ≤ 8 ∧ (∀ k ∈ (nodes.getD i ([], [])).2, 0 ≤ k ∧ k < (i : Int)) ∧
  (nodes.getD i ([], [])).1 = joinF (idsOf nodes (nodes.getD i ([], [])).2) ∧ Tiles (sp.getD i (0, 0)).1 (sp.getD i (0, 0)).2 ((nodes.getD i ([], [])).2.map (spAt sp))
/-- a tree that is being built; cover: the nodes that have no parent yet, in order -/
structure Gd (l : List (List UInt8)) (nodes : List Nd) (sp : List (Nat × Nat)) (cover : List Int) : Prop where
  splen : sp.length = nodes.length
  ge : l.length ≤ nodes.length
  leaf : ∀ i (h : i < l.length), nodes[i]? = some (l[i], []) ∧ sp[i]? = some (i, i + 1)
  inner : ∀ i, l.length ≤ i → i < nodes.length → Inner nodes sp i
  perm : (kidsAll nodes ++ cover).Perm (rangeI nodes.length)
  tile : Tiles 0 l.length (cover.map (spAt sp))
  sum : nodes.length + cover.length ≤ 2 * l.length

theorem rangeI_mem {n : Nat} {k : Int} : k ∈ rangeI n ↔ 0 ≤ k ∧ k < (n : Int) := by
  simp only [rangeI, List.mem_map, List.mem_range]
  constructor
  · rintro ⟨j, hj, rfl⟩; simp; omega
  · intro ⟨h1, h2⟩; exact ⟨k.toNat, by omega, by simp; omega⟩
theorem Gd.mem {l : List (List UInt8)} {nodes : List Nd} {sp : List (Nat × Nat)} {cover : List Int} (h : Gd l nodes sp cover) : ∀ k ∈ cover, 0 ≤ k ∧ k < (nodes.length : Int) := fun k hk =>
  rangeI_mem.1 (h.perm.subset (by simp [hk]))
theorem Tiles.append {a b c : Nat} : ∀ {x y : List (Nat × Nat)}, Tiles a b x → Tiles b c y → Tiles a c (x ++ y)
  | [], y, h, k => by have e : a = b := h; subst e; exact k
  | g :: x, y, ⟨h1, h2, h3⟩, k => ⟨h1, h2, h3.append k⟩
theorem leaves_tile : ∀ (m n : Nat), Tiles m (m + n) ((List.range' m n).map fun i => (i, i + 1))
  | m, 0 => rfl
  | m, n + 1 => ⟨rfl, by simp, by have := leaves_tile (m + 1) n; rw [show m + 1 + n = m + (n + 1) by omega] at this; exact this⟩
theorem Gd.start (l : List (List UInt8)) : Gd l (leaves l) ((List.range l.length).map fun i => (i, i + 1)) (rangeI l.length) := by
  refine ⟨by simp [leaves], by simp [leaves], fun i h => ⟨by simp [leaves, h], by simp [h]⟩, fun i h1 h2 => by simp [leaves] at h2; omega, ?_, ?_, by simp [leaves, rangeI]; omega⟩
  · have : kidsAll (leaves l) = [] := by simp [kidsAll, leaves]
    rw [this]; simp [leaves]
  · have h := leaves_tile 0 l.length
    rw [Nat.zero_add, ← List.range_eq_range'] at h
    have e : (rangeI l.length).map (spAt ((List.range l.length).map fun i => (i, i + 1))) = (List.range l.length).map fun i => (i, i + 1) := by
      unfold rangeI
      rw [List.map_map]
      refine List.map_congr_left fun i hi => ?_
      have hi' := List.mem_range.1 hi
      simp [spAt, List.getD, hi']
    rw [e]; exact h
theorem spAt_app {sp : List (Nat × Nat)} {g : Nat × Nat} {k : Int} (h0 : 0 ≤ k) (h : k < (sp.length : Int)) : spAt (sp ++ [g]) k = spAt sp k := by
  unfold spAt
  rw [List.getD, List.getD, List.getElem?_append_left (by omega)]
theorem idsOf_app {nodes : List Nd} {y : Nd} {ks : List Int} (h : ∀ k ∈ ks, 0 ≤ k ∧ k < (nodes.length : Int)) : idsOf (nodes ++ [y]) ks = idsOf nodes ks := by
  unfold idsOf
  refine List.map_congr_left fun k hk => ?_
  have := h k hk
  rw [List.getD, List.getD, List.getElem?_append_left (by omega)]
theorem map_spAt_app {sp : List (Nat × Nat)} {g : Nat × Nat} {ks : List Int} (h : ∀ k ∈ ks, 0 ≤ k ∧ k < (sp.length : Int)) : ks.map (spAt (sp ++ [g])) = ks.map (spAt sp) :=
  List.map_congr_left fun k hk => spAt_app (h k hk).1 (h k hk).2
/-- some nodes get a parent -/
theorem Gd.more {l : List (List UInt8)} {nodes : List Nd} {sp : List (Nat × Nat)} {c1 ks c2 : List Int} (h : Gd l nodes sp (c1 ++ (ks ++ c2))) (h2 : 2 ≤ ks.length) (h8 : ks.length ≤ 8) :
    ∃ g, Gd l (nodes ++ [(joinF (idsOf nodes ks), ks)]) (sp ++ [g]) (c1 ++ ((nodes.length : Int) :: c2)) := by
  have hm := h.mem
  have ht := h.tile
  rw [List.map_append, List.map_append] at ht
  obtain ⟨a, t1, t23⟩ := ht.split
  obtain ⟨b, t2, t3⟩ := t23.split
  have hk : ∀ k ∈ ks, 0 ≤ k ∧ k < (nodes.length : Int) := fun k hk => hm k (by simp [hk])
  have hsl := h.splen
  have hks : ∀ k ∈ ks, 0 ≤ k ∧ k < (sp.length : Int) := fun k hk' => by rw [hsl]; exact hk k hk'
  have hab : a < b := by
    cases ks with
    | nil => simp at h2
    | cons k ks =>
      obtain ⟨k1, k2, k3⟩ := t2
      have := k3.le
      omega
  refine ⟨(a, b), by simp [hsl], by have := h.ge; simp; omega, fun i hi => ?_, fun i h1 h3 => ?_, ?_, ?_, ?_⟩
  · obtain ⟨k1, k2⟩ := h.leaf i hi
    have := h.ge
    exact ⟨by rw [List.getElem?_append_left (by omega)]; exact k1, by rw [List.getElem?_append_left (by omega)]; exact k2⟩
  · by_cases hi : i < nodes.length
    · obtain ⟨k1, k2, k3, k4, k5⟩ := h.inner i h1 hi
      have e1 : (nodes ++ [(joinF (idsOf nodes ks), ks)]).getD i ([], []) = nodes.getD i ([], []) := by rw [List.getD, List.getD, List.getElem?_append_left hi]
      have e2 : (sp ++ [(a, b)]).getD i (0, 0) = sp.getD i (0, 0) := by rw [List.getD, List.getD, List.getElem?_append_left (by omega)]
      unfold Inner
      rw [e1, e2, idsOf_app (fun k hk => by have := k3 k hk; omega), map_spAt_app (fun k hk => by have := k3 k hk; omega)]
      exact ⟨k1, k2, k3, k4, k5⟩
    · have hie : i = nodes.length := by simp at h3; omega
      subst hie
      have e1 : (nodes ++ [(joinF (idsOf nodes ks), ks)]).getD nodes.length ([], []) = (joinF (idsOf nodes ks), ks) := by simp [List.getD]
      have e2 : (sp ++ [(a, b)]).getD nodes.length (0, 0) = (a, b) := by rw [← hsl]; simp [List.getD]
      unfold Inner
      rw [e1, e2, idsOf_app hk, map_spAt_app hks]
      exact ⟨h2, h8, hk, rfl, t2⟩
  · have hp := h.perm
    have e : kidsAll (nodes ++ [(joinF (idsOf nodes ks), ks)]) = kidsAll nodes ++ ks := by simp [kidsAll]
    rw [e, List.length_append, show nodes.length + [(joinF (idsOf nodes ks), ks)].length = nodes.length + 1 from rfl, show rangeI (nodes.length + 1) = rangeI nodes.length ++ [(nodes.length : Int)] by simp [rangeI, List.range_succ]]
    have q1 : (kidsAll nodes ++ ks ++ (c1 ++ ((nodes.length : Int) :: c2))).Perm ((nodes.length : Int) :: (kidsAll nodes ++ (c1 ++ (ks ++ c2)))) := by
      have a1 : (kidsAll nodes ++ ks ++ (c1 ++ ((nodes.length : Int) :: c2))).Perm ((nodes.length : Int) :: (kidsAll nodes ++ ks ++ (c1 ++ c2))) := by
        rw [← List.append_assoc, ← List.append_assoc (kidsAll nodes ++ ks)]
        exact List.perm_middle
      refine a1.trans (List.Perm.cons _ ?_)
      rw [List.append_assoc]
      refine List.Perm.append_left _ ?_
      rw [← List.append_assoc, ← List.append_assoc]
      exact List.Perm.append_right _ List.perm_append_comm
    exact q1.trans ((List.Perm.cons _ hp).trans (List.perm_append_singleton _ _).symm)
  · have n1 : ∀ k ∈ c1, 0 ≤ k ∧ k < (sp.length : Int) := fun k hk' => by rw [hsl]; exact hm k (by simp [hk'])
    have n2 : ∀ k ∈ c2, 0 ≤ k ∧ k < (sp.length : Int) := fun k hk' => by rw [hsl]; exact hm k (by simp [hk'])
    rw [List.map_append, List.map_cons, map_spAt_app n1, map_spAt_app n2]
    have e3 : spAt (sp ++ [(a, b)]) (nodes.length : Int) = (a, b) := by rw [← hsl]; simp [spAt, List.getD]
    rw [e3]
    exact t1.append ⟨rfl, hab, t3⟩
  · have := h.sum
    simp at this ⊢
    omega
theorem stepB_gd {l : List (List UInt8)} {nodes0 : List Nd} {level : List Int} {x : List Nd × List Int} {sp : List (Nat × Nat)} {a b : Nat} (hpre : nodes0 <+: x.1) (hl0 : ∀ k ∈ level, 0 ≤ k ∧ k < (nodes0.length : Int)) (h : Gd l x.1 sp (x.2 ++ level.drop a)) (hab : a < b) (hb : b ≤ level.length) (h8 : b - a ≤ 8) :
    ∃ sp', Gd l (stepB (idsOf nodes0 level) level x (a, b)).1 sp' ((stepB (idsOf nodes0 level) level x (a, b)).2 ++ level.drop b) := by
  unfold stepB
  simp only
  have hsplit : level.drop a = (level.drop a).take (b - a) ++ level.drop b := by
    have := (List.take_append_drop (b - a) (level.drop a)).symm
    rw [List.drop_drop, show a + (b - a) = b by omega] at this
    exact this
  split
  · rename_i h1
    refine ⟨sp, ?_⟩
    have ha : a < level.length := by omega
    have e : level.drop a = level[a] :: level.drop b := by rw [List.drop_eq_getElem_cons ha, show a + 1 = b by omega]
    rw [e] at h
    simpa [List.getD, ha] using h
  · rename_i h1
    rw [hsplit] at h
    have hlen : ((level.drop a).take (b - a)).length = b - a := by simp; omega
    obtain ⟨g, hg⟩ := h.more (by omega) (by omega)
    refine ⟨sp ++ [g], ?_⟩
    have e : idsOf x.1 ((level.drop a).take (b - a)) = ((idsOf nodes0 level).drop a).take (b - a) := by
      unfold idsOf
      rw [← List.map_drop, ← List.map_take]
      refine List.map_congr_left fun k hk => ?_
      have hk0 := hl0 k (List.mem_of_mem_drop (List.mem_of_mem_take hk))
      obtain ⟨r, hr⟩ := hpre
      rw [← hr, List.getD, List.getD, List.getElem?_append_left (by omega)]
    rw [← e]
    simpa using hg
theorem fold_gd {l : List (List UInt8)} {nodes0 : List Nd} {level : List Int} (hl0 : ∀ k ∈ level, 0 ≤ k ∧ k < (nodes0.length : Int)) : ∀ (gs : List (Nat × Nat)) (a : Nat) (x : List Nd × List Int) (sp : List (Nat × Nat)), Tiles a level.length gs → (∀ g ∈ gs, g.2 - g.1 ≤ 8) → nodes0 <+: x.1 → Gd l x.1 sp (x.2 ++ level.drop a) →
    ∃ sp', Gd l (gs.foldl (stepB (idsOf nodes0 level) level) x).1 sp' (gs.foldl (stepB (idsOf nodes0 level) level) x).2
  | [], a, x, sp, ht, _, _, h => by
    have e : a = level.length := ht
    subst e
    exact ⟨sp, by simpa using h⟩
  | g :: gs, a, x, sp, ⟨h1, h2, h3⟩, h8, hpre, h => by
    obtain ⟨g1, g2⟩ := g
    obtain rfl : g1 = a := h1
    obtain ⟨sp', h'⟩ := stepB_gd hpre hl0 h h2 h3.le (h8 _ (by simp))
    refine fold_gd hl0 gs g2 _ sp' h3 (fun g hg => h8 g (by simp [hg])) (hpre.trans ?_) h'
    unfold stepB
    split
    · exact List.prefix_refl _
    · exact List.prefix_append _ _
theorem lvl_gd {l : List (List UInt8)} {nodes : List Nd} {level : List Int} {sp : List (Nat × Nat)} (h : Gd l nodes sp level) : ∃ sp', Gd l (lvl nodes level).1 sp' (lvl nodes level).2 := by
  have ht := groups23_tiles (idsOf nodes level)
  rw [idsOf_length] at ht
  exact fold_gd h.mem _ 0 (nodes, []) sp ht (fun g hg => (groups23_size _ g hg).1) (List.prefix_refl _) (by simpa using h)
theorem Gd.okl {l : List (List UInt8)} {nodes : List Nd} {level : List Int} {sp : List (Nat × Nat)} (h : Gd l nodes sp level) (hid : allIds l = true) : OkL nodes level := by
  refine ⟨fun x hx => ?_, h.mem⟩
  obtain ⟨i, hi, rfl⟩ := List.getElem_of_mem hx
  by_cases hl : i < l.length
  · have h1 := (h.leaf i hl).1
    rw [List.getElem?_eq_getElem hi] at h1
    have h2 := Option.some.inj h1
    rw [h2]
    have := List.all_eq_true.1 hid l[i] (List.getElem_mem hl)
    simpa [isId] using this
  · have h1 := (h.inner i (by omega) hi).2.2.2.1
    have e : nodes.getD i ([], []) = nodes[i] := by simp [List.getD, hi]
    rw [e] at h1
    rw [h1]
    exact joinF_length _
theorem levels_gd {l : List (List UInt8)} (hid : allIds l = true) : ∀ (n : Nat) (nodes : List Nd) (level : List Int) (sp : List (Nat × Nat)), level.length ≤ n → Gd l nodes sp level → ∃ sp' level', level'.length ≤ 1 ∧ Gd l (levels n nodes level) sp' level'
  | 0, nodes, level, sp, hn, h => ⟨sp, level, by omega, h⟩
  | n + 1, nodes, level, sp, hn, h => by
    rw [levels]
    split
    · rename_i h1
      obtain ⟨sp', h'⟩ := lvl_gd h
      exact levels_gd hid n _ _ sp' (by have := lvl_less (h.okl hid) h1; omega) h'
    · exact ⟨sp, level, by omega, h⟩
/-- what the tree of leaves is -/
theorem buildF_gd {l : List (List UInt8)} (hid : allIds l = true) : ∃ sp level, level.length ≤ 1 ∧ Gd l (buildF l) sp level :=
  levels_gd hid l.length _ _ _ (by rw [show (rangeI l.length).length = l.length by simp [rangeI]]; exact Nat.le_refl _) (Gd.start l)
theorem buildF_sizes {l : List (List UInt8)} (hid : allIds l = true) : l.length ≤ (buildF l).length ∧ (buildF l).length ≤ 2 * l.length ∧ (∀ x ∈ buildF l, x.1.length = 32) ∧ ∀ x ∈ buildF l, x.2.length ≤ 8 := by
  obtain ⟨sp, level, _, h⟩ := buildF_gd hid
  refine ⟨h.ge, by have := h.sum; omega, (h.okl hid).ids, fun x hx => ?_⟩
  obtain ⟨i, hi, rfl⟩ := List.getElem_of_mem hx
  by_cases hl : i < l.length
  · have h1 := (h.leaf i hl).1
    rw [List.getElem?_eq_getElem hi] at h1
    rw [Option.some.inj h1]; simp
  · have h1 := (h.inner i (by omega) hi).2.1
    have e : (buildF l).getD i ([], []) = (buildF l)[i] := by simp [List.getD, hi]
    rwa [e] at h1
end Go.Proofs.Ytahmacnmphjhgaa
