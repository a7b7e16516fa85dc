/- Lemmas for TreeTells, part 5: walks of the functions that it reaches, and the plain laws behind them. -/
import Derived.Laws.MakeOwn
import Derived.Test.YtahmacnmphjhgaaTreeTellsK4
set_option linter.unusedSimpArgs false
set_option linter.unusedVariables false
namespace Go.Proofs.Ytahmacnmphjhgaa
open Go.RowKit Oct

def recI : Rec Int where
  cell x := [.int .i64 x]
  e := 3
  n := 1
  bytes := 8
  z := .int .i64 0
  len := fun _ => rfl
  one := by intro x u h; simp at h; subst h; rfl
  info := by kernel_rfl
  zs := rfl
  pos := by decide
  bpos := by decide
def recN : Rec (List UInt8 × (Option Addr × Nat × Nat)) where
  cell s := [.string (bs s.1), .slice s.2.1 s.2.2.1 s.2.2.2]
  e := 51
  n := 2
  bytes := 40
  z := .agg #[.string ByteArray.empty, .slice none 0 0]
  len := fun _ => rfl
  one := by intro x u h; simp at h; rcases h with rfl | rfl <;> rfl
  info := by kernel_rfl
  zs := rfl
  pos := by decide
  bpos := by decide
theorem recI_open {w : World} {v : Value} {l : List Int} (h : recI.Row w v l) : ∃ a cap, v = .slice a l.length cap ∧ l.length ≤ cap ∧ ∀ k (hk : k < l.length), ∃ b off, a = some ⟨b, off, none⟩ ∧ w.cell? ⟨b, off + k, none⟩ = some (.int .i64 l[k]) := by
  obtain ⟨a, cap, hv, hle, hc⟩ := h.open
  refine ⟨a, cap, hv, hle, fun k hk => ?_⟩
  obtain ⟨b, off, ha, hu⟩ := hc k hk
  have := hu 0 _ rfl
  rw [show recI.n = 1 from rfl, Nat.mul_one, Nat.add_zero] at this
  exact ⟨b, off, ha, this⟩

section
variable {α : Type} {R : Rec α}
theorem Rec.Row.chg {X : Nat → Prop} {w w' : World} {v : Value} {l : List α} (h : R.Row w v l) (hc : Chg X w w') (hX : ∀ b, v.ownBlock = some b → ¬ X b) : R.Row w' v l := by
  obtain ⟨⟨a, cap, rfl, hn, hu⟩, h2⟩ := h
  refine ⟨⟨a, cap, rfl, hn, fun j u hj => ?_⟩, h2⟩
  obtain ⟨b, off, rfl, hcell⟩ := hu j u hj
  exact ⟨b, off, rfl, hc.cell hcell (hX b rfl)⟩
theorem Rec.Own.chg {X : Nat → Prop} {w w' : World} {base : Nat} {v : Value} {l : List α} (h : R.Own w base v l) (hc : Chg X w w') (hX : ∀ k, v.ownBlock = some k → ¬ X k) : R.Own w' base v l := by
  obtain ⟨h1, h2⟩ := h
  refine ⟨h1, ?_⟩
  rcases h2 with h2 | ⟨g, cap, cur, rfl, hg, hh, r⟩
  · exact .inl h2
  · exact .inr ⟨g, cap, cur, rfl, hg, hc.at hh (hX g rfl), r⟩
theorem Rec.Own.lt {w : World} {base : Nat} {v : Value} {l : List α} (h : R.Own w base v l) : ∀ b, v.ownBlock = some b → base ≤ b ∧ b < w.heap.size := fun b hb => World.ownsRow.lt h b hb
theorem Rec.Own.new (w : World) (x : α) : R.Own (w.alloc (.cells (R.cell x).toArray R.e)) w.heap.size (.slice (some ⟨w.heap.size, 0, none⟩) 1 1) [x] :=
  ⟨by simp [Rec.cells, R.len], .inr ⟨w.heap.size, 1, (R.cell x).toArray, rfl, Nat.le_refl _, World.alloc_heap_new w _, Nat.le_refl _, by decide, by simp [R.len], by simp [Rec.cells, R.len, List.take_of_length_le]⟩⟩
theorem Rec.Own.empty (w : World) : R.Own (w.alloc (.cells #[] R.e)) w.heap.size (.slice (some ⟨w.heap.size, 0, none⟩) 0 0) [] :=
  ⟨by simp [Rec.cells], .inr ⟨w.heap.size, 0, #[], rfl, Nat.le_refl _, World.alloc_heap_new w _, Nat.le_refl _, by decide, by simp, by simp [Rec.cells]⟩⟩
/-- append(s, x), and what it leaves alone -/
theorem Rec.append1C {ops : Array Oper} {rest : List Oper} {o : Oper} {a : Act} {Q : Exit → Act → World → Prop} (R : Rec α) (wr : World) (p : α) (hgd : o.guard = none) (s x : Operand) (t : TypeId)
    (ho : o.op = .call { callee := .builtin .append, args := #[s, x], argTypes := #[t, t] }) (ht : Try.prog.underlying t = some (.slice R.e))
    (base : Nat) (v : Value) (xs : List α) (hown : R.Own wr base v xs) (hs : a.eval s = v) (c : Nat) (hx : a.eval x = .slice (some ⟨wr.heap.size, 0, none⟩) 1 c)
    (cs : Array Value) (hcs : cs = (R.cell p).toArray) (e : TypeId) (he : e = R.e)
    (hbytes : (xs.length + 1) * R.bytes ≤ 140737488355328) (hbase : base ≤ wr.heap.size)
    (h : ∀ g cap w', R.Own w' base (.slice (some ⟨g, 0, none⟩) (xs.length + 1) cap) (xs ++ [p]) → Chg (fun k => v.ownBlock = some k) wr w' → (v.ownBlock = some g ∨ wr.heap.size ≤ g) →
      wpList Try.prog ops Q rest (a.put o.dst (.slice (some ⟨g, 0, none⟩) (xs.length + 1) cap)) w') : wpList Try.prog ops Q (o :: rest) a (wr.alloc (.cells cs e)) := by
  subst hcs he
  obtain ⟨i, hi, hz, hi1, hi2⟩ := info_parts R.info
  have hn : xs.length + 1 ≤ (xs.length + 1) * R.bytes := Nat.le_mul_of_pos_right _ R.bpos
  refine wpList_append_lies _ hgd s x t ho base R.e i R.z R.n R.bytes ht hi hz hi1 hi2 R.zs R.pos v xs.length (R.cells xs) hs (World.ownsRow.alloc hown _) ⟨wr.heap.size, 0, none⟩ 1 c (R.cell p) hx (by simpa using R.len p) ?_ (R.one p) (by decide) (by unfold maxLen; omega) hbytes (by simp; omega) _ rfl ?_
  · intro j u hj
    have : j < (R.cell p).length := by
      rcases Nat.lt_or_ge j (R.cell p).length with h | h
      · exact h
      · simp [List.getElem?_eq_none h] at hj
    rw [Addr.add_lit, Nat.zero_add, World.cell?_alloc_new]
    simpa using hj
  · intro g cap w' h2 h3 h4 h5
    have hB : Below base wr w' := ((Below.refl base wr).alloc hbase _).grown h3 (by simp; omega) (fun k hk => (Rec.Own.lt hown k hk).1)
    refine h g cap w' ?_ ⟨hB.os, hB.tape, hB.output, hB.size, fun j hj hne => ?_⟩ ?_
    · unfold Rec.Own; rw [R.cells_append, List.length_append, Rec.cells, Rec.cells, List.append_nil]; exact h2
    · rw [h3.block j (by simp; omega) (fun e => hne e.symm)]
      exact Below.heap_alloc _ _ _ hj
    · rcases h4 with h4 | h4
      · exact .inl h4
      · exact .inr (by simp at h4; omega)
end

abbrev Nd := List UInt8 × List Int
/-- a node of the tree's own row -/
def KR (w : World) (K : Nat → Prop) (nv lv : Value) (x : List UInt8 × (Option Addr × Nat × Nat)) (y : Nd) : Prop :=
  x.1 = y.1 ∧ recI.Row w (.slice x.2.1 x.2.2.1 x.2.2.2) y.2 ∧ ∀ b, (Value.slice x.2.1 x.2.2.1 x.2.2.2).ownBlock = some b → K b ∧ b < w.heap.size ∧ nv.ownBlock ≠ some b ∧ lv.ownBlock ≠ some b
/-- the nodes and a level, of the call's own -/
structure NL (w : World) (base : Nat) (K : Nat → Prop) (nv lv : Value) (nodes : List Nd) (level : List Int) : Prop where
  raw : ∃ raw, recN.Own w base nv raw ∧ raw.length = nodes.length ∧ ∀ i (h : i < raw.length) (h' : i < nodes.length), KR w K nv lv raw[i] nodes[i]
  lev : recI.Own w base lv level
  ap : ∀ b, nv.ownBlock = some b → lv.ownBlock ≠ some b
theorem NL.chg {X : Nat → Prop} {w w' : World} {base : Nat} {K : Nat → Prop} {nv lv : Value} {nodes : List Nd} {level : List Int} (h : NL w base K nv lv nodes level) (hc : Chg X w w') (hX : ∀ k, K k ∨ nv.ownBlock = some k ∨ lv.ownBlock = some k → k < w.heap.size → ¬ X k) : NL w' base K nv lv nodes level := by
  obtain ⟨⟨raw, h1, h2, h3⟩, h4, h5⟩ := h
  refine ⟨⟨raw, h1.chg hc (fun k hk => hX k (.inr (.inl hk)) (h1.lt k hk).2), h2, fun i hi hi' => ?_⟩, h4.chg hc (fun k hk => hX k (.inr (.inr hk)) (h4.lt k hk).2), h5⟩
  obtain ⟨k1, k2, k3⟩ := h3 i hi hi'
  exact ⟨k1, k2.chg hc (fun b hb => hX b (.inl (k3 b hb).1) (k3 b hb).2.1), fun b hb => ⟨(k3 b hb).1, Nat.lt_of_lt_of_le (k3 b hb).2.1 hc.size, (k3 b hb).2.2⟩⟩
theorem NL.below {w w' : World} {base : Nat} {K : Nat → Prop} {nv lv : Value} {nodes : List Nd} {level : List Int} (h : NL w base K nv lv nodes level) (hB : Below w.heap.size w w') : NL w' base K nv lv nodes level := h.chg (X := fun _ => False) (Chg.of_below hB) (fun _ _ _ h => h)
theorem NL.avoid {w : World} {base L : Nat} {K : Nat → Prop} {nv lv : Value} {nodes : List Nd} {level : List Int} (h : NL w base K nv lv nodes level) (hL : L < base) {hK : ¬ K L} : ∀ k, K k ∨ nv.ownBlock = some k ∨ lv.ownBlock = some k → k < w.heap.size → ¬ k = L := by
  obtain ⟨⟨raw, h1, _⟩, h4, _⟩ := h
  rintro k (hk | hk | hk) _ rfl
  · exact hK hk
  · have := (h1.lt k hk).1; omega
  · have := (h4.lt k hk).1; omega
theorem NL.mono {w : World} {base : Nat} {K K' : Nat → Prop} {nv lv : Value} {nodes : List Nd} {level : List Int} (h : NL w base K nv lv nodes level) (hK : ∀ k, k < w.heap.size → K k → K' k) : NL w base K' nv lv nodes level := by
  obtain ⟨⟨raw, h1, h2, h3⟩, h4, h5⟩ := h
  exact ⟨⟨raw, h1, h2, fun i hi hi' => ⟨(h3 i hi hi').1, (h3 i hi hi').2.1, fun b hb => ⟨hK b ((h3 i hi hi').2.2 b hb).2.1 ((h3 i hi hi').2.2 b hb).1, ((h3 i hi hi').2.2 b hb).2⟩⟩⟩, h4, h5⟩
/-- one more on the level -/
theorem NL.level {w w' : World} {base g cap : Nat} {K : Nat → Prop} {nv lv : Value} {nodes : List Nd} {level level' : List Int} (h : NL w base K nv lv nodes level) (hc : Chg (fun k => lv.ownBlock = some k) w w') (hg : lv.ownBlock = some g ∨ w.heap.size ≤ g)
    (ho : recI.Own w' base (.slice (some ⟨g, 0, none⟩) level'.length cap) level') : NL w' base K nv (.slice (some ⟨g, 0, none⟩) level'.length cap) nodes level' := by
  obtain ⟨⟨raw, h1, h2, h3⟩, h4, h5⟩ := h
  have hgn : ∀ b, b < w.heap.size → lv.ownBlock ≠ some b → (Value.slice (some ⟨g, 0, none⟩) level'.length cap).ownBlock ≠ some b := by
    intro b hb hn e
    have e2 : g = b := by simpa [Value.ownBlock] using e
    subst e2
    rcases hg with hg | hg
    · exact hn hg
    · omega
  refine ⟨⟨raw, h1.chg hc (fun k hk => h5 k hk), h2, fun i hi hi' => ?_⟩, ho, fun b hb => hgn b (h1.lt b hb).2 (h5 b hb)⟩
  obtain ⟨k1, k2, k3⟩ := h3 i hi hi'
  exact ⟨k1, k2.chg hc (fun b hb => (k3 b hb).2.2.2), fun b hb => ⟨(k3 b hb).1, Nat.lt_of_lt_of_le (k3 b hb).2.1 hc.size, (k3 b hb).2.2.1, hgn b (k3 b hb).2.1 (k3 b hb).2.2.2⟩⟩
/-- one more node -/
theorem NL.node {w w' : World} {base g cap n : Nat} {K : Nat → Prop} {nv lv : Value} {nodes : List Nd} {level : List Int} {raw : List (List UInt8 × (Option Addr × Nat × Nat))} {x : List UInt8 × (Option Addr × Nat × Nat)} {y : Nd} (h4 : recI.Own w base lv level) (h5 : ∀ b, nv.ownBlock = some b → lv.ownBlock ≠ some b)
    (h2 : raw.length = nodes.length) (h3 : ∀ i (h : i < raw.length) (h' : i < nodes.length), KR w K nv lv raw[i] nodes[i]) (hx : KR w K nv lv x y)
    (hc : Chg (fun k => nv.ownBlock = some k) w w') (hg : nv.ownBlock = some g ∨ w.heap.size ≤ g) (ho : recN.Own w' base (.slice (some ⟨g, 0, none⟩) n cap) (raw ++ [x])) : NL w' base K (.slice (some ⟨g, 0, none⟩) n cap) lv (nodes ++ [y]) level := by
  have hgn : ∀ b, b < w.heap.size → nv.ownBlock ≠ some b → (Value.slice (some ⟨g, 0, none⟩) n cap).ownBlock ≠ some b := by
    intro b hb hn e
    have e2 : g = b := by simpa [Value.ownBlock] using e
    subst e2
    rcases hg with hg | hg
    · exact hn hg
    · omega
  have key : ∀ x y, KR w K nv lv x y → KR w' K (.slice (some ⟨g, 0, none⟩) n cap) lv x y := by
    rintro x y ⟨k1, k2, k3⟩
    exact ⟨k1, k2.chg hc (fun b hb => (k3 b hb).2.2.1), fun b hb => ⟨(k3 b hb).1, Nat.lt_of_lt_of_le (k3 b hb).2.1 hc.size, hgn b (k3 b hb).2.1 (k3 b hb).2.2.1, (k3 b hb).2.2.2⟩⟩
  refine ⟨⟨raw ++ [x], ho, by simp [h2], fun i hi hi' => ?_⟩, h4.chg hc (fun k hk e => h5 k e hk), fun b hb => ?_⟩
  · by_cases hl : i < raw.length
    · rw [List.getElem_append_left hl, List.getElem_append_left (by omega)]
      exact key _ _ (h3 i hl (by omega))
    · have e : i = raw.length := by simp at hi; omega
      subst e
      rw [List.getElem_append_right (by omega), List.getElem_append_right (by omega)]
      simp only [Nat.sub_self, h2, List.getElem_cons_zero]
      exact key _ _ hx
  · have e2 : g = b := by simpa [Value.ownBlock] using hb
    subst e2
    intro e
    rcases hg with hg | hg
    · exact h5 g hg e
    · have := (h4.lt g e).2; omega

/-- the boxes of level and tree -/
def Boxes (w : World) (L T : Nat) (lv nv : Value) (n0 : Int) : Prop := w.heap[L]? = some (.cells #[lv] 49 (0, 0)) ∧ w.heap[T]? = some (.cells #[nv, .int .i64 n0] 44 (0, 0))
theorem Boxes.cells {w : World} {L T : Nat} {lv nv : Value} {n0 : Int} (h : Boxes w L T lv nv n0) : w.cell? ⟨L, 0, none⟩ = some lv ∧ w.cell? ⟨T, 0, none⟩ = some nv ∧ w.cell? ⟨T, 1, none⟩ = some (.int .i64 n0) ∧ w.frozen? ⟨L, 0, none⟩ = false ∧ w.frozen? ⟨T, 0, none⟩ = false ∧ w.frozen? ⟨T, 1, none⟩ = false := by
  obtain ⟨h1, h2⟩ := h
  refine ⟨cell_of_one h1, ?_, ?_, free_of_one h1, ?_, ?_⟩ <;> simp [World.cell?, World.frozen?, h2]
theorem Boxes.setL {w : World} {L T : Nat} {lv nv u : Value} {n0 : Int} (h : Boxes w L T lv nv n0) (hn : L ≠ T) : Boxes (w.setCell ⟨L, 0, none⟩ u) L T u nv n0 :=
  ⟨one_setCell (v := lv) h.1, (Below.heap_setCell _ _ _ _ (Ne.symm hn)).trans h.2⟩
theorem Boxes.setT {w : World} {L T : Nat} {lv nv u : Value} {n0 : Int} (h : Boxes w L T lv nv n0) (hn : L ≠ T) : Boxes (w.setCell ⟨T, 0, none⟩ u) L T lv u n0 := by
  refine ⟨(Below.heap_setCell _ _ _ _ hn).trans h.1, ?_⟩
  have hlt := (Array.getElem?_eq_some_iff.1 h.2)
  simp [World.setCell, Array.getElem?_modify, h.2]
theorem Boxes.chg {X : Nat → Prop} {w w' : World} {L T : Nat} {lv nv : Value} {n0 : Int} (h : Boxes w L T lv nv n0) (hc : Chg X w w') (hL : ¬ X L) (hT : ¬ X T) : Boxes w' L T lv nv n0 := ⟨hc.at h.1 hL, hc.at h.2 hT⟩
theorem NL.slice {w : World} {base : Nat} {K : Nat → Prop} {nv lv : Value} {nodes : List Nd} {level : List Int} (h : NL w base K nv lv nodes level) : ∃ an cn al cl, nv = .slice an nodes.length cn ∧ lv = .slice al level.length cl := by
  obtain ⟨raw, h1, h2, _⟩ := h.raw
  obtain ⟨an, cn, e1⟩ := owns_slice h1
  obtain ⟨al, cl, e2⟩ := owns_slice h.lev
  exact ⟨an, cn, al, cl, by rw [← h2]; exact e1, e2⟩
theorem size_setC (w : World) (a : Addr) (u : Value) : (w.setCell a u).heap.size = w.heap.size := by simp [World.setCell]
theorem byN {n : Nat} (h : n ≤ 100000) : (n + 1) * 40 ≤ 140737488355328 := by omega
theorem byI {n : Nat} (h : n ≤ 100000) : (n + 1) * 8 ≤ 140737488355328 := by omega

set_option maxRecDepth 100000 in
set_option maxHeartbeats 2000000 in
theorem put_any (K : Nat → Prop) (s : List UInt8) (ak : Option Addr) (nk ck : Nat) (ks : List Int) (L T base : Nat) (n0 : Int) (nodes : List Nd) (level : List Int) (nv lv : Value) (w : World) (hb : Boxes w L T lv nv n0) (hLT : L ≠ T) (hL : L < base) (hT : T < base) (hKL : ¬ K L) (hKT : ¬ K T)
    (hn : NL w base K nv lv nodes level) (hk : recI.Row w (.slice ak nk ck) ks) (hkb : ∀ b, (Value.slice ak nk ck).ownBlock = some b → K b ∧ b < w.heap.size ∧ nv.ownBlock ≠ some b ∧ lv.ownBlock ≠ some b)
    (hl1 : nodes.length ≤ 100000) (hl2 : level.length ≤ 100000) (hbase : base ≤ w.heap.size) :
    Calls Try.prog 52 #[.string (bs s), .slice ak nk ck, .pointer (some ⟨L, 0, none⟩), .pointer (some ⟨T, 0, none⟩)] w fun e w' => (∃ v, e = .returned v) ∧ ∃ nv' lv', Boxes w' L T lv' nv' n0 ∧ NL w' base K nv' lv' (nodes ++ [(s, ks)]) (level ++ [(nodes.length : Int)]) ∧
      (nv.ownBlock = nv'.ownBlock ∨ ∀ b, nv'.ownBlock = some b → w.heap.size ≤ b) ∧ (lv.ownBlock = lv'.ownBlock ∨ ∀ b, lv'.ownBlock = some b → w.heap.size ≤ b) ∧
      Chg (fun k => k = L ∨ k = T ∨ lv.ownBlock = some k ∨ nv.ownBlock = some k) w w' := by
  obtain ⟨an, cn, al, cl, rfl, rfl⟩ := hn.slice
  obtain ⟨c1, c2, c3, f1, f2, f3⟩ := hb.cells
  have HBX := Lib.hid hb
  have HN := Lib.hid hn
  have HK := Lib.hid hk
  have HKB := Lib.hid hkb
  clear hb hn hk hkb
  go_enter Try.func52, Try.ntmps52
  go_wp2_with (first
    | (at_builtin; (refine recI.append1C w (nodes.length : Int) rfl _ _ 49 rfl Try.underlying49 base _ level HN.out.lev rfl _ rfl _ rfl _ rfl (byI hl2) hbase ?_); intro g cap2 w3 hown3 hc3 hg3; have h3 := HN.out.level hc3 hg3 (by rw [List.length_append]; exact hown3); have hb3 := HBX.out.chg hc3 (fun e => by have := (HN.out.lev.lt _ e).1; omega) (fun e => by have := (HN.out.lev.lt _ e).1; omega); have h4 := h3.chg (Chg.setCell (X := fun k => k = L) w3 ⟨L, 0, none⟩ (.slice (some ⟨g, 0, none⟩) (level.length + 1) cap2) rfl) (h3.avoid (hK := hKL) hL); have hb4 := Boxes.setL (u := .slice (some ⟨g, 0, none⟩) (level.length + 1) cap2) hb3 hLT; rw [List.length_append] at h4; have hsz : w.heap.size ≤ (w3.setCell ⟨L, 0, none⟩ (.slice (some ⟨g, 0, none⟩) (level.length + 1) cap2)).heap.size := Nat.le_trans hc3.size (Chg.setCell (X := fun k => k = L) w3 ⟨L, 0, none⟩ (.slice (some ⟨g, 0, none⟩) (level.length + 1) cap2) rfl).size; have H4 := Lib.hid h4; have HB4 := Lib.hid hb4; have HC3 := Lib.hid hc3; have HG3 := Lib.hid hg3; obtain ⟨d1, d2, d3, g1, g2, g3⟩ := hb3.cells; obtain ⟨raw, r1, r2, r3⟩ := h4.raw; have HR1 := Lib.hid r1; have HR2 := Lib.hid r2; have HR3 := Lib.hid r3; have HSZ := Lib.hid hsz; clear h3 h4 hb3 hb4 hc3 hg3 hown3 r1 r2 r3 hsz)
    | (at_builtin; go_must (refine recN.append1C (w3.setCell ⟨L, 0, none⟩ (.slice (some ⟨g, 0, none⟩) (level.length + 1) cap2)) (s, ak, nk, ck) rfl _ _ 42 rfl Try.underlying42 base _ raw HR1.out rfl 1 (by rw [size_setC]; rfl) _ rfl _ rfl (by rw [HR2.out]; exact byN hl1) (Nat.le_trans hbase HSZ.out) ?_); intro g5 cap5 w5 hown5 hc5 hg5; rw [HR2.out] at hown5 ⊢; have HO5 := Lib.hid hown5; have HC5 := Lib.hid hc5; have HG5 := Lib.hid hg5; have hb5 := HB4.out.chg hc5 (fun e => by have := (Rec.Own.lt HR1.out _ e).1; omega) (fun e => by have := (Rec.Own.lt HR1.out _ e).1; omega); have HB5 := Lib.hid hb5; obtain ⟨_, _, _, _, i2, _⟩ := hb5.cells; clear hown5 hc5 hg5 hb5))
  go_end0
  obtain ⟨W4, hW4⟩ : ∃ W4, W4 = w3.setCell ⟨L, 0, none⟩ (.slice (some ⟨g, 0, none⟩) (level.length + 1) cap2) := ⟨_, rfl⟩
  have hc34 : Chg (fun k => k = L) w3 W4 := by rw [hW4]; exact Chg.setCell w3 _ _ rfl
  rw [← hW4] at H4 HB4 HC5 HG5 HR3 HSZ
  have hc4 : Chg (fun k => k = L ∨ (Value.slice al level.length cl).ownBlock = some k) w W4 := (HC3.out.mono fun k hk => .inr hk).trans (hc34.mono fun k hk => .inl hk)
  have hg4 : ∀ b, b < w.heap.size → (Value.slice al level.length cl).ownBlock ≠ some b → (Value.slice (some ⟨g, 0, none⟩) (level.length + 1) cap2).ownBlock ≠ some b := by
    intro b hb hn e
    have e2 : g = b := by simpa [Value.ownBlock] using e
    subst e2
    rcases HG3.out with hg | hg
    · exact hn hg
    · omega
  have hkr : KR W4 K (.slice an nodes.length cn) (.slice (some ⟨g, 0, none⟩) (level.length + 1) cap2) (s, ak, nk, ck) (s, ks) := by
    refine ⟨rfl, HK.out.chg hc4 (fun b hb => ?_), fun b hb => ?_⟩
    · obtain ⟨k1, k2, k3, k4⟩ := HKB.out b hb
      rintro (e | e)
      · exact hKL (by rw [← e]; exact k1)
      · exact k4 e
    · obtain ⟨k1, k2, k3, k4⟩ := HKB.out b hb
      exact ⟨k1, Nat.lt_of_lt_of_le k2 HSZ.out, k3, hg4 b k2 k4⟩
  have h5 := NL.node (lv := .slice (some ⟨g, 0, none⟩) (level.length + 1) cap2) H4.out.lev H4.out.ap HR2.out HR3.out hkr HC5.out HG5.out HO5.out
  have h6 := h5.chg (Chg.setCell (X := fun k => k = T) w5 ⟨T, 0, none⟩ (.slice (some ⟨g5, 0, none⟩) (nodes.length + 1) cap5) rfl) (h5.avoid (hK := hKT) hT)
  refine ⟨⟨_, rfl⟩, _, _, HB5.out.setT hLT, h6, ?_, ?_, ?_⟩
  · rcases HG5.out with h | h
    · exact .inl h
    · refine .inr fun b hb => ?_
      have e2 : g5 = b := by simpa [Value.ownBlock] using hb
      have := HSZ.out
      omega
  · rcases HG3.out with h | h
    · exact .inl h
    · refine .inr fun b hb => ?_
      have e2 : g = b := by simpa [Value.ownBlock] using hb
      omega
  · refine (hc4.mono fun k hk => ?_).trans ((HC5.out.mono fun k hk => ?_).trans (Chg.setCell w5 _ _ (.inr (.inl rfl))))
    · rcases hk with h | h
      · exact .inl h
      · exact .inr (.inr (.inl h))
    · exact .inr (.inr (.inr hk))

/-- slices.Clone of numbers -/
theorem recI_of_none {w : World} {n c : Nat} {l : List Int} (h : recI.Row w (.slice none n c) l) : l = [] ∧ n = 0 := by
  obtain ⟨⟨a, cap, hv, hn, _⟩, _⟩ := h
  injection hv with e1 e2 e3
  subst e1
  have := (hn rfl).1
  exact ⟨List.eq_nil_of_length_eq_zero this, by omega⟩
set_option maxRecDepth 100000 in
set_option maxHeartbeats 1000000 in
theorem CloneI_any (v : Value) (l : List Int) (w : World) (hr : recI.Row w v l) (hl : l.length ≤ 100000) :
    Calls Try.prog 55 #[v] w fun e w' => ∃ v', e = .returned v' ∧ recI.Own w' w.heap.size v' l ∧ Below w.heap.size w w' := by
  obtain ⟨hr0, a, cap, rfl, hle⟩ := id hr
  cases a with
  | none =>
    obtain ⟨hl0, _⟩ := recI_of_none hr
    subst hl0
    go_enter Try.func55, Try.ntmps55
    have q := fun w : World => Lib.run_eql_slice_nil w 49 3 none 0 cap 0 0 Try.underlying49
    go_wp2
    go_ret
    exact ⟨_, rfl, Rec.Own.nil _ _, Below.refl _ _⟩
  | some ad =>
    have q := fun w : World => Lib.run_eql_slice_nil w 49 3 (some ad) l.length cap 0 0 Try.underlying49
    have H := Lib.hid hr
    clear hr hr0
    go_enter Try.func55, Try.ntmps55
    go_wp2_with (at_builtin; refine recI.append _ rfl _ _ _ rfl Try.underlying49 w.heap.size _ [] (Rec.Own.empty w) rfl _ l (H.out.below (b_alloc _ _)) rfl (by simp [recI]; omega) (by simp) ?_; intro v' w1 hown1 hB1)
    go_ret
    exact ⟨_, rfl, hown1, (b_alloc w _).trans hB1⟩
end Go.Proofs.Ytahmacnmphjhgaa
namespace Go.Proofs.Ytahmacnmphjhgaa
open Go.RowKit Oct

set_option maxRecDepth 100000 in
set_option maxHeartbeats 1000000 in
theorem rrot_any (x : UInt32) (n : Nat) (w : World) (h1 : 1 ≤ n) (h2 : n ≤ 31) :
    Calls Try.prog 93 #[.int .u32 (U x), .int .i64 n] w fun e w' => e = .returned (.int .u32 (U (rotr x n))) ∧ Below w.heap.size w w' := by
  have n1 : (1 : Int) ≤ (n : Int) := by omega
  have n2 : (n : Int) ≤ 31 := by omega
  go_enter Try.func93, Try.ntmps93
  go_wp2
  rw [U_shr x n (by omega), U_shl x (32 - n) (by omega), U_or]
  go_wp2
  go_ret
  exact ⟨rfl, b_refl _⟩

theorem pad_fin (n J X : Nat) (hJ : J < 8) (hX : X % 256 = be8_num (8 * n) J) (Z : List UInt8) : Z ++ ((be8 (8 * n)).take J ++ [UInt8.ofNat X]) = Z ++ (be8 (8 * n)).take (J + 1) := by
  have h := be8_val n J _ hJ rfl
  injection h with _ h
  have e : UInt8.ofNat X = (be8 (8 * n)).getD J 0 := by
    apply UInt8.toNat_inj.1
    rw [UInt8.toNat_ofNat']
    have : (be8_num (8 * n) J : Int) = (((be8 (8 * n)).getD J 0).toNat : Int) := h
    omega
  rw [be8_step _ _ hJ, e]
theorem be8_length (n : Nat) : (be8 n).length ≤ 8 := Nat.le_refl 8
set_option maxRecDepth 100000 in
set_option maxHeartbeats 4000000 in
theorem pad_any (l : List UInt8) (w : World) (hl : l.length ≤ 1099511627776) :
    Calls Try.prog 86 #[.string (bs l)] w fun e w' => e = .returned (.string (bs (padTail l l.length))) ∧ Below w.heap.size w w' := by
  have hz := zc_le l.length
  have H1 := Lib.hid (zpad_one l)
  have hcv := fun (w : World) (x : Int) => conv_one (P := Try.prog) 94 9 5 Try.underlying94 Try.underlying5 Try.underlying9 w x
  have HCV := Lib.hid hcv
  clear hcv
  go_enter Try.func86, Try.ntmps86
  go_wp2
  go_loop [0] (fun v => ∃ k : Nat, k ≤ zc l.length ∧ v = .string (bs (zpad l k))) (fun v => 9000000000000 - slenC (some v))
  case atStart => exact ⟨0, Nat.zero_le _, by rw [H1.out]⟩
  case round =>
    obtain ⟨k, hk, rfl⟩ := hrel
    have hzl := zpad_length l k
    by_cases hkz : k < zc l.length
    · have m1 : (((zpad l k).length : Int) % 64 != 56) = true := by have := zc_mod l.length k hkz; rw [bne_iff_ne]; omega
      have HS := Lib.hid (zpad_succ l k)
      have HL := Lib.hid hzl
      clear hzl
      have hz2 : (zpad l k).length ≤ 2000000000000 := by have := HL.out; omega
      generalize zpad l k = Z at *
      go_wp2
      go_round
      case rel => exact ⟨k + 1, by omega, by rw [← HS.out]; exact v_str (bs_append Z [0])⟩
      case measure =>
        rw [show bs Z ++ ⟨#[0]⟩ = bs (Z ++ [0]) from bs_append Z [0]]
        simp [slenC, bs_size]; omega
    · obtain rfl : k = zc l.length := by omega
      have m1 : (((zpad l (zc l.length)).length : Int) % 64 != 56) = false := by have := zc_end l.length; rw [bne_eq_false_iff_eq]; omega
      obtain ⟨Z, hZ⟩ : ∃ Z, Z = zpad l (zc l.length) := ⟨_, rfl⟩
      rw [← hZ] at m1 hzl ⊢
      have HZ := Lib.hid hZ
      have HZL := Lib.hid (show Z.length ≤ 2000000000000 by omega)
      clear hZ hk hkz hzl hz
      go_wp2
      clear m1
      go_loopw [0, 4] (fun v i wx => ∃ j : Nat, j ≤ 8 ∧ i = .int .i64 (7 - (j : Int)) ∧ v = .string (bs (Z ++ (be8 (8 * l.length)).take j)) ∧ Hid (Below w.heap.size w wx)) (fun v _ _ => 9000000000000 - slenC (some v))
      case atStart => exact ⟨0, by omega, rfl, by simp, b_refl _⟩
      case round =>
        obtain ⟨j, hj, rfl, rfl, HB⟩ := hrel
        have HL2 := Lib.hid (show (Z ++ (be8 (8 * l.length)).take j).length ≤ 2000000000010 by rw [List.length_append, List.length_take]; have := HZL.out; simp [be8]; omega)
        by_cases hj8 : j < 8
        · have HJ := Lib.hid hj8
          clear hj8 hj
          have hj := HJ.out
          obtain ⟨jn, hjn⟩ : ∃ jn, jn = j + 1 := ⟨_, rfl⟩
          have HJN := Lib.hid hjn
          clear hjn
          have hcv := HCV.out
          rcases (by omega : j = 0 ∨ j = 1 ∨ j = 2 ∨ j = 3 ∨ j = 4 ∨ j = 5 ∨ j = 6 ∨ j = 7) with rfl | rfl | rfl | rfl | rfl | rfl | rfl | rfl
          all_goals
            clear hj
            have hlen := HZL.out
            have hb8 := be8_length (8 * l.length)
            go_wp2
            have hjn := HJN.out
            refine ⟨⟨jn, by omega, ?_, ?_, HB.out.trans ((b_alloc _ _).mono HB.out.size)⟩, ?_⟩
            · subst hjn; rfl
            · subst hjn; exact v_str (congrArg bs (pad_fin l.length _ _ HJ.out (by simp only [be8_num]; omega) Z))
            · simp [slenC]; omega
        · obtain rfl : j = 8 := by omega
          go_wp2
          go_ret
          refine ⟨?_, HB.out⟩
          show Ending.returned (.string (bs (Z ++ (be8 (8 * l.length)).take 8))) = _
          rw [HZ.out]
          rfl
end Go.Proofs.Ytahmacnmphjhgaa
namespace Go.Proofs.Ytahmacnmphjhgaa
open Go.RowKit
variable {P : Program}
theorem madeCells_one (z : Value) (n : Nat) : madeCells #[z] n = (List.replicate n z).toArray := by
  apply Array.ext
  · simp [madeCells]
  · intro i h1 h2
    simp [madeCells]
    simp [madeCells, Nat.mod_one]
theorem make_one (t e : TypeId) (z : Value) (bytes : Nat) (ht : P.underlying t = some (.slice e)) (hinfo : (P.info? e).map (fun i => (i.zero, i.size, i.bytes)) = some (some z, 1, bytes)) (hz : z.cells = #[z]) (n : Nat) (hb : (bytes : Int) * (n : Int) ≤ 281474976710656) (hn : n ≤ 140737488355328) (w : World) :
    (Instr.makeSlice t (.int .i64 (n : Int)) (.int .i64 (n : Int))).run P w = .ok (.slice (some ⟨w.heap.size, 0, none⟩) n n) (w.alloc (.cells (List.replicate n z).toArray e)) := by
  obtain ⟨i, hi, hz0, hi1, hi2⟩ := info_parts hinfo
  have := run_make (P := P) w t e i z ht hi hz0 .i64 .i64 n n (by omega) (Int.le_refl _) (by rw [hi2]; exact hb) (by omega)
  rw [this, hz, hi1, Nat.mul_one, Int.toNat_natCast, madeCells_one]
end Go.Proofs.Ytahmacnmphjhgaa
namespace Go.Proofs.Ytahmacnmphjhgaa
open Go.RowKit Oct

set_option maxRecDepth 100000 in
set_option maxHeartbeats 4000000 in
theorem schedule_any (l : List UInt8) (w : World) (hl : 64 ≤ l.length) :
    Calls Try.prog 92 #[.string (bs l)] w fun e w' => e = .returned (.slice (some ⟨w.heap.size, 0, none⟩) 64 64) ∧ Blk w' w.heap.size 131 (ucells (wl l 64)) ∧ Below w.heap.size w w' := by
  have hmk : (Instr.makeSlice 113 (.int .i64 64) (.int .i64 64)).run Try.prog w = .ok (.slice (some ⟨w.heap.size, 0, none⟩) 64 64) (w.alloc (.cells (List.replicate 64 (.int .u32 0)).toArray 131)) := make_one (P := Try.prog) 113 131 (.int .u32 0) 4 Try.underlying113 (by kernel_rfl) rfl 64 (by decide) (by decide) w
  go_enter Try.func92, Try.ntmps92
  go_wp2
  clear hmk
  go_loopw [4] (fun t wx => ∃ k : Nat, k ≤ 16 ∧ t = .int .i64 k ∧ Hid (Blk wx w.heap.size 131 (ucells (wrow l k))) ∧ Hid (Below w.heap.size w wx)) (fun t _ => 16 - (intOf t).toNat)
  case atStart => exact ⟨0, by omega, rfl, Blk.new w _ _, b_alloc w _⟩
  case round =>
    obtain ⟨k, hk, rfl, HB, HW⟩ := hrel
    by_cases hk16 : k < 16
    · have k1 : (k : Int) < 16 := by omega
      have k0 : (0 : Int) ≤ (k : Int) := by omega
      have k64 : (k : Int) < 64 := by omega
      have x0 : (0 : Int) ≤ 4 * (k : Int) := by omega
      have x1 : 4 * (k : Int) < (l.length : Int) := by omega
      have x2 : 4 * (k : Int) + 1 < (l.length : Int) := by omega
      have x3 : 4 * (k : Int) + 2 < (l.length : Int) := by omega
      have y2 : 0 ≤ 4 * (k : Int) + 1 := by omega
      have y3 : 0 ≤ 4 * (k : Int) + 2 := by omega
      have y4 : 0 ≤ 4 * (k : Int) + 3 := by omega
      have x4 : 4 * (k : Int) + 3 < (l.length : Int) := by omega
      go_wp2
      refine region_tail 31 [] (by kernel_rfl) (by kernel_rfl) ?_
      simp only [List.take_succ_cons, List.take_zero, List.drop_succ_cons, List.drop_zero]
      (repeat (first | (refine wpG_skip (by kernel_rfl) (fun K hK => ?_); go_big_quiet_skip; refine wpQuiet_nil (hK _ ?_); clear hK K) | (refine wpG_quiet (by rfl) (by rfl) (fun K hK => ?_); go_big_quiet_want; go_big_quiet_op; go_big_quiet_on; refine wpQuiet_nil (hK _ ?_); clear hK K)))
      (try simp only [U_byte, U_shl24, U_shl16, U_shl8, U_shr3, U_shr10, U_or, U_xor, U_and, U_add, U_add', U_add3, U_add4, U_add5])
      (intro w' hB hA; simp only [Facts.all_some, Facts.all_none, and_true] at hA)
      have B' := HB.out.below hB
      have hc := wrow_set l k (by omega)
      rw [wnext_low l k hk16] at hc
      have hlen : k < (ucells (wrow l k)).length := by rw [ucells_length, wrow_length l k (by omega)]; omega
      have HE := Lib.hid (be32_get l (4 * k) (by omega) (by omega) (by omega) (by omega))
      obtain ⟨cu, c1⟩ := B'.ex hlen
      have f1 := B'.free hlen
      have HS := Lib.hid (B'.set k (.int .u32 (U (be32 l (4 * k)))))
      have HC := Lib.hid hc
      have HB1 := Lib.hid hB
      clear B' hc hB hlen
      go_wp2
      rw [HE.out]
      refine ⟨⟨k + 1, by omega, by go_num, ?_, (bt HW.out HB1.out).setCell (Nat.le_refl _) _⟩, by simp [intOf]; omega⟩
      have := HS.out
      rw [ucells_set, HC.out] at this
      exact this
    · have hk : k = 16 := by omega
      subst hk
      go_wp2
      go_loopw [5] (fun t wx => ∃ k : Nat, 16 ≤ k ∧ k ≤ 64 ∧ t = .int .i64 k ∧ Hid (Blk wx w.heap.size 131 (ucells (wrow l k))) ∧ Hid (Below w.heap.size w wx)) (fun t _ => 64 - (intOf t).toNat)
      case atStart => exact ⟨16, by omega, by omega, rfl, HB, HW⟩
      case round =>
        obtain ⟨k, hk, hk', rfl, HB, HW⟩ := hrel
        by_cases hk16 : k < 64
        · have k1 : (k : Int) < 64 := by omega
          have k0 : (0 : Int) ≤ (k : Int) := by omega
          have x0 : (0 : Int) ≤ (k : Int) - 15 := by omega
          have x1 : (k : Int) - 15 < 64 := by omega
          have y0 : (0 : Int) ≤ (k : Int) - 2 := by omega
          have y1 : (k : Int) - 2 < 64 := by omega
          have z0 : (0 : Int) ≤ (k : Int) - 16 := by omega
          have z1 : (k : Int) - 16 < 64 := by omega
          have v0 : (0 : Int) ≤ (k : Int) - 7 := by omega
          have v1 : (k : Int) - 7 < 64 := by omega
          have c15 := HB.out.cell (wrow_at l k (k - 15) (by omega) (by omega))
          have c2 := HB.out.cell (wrow_at l k (k - 2) (by omega) (by omega))
          have c16 := HB.out.cell (wrow_at l k (k - 16) (by omega) (by omega))
          have c7 := HB.out.cell (wrow_at l k (k - 7) (by omega) (by omega))
          have hc := wrow_set l k (by omega)
          rw [wnext_high l k hk] at hc
          generalize (wl l k).getD (k - 15) 0 = a at *
          generalize (wl l k).getD (k - 2) 0 = b at *
          generalize (wl l k).getD (k - 16) 0 = c at *
          generalize (wl l k).getD (k - 7) 0 = d at *
          have HC := Lib.hid hc
          clear hc
          go_wp2
          refine region_known [(4, .exact Bel (.int .u32 (U a))), (5, .exact Bel (.int .u32 (U (rotr a 7)))), (10, .exact Bel (.int .u32 (U a))), (11, .exact Bel (.int .u32 (U (rotr a 18)))), (17, .exact Bel (.int .u32 (U a)))] (by kernel_rfl) (by kernel_rfl) ?_
          (repeat (first | (refine wpG_skip (by kernel_rfl) (fun K hK => ?_); go_big_quiet_skip; refine wpQuiet_nil (hK _ ?_); clear hK K) | (refine wpG_quiet (by rfl) (by rfl) (fun K hK => ?_); go_big_quiet_want; go_big_quiet_op; go_big_quiet_on; refine wpQuiet_nil (hK _ ?_); clear hK K)))
          refine wpG_exact rfl (by kernel_rfl) (fun w' G hB hS hG => ?_) (fun K hK => ?_)
          · have cc := Below.keeps hB c15
            go_simp
            exact hG _ (Bel.refl _)
          go_simp; refine hK _ ?_; clear hK K; (repeat (first | (refine wpG_skip (by kernel_rfl) (fun K hK => ?_); go_big_quiet_skip; refine wpQuiet_nil (hK _ ?_); clear hK K) | (refine wpG_quiet (by rfl) (by rfl) (fun K hK => ?_); go_big_quiet_want; go_big_quiet_op; go_big_quiet_on; refine wpQuiet_nil (hK _ ?_); clear hK K)))
          refine wpG_exact rfl (by kernel_rfl) (fun w' G hB hS hG => ?_) (fun K hK => ?_)
          · go_simp
            exact calls_told hG (rrot_any a 7 _ (by omega) (by omega))
          go_simp; refine hK _ ?_; clear hK K; (repeat (first | (refine wpG_skip (by kernel_rfl) (fun K hK => ?_); go_big_quiet_skip; refine wpQuiet_nil (hK _ ?_); clear hK K) | (refine wpG_quiet (by rfl) (by rfl) (fun K hK => ?_); go_big_quiet_want; go_big_quiet_op; go_big_quiet_on; refine wpQuiet_nil (hK _ ?_); clear hK K)))
          refine wpG_exact rfl (by kernel_rfl) (fun w' G hB hS hG => ?_) (fun K hK => ?_)
          · have cc := Below.keeps hB c15
            go_simp
            exact hG _ (Bel.refl _)
          go_simp; refine hK _ ?_; clear hK K; (repeat (first | (refine wpG_skip (by kernel_rfl) (fun K hK => ?_); go_big_quiet_skip; refine wpQuiet_nil (hK _ ?_); clear hK K) | (refine wpG_quiet (by rfl) (by rfl) (fun K hK => ?_); go_big_quiet_want; go_big_quiet_op; go_big_quiet_on; refine wpQuiet_nil (hK _ ?_); clear hK K)))
          refine wpG_exact rfl (by kernel_rfl) (fun w' G hB hS hG => ?_) (fun K hK => ?_)
          · go_simp
            exact calls_told hG (rrot_any a 18 _ (by omega) (by omega))
          go_simp; refine hK _ ?_; clear hK K; (repeat (first | (refine wpG_skip (by kernel_rfl) (fun K hK => ?_); go_big_quiet_skip; refine wpQuiet_nil (hK _ ?_); clear hK K) | (refine wpG_quiet (by rfl) (by rfl) (fun K hK => ?_); go_big_quiet_want; go_big_quiet_op; go_big_quiet_on; refine wpQuiet_nil (hK _ ?_); clear hK K)))
          refine wpG_exact rfl (by kernel_rfl) (fun w' G hB hS hG => ?_) (fun K hK => ?_)
          · have cc := Below.keeps hB c15
            go_simp
            exact hG _ (Bel.refl _)
          go_simp; refine hK _ ?_; clear hK K; (repeat (first | (refine wpG_skip (by kernel_rfl) (fun K hK => ?_); go_big_quiet_skip; refine wpQuiet_nil (hK _ ?_); clear hK K) | (refine wpG_quiet (by rfl) (by rfl) (fun K hK => ?_); go_big_quiet_want; go_big_quiet_op; go_big_quiet_on; refine wpQuiet_nil (hK _ ?_); clear hK K)))
          (try simp only [U_byte, U_shl24, U_shl16, U_shl8, U_shr3, U_shr10, U_or, U_xor, U_and, U_add, U_add', U_add3, U_add4, U_add5])
          (intro w' hB hA; simp only [Facts.all_some, Facts.all_none, and_true] at hA)
          have hs0 : rotr a 7 ^^^ rotr a 18 ^^^ a >>> 3 = sg0 a := rfl
          rw [hs0]
          replace c2 := Below.keeps hB c2
          replace c16 := Below.keeps hB c16
          replace c7 := Below.keeps hB c7
          have HB2 := Lib.hid (HB.out.below hB)
          have HW2 := Lib.hid (bt HW.out hB)
          clear hA hB hs0 c15 HB HW x0 x1
          go_wp2
          refine region_known [(4, .exact Bel (.int .u32 (U b))), (5, .exact Bel (.int .u32 (U (rotr b 17)))), (10, .exact Bel (.int .u32 (U b))), (11, .exact Bel (.int .u32 (U (rotr b 19)))), (17, .exact Bel (.int .u32 (U b)))] (by kernel_rfl) (by kernel_rfl) ?_
          (repeat (first | (refine wpG_skip (by kernel_rfl) (fun K hK => ?_); go_big_quiet_skip; refine wpQuiet_nil (hK _ ?_); clear hK K) | (refine wpG_quiet (by rfl) (by rfl) (fun K hK => ?_); go_big_quiet_want; go_big_quiet_op; go_big_quiet_on; refine wpQuiet_nil (hK _ ?_); clear hK K)))
          refine wpG_exact rfl (by kernel_rfl) (fun w' G hB hS hG => ?_) (fun K hK => ?_)
          · have cc := Below.keeps hB c2
            go_simp
            exact hG _ (Bel.refl _)
          go_simp; refine hK _ ?_; clear hK K; (repeat (first | (refine wpG_skip (by kernel_rfl) (fun K hK => ?_); go_big_quiet_skip; refine wpQuiet_nil (hK _ ?_); clear hK K) | (refine wpG_quiet (by rfl) (by rfl) (fun K hK => ?_); go_big_quiet_want; go_big_quiet_op; go_big_quiet_on; refine wpQuiet_nil (hK _ ?_); clear hK K)))
          refine wpG_exact rfl (by kernel_rfl) (fun w' G hB hS hG => ?_) (fun K hK => ?_)
          · go_simp
            exact calls_told hG (rrot_any b 17 _ (by omega) (by omega))
          go_simp; refine hK _ ?_; clear hK K; (repeat (first | (refine wpG_skip (by kernel_rfl) (fun K hK => ?_); go_big_quiet_skip; refine wpQuiet_nil (hK _ ?_); clear hK K) | (refine wpG_quiet (by rfl) (by rfl) (fun K hK => ?_); go_big_quiet_want; go_big_quiet_op; go_big_quiet_on; refine wpQuiet_nil (hK _ ?_); clear hK K)))
          refine wpG_exact rfl (by kernel_rfl) (fun w' G hB hS hG => ?_) (fun K hK => ?_)
          · have cc := Below.keeps hB c2
            go_simp
            exact hG _ (Bel.refl _)
          go_simp; refine hK _ ?_; clear hK K; (repeat (first | (refine wpG_skip (by kernel_rfl) (fun K hK => ?_); go_big_quiet_skip; refine wpQuiet_nil (hK _ ?_); clear hK K) | (refine wpG_quiet (by rfl) (by rfl) (fun K hK => ?_); go_big_quiet_want; go_big_quiet_op; go_big_quiet_on; refine wpQuiet_nil (hK _ ?_); clear hK K)))
          refine wpG_exact rfl (by kernel_rfl) (fun w' G hB hS hG => ?_) (fun K hK => ?_)
          · go_simp
            exact calls_told hG (rrot_any b 19 _ (by omega) (by omega))
          go_simp; refine hK _ ?_; clear hK K; (repeat (first | (refine wpG_skip (by kernel_rfl) (fun K hK => ?_); go_big_quiet_skip; refine wpQuiet_nil (hK _ ?_); clear hK K) | (refine wpG_quiet (by rfl) (by rfl) (fun K hK => ?_); go_big_quiet_want; go_big_quiet_op; go_big_quiet_on; refine wpQuiet_nil (hK _ ?_); clear hK K)))
          refine wpG_exact rfl (by kernel_rfl) (fun w' G hB hS hG => ?_) (fun K hK => ?_)
          · have cc := Below.keeps hB c2
            go_simp
            exact hG _ (Bel.refl _)
          go_simp; refine hK _ ?_; clear hK K; (repeat (first | (refine wpG_skip (by kernel_rfl) (fun K hK => ?_); go_big_quiet_skip; refine wpQuiet_nil (hK _ ?_); clear hK K) | (refine wpG_quiet (by rfl) (by rfl) (fun K hK => ?_); go_big_quiet_want; go_big_quiet_op; go_big_quiet_on; refine wpQuiet_nil (hK _ ?_); clear hK K)))
          (try simp only [U_byte, U_shl24, U_shl16, U_shl8, U_shr3, U_shr10, U_or, U_xor, U_and, U_add, U_add', U_add3, U_add4, U_add5])
          intro w3 hB hA
          have hs1 : rotr b 17 ^^^ rotr b 19 ^^^ b >>> 10 = sg1 b := rfl
          rw [hs1]
          replace c16 := Below.keeps hB c16
          replace c7 := Below.keeps hB c7
          have HB3 := Lib.hid (HB2.out.below hB)
          have HW3 := Lib.hid (bt HW2.out hB)
          clear hA hB hs1 c2 HB2 HW2 y0 y1
          go_wp2
          refine region_tail 17 [(7, .exact Bel (.int .u32 (U d))), (15, .exact Bel (.int .u32 (U c)))] (by kernel_rfl) (by kernel_rfl) ?_
          simp only [List.take_succ_cons, List.take_zero, List.drop_succ_cons, List.drop_zero]
          (repeat (first | (refine wpG_skip (by kernel_rfl) (fun K hK => ?_); go_big_quiet_skip; refine wpQuiet_nil (hK _ ?_); clear hK K) | (refine wpG_quiet (by rfl) (by rfl) (fun K hK => ?_); go_big_quiet_want; go_big_quiet_op; go_big_quiet_on; refine wpQuiet_nil (hK _ ?_); clear hK K)))
          refine wpG_exact rfl (by kernel_rfl) (fun w' G hB hS hG => ?_) (fun K hK => ?_)
          · have cc := Below.keeps hB c7
            go_simp
            exact hG _ (Bel.refl _)
          go_simp; refine hK _ ?_; clear hK K; (repeat (first | (refine wpG_skip (by kernel_rfl) (fun K hK => ?_); go_big_quiet_skip; refine wpQuiet_nil (hK _ ?_); clear hK K) | (refine wpG_quiet (by rfl) (by rfl) (fun K hK => ?_); go_big_quiet_want; go_big_quiet_op; go_big_quiet_on; refine wpQuiet_nil (hK _ ?_); clear hK K)))
          refine wpG_exact rfl (by kernel_rfl) (fun w' G hB hS hG => ?_) (fun K hK => ?_)
          · have cc := Below.keeps hB c16
            go_simp
            exact hG _ (Bel.refl _)
          go_simp; refine hK _ ?_; clear hK K; (repeat (first | (refine wpG_skip (by kernel_rfl) (fun K hK => ?_); go_big_quiet_skip; refine wpQuiet_nil (hK _ ?_); clear hK K) | (refine wpG_quiet (by rfl) (by rfl) (fun K hK => ?_); go_big_quiet_want; go_big_quiet_op; go_big_quiet_on; refine wpQuiet_nil (hK _ ?_); clear hK K)))
          (try simp only [U_byte, U_shl24, U_shl16, U_shl8, U_shr3, U_shr10, U_or, U_xor, U_and, U_add, U_add', U_add3, U_add4, U_add5])
          intro w4 hB hA
          have B' := HB3.out.below hB
          have hlen : k < (ucells (wrow l k)).length := by rw [ucells_length, wrow_length l k (by omega)]; omega
          obtain ⟨cu, c1⟩ := B'.ex hlen
          have f1 := B'.free hlen
          have HS := Lib.hid (B'.set k (.int .u32 (U (sg1 b + d + sg0 a + c))))
          have HB4 := Lib.hid (bt HW3.out hB)
          clear B' hB hlen hA c7 c16
          go_wp2
          refine ⟨?_, by simp [intOf]; omega⟩
          (repeat apply Exists.intro)
          refine ⟨⟨k + 1, by omega, by omega, by go_num, ?_, HB4.out.setCell (Nat.le_refl _) _⟩, rfl⟩
          have := HS.out
          have hc := HC.out
          rw [show c + sg0 a + d + sg1 b = sg1 b + d + sg0 a + c by ac_rfl] at hc
          rw [ucells_set, hc] at this
          exact this
        · have hk : k = 64 := by omega
          subst hk
          rw [wrow_end] at HB
          go_wp2
          go_ret
          exact ⟨rfl, HB.out, HW.out⟩
end Go.Proofs.Ytahmacnmphjhgaa
namespace Go.Proofs.Ytahmacnmphjhgaa
open Go.RowKit Oct

theorem infoU32 : (Try.prog.info? 131).map (fun i => (i.zero, i.size, i.bytes)) = some (some (.int .u32 0), 1, 4) := by kernel_rfl
theorem ucells_ones (l : List UInt32) : ∀ u ∈ ucells l, u.oneCell' = true := by
  intro u hu
  simp only [ucells, List.mem_map] at hu
  obtain ⟨x, _, rfl⟩ := hu; rfl
theorem ucells_app (l m : List UInt32) : ucells (l ++ m) = ucells l ++ ucells m := by simp [ucells]
/-- the sums of words, so far -/
def zadd (h v : List UInt32) (k : Nat) : List UInt32 := List.zipWith (· + ·) (h.take k) (v.take k)
theorem zadd_length (h v : List UInt32) (hl : h.length = 8) (hv : v.length = 8) (k : Nat) (hk : k ≤ 8) : (zadd h v k).length = k := by simp [zadd, hl, hv]; omega
theorem zadd_all (h v : List UInt32) (hl : h.length = 8) (hv : v.length = 8) : zadd h v 8 = List.zipWith (· + ·) h v := by
  simp [zadd, List.take_of_length_le (Nat.le_of_eq hl), List.take_of_length_le (Nat.le_of_eq hv)]
theorem zadd_step (h v : List UInt32) (hl : h.length = 8) (hv : v.length = 8) (k : Nat) (hk : k < 8) : zadd h v k ++ [h.getD k 0 + v.getD k 0] = zadd h v (k + 1) := by
  obtain ⟨a, b, c, d, e, f, g, i, rfl⟩ := eight h hl
  obtain ⟨a', b', c', d', e', f', g', i', rfl⟩ := eight v hv
  match k, hk with
  | 0, _ | 1, _ | 2, _ | 3, _ | 4, _ | 5, _ | 6, _ | 7, _ => rfl
/-- a slice of words of the call's own or another's, in a block of which no cell is written -/
theorem Reads.u {w : World} {a : Option Addr} {n c : Nat} {l : List UInt32} (h : Reads w (.slice a n c) n (ucells l)) (k : Nat) (hk : k < l.length) : ∃ b off, a = some ⟨b, off, none⟩ ∧ w.cell? ⟨b, off + k, none⟩ = some (.int .u32 (U (l.getD k 0))) := by
  obtain ⟨a', c', hv, _, hc⟩ := h
  injection hv with e1 _ _
  subst e1
  exact hc k _ (u_at l k l.length rfl hk)

set_option maxRecDepth 100000 in
set_option maxHeartbeats 8000000 in
theorem rblock_any (vh vk : Value) (h : List UInt32) (hl : h.length = 8) (l : List UInt8) (h64 : 64 ≤ l.length) (w : World) (hh : Reads w vh 8 (ucells h)) (hk : Reads w vk 64 (ucells ktab)) :
    Calls Try.prog 87 #[vh, vk, .string (bs l)] w fun e w' => ∃ v, e = .returned v ∧ w'.ownsRow w.heap.size 131 1 v 8 (ucells (blockF h l)) ∧ Below w.heap.size w w' := by
  have hh0 := hh
  obtain ⟨ah, ch, rfl, _, _⟩ := hh
  have hk0 := hk
  obtain ⟨ak, ck, rfl, _, _⟩ := hk
  have HH := Lib.hid hh0
  have HK := Lib.hid hk0
  have HL := Lib.hid hl
  clear hh0 hk0 hl
  go_enter Try.func87, Try.ntmps87
  go_wp2_with fail
  refine (schedule_any l w h64).mono ?_
  rintro e w1 ⟨rfl, hW1, hB1⟩
  have HB1 := Lib.hid hB1
  obtain ⟨D, hD⟩ : ∃ D, D = w.heap.size := ⟨_, rfl⟩
  rw [← hD] at hW1 ⊢
  have HD := Lib.hid hD
  have HW := Lib.hid hW1
  have hsz1 := hB1.size
  clear hD hB1 hW1
  have hr1 := Lib.hid (HH.out.below HB1.out)
  go_wp2_with (at_builtin; go_must (refine appendN w1 (ucells h) 131 rfl _ _ 113 rfl w1.heap.size (.int .u32 0) 1 4 Try.underlying113 infoU32 rfl (by decide) _ 0 [] rfl (World.ownsRow_nil _ _ _ _) _ 8 rfl hr1.out (by rw [ucells_length, HL.out]) (ucells_ones h) (by decide) (by decide) (Nat.le_refl _) ?_))
  intro v0 w2 hown2 hB2
  have HW2 := Lib.hid (HW.out.below hB2)
  have HK2 := Lib.hid ((HK.out.below HB1.out).below hB2)
  have HH2 := Lib.hid ((HH.out.below HB1.out).below hB2)
  have HB2 := Lib.hid (bt HB1.out hB2)
  have hsz2 := hB2.size
  obtain ⟨a0, c0, rfl⟩ := owns_slice hown2
  have HV0 := Lib.hid (Reads.owned hown2)
  clear hown2 hB2 HW hr1 HB1
  go_wp2
  go_loopw [8, 9] (fun v t wx => ∃ (k : Nat) (a : Option Addr) (c : Nat), k ≤ 64 ∧ t = .int .i64 k ∧ v = .slice a 8 c ∧ Hid (Reads wx (.slice a 8 c) 8 (ucells (rounds (wl l 64) h k))) ∧ Hid (Below w2.heap.size w2 wx)) (fun _ t _ => 64 - (intOf t).toNat)
  case atStart => exact ⟨0, a0, c0, by omega, rfl, rfl, HV0, b_refl _⟩
  case round =>
    clear HV0
    obtain ⟨k, a, c, hk, rfl, rfl, HV, HB⟩ := hrel
    by_cases hk64 : k < 64
    · have k1 : (k : Int) < 64 := by omega
      have k0 : (0 : Int) ≤ (k : Int) := by omega
      have hst : rounds (wl l 64) h (k + 1) = step (ktab.getD k 0) ((wl l 64).getD k 0) (rounds (wl l 64) h k) := rfl
      obtain ⟨v0, v1, v2, v3, v4, v5, v6, v7, hv⟩ := eight _ (rounds_length (wl l 64) h HL.out k)
      rw [hv] at HV hst
      obtain ⟨b, off, rfl, d0⟩ := HV.out.u 0 (by simp)
      obtain ⟨_, _, e1, d1⟩ := HV.out.u 1 (by simp); cases e1
      obtain ⟨_, _, e1, d2⟩ := HV.out.u 2 (by simp); cases e1
      obtain ⟨_, _, e1, d3⟩ := HV.out.u 3 (by simp); cases e1
      obtain ⟨_, _, e1, d4⟩ := HV.out.u 4 (by simp); cases e1
      obtain ⟨_, _, e1, d5⟩ := HV.out.u 5 (by simp); cases e1
      obtain ⟨_, _, e1, d6⟩ := HV.out.u 6 (by simp); cases e1
      obtain ⟨_, _, e1, d7⟩ := HV.out.u 7 (by simp); cases e1
      have e0 : wr.cell? ⟨b, off, none⟩ = some (.int .u32 (U v0)) := d0
      replace d1 : wr.cell? ⟨b, off + 1, none⟩ = some (.int .u32 (U v1)) := d1
      replace d2 : wr.cell? ⟨b, off + 2, none⟩ = some (.int .u32 (U v2)) := d2
      replace d3 : wr.cell? ⟨b, off + 3, none⟩ = some (.int .u32 (U v3)) := d3
      replace d4 : wr.cell? ⟨b, off + 4, none⟩ = some (.int .u32 (U v4)) := d4
      replace d5 : wr.cell? ⟨b, off + 5, none⟩ = some (.int .u32 (U v5)) := d5
      replace d6 : wr.cell? ⟨b, off + 6, none⟩ = some (.int .u32 (U v6)) := d6
      replace d7 : wr.cell? ⟨b, off + 7, none⟩ = some (.int .u32 (U v7)) := d7
      clear d0
      have cw := (HW2.out.below HB.out).cell (u_at (wl l 64) k 64 (wl_length l 64) hk64)
      obtain ⟨bk, ok, rfl, ck⟩ := (HK2.out.below HB.out).u k (by rw [ktab_length]; exact hk64)
      generalize (wl l 64).getD k 0 = ww at *
      generalize ktab.getD k 0 = kk at *
      have HST := Lib.hid hst
      clear hst hv
      go_wp2
      refine region_known [(2, .exact Bel (.int .u32 (U v4))), (3, .exact Bel (.int .u32 (U (rotr v4 6)))), (6, .exact Bel (.int .u32 (U v4))), (7, .exact Bel (.int .u32 (U (rotr v4 11)))), (11, .exact Bel (.int .u32 (U v4))), (12, .exact Bel (.int .u32 (U (rotr v4 25))))] (by kernel_rfl) (by kernel_rfl) ?_
      (repeat (first | (refine wpG_skip (by kernel_rfl) (fun K hK => ?_); go_big_quiet_skip; refine wpQuiet_nil (hK _ ?_); clear hK K) | (refine wpG_quiet (by rfl) (by rfl) (fun K hK => ?_); go_big_quiet_want; go_big_quiet_op; go_big_quiet_on; refine wpQuiet_nil (hK _ ?_); clear hK K)))
      refine wpG_exact rfl (by kernel_rfl) (fun w' G hB hS hG => ?_) (fun K hK => ?_)
      · have cc := Below.keeps hB d4
        go_simp
        exact hG _ (Bel.refl _)
      go_simp; refine hK _ ?_; clear hK K; (repeat (first | (refine wpG_skip (by kernel_rfl) (fun K hK => ?_); go_big_quiet_skip; refine wpQuiet_nil (hK _ ?_); clear hK K) | (refine wpG_quiet (by rfl) (by rfl) (fun K hK => ?_); go_big_quiet_want; go_big_quiet_op; go_big_quiet_on; refine wpQuiet_nil (hK _ ?_); clear hK K)))
      refine wpG_exact rfl (by kernel_rfl) (fun w' G hB hS hG => ?_) (fun K hK => ?_)
      · go_simp
        exact calls_told hG (rrot_any v4 6 _ (by omega) (by omega))
      go_simp; refine hK _ ?_; clear hK K; (repeat (first | (refine wpG_skip (by kernel_rfl) (fun K hK => ?_); go_big_quiet_skip; refine wpQuiet_nil (hK _ ?_); clear hK K) | (refine wpG_quiet (by rfl) (by rfl) (fun K hK => ?_); go_big_quiet_want; go_big_quiet_op; go_big_quiet_on; refine wpQuiet_nil (hK _ ?_); clear hK K)))
      refine wpG_exact rfl (by kernel_rfl) (fun w' G hB hS hG => ?_) (fun K hK => ?_)
      · have cc := Below.keeps hB d4
        go_simp
        exact hG _ (Bel.refl _)
      go_simp; refine hK _ ?_; clear hK K; (repeat (first | (refine wpG_skip (by kernel_rfl) (fun K hK => ?_); go_big_quiet_skip; refine wpQuiet_nil (hK _ ?_); clear hK K) | (refine wpG_quiet (by rfl) (by rfl) (fun K hK => ?_); go_big_quiet_want; go_big_quiet_op; go_big_quiet_on; refine wpQuiet_nil (hK _ ?_); clear hK K)))
      refine wpG_exact rfl (by kernel_rfl) (fun w' G hB hS hG => ?_) (fun K hK => ?_)
      · go_simp
        exact calls_told hG (rrot_any v4 11 _ (by omega) (by omega))
      go_simp; refine hK _ ?_; clear hK K; (repeat (first | (refine wpG_skip (by kernel_rfl) (fun K hK => ?_); go_big_quiet_skip; refine wpQuiet_nil (hK _ ?_); clear hK K) | (refine wpG_quiet (by rfl) (by rfl) (fun K hK => ?_); go_big_quiet_want; go_big_quiet_op; go_big_quiet_on; refine wpQuiet_nil (hK _ ?_); clear hK K)))
      refine wpG_exact rfl (by kernel_rfl) (fun w' G hB hS hG => ?_) (fun K hK => ?_)
      · have cc := Below.keeps hB d4
        go_simp
        exact hG _ (Bel.refl _)
      go_simp; refine hK _ ?_; clear hK K; (repeat (first | (refine wpG_skip (by kernel_rfl) (fun K hK => ?_); go_big_quiet_skip; refine wpQuiet_nil (hK _ ?_); clear hK K) | (refine wpG_quiet (by rfl) (by rfl) (fun K hK => ?_); go_big_quiet_want; go_big_quiet_op; go_big_quiet_on; refine wpQuiet_nil (hK _ ?_); clear hK K)))
      refine wpG_exact rfl (by kernel_rfl) (fun w' G hB hS hG => ?_) (fun K hK => ?_)
      · go_simp
        exact calls_told hG (rrot_any v4 25 _ (by omega) (by omega))
      go_simp; refine hK _ ?_; clear hK K; (repeat (first | (refine wpG_skip (by kernel_rfl) (fun K hK => ?_); go_big_quiet_skip; refine wpQuiet_nil (hK _ ?_); clear hK K) | (refine wpG_quiet (by rfl) (by rfl) (fun K hK => ?_); go_big_quiet_want; go_big_quiet_op; go_big_quiet_on; refine wpQuiet_nil (hK _ ?_); clear hK K)))
      (try simp only [U_byte, U_shl24, U_shl16, U_shl8, U_shr3, U_shr10, U_or, U_xor, U_and, U_add, U_add', U_add3, U_add4, U_add5])
      intro w3 hB hA
      replace e0 := Below.keeps hB e0
      replace d1 := Below.keeps hB d1
      replace d2 := Below.keeps hB d2
      replace d3 := Below.keeps hB d3
      replace d4 := Below.keeps hB d4
      replace d5 := Below.keeps hB d5
      replace d6 := Below.keeps hB d6
      replace d7 := Below.keeps hB d7
      replace cw := Below.keeps hB cw
      replace ck := Below.keeps hB ck
      have HB3 := Lib.hid (HB.out.trans (hB.mono HB.out.size))
      clear hA hB
      go_wp2
      refine region_known [(2, .exact Bel (.int .u32 (U v0))), (3, .exact Bel (.int .u32 (U (rotr v0 2)))), (6, .exact Bel (.int .u32 (U v0))), (7, .exact Bel (.int .u32 (U (rotr v0 13)))), (11, .exact Bel (.int .u32 (U v0))), (12, .exact Bel (.int .u32 (U (rotr v0 22))))] (by kernel_rfl) (by kernel_rfl) ?_
      (repeat (first | (refine wpG_skip (by kernel_rfl) (fun K hK => ?_); go_big_quiet_skip; refine wpQuiet_nil (hK _ ?_); clear hK K) | (refine wpG_quiet (by rfl) (by rfl) (fun K hK => ?_); go_big_quiet_want; go_big_quiet_op; go_big_quiet_on; refine wpQuiet_nil (hK _ ?_); clear hK K)))
      refine wpG_exact rfl (by kernel_rfl) (fun w' G hB hS hG => ?_) (fun K hK => ?_)
      · have cc := Below.keeps hB e0
        go_simp
        exact hG _ (Bel.refl _)
      go_simp; refine hK _ ?_; clear hK K; (repeat (first | (refine wpG_skip (by kernel_rfl) (fun K hK => ?_); go_big_quiet_skip; refine wpQuiet_nil (hK _ ?_); clear hK K) | (refine wpG_quiet (by rfl) (by rfl) (fun K hK => ?_); go_big_quiet_want; go_big_quiet_op; go_big_quiet_on; refine wpQuiet_nil (hK _ ?_); clear hK K)))
      refine wpG_exact rfl (by kernel_rfl) (fun w' G hB hS hG => ?_) (fun K hK => ?_)
      · go_simp
        exact calls_told hG (rrot_any v0 2 _ (by omega) (by omega))
      go_simp; refine hK _ ?_; clear hK K; (repeat (first | (refine wpG_skip (by kernel_rfl) (fun K hK => ?_); go_big_quiet_skip; refine wpQuiet_nil (hK _ ?_); clear hK K) | (refine wpG_quiet (by rfl) (by rfl) (fun K hK => ?_); go_big_quiet_want; go_big_quiet_op; go_big_quiet_on; refine wpQuiet_nil (hK _ ?_); clear hK K)))
      refine wpG_exact rfl (by kernel_rfl) (fun w' G hB hS hG => ?_) (fun K hK => ?_)
      · have cc := Below.keeps hB e0
        go_simp
        exact hG _ (Bel.refl _)
      go_simp; refine hK _ ?_; clear hK K; (repeat (first | (refine wpG_skip (by kernel_rfl) (fun K hK => ?_); go_big_quiet_skip; refine wpQuiet_nil (hK _ ?_); clear hK K) | (refine wpG_quiet (by rfl) (by rfl) (fun K hK => ?_); go_big_quiet_want; go_big_quiet_op; go_big_quiet_on; refine wpQuiet_nil (hK _ ?_); clear hK K)))
      refine wpG_exact rfl (by kernel_rfl) (fun w' G hB hS hG => ?_) (fun K hK => ?_)
      · go_simp
        exact calls_told hG (rrot_any v0 13 _ (by omega) (by omega))
      go_simp; refine hK _ ?_; clear hK K; (repeat (first | (refine wpG_skip (by kernel_rfl) (fun K hK => ?_); go_big_quiet_skip; refine wpQuiet_nil (hK _ ?_); clear hK K) | (refine wpG_quiet (by rfl) (by rfl) (fun K hK => ?_); go_big_quiet_want; go_big_quiet_op; go_big_quiet_on; refine wpQuiet_nil (hK _ ?_); clear hK K)))
      refine wpG_exact rfl (by kernel_rfl) (fun w' G hB hS hG => ?_) (fun K hK => ?_)
      · have cc := Below.keeps hB e0
        go_simp
        exact hG _ (Bel.refl _)
      go_simp; refine hK _ ?_; clear hK K; (repeat (first | (refine wpG_skip (by kernel_rfl) (fun K hK => ?_); go_big_quiet_skip; refine wpQuiet_nil (hK _ ?_); clear hK K) | (refine wpG_quiet (by rfl) (by rfl) (fun K hK => ?_); go_big_quiet_want; go_big_quiet_op; go_big_quiet_on; refine wpQuiet_nil (hK _ ?_); clear hK K)))
      refine wpG_exact rfl (by kernel_rfl) (fun w' G hB hS hG => ?_) (fun K hK => ?_)
      · go_simp
        exact calls_told hG (rrot_any v0 22 _ (by omega) (by omega))
      go_simp; refine hK _ ?_; clear hK K; (repeat (first | (refine wpG_skip (by kernel_rfl) (fun K hK => ?_); go_big_quiet_skip; refine wpQuiet_nil (hK _ ?_); clear hK K) | (refine wpG_quiet (by rfl) (by rfl) (fun K hK => ?_); go_big_quiet_want; go_big_quiet_op; go_big_quiet_on; refine wpQuiet_nil (hK _ ?_); clear hK K)))
      (try simp only [U_byte, U_shl24, U_shl16, U_shl8, U_shr3, U_shr10, U_or, U_xor, U_and, U_add, U_add', U_add3, U_add4, U_add5])
      intro w4 hB hA
      replace e0 := Below.keeps hB e0
      replace d1 := Below.keeps hB d1
      replace d2 := Below.keeps hB d2
      replace d3 := Below.keeps hB d3
      replace d4 := Below.keeps hB d4
      replace d5 := Below.keeps hB d5
      replace d6 := Below.keeps hB d6
      replace d7 := Below.keeps hB d7
      replace cw := Below.keeps hB cw
      replace ck := Below.keeps hB ck
      have HB4 := Lib.hid (HB3.out.trans (hB.mono HB3.out.size))
      clear hA hB
      go_wp2
      go_quiet (fail)
      simp only [U_not]
      (try simp only [U_byte, U_shl24, U_shl16, U_shl8, U_shr3, U_shr10, U_or, U_xor, U_and, U_add, U_add', U_add3, U_add4, U_add5])
      have ht1 : v7 + (rotr v4 6 ^^^ rotr v4 11 ^^^ rotr v4 25) + (v4 &&& v5 ^^^ ~~~v4 &&& v6) + kk + ww = tmp1 v4 v5 v6 v7 kk ww := rfl
      rw [ht1]
      clear ht1 d7 cw ck
      obtain ⟨w5, hwq⟩ : ∃ wq, wq = w4.drewN nq := ⟨_, rfl⟩
      rw [← hwq]
      have hB : Below w4.heap.size w4 w5 := by rw [hwq]; exact Below.drewN' w4 nq
      clear hwq
      replace e0 := Below.keeps hB e0
      replace d1 := Below.keeps hB d1
      replace d2 := Below.keeps hB d2
      replace d3 := Below.keeps hB d3
      replace d4 := Below.keeps hB d4
      replace d5 := Below.keeps hB d5
      replace d6 := Below.keeps hB d6
      have HB5 := Lib.hid (HB4.out.trans (hB.mono HB4.out.size))
      clear hB nq
      go_wp2
      go_quiet (fail)
      (try simp only [U_byte, U_shl24, U_shl16, U_shl8, U_shr3, U_shr10, U_or, U_xor, U_and, U_add, U_add', U_add3, U_add4, U_add5])
      have ht2 : (rotr v0 2 ^^^ rotr v0 13 ^^^ rotr v0 22) + (v0 &&& v1 ^^^ v0 &&& v2 ^^^ v1 &&& v2) = tmp2 v0 v1 v2 := rfl
      rw [ht2]
      clear ht2
      obtain ⟨w6, hwq⟩ : ∃ wq, wq = w5.drewN nq := ⟨_, rfl⟩
      rw [← hwq]
      have hB : Below w5.heap.size w5 w6 := by rw [hwq]; exact Below.drewN' w5 nq
      clear hwq
      replace e0 := Below.keeps hB e0
      replace d1 := Below.keeps hB d1
      replace d2 := Below.keeps hB d2
      replace d3 := Below.keeps hB d3
      replace d4 := Below.keeps hB d4
      replace d5 := Below.keeps hB d5
      replace d6 := Below.keeps hB d6
      have HB6 := Lib.hid (HB5.out.trans (hB.mono HB5.out.size))
      have HST2 := Lib.hid (show rounds (wl l 64) h (k + 1) = [tmp1 v4 v5 v6 v7 kk ww + tmp2 v0 v1 v2, v0, v1, v2, v3 + tmp1 v4 v5 v6 v7 kk ww, v4, v5, v6] by rw [HST.out]; rfl)
      clear hB nq HST
      generalize tmp1 v4 v5 v6 v7 kk ww = t1 at *
      generalize tmp2 v0 v1 v2 = t2 at *
      go_wp2
      refine region_known [(5, .exact Bel (.int .u32 (U v0))), (8, .exact Bel (.int .u32 (U v1))), (11, .exact Bel (.int .u32 (U v2))), (14, .exact Bel (.int .u32 (U v3))), (19, .exact Bel (.int .u32 (U v4))), (22, .exact Bel (.int .u32 (U v5))), (25, .exact Bel (.int .u32 (U v6))), (26, kReads 8 (ucells [t1 + t2, v0, v1, v2, v3 + t1, v4, v5, v6]))] (by kernel_rfl) (by kernel_rfl) ?_
      (repeat (first | (refine wpG_skip (by kernel_rfl) (fun K hK => ?_); go_big_quiet_skip; refine wpQuiet_nil (hK _ ?_); clear hK K) | (refine wpG_quiet (by rfl) (by rfl) (fun K hK => ?_); go_big_quiet_want; go_big_quiet_op; go_big_quiet_on; refine wpQuiet_nil (hK _ ?_); clear hK K)))
      refine wpG_exact rfl (by kernel_rfl) (fun w' G hB hS hG => ?_) (fun K hK => ?_)
      · have cc := Below.keeps hB e0
        go_simp
        exact hG _ (Bel.refl _)
      go_simp; refine hK _ ?_; clear hK K; (repeat (first | (refine wpG_skip (by kernel_rfl) (fun K hK => ?_); go_big_quiet_skip; refine wpQuiet_nil (hK _ ?_); clear hK K) | (refine wpG_quiet (by rfl) (by rfl) (fun K hK => ?_); go_big_quiet_want; go_big_quiet_op; go_big_quiet_on; refine wpQuiet_nil (hK _ ?_); clear hK K)))
      refine wpG_exact rfl (by kernel_rfl) (fun w' G hB hS hG => ?_) (fun K hK => ?_)
      · have cc := Below.keeps hB d1
        go_simp
        exact hG _ (Bel.refl _)
      go_simp; refine hK _ ?_; clear hK K; (repeat (first | (refine wpG_skip (by kernel_rfl) (fun K hK => ?_); go_big_quiet_skip; refine wpQuiet_nil (hK _ ?_); clear hK K) | (refine wpG_quiet (by rfl) (by rfl) (fun K hK => ?_); go_big_quiet_want; go_big_quiet_op; go_big_quiet_on; refine wpQuiet_nil (hK _ ?_); clear hK K)))
      refine wpG_exact rfl (by kernel_rfl) (fun w' G hB hS hG => ?_) (fun K hK => ?_)
      · have cc := Below.keeps hB d2
        go_simp
        exact hG _ (Bel.refl _)
      go_simp; refine hK _ ?_; clear hK K; (repeat (first | (refine wpG_skip (by kernel_rfl) (fun K hK => ?_); go_big_quiet_skip; refine wpQuiet_nil (hK _ ?_); clear hK K) | (refine wpG_quiet (by rfl) (by rfl) (fun K hK => ?_); go_big_quiet_want; go_big_quiet_op; go_big_quiet_on; refine wpQuiet_nil (hK _ ?_); clear hK K)))
      refine wpG_exact rfl (by kernel_rfl) (fun w' G hB hS hG => ?_) (fun K hK => ?_)
      · have cc := Below.keeps hB d3
        go_simp
        exact hG _ (Bel.refl _)
      go_simp; refine hK _ ?_; clear hK K; (repeat (first | (refine wpG_skip (by kernel_rfl) (fun K hK => ?_); go_big_quiet_skip; refine wpQuiet_nil (hK _ ?_); clear hK K) | (refine wpG_quiet (by rfl) (by rfl) (fun K hK => ?_); go_big_quiet_want; go_big_quiet_op; go_big_quiet_on; refine wpQuiet_nil (hK _ ?_); clear hK K)))
      refine wpG_exact rfl (by kernel_rfl) (fun w' G hB hS hG => ?_) (fun K hK => ?_)
      · have cc := Below.keeps hB d4
        go_simp
        exact hG _ (Bel.refl _)
      go_simp; refine hK _ ?_; clear hK K; (repeat (first | (refine wpG_skip (by kernel_rfl) (fun K hK => ?_); go_big_quiet_skip; refine wpQuiet_nil (hK _ ?_); clear hK K) | (refine wpG_quiet (by rfl) (by rfl) (fun K hK => ?_); go_big_quiet_want; go_big_quiet_op; go_big_quiet_on; refine wpQuiet_nil (hK _ ?_); clear hK K)))
      refine wpG_exact rfl (by kernel_rfl) (fun w' G hB hS hG => ?_) (fun K hK => ?_)
      · have cc := Below.keeps hB d5
        go_simp
        exact hG _ (Bel.refl _)
      go_simp; refine hK _ ?_; clear hK K; (repeat (first | (refine wpG_skip (by kernel_rfl) (fun K hK => ?_); go_big_quiet_skip; refine wpQuiet_nil (hK _ ?_); clear hK K) | (refine wpG_quiet (by rfl) (by rfl) (fun K hK => ?_); go_big_quiet_want; go_big_quiet_op; go_big_quiet_on; refine wpQuiet_nil (hK _ ?_); clear hK K)))
      refine wpG_exact rfl (by kernel_rfl) (fun w' G hB hS hG => ?_) (fun K hK => ?_)
      · have cc := Below.keeps hB d6
        go_simp
        exact hG _ (Bel.refl _)
      go_simp; refine hK _ ?_; clear hK K; (repeat (first | (refine wpG_skip (by kernel_rfl) (fun K hK => ?_); go_big_quiet_skip; refine wpQuiet_nil (hK _ ?_); clear hK K) | (refine wpG_quiet (by rfl) (by rfl) (fun K hK => ?_); go_big_quiet_want; go_big_quiet_op; go_big_quiet_on; refine wpQuiet_nil (hK _ ?_); clear hK K)))
      (try simp only [U_byte, U_shl24, U_shl16, U_shl8, U_shr3, U_shr10, U_or, U_xor, U_and, U_add, U_add', U_add3, U_add4, U_add5])
      refine wpG_known (kReads 8 (ucells [t1 + t2, v0, v1, v2, v3 + t1, v4, v5, v6])) rfl (by kernel_rfl) (fun w' G hB hS hG => ?_) (fun x K hK => ?_)
      · go_simp
        exact reads_new hG rfl
      obtain ⟨ad, c⟩ := x; go_simp; refine hK _ ?_; clear hK K; (repeat (first | (refine wpG_skip (by kernel_rfl) (fun K hK => ?_); go_big_quiet_skip; refine wpQuiet_nil (hK _ ?_); clear hK K) | (refine wpG_quiet (by rfl) (by rfl) (fun K hK => ?_); go_big_quiet_want; go_big_quiet_op; go_big_quiet_on; refine wpQuiet_nil (hK _ ?_); clear hK K)))
      intro w7 hB hA
      have hr : Hid (Reads w7 (.slice ad 8 c) 8 (ucells [t1 + t2, v0, v1, v2, v3 + t1, v4, v5, v6])) := all0 hA
      have HB7 := Lib.hid (HB6.out.trans (hB.mono HB6.out.size))
      clear hA hB e0 d1 d2 d3 d4 d5 d6
      go_wp2
      refine ⟨?_, by simp [intOf]; omega⟩
      exact ⟨k + 1, ad, c, by omega, by go_num, rfl, by rw [HST2.out]; exact hr.out, HB7.out⟩
    · obtain rfl : k = 64 := by omega
      obtain ⟨Wr, hWr⟩ : ∃ Wr, Wr = wr := ⟨_, rfl⟩
      subst hWr
      obtain ⟨V, hV⟩ : ∃ V, V = rounds (wl l 64) h 64 := ⟨_, rfl⟩
      rw [← hV] at HV
      have HVL := Lib.hid (show V.length = 8 by rw [hV]; exact rounds_length _ _ HL.out 64)
      have HVD := Lib.hid hV
      clear hV
      have HH3 := Lib.hid (HH2.out.below HB.out)
      have hszr := HB.out.size
      go_wp2
      go_loopw [14, 15] (fun v t wx => ∃ k : Nat, k ≤ 8 ∧ t = .int .i64 k ∧ Hid (wx.ownsRow Wr.heap.size 131 1 v k (ucells (zadd h V k))) ∧ Hid (Below Wr.heap.size Wr wx)) (fun _ t _ => 8 - (intOf t).toNat)
      case atStart => exact ⟨0, by omega, rfl, World.ownsRow_nil _ _ _ _, b_refl _⟩
      case round =>
        obtain ⟨k, hk, rfl, HO, HX⟩ := hrel
        obtain ⟨ao, co, rfl⟩ := owns_slice HO.out
        by_cases hk8 : k < 8
        · have k1 : (k : Int) < 8 := by omega
          have k0 : (0 : Int) ≤ (k : Int) := by omega
          obtain ⟨bh, oh, rfl, dh⟩ := (HH3.out.below HX.out).u k (by rw [HL.out]; exact hk8)
          obtain ⟨bv, ov, rfl, dv⟩ := (HV.out.below HX.out).u k (by rw [HVL.out]; exact hk8)
          have HZ := Lib.hid (zadd_step h V HL.out HVL.out k hk8)
          generalize h.getD k 0 = hh at *
          generalize V.getD k 0 = vv at *
          go_wp2
          refine region_tail 11 [(4, .exact Bel (.int .u32 (U hh))), (8, .exact Bel (.int .u32 (U vv))), (10, kReads 1 (ucells [hh + vv]))] (by kernel_rfl) (by kernel_rfl) ?_
          simp only [List.take_succ_cons, List.take_zero, List.drop_succ_cons, List.drop_zero]
          (repeat (first | (refine wpG_skip (by kernel_rfl) (fun K hK => ?_); go_big_quiet_skip; refine wpQuiet_nil (hK _ ?_); clear hK K) | (refine wpG_quiet (by rfl) (by rfl) (fun K hK => ?_); go_big_quiet_want; go_big_quiet_op; go_big_quiet_on; refine wpQuiet_nil (hK _ ?_); clear hK K)))
          refine wpG_exact rfl (by kernel_rfl) (fun w' G hB hS hG => ?_) (fun K hK => ?_)
          · have cc := Below.keeps hB dh
            go_simp
            exact hG _ (Bel.refl _)
          go_simp; refine hK _ ?_; clear hK K; (repeat (first | (refine wpG_skip (by kernel_rfl) (fun K hK => ?_); go_big_quiet_skip; refine wpQuiet_nil (hK _ ?_); clear hK K) | (refine wpG_quiet (by rfl) (by rfl) (fun K hK => ?_); go_big_quiet_want; go_big_quiet_op; go_big_quiet_on; refine wpQuiet_nil (hK _ ?_); clear hK K)))
          refine wpG_exact rfl (by kernel_rfl) (fun w' G hB hS hG => ?_) (fun K hK => ?_)
          · have cc := Below.keeps hB dv
            go_simp
            exact hG _ (Bel.refl _)
          go_simp; refine hK _ ?_; clear hK K; (repeat (first | (refine wpG_skip (by kernel_rfl) (fun K hK => ?_); go_big_quiet_skip; refine wpQuiet_nil (hK _ ?_); clear hK K) | (refine wpG_quiet (by rfl) (by rfl) (fun K hK => ?_); go_big_quiet_want; go_big_quiet_op; go_big_quiet_on; refine wpQuiet_nil (hK _ ?_); clear hK K)))
          (try simp only [U_byte, U_shl24, U_shl16, U_shl8, U_shr3, U_shr10, U_or, U_xor, U_and, U_add, U_add', U_add3, U_add4, U_add5])
          refine wpG_known (kReads 1 (ucells [hh + vv])) rfl (by kernel_rfl) (fun w' G hB hS hG => ?_) (fun x K hK => ?_)
          · go_simp
            exact reads_new hG rfl
          obtain ⟨ad, c⟩ := x; go_simp; refine hK _ ?_; clear hK K; (repeat (first | (refine wpG_skip (by kernel_rfl) (fun K hK => ?_); go_big_quiet_skip; refine wpQuiet_nil (hK _ ?_); clear hK K) | (refine wpG_quiet (by rfl) (by rfl) (fun K hK => ?_); go_big_quiet_want; go_big_quiet_op; go_big_quiet_on; refine wpQuiet_nil (hK _ ?_); clear hK K)))
          intro w3 hB hA
          have hr : Hid (Reads w3 (.slice ad 1 c) 1 (ucells [hh + vv])) := all0 hA
          have HO3 := Lib.hid (ownsRow_below HO.out hB)
          have HX3 := Lib.hid (bt HX.out hB)
          have hsz3 : Wr.heap.size ≤ w3.heap.size := HX3.out.size
          clear hA hB dh dv
          go_wp2_with (at_builtin; go_must (refine appendN w3 (ucells [hh + vv]) 131 rfl _ _ 113 rfl Wr.heap.size (.int .u32 0) 1 4 Try.underlying113 infoU32 rfl (by decide) _ _ _ rfl HO3.out _ 1 rfl hr.out rfl (ucells_ones _) (by omega) (by decide) hsz3 ?_); intro v' w4 hown4 hB4)
          refine ⟨?_, by simp [intOf]; omega⟩
          (repeat apply Exists.intro)
          refine ⟨⟨k + 1, by omega, by go_num, ?_, HX3.out.trans hB4⟩, rfl⟩
          rw [← ucells_app, HZ.out] at hown4
          exact hown4
        · obtain rfl : k = 8 := by omega
          have HZ := Lib.hid (zadd_all h V HL.out HVL.out)
          go_wp2
          go_ret
          refine ⟨_, rfl, ?_, ?_⟩
          · have := owns_mono HO.out (show w.heap.size ≤ Wr.heap.size by omega)
            rw [HZ.out, HVD.out] at this
            exact this
          · exact bt HB2.out (bt HB.out HX.out)
end Go.Proofs.Ytahmacnmphjhgaa
namespace Go.Proofs.Ytahmacnmphjhgaa
open Go.RowKit Oct

theorem wb_cells (x : UInt32) : (#[.int .u8 (U x / 16777216), .int .u8 (U x / 65536 % 256), .int .u8 (U x / 256 % 256), .int .u8 (U x % 256)] : Array Value) = (bcells (wb x)).toArray := by
  have := U_lt x
  simp only [bcells, wb, List.map_cons, List.map_nil, U_nat]
  congr 1
  refine congr (congrArg _ (v_int ?_)) (congr (congrArg _ (v_int ?_)) (congr (congrArg _ (v_int ?_)) (congrArg (fun v => [v]) (v_int ?_))))
  all_goals
    rw [UInt8.toNat_ofNat']
    omega
set_option maxRecDepth 100000 in
set_option maxHeartbeats 4000000 in
theorem rsum_any (vk vh : Value) (l : List UInt8) (w : World) (hl : l.length ≤ 1099511627776) (hk : Reads w vk 64 (ucells ktab)) (hh : Reads w vh 8 (ucells h0)) :
    Calls Try.prog 75 #[.string (bs l), vk, vh] w fun e w' => e = .returned (.string (bs (shaF l))) ∧ Below w.heap.size w w' := by
  obtain ⟨ah, ch, rfl, hx1⟩ := id hh
  obtain ⟨ak, ck, rfl, hx2⟩ := id hk
  have HH := Lib.hid hh
  have HK := Lib.hid hk
  clear hh hk hx1 hx2
  go_enter Try.func75, Try.ntmps75
  go_wp2_with fail
  refine (pad_any l w hl).mono ?_
  rintro e w1 ⟨rfl, hB1⟩
  have HB1 := Lib.hid hB1
  have HH1 := Lib.hid (HH.out.below hB1)
  have HK1 := Lib.hid (HK.out.below hB1)
  obtain ⟨T, hT⟩ : ∃ T, T = padTail l l.length := ⟨_, rfl⟩
  have HTM := Lib.hid (show T.length % 64 = 0 by rw [hT]; exact padTail_mod _ _)
  have HTL := Lib.hid (show T.length ≤ 1099511627900 by rw [hT, padTail_length]; have := zc_le l.length; omega)
  have HS := Lib.hid (show outB (absorb h0 T) = shaF l by rw [hT]; rfl)
  rw [← hT]
  clear hT hB1 HH HK
  go_wp2
  go_loopw [2, 7] (fun v i wx => ∃ (k : Nat) (h : List UInt32) (a : Option Addr) (c : Nat), k ≤ T.length ∧ i = .int .i64 k ∧ v = .slice a 8 c ∧ h.length = 8 ∧ Hid (k % 64 = 0) ∧ Hid (Reads wx (.slice a 8 c) 8 (ucells h)) ∧ Hid (absorb h0 T = absorb h (T.drop k)) ∧ Hid (Below w1.heap.size w1 wx)) (fun _ i _ => T.length - (intOf i).toNat)
  case atStart => exact ⟨0, h0, ah, ch, by omega, rfl, rfl, rfl, rfl, HH1, rfl, b_refl _⟩
  case round =>
    obtain ⟨k, h, a, c, hk, rfl, rfl, hh8, HM, HV, HA, HB⟩ := hrel
    have HTL' := HTL.out
    have HH8 := Lib.hid hh8
    clear hh8
    by_cases hkl : k < T.length
    · have hk64 : k + 64 ≤ T.length := by have := HM.out; have := HTM.out; omega
      have k0 : (0 : Int) ≤ (k : Int) := by omega
      have k1 : (k : Int) < (T.length : Int) := by omega
      have k2 : (k : Int) + 64 ≤ (T.length : Int) := by omega
      have HC := Lib.hid (chunks_step (T.drop k) (by rw [List.length_drop]; omega))
      have HTK := Lib.hid (show 64 ≤ ((T.drop k).take 64).length by simp; omega)
      go_wp2_with fail
      refine (rblock_any _ _ h HH8.out _ HTK.out wr HV.out (HK1.out.below HB.out)).mono ?_
      rintro e w2 ⟨v2, rfl, hown2, hB2⟩
      obtain ⟨a2, c2, rfl⟩ := owns_slice hown2
      have HV2 := Lib.hid (Reads.owned hown2)
      have HB2 := Lib.hid (HB.out.trans (hB2.mono HB.out.size))
      clear hown2 hB2
      go_wp2
      refine ⟨?_, by simp [intOf]; omega⟩
      refine ⟨k + 64, _, a2, c2, by omega, by go_num, rfl, blockF_length _ _ HH8.out, by have := HM.out; show (k + 64) % 64 = 0; omega, HV2.out, ?_, HB2.out⟩
      show absorb h0 T = absorb _ (T.drop (k + 64))
      rw [HA.out]
      unfold absorb
      rw [HC.out, List.foldl_cons, List.drop_drop]
    · obtain rfl : k = T.length := by omega
      have hfin : absorb h0 T = h := by
        have := HA.out
        rw [List.drop_length] at this
        exact this
      have HF := Lib.hid hfin
      obtain ⟨Wr, hWr⟩ : ∃ Wr, Wr = wr := ⟨_, rfl⟩
      subst hWr
      clear hfin HA
      go_wp2
      go_loopw [8, 9] (fun v i wx => ∃ k : Nat, k ≤ 8 ∧ i = .int .i64 k ∧ Hid (wx.ownsRow Wr.heap.size 5 1 v (4 * k) (bcells (outB (h.take k)))) ∧ Hid (Below Wr.heap.size Wr wx)) (fun _ i _ => 8 - (intOf i).toNat)
      case atStart => exact ⟨0, by omega, rfl, World.ownsRow_nil _ _ _ _, b_refl _⟩
      case round =>
        obtain ⟨k, hk8', rfl, HO, HX⟩ := hrel
        obtain ⟨ao, co, rfl⟩ := owns_slice HO.out
        by_cases hk8 : k < 8
        · have k1 : (k : Int) < 8 := by omega
          have k0 : (0 : Int) ≤ (k : Int) := by omega
          obtain ⟨bh, oh, rfl, dh⟩ := (HV.out.below HX.out).u k (by rw [HH8.out]; exact hk8)
          have HOT := Lib.hid (outB_take h k (by rw [HH8.out]; exact hk8))
          generalize h.getD k 0 = x at *
          have hx1 : U x < 4294967296 := by have := U_lt x; rw [U_nat]; omega
          have hx0 : 0 ≤ U x := by rw [U_nat]; omega
          go_wp2
          refine region_tail 25 [(4, .exact Bel (.int .u32 (U x))), (10, .exact Bel (.int .u32 (U x))), (16, .exact Bel (.int .u32 (U x))), (22, .exact Bel (.int .u32 (U x))), (24, kReads 4 (bcells (wb x)))] (by kernel_rfl) (by kernel_rfl) ?_
          simp only [List.take_succ_cons, List.take_zero, List.drop_succ_cons, List.drop_zero]
          (repeat (first | (refine wpG_skip (by kernel_rfl) (fun K hK => ?_); go_big_quiet_skip; refine wpQuiet_nil (hK _ ?_); clear hK K) | (refine wpG_quiet (by rfl) (by rfl) (fun K hK => ?_); go_big_quiet_want; go_big_quiet_op; go_big_quiet_on; refine wpQuiet_nil (hK _ ?_); clear hK K)))
          refine wpG_exact rfl (by kernel_rfl) (fun w' G hB hS hG => ?_) (fun K hK => ?_)
          · have cc := Below.keeps hB dh
            go_simp
            exact hG _ (Bel.refl _)
          go_simp; refine hK _ ?_; clear hK K; (repeat (first | (refine wpG_skip (by kernel_rfl) (fun K hK => ?_); go_big_quiet_skip; refine wpQuiet_nil (hK _ ?_); clear hK K) | (refine wpG_quiet (by rfl) (by rfl) (fun K hK => ?_); go_big_quiet_want; go_big_quiet_op; go_big_quiet_on; refine wpQuiet_nil (hK _ ?_); clear hK K)))
          refine wpG_exact rfl (by kernel_rfl) (fun w' G hB hS hG => ?_) (fun K hK => ?_)
          · have cc := Below.keeps hB dh
            go_simp
            exact hG _ (Bel.refl _)
          go_simp; refine hK _ ?_; clear hK K; (repeat (first | (refine wpG_skip (by kernel_rfl) (fun K hK => ?_); go_big_quiet_skip; refine wpQuiet_nil (hK _ ?_); clear hK K) | (refine wpG_quiet (by rfl) (by rfl) (fun K hK => ?_); go_big_quiet_want; go_big_quiet_op; go_big_quiet_on; refine wpQuiet_nil (hK _ ?_); clear hK K)))
          refine wpG_exact rfl (by kernel_rfl) (fun w' G hB hS hG => ?_) (fun K hK => ?_)
          · have cc := Below.keeps hB dh
            go_simp
            exact hG _ (Bel.refl _)
          go_simp; refine hK _ ?_; clear hK K; (repeat (first | (refine wpG_skip (by kernel_rfl) (fun K hK => ?_); go_big_quiet_skip; refine wpQuiet_nil (hK _ ?_); clear hK K) | (refine wpG_quiet (by rfl) (by rfl) (fun K hK => ?_); go_big_quiet_want; go_big_quiet_op; go_big_quiet_on; refine wpQuiet_nil (hK _ ?_); clear hK K)))
          refine wpG_exact rfl (by kernel_rfl) (fun w' G hB hS hG => ?_) (fun K hK => ?_)
          · have cc := Below.keeps hB dh
            go_simp
            exact hG _ (Bel.refl _)
          go_simp; refine hK _ ?_; clear hK K; (repeat (first | (refine wpG_skip (by kernel_rfl) (fun K hK => ?_); go_big_quiet_skip; refine wpQuiet_nil (hK _ ?_); clear hK K) | (refine wpG_quiet (by rfl) (by rfl) (fun K hK => ?_); go_big_quiet_want; go_big_quiet_op; go_big_quiet_on; refine wpQuiet_nil (hK _ ?_); clear hK K)))
          refine wpG_known (kReads 4 (bcells (wb x))) rfl (by kernel_rfl) (fun w' G hB hS hG => ?_) (fun x K hK => ?_)
          · go_simp
            exact reads_new hG (wb_cells x)
          obtain ⟨ad, c⟩ := x; go_simp; refine hK _ ?_; clear hK K; (repeat (first | (refine wpG_skip (by kernel_rfl) (fun K hK => ?_); go_big_quiet_skip; refine wpQuiet_nil (hK _ ?_); clear hK K) | (refine wpG_quiet (by rfl) (by rfl) (fun K hK => ?_); go_big_quiet_want; go_big_quiet_op; go_big_quiet_on; refine wpQuiet_nil (hK _ ?_); clear hK K)))
          intro w3 hB hA
          have hr : Hid (Reads w3 (.slice ad 4 c) 4 (bcells (wb x))) := all0 hA
          have HO3 := Lib.hid (ownsRow_below HO.out hB)
          have HX3 := Lib.hid (bt HX.out hB)
          have hsz3 : Wr.heap.size ≤ w3.heap.size := HX3.out.size
          clear hA hB dh
          go_wp2_with (at_builtin; go_must (refine appendN w3 (bcells (wb x)) 5 rfl _ _ 94 rfl Wr.heap.size (.int .u8 0) 1 1 Try.underlying94 infoU8 rfl (by decide) _ _ _ rfl HO3.out _ 4 rfl hr.out rfl (bcells_one _) (by omega) (by decide) hsz3 ?_); intro v' w4 hown4 hB4)
          refine ⟨?_, by simp [intOf]; omega⟩
          rw [← bcells_app, ← HOT.out] at hown4
          first
            | exact ⟨k + 1, by omega, by go_num, hown4, HX3.out.trans hB4⟩
            | ((repeat apply Exists.intro); exact ⟨⟨k + 1, by omega, by go_num, hown4, HX3.out.trans hB4⟩, rfl⟩)
        · obtain rfl : k = 8 := by omega
          have HR2 := HO.out
          have HZ := Lib.hid (outB_all h HH8.out)
          have hcv := conv_own 94 9 5 Try.underlying94 Try.underlying5 Try.underlying9 _ _ _ _ _ HR2
          clear HR2
          go_wp2
          go_ret
          refine ⟨?_, bt HB1.out (bt HB.out HX.out)⟩
          show Ending.returned (.string (bs (outB (h.take 8)))) = _
          rw [HZ.out, ← HF.out, HS.out]

set_option maxRecDepth 100000 in
set_option maxHeartbeats 1000000 in
theorem told_any (w : World) :
    Calls Try.prog 74 #[] w fun e w' => ∃ a b, e = .returned (.tuple #[.slice (some ⟨a, 0, none⟩) 64 64, .slice (some ⟨b, 0, none⟩) 8 8]) ∧ Reads w' (.slice (some ⟨a, 0, none⟩) 64 64) 64 (ucells ktab) ∧ Reads w' (.slice (some ⟨b, 0, none⟩) 8 8) 8 (ucells h0) ∧ Below w.heap.size w w' := by
  go_enter Try.func74, Try.ntmps74
  go_wp2
  go_ret2
  have h1 := Reads.new w (ucells ktab) 64 131 64
  have h2 := Reads.new (w.alloc (.cells (ucells ktab).toArray 131)) (ucells h0) 8 131 8
  rw [show (w.alloc (.cells (ucells ktab).toArray 131)).heap.size = w.heap.size + 1 by simp] at h2
  exact ⟨_, _, rfl, h1.below (b_alloc _ _), h2, bt (b_alloc _ _) (b_alloc _ _)⟩

set_option maxRecDepth 100000 in
set_option maxHeartbeats 1000000 in
theorem rSum_any (l : List UInt8) (w : World) (hl : l.length ≤ 1099511627776) :
    Calls Try.prog 62 #[.string (bs l)] w fun e w' => e = .returned (.string (bs (shaF l))) ∧ Below w.heap.size w w' := by
  go_enter Try.func62, Try.ntmps62
  go_wp2_with fail
  refine (told_any w).mono ?_
  rintro e w1 ⟨a, b, rfl, hk, hh, hB1⟩
  have HK := Lib.hid hk
  have HH := Lib.hid hh
  have HB1 := Lib.hid hB1
  clear hk hh hB1
  go_wp2_with fail
  refine (rsum_any _ _ l w1 hl HK.out HH.out).mono ?_
  rintro e w2 ⟨rfl, hB2⟩
  have HB2 := Lib.hid (bt HB1.out hB2)
  clear hB2
  go_wp2_with fail
  go_ret
  exact ⟨rfl, HB2.out⟩
end Go.Proofs.Ytahmacnmphjhgaa
namespace Go.Proofs.Ytahmacnmphjhgaa
open Go.RowKit Oct

def nodeT : List UInt8 := [110, 111, 100, 101]
/-- the identity of kids -/
def joinF (kids : List (List UInt8)) : List UInt8 := shaF (row (nodeT :: kids)).1
theorem joinF_length (kids : List (List UInt8)) : (joinF kids).length = 32 := shaF_length _
theorem recS_cells : ∀ l : List (List UInt8), recS.cells l = tcells l
  | [] => rfl
  | x :: l => by rw [Rec.cells, recS_cells l]; rfl
theorem recS_reads {w : World} {v : Value} {l : List (List UInt8)} (h : recS.Row w v l) : Reads w v l.length (tcells l) := by rw [← recS_cells]; exact h.1
theorem texts_le32 : ∀ l : List (List UInt8), (∀ s ∈ l, s.length ≤ 32) → (texts l).length ≤ l.length * 34
  | [], _ => by simp [texts]
  | x :: l, h => by
    have := texts_le32 l (fun s hs => h s (by simp [hs]))
    have := h x (by simp)
    simp only [texts, List.length_append, num_length, List.length_cons]
    omega
theorem row_le (r : List (List UInt8)) : (row r).1.length ≤ (texts r).length + 2 := by
  unfold row
  split
  · split <;> simp <;> omega
  · simp
theorem nodeT_all {kids : List (List UInt8)} (h : ∀ s ∈ kids, s.length ≤ 32) : ∀ s ∈ nodeT :: kids, s.length ≤ 32 := by
  intro s hs
  rcases List.mem_cons.1 hs with rfl | hs
  · decide
  · exact h s hs
theorem join_sizes {kids : List (List UInt8)} (h : ∀ s ∈ kids, s.length ≤ 32) (hl : kids.length ≤ 100000) : (texts (nodeT :: kids)).length ≤ 10000000 ∧ (row (nodeT :: kids)).1.length ≤ 10000000 := by
  have h1 := texts_le32 _ (nodeT_all h)
  have h2 := row_le (nodeT :: kids)
  simp only [List.length_cons] at h1
  omega

theorem txV_un (r : List UInt8 × Int) : txV r = .tuple #[.string (bs r.1), .int .i64 r.2] := rfl
set_option maxRecDepth 100000 in
set_option maxHeartbeats 1000000 in
theorem join_any (v : Value) (kids : List (List UInt8)) (w : World) (hr : recS.Row w v kids) (hl : kids.length ≤ 100000) (hm : ∀ s ∈ kids, s.length ≤ 32) :
    Calls Try.prog 54 #[v] w fun e w' => e = .returned (.string (bs (joinF kids))) ∧ Below w.heap.size w w' := by
  obtain ⟨a, cap, rfl, _⟩ := hr.2
  obtain ⟨s1, s2⟩ := join_sizes hm hl
  have H := Lib.hid hr
  have S1 := Lib.hid s1
  have S2 := Lib.hid s2
  clear hr hm s1 s2
  go_enter Try.func54, Try.ntmps54
  go_wp2_with (at_builtin; refine recS.append _ rfl _ _ _ rfl Try.underlying40 w.heap.size _ [nodeT] (Rec.Own.new w nodeT) rfl _ kids (H.out.below (b_alloc _ _)) rfl (by simp [recS]; omega) (by simp) ?_; intro v' w1 hown1 hB1; obtain ⟨a1, c1, rfl⟩ := owns_slice hown1; have HO := Lib.hid hown1; have HB1 := Lib.hid hB1; clear hown1 hB1)
  refine (Row_any _ (nodeT :: kids) _ (recS_reads HO.out.row) (by have := S1.out; omega) (by simp; omega)).mono ?_
  rw [txV_un]
  rintro e w2 ⟨rfl, hB2⟩
  have HB2 := Lib.hid hB2
  clear hB2
  go_wp2_with fail
  refine (Sum_any _ _ (by have := S2.out; omega)).mono ?_
  rintro e w3 ⟨rfl, hB3⟩
  have HB3 := Lib.hid hB3
  clear hB3
  go_wp2_with fail
  go_ret
  exact ⟨rfl, bt ((b_alloc w _).trans HB1.out) (bt HB2.out HB3.out)⟩
set_option maxRecDepth 100000 in
set_option maxHeartbeats 1000000 in
theorem rId_any (v : Value) (kids : List (List UInt8)) (w : World) (hr : recS.Row w v kids) (hl : kids.length ≤ 100000) (hm : ∀ s ∈ kids, s.length ≤ 32) :
    Calls Try.prog 30 #[v] w fun e w' => e = .returned (.string (bs (joinF kids))) ∧ Below w.heap.size w w' := by
  obtain ⟨a, cap, rfl, _⟩ := hr.2
  obtain ⟨s1, s2⟩ := join_sizes hm hl
  have H := Lib.hid hr
  have S1 := Lib.hid s1
  have S2 := Lib.hid s2
  clear hr hm s1 s2
  go_enter Try.func30, Try.ntmps30
  go_wp2_with (at_builtin; refine recS.append _ rfl _ _ _ rfl Try.underlying40 w.heap.size _ [nodeT] (Rec.Own.new w nodeT) rfl _ kids (H.out.below (b_alloc _ _)) rfl (by simp [recS]; omega) (by simp) ?_; intro v' w1 hown1 hB1; obtain ⟨a1, c1, rfl⟩ := owns_slice hown1; have HO := Lib.hid hown1; have HB1 := Lib.hid hB1; clear hown1 hB1)
  refine (rRow_any _ (nodeT :: kids) _ (recS_reads HO.out.row) (by have := S1.out; omega) (by simp; omega)).mono ?_
  rw [txV_un]
  rintro e w2 ⟨rfl, hB2⟩
  have HB2 := Lib.hid hB2
  clear hB2
  go_wp2_with fail
  refine (rSum_any _ _ (by have := S2.out; omega)).mono ?_
  rintro e w3 ⟨rfl, hB3⟩
  have HB3 := Lib.hid hB3
  clear hB3
  go_wp2_with fail
  go_ret
  exact ⟨rfl, bt ((b_alloc w _).trans HB1.out) (bt HB2.out HB3.out)⟩
end Go.Proofs.Ytahmacnmphjhgaa
