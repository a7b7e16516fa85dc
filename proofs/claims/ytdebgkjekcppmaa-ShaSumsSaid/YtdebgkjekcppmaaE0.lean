/- Bytes that a conversion of a text made: their row bears a mark behind its end. Appending to it. Over any program. -/
import Derived.Test.YtdebgkjekcppmaaR0
import Derived.Lib.ConvBytes
import Derived.Laws.AppendOwn
namespace Go.Proofs.Ytdebgkjekcppmaa
open Go.RowKit Oct

/-- bytes of the call's own; the row may bear a mark behind its cells -/
def OwnE (w : World) (base : Nat) (e : TypeId) (v : Value) (l : List UInt8) : Prop :=
  ∃ g cap cur fz, v = .slice (some ⟨g, 0, none⟩) l.length cap ∧ base ≤ g ∧ w.heap[g]? = some (.cells cur e fz) ∧ (fz.2 = 0 ∨ cur.size ≤ fz.1) ∧ l.length ≤ cap ∧ cap ≤ maxLen ∧ cur.size = cap ∧ cur.toList.take l.length = bcells l
section
variable {P : Program}
theorem OwnE.slice {w : World} {base : Nat} {e : TypeId} {v : Value} {l : List UInt8} (h : OwnE w base e v l) : ∃ g cap, v = .slice (some ⟨g, 0, none⟩) l.length cap := by
  obtain ⟨g, cap, _, _, hv, _⟩ := h
  exact ⟨g, cap, hv⟩
theorem OwnE.below {w w' : World} {base : Nat} {e : TypeId} {v : Value} {l : List UInt8} (h : OwnE w base e v l) (hB : Below w.heap.size w w') : OwnE w' base e v l := by
  obtain ⟨g, cap, cur, fz, h1, h2, h3, h4⟩ := h
  exact ⟨g, cap, cur, fz, h1, h2, (hB.block g (Array.getElem?_eq_some_iff.1 h3).1).trans h3, h4⟩
theorem OwnE.cell {w : World} {base g n cap : Nat} {e : TypeId} {l : List UInt8} (h : OwnE w base e (.slice (some ⟨g, 0, none⟩) n cap) l) (j : Nat) (hj : j < l.length) : w.cell? ⟨g, j, none⟩ = some (.int .u8 (l[j].toNat : Int)) := by
  obtain ⟨g', cap', cur, fz, h1, h2, h3, _, _, _, _, h5⟩ := h
  injection h1 with e1 _ _
  cases e1
  rw [cell_of_row w g j cur e fz h3]
  have : (cur.toList.take l.length)[j]? = some (.int .u8 (l[j].toNat : Int)) := by rw [h5]; simp [bcells, hj]
  rw [List.getElem?_take, if_pos hj] at this
  simpa using this
theorem OwnE.new (w : World) (e : TypeId) (l : List UInt8) (hl : l.length ≤ maxLen) : OwnE (Lib.bytesWorld w e (bs l)) w.heap.size e (.slice (some ⟨w.heap.size, 0, none⟩) l.length (grownCap w (bs l).size 0 e)) l := by
  have hge := grownCap_ge w (bs l).size 0 e
  have hle := grownCap_le_maxLen w (bs l).size 0 e (by rw [bs_size]; exact hl)
  have hsz : (Lib.bytesCells w e (bs l)).size = grownCap w (bs l).size 0 e := by
    simp only [Lib.bytesCells, Array.size_append, Array.size_map, Array.size_replicate]
    have : (bs l).data.size = (bs l).size := rfl
    omega
  refine ⟨w.heap.size, _, _, _, rfl, Nat.le_refl _, Lib.bytesWorld_at_new w e (bs l), .inr (Nat.le_refl _), by rw [bs_size] at hge; exact hge, hle, hsz, ?_⟩
  have h1 : (Lib.bytesCells w e (bs l)).toList = bcells l ++ List.replicate (grownCap w (bs l).size 0 e - (bs l).size) (.int .u8 0) := by
    simp only [Lib.bytesCells, Array.toList_append, Array.toList_map, bs_data, bcells, Array.toList_replicate]
  rw [h1, List.take_append_of_le_length (by rw [bcells_length]; exact Nat.le_refl _), List.take_of_length_le (by rw [bcells_length]; exact Nat.le_refl _)]
theorem below_bytes (w : World) (e : TypeId) (s : ByteArray) : Below w.heap.size w (Lib.bytesWorld w e s) :=
  ⟨rfl, rfl, rfl, by rw [Lib.bytesWorld_size]; omega, fun k hk => Lib.bytesWorld_at_old w e s k hk⟩
/-- append(s, x): one byte -/
theorem append1E {ops : Array Oper} {rest : List Oper} {o : Oper} {a : Act} {Q : Exit → Act → World → Prop} (wr : World) (c : UInt8) (e : TypeId) (hgd : o.guard = none) (s x : Operand) (t : TypeId)
    (ho : o.op = .call { callee := .builtin .append, args := #[s, x], argTypes := #[t, t] })
    (base : Nat) (ht : P.underlying t = some (.slice e)) (hinfo : (P.info? e).map (fun i => (i.zero, i.size, i.bytes)) = some (some (.int .u8 0), 1, 1))
    (v : Value) (l : List UInt8) (n : Nat) (hn : l.length = n) (u : Value) (hu : u = .int .u8 (c.toNat : Int)) (hown : OwnE wr base e v l) (hs : a.eval s = v)
    (cx : Nat) (hx : a.eval x = .slice (some ⟨wr.heap.size, 0, none⟩) 1 cx) (hbytes : n + 1 ≤ 140737488355328) (hbase : base ≤ wr.heap.size)
    (h : ∀ g cap w', OwnE w' base e (.slice (some ⟨g, 0, none⟩) (n + 1) cap) (l ++ [c]) → Below base wr w' → wpList P ops Q rest (a.put o.dst (.slice (some ⟨g, 0, none⟩) (n + 1) cap)) w') :
    wpList P ops Q (o :: rest) a (wr.alloc (.cells #[u] e)) := by
  subst hn hu
  obtain ⟨i, hi, hz, hi1, hi2⟩ := info_parts hinfo
  refine wpList_plain hgd fun K hK => ?_
  obtain ⟨w, hw⟩ : ∃ w, w = wr.alloc (.cells #[.int .u8 (c.toNat : Int)] e) := ⟨_, rfl⟩
  rw [← hw]
  have hown' : OwnE w base e v l := by rw [hw]; exact hown.below (b_alloc _ _)
  have hB1 : Below base wr w := by rw [hw]; exact (Below.refl base wr).alloc hbase _
  have hnew : ∀ j u, [Value.int .u8 (c.toNat : Int)][j]? = some u → w.cell? ((⟨wr.heap.size, 0, none⟩ : Addr).add j) = some u := by
    intro j u hj
    have hj0 : j < 1 := by
      rcases Nat.lt_or_ge j 1 with h | h
      · exact h
      · simp [List.getElem?_eq_none (show [Value.int .u8 (c.toNat : Int)].length ≤ j from h)] at hj
    rw [hw, Addr.add_lit, Nat.zero_add, World.cell?_alloc_new]
    simpa using hj
  obtain ⟨g, cap, cur, fz, hv, hbg, hg, hfz, hle, hcm, hcs, htk⟩ := id hown'
  have main : ∃ g' cap' w', (Builtin.append_ #[t, t] o.type #[v, .slice (some ⟨wr.heap.size, 0, none⟩) 1 cx]).run P w = .ok (.slice (some ⟨g', 0, none⟩) (l.length + 1) cap') w' ∧ OwnE w' base e (.slice (some ⟨g', 0, none⟩) (l.length + 1) cap') (l ++ [c]) ∧ Below base w w' := by
    subst hv
    by_cases hroom : l.length + 1 ≤ cap
    · have hlt : l.length < cur.size := by omega
      have hcell : w.cell? ⟨g, l.length, none⟩ = some cur[l.length] := by rw [cell_of_row w g _ cur e fz hg]; simp [hlt]
      have hfro : w.frozen? ⟨g, l.length, none⟩ = false := by
        obtain ⟨lo, hh⟩ := fz
        simp only at hfz
        simp only [World.frozen?, hg, Bool.and_eq_false_iff, decide_eq_false_iff_not]
        omega
      have hst : (storeCells ⟨g, l.length, none⟩ [Value.int .u8 (c.toNat : Int)] 0).run P w = .ok () (w.setCell ⟨g, l.length, none⟩ (.int .u8 (c.toNat : Int))) := by
        have hadd : (⟨g, l.length, none⟩ : Addr).add 0 = ⟨g, l.length, none⟩ := Addr.add_lit ..
        simp only [storeCells, Sem.run_bind, hadd]
        rw [run_store P w _ _ _ rfl, hcell]
        simp [hfro]
      have hf := run_firstCells_some (P := P) w i.size 1 ⟨wr.heap.size, 0, none⟩ 1 cx [.int .u8 (c.toNat : Int)] (by simp [hi1]) hnew
      refine ⟨g, cap, w.setCell ⟨g, l.length, none⟩ (.int .u8 (c.toNat : Int)), ?_, ?_, ?_⟩
      · rw [hi1] at hf
        simp [Builtin.append_, run_underlying ht, sizeOf, typeInfo, hi, hi1, Builtin.lenOf, hroom, hf, Addr.add_lit, hst]
      · refine ⟨g, cap, cur.setIfInBounds l.length (.int .u8 (c.toNat : Int)), fz, by simp, hbg, ?_, by simpa using hfz, by simpa using hroom, hcm, by simpa using hcs, ?_⟩
        · rw [setCell_eq_setRow w g _ cur e fz _ hg]
          exact setRow_heap w g cur _ e fz hg
        · rw [Array.toList_setIfInBounds, List.length_append, List.length_singleton, List.take_set, List.take_succ_eq_append_getElem (by simpa using hlt), htk]
          rw [List.set_append_right _ _ (by rw [bcells_length]; exact Nat.le_refl _), bcells_length, Nat.sub_self, ← bcells_snoc]
          rfl
      · exact (Below.refl base w).setCell (p := ⟨g, l.length, none⟩) hbg _
    · have holds : ∀ j u, (bcells l)[j]? = some u → w.cell? ((⟨g, 0, none⟩ : Addr).add j) = some u := by
        intro j u hj
        have hjl : j < l.length := by
          rcases Nat.lt_or_ge j l.length with h | h
          · exact h
          · simp [List.getElem?_eq_none (show (bcells l).length ≤ j by rw [bcells_length]; exact h)] at hj
        have := hown'.cell j hjl
        rw [Addr.add_lit, Nat.zero_add, this]
        simp [bcells, hjl] at hj
        rw [hj]
      have hr := run_append_grow (P := P) w t o.type e i (.int .u8 0) ht hi hz ⟨g, 0, none⟩ l.length cap (bcells l) (by rw [bcells_length, hi1, Nat.mul_one]) holds ⟨wr.heap.size, 0, none⟩ 1 cx [.int .u8 (c.toNat : Int)] (by simp [hi1]) hnew (by omega) (by omega)
        (growslice_fits (by omega) (by rw [hi2]; omega))
      have hge := grownCap_ge w (l.length + 1) cap e
      have hlm := grownCap_le_maxLen w (l.length + 1) cap e (by unfold maxLen; omega)
      refine ⟨_, _, _, hr, ?_, (Below.refl base w).drew.alloc (by simp; have := hB1.size; omega) _⟩
      refine ⟨w.heap.size, _, _, _, by simp, by have := hB1.size; omega, World.alloc_heap_new w.drew _, .inl rfl, by simpa using hge, hlm, ?_, ?_⟩
      · simp only [Array.size_append, List.size_toArray, bcells_length, List.length_singleton, size_zeroCells]
        simp [Value.cells]
        omega
      · have e1 : (bcells l ++ [Value.int .u8 (c.toNat : Int)]).length = (l ++ [c]).length := by simp [bcells_length]
        simp only [Array.toList_append, List.append_assoc]
        rw [← List.append_assoc, ← e1, List.take_left, bcells_snoc]
  obtain ⟨g', cap', w', hr, h2, h3⟩ := main
  unfold Oper.wp execOp
  simp only [ho, resolve, invoke, builtin, Sem.run_bind, Sem.run_pure, Result.andThen_ok, List.map_toArray, List.map_cons, List.map_nil, hs, hx, hr]
  exact hK _ _ (h g' cap' w' h2 (hB1.trans h3))
/-- string(b) -/
theorem conv_ownE (src dst e : TypeId) (hs : P.underlying src = some (.slice e)) (he : P.underlying e = some (.int .u8)) (hd : P.underlying dst = some .string) (w : World) (base : Nat) (v : Value) (l : List UInt8)
    (h : OwnE w base e v l) : (convert src dst v).run P w = .ok (.string (bs l)) w := by
  obtain ⟨g, cap, rfl⟩ := h.slice
  exact run_convert_bytes_back w src dst e ⟨g, 0, none⟩ cap l hs he hd (fun j hj => by rw [Addr.add_lit, Nat.zero_add]; exact h.cell j hj)
end
end Go.Proofs.Ytdebgkjekcppmaa
