/- strings.Builder: WriteByte, Write. -/
import Derived.Test.YtdebgkjekcppmaaB1
import Derived.Test.YtdebgkjekcppmaaR0
namespace Go.Proofs.Ytdebgkjekcppmaa
open Go.RowKit Oct

section
variable {P : Program}
/-- append(s, x): .. and old blocks other than the slice's own stand -/
theorem append1K {ops : Array Oper} {rest : List Oper} {o : Oper} {a : Act} {Q : Exit → Act → World → Prop} (wr : World) (news : List Value) (e : TypeId) (hgd : o.guard = none) (s x : Operand) (t : TypeId)
    (ho : o.op = .call { callee := .builtin .append, args := #[s, x], argTypes := #[t, t] })
    (base : Nat) (z : Value) (size bytes : Nat) (ht : P.underlying t = some (.slice e)) (hinfo : (P.info? e).map (fun i => (i.zero, i.size, i.bytes)) = some (some z, size, bytes))
    (hzs : z.cells.size = size) (hsz : 0 < size) (v : Value) (n : Nat) (xs : List Value) (hs : a.eval s = v) (hown : wr.ownsRow base e size v n xs)
    (c : Nat) (hx : a.eval x = .slice (some ⟨wr.heap.size, 0, none⟩) 1 c) (hl : news.length = size) (h1 : ∀ u ∈ news, u.oneCell' = true)
    (hbytes : (n + 1) * bytes ≤ 140737488355328) (hby : 0 < bytes) (hbase : base ≤ wr.heap.size)
    (h : ∀ v' w', w'.ownsRow base e size v' (n + 1) (xs ++ news) → Below base wr w' → (∀ k, k < wr.heap.size → v.ownBlock ≠ some k → w'.heap[k]? = wr.heap[k]?) → wpList P ops Q rest (a.put o.dst v') w') : wpList P ops Q (o :: rest) a (wr.alloc (.cells news.toArray e)) := by
  obtain ⟨i, hi, hz, hi1, hi2⟩ := info_parts hinfo
  have hn : n + 1 ≤ (n + 1) * bytes := Nat.le_mul_of_pos_right _ hby
  refine wpList_append_own _ hgd s x t ho base e i z size bytes ht hi hz hi1 hi2 hzs hsz v n xs hs (hown.alloc _) ⟨wr.heap.size, 0, none⟩ 1 c news hx (by simpa using hl) ?_ h1 (by unfold maxLen; omega) hbytes (by simp; omega) ?_
  · intro j u hj
    have : j < news.length := by
      rcases Nat.lt_or_ge j news.length with h | h
      · exact h
      · simp [List.getElem?_eq_none h] at hj
    rw [Addr.add_lit, Nat.zero_add, World.cell?_alloc_new]
    simpa using hj
  · intro v' w' h2 h3 _
    refine h v' w' h2 (((Below.refl base wr).alloc hbase _).grown h3 (by simp; omega) ?_) ?_
    · intro k hk
      exact (hown.lt k hk).1
    · intro k hk hne
      rw [h3.block k (by simp; omega) (fun e => hne e.symm)]
      exact heap_alloc_old wr _ hk
/-- append(s, x...) -/
theorem appendNK {ops : Array Oper} {rest : List Oper} {o : Oper} {a : Act} {Q : Exit → Act → World → Prop} (w : World) (news : List Value) (e : TypeId) (hgd : o.guard = none) (s x : Operand) (t : TypeId)
    (ho : o.op = .call { callee := .builtin .append, args := #[s, x], argTypes := #[t, t] })
    (base : Nat) (z : Value) (size bytes : Nat) (ht : P.underlying t = some (.slice e)) (hinfo : (P.info? e).map (fun i => (i.zero, i.size, i.bytes)) = some (some z, size, bytes))
    (hzs : z.cells.size = size) (hsz : 0 < size) (v : Value) (n : Nat) (xs : List Value) (hs : a.eval s = v) (hown : w.ownsRow base e size v n xs)
    (vx : Value) (m : Nat) (hx : a.eval x = vx) (hr : Reads w vx m news) (hl : news.length = m * size) (h1 : ∀ u ∈ news, u.oneCell' = true)
    (hbytes : (n + m) * bytes ≤ 140737488355328) (hby : 0 < bytes) (hbase : base ≤ w.heap.size)
    (h : ∀ v' w', w'.ownsRow base e size v' (n + m) (xs ++ news) → Below base w w' → (∀ k, k < w.heap.size → v.ownBlock ≠ some k → w'.heap[k]? = w.heap[k]?) → wpList P ops Q rest (a.put o.dst v') w') : wpList P ops Q (o :: rest) a w := by
  obtain ⟨i, hi, hz, hi1, hi2⟩ := info_parts hinfo
  have hn : n + m ≤ (n + m) * bytes := Nat.le_mul_of_pos_right _ hby
  obtain ⟨ax, cap, rfl, hnone, hc⟩ := hr
  cases ax with
  | none =>
    obtain ⟨rfl, rfl⟩ := hnone rfl
    have hnil : news = [] := List.eq_nil_of_length_eq_zero (by simpa using hl)
    subst hnil
    refine wpList_append_own_none hgd s x t ho base e i size ht hi v n xs hs hown hx ?_
    exact h v w (by simpa using hown) (Below.refl _ _) (fun _ _ _ => rfl)
  | some ad =>
    refine wpList_append_own _ hgd s x t ho base e i z size bytes ht hi hz hi1 hi2 hzs hsz v n xs hs hown ad m cap news hx hl ?_ h1 (by unfold maxLen; omega) hbytes hbase ?_
    · intro j u hj
      obtain ⟨b, off, ha, hu⟩ := hc j u hj
      cases ha
      rw [Addr.add_lit]; exact hu
    · intro v' w' h2 h3 _
      refine h v' w' h2 ((Below.refl base w).grown h3 hbase ?_) (fun k hk hne => h3.block k hk (fun e => hne e.symm))
      intro k hk
      exact (hown.lt k hk).1
end

theorem copyCheck_chg (B b : Nat) (bs : List Value) (w : World) (h : Lib.IsBuilder 77 5 B b bs w) :
    Calls Try.prog 88 #[.pointer (some ⟨b, 0, none⟩)] w fun e w' => e = .returned (.tuple #[]) ∧ (Lib.BuilderAt 77 5 B b (.pointer (some ⟨b, 0, none⟩)) bs w' ∧ Below B w w' ∧ Chg (· = b) w w') := by
  rcases h with h | h
  · refine (copyCheck_fresh b w h.cell0 h.shape h.frozen0).mono ?_
    rintro e w' ⟨rfl, rfl⟩
    exact ⟨rfl, h.used _, (Below.refl B w).setCell (p := ⟨b, 0, none⟩) h.1 _, Chg.setCell _ _ _ rfl⟩
  · refine (copyCheck_used b w h.cell0).mono ?_
    rintro e w' ⟨rfl, rfl⟩
    exact ⟨rfl, h, Below.refl B _, Chg.refl _ _⟩
theorem bcells_app (l m : List UInt8) : bcells (l ++ m) = bcells l ++ bcells m := by simp [bcells]
theorem bcells_one (m : List UInt8) : ∀ u ∈ bcells m, u.oneCell' = true := by
  intro u hu
  simp only [bcells, List.mem_map] at hu
  obtain ⟨x, _, rfl⟩ := hu; rfl
theorem bytes_other {w : World} {B : Nat} {v : Value} {n : Nat} {xs : List Value} (hown : w.ownsRow B 5 1 v n xs) {X : Nat} {cs : Array Value} {t : TypeId} {fz : Nat × Nat} (hx : w.heap[X]? = some (.cells cs t fz)) (ht : t ≠ 5) : v.ownBlock ≠ some X := fun e => by
  rcases hown.2 with ⟨hv, _⟩ | ⟨g, cap, cur, hv, _, hg, _⟩
  · rw [hv] at e; simp [Value.ownBlock] at e
  · rw [hv] at e
    simp only [Value.ownBlock, Option.some.injEq] at e
    subst e
    rw [hg] at hx
    injection hx with hx
    injection hx with _ hx _
    exact ht hx.symm

set_option maxHeartbeats 2000000 in
set_option maxRecDepth 100000 in
theorem WriteByte_kept (B b : Nat) (l : List UInt8) (c : UInt8) (w : World) (h : Bld B b l w) (hlen : l.length + 1 ≤ 140737488355328) :
    Calls Try.prog 58 #[.pointer (some ⟨b, 0, none⟩), .int .u8 (c.toNat : Int)] w fun e w' => e = .returned .nilIface ∧ Bld B b (l ++ [c]) w' ∧ Below B w w' ∧ Kept b w w' := by
  obtain ⟨hBw, h⟩ := h
  have HL := Lib.hid hlen
  clear hlen
  go_enter Try.func58, Try.ntmps58
  go_wp2_with (go_at_call 88; refine (copyCheck_kept B b _ _ h).mono ?_)
  rintro e w1 ⟨rfl, h1, hb1, hk1⟩
  obtain ⟨hB, v, hbk, hown, hne⟩ := h1
  rw [bcells_length] at hown
  have c0 : w1.cell? ⟨b, 0, none⟩ = some (.pointer (some ⟨b, 0, none⟩)) := by rw [Lib.cell_of_heap hbk]; rfl
  have c1 : w1.cell? ⟨b, 1, none⟩ = some v := by rw [Lib.cell_of_heap hbk]; rfl
  go_wp2_with (at_builtin; refine append1K w1 [_] 5 rfl _ _ 75 rfl B (.int .u8 0) 1 1 Try.underlying75 infoU8 rfl (by decide) _ _ _ rfl hown _ rfl rfl (by simp [Value.oneCell']) (by have := HL.out; omega) (by decide) (by have := hb1.size; omega) ?_)
  intro v' w2 hown' hb2 hkeep
  have hlt : b < w1.heap.size := by
    rcases Nat.lt_or_ge b w1.heap.size with h' | h'
    · exact h'
    · simp [Array.getElem?_eq_none h'] at hbk
  have hbk2 : w2.heap[b]? = some (.cells #[.pointer (some ⟨b, 0, none⟩), v] 77 (0, 0)) := by
    rw [hkeep b hlt (fun e => hne e)]
    exact hbk
  have d0 : w2.cell? ⟨b, 0, none⟩ = some (.pointer (some ⟨b, 0, none⟩)) := by rw [Lib.cell_of_heap hbk2]; rfl
  have d1 : w2.cell? ⟨b, 1, none⟩ = some v := by rw [Lib.cell_of_heap hbk2]; rfl
  have f1 : w2.frozen? ⟨b, 1, none⟩ = false := Lib.frozen_of_heap hbk2 1
  obtain ⟨ao, cap, rfl⟩ := owns_slice hown'
  go_wp2
  go_ret
  have hB12 : Below B w w2 := hb1.trans hb2
  refine ⟨rfl, ⟨?_, .inr ?_⟩, ?_, ?_⟩
  · have := hB12.size; simp [World.setCell]; omega
  · rw [← bcells_snoc]
    exact Lib.BuilderAt.put (T := 77) (e := 5) hB hbk2 (bs' := bcells l ++ [.int .u8 (c.toNat : Int)]) (by simpa [bcells_length] using hown') (by decide)
  · exact hB12.setCell (p := ⟨b, 1, none⟩) hB _
  · intro X cs t fz hX ht hx
    have h1 := hk1 X cs t fz hX ht hx
    have hlt1 : X < w1.heap.size := by
      rcases Nat.lt_or_ge X w1.heap.size with h' | h'
      · exact h'
      · simp [Array.getElem?_eq_none h'] at h1
    have h2 := hkeep X hlt1 (bytes_other hown h1 ht)
    rw [heap_setCell_other _ _ _ _ (fun e => hX (by first | exact e | exact e.symm))]
    exact h2.trans h1

set_option maxHeartbeats 2000000 in
set_option maxRecDepth 100000 in
theorem Write_kept (B b : Nat) (l m : List UInt8) (vm : Value) (w : World) (h : Bld B b l w) (hm : Reads w vm m.length (bcells m)) (hmb : ∀ w1, Chg (· = b) w w1 → Reads w1 vm m.length (bcells m)) (hlen : l.length + m.length ≤ 140737488355328) :
    Calls Try.prog 63 #[.pointer (some ⟨b, 0, none⟩), vm] w fun e w' => e = .returned (.tuple #[.int .i64 m.length, .nilIface]) ∧ Bld B b (l ++ m) w' ∧ Below B w w' ∧ Kept b w w' := by
  obtain ⟨hBw, h⟩ := h
  have HL := Lib.hid hlen
  have HM := Lib.hid hm
  have HB := Lib.hid hmb
  clear hlen hm hmb
  obtain ⟨am, cm, rfl, _, _⟩ := HM.out
  go_enter Try.func63, Try.ntmps63
  go_wp2_with (go_at_call 88; refine (copyCheck_chg B b _ _ h).mono ?_)
  rintro e w1 ⟨rfl, h1, hb1, hk1⟩
  obtain ⟨hB, v, hbk, hown, hne⟩ := h1
  rw [bcells_length] at hown
  have hm1 : Reads w1 (.slice am m.length cm) m.length (bcells m) := HB.out _ hk1
  have c0 : w1.cell? ⟨b, 0, none⟩ = some (.pointer (some ⟨b, 0, none⟩)) := by rw [Lib.cell_of_heap hbk]; rfl
  have c1 : w1.cell? ⟨b, 1, none⟩ = some v := by rw [Lib.cell_of_heap hbk]; rfl
  go_wp2_with (at_builtin; refine appendNK w1 (bcells m) 5 rfl _ _ 75 rfl B (.int .u8 0) 1 1 Try.underlying75 infoU8 rfl (by decide) _ _ _ rfl hown _ _ rfl hm1 (by rw [bcells_length, Nat.mul_one]) (bcells_one m) (by have := HL.out; omega) (by decide) (by have := hb1.size; omega) ?_)
  intro v' w2 hown' hb2 hkeep
  have hlt : b < w1.heap.size := by
    rcases Nat.lt_or_ge b w1.heap.size with h' | h'
    · exact h'
    · simp [Array.getElem?_eq_none h'] at hbk
  have hbk2 : w2.heap[b]? = some (.cells #[.pointer (some ⟨b, 0, none⟩), v] 77 (0, 0)) := by
    rw [hkeep b hlt (fun e => hne e)]
    exact hbk
  have d0 : w2.cell? ⟨b, 0, none⟩ = some (.pointer (some ⟨b, 0, none⟩)) := by rw [Lib.cell_of_heap hbk2]; rfl
  have d1 : w2.cell? ⟨b, 1, none⟩ = some v := by rw [Lib.cell_of_heap hbk2]; rfl
  have f1 : w2.frozen? ⟨b, 1, none⟩ = false := Lib.frozen_of_heap hbk2 1
  obtain ⟨ao, cap, rfl⟩ := owns_slice hown'
  go_wp2
  go_ret2
  have hB12 : Below B w w2 := hb1.trans hb2
  refine ⟨rfl, ⟨?_, .inr ?_⟩, ?_, ?_⟩
  · have := hB12.size; simp [World.setCell]; omega
  · rw [bcells_app]
    exact Lib.BuilderAt.put (T := 77) (e := 5) hB hbk2 (bs' := bcells l ++ bcells m) (by simpa [bcells_length] using hown') (by decide)
  · exact hB12.setCell (p := ⟨b, 1, none⟩) hB _
  · intro X cs t fz hX ht hx
    have h1 := hk1.at hx hX
    have hlt1 : X < w1.heap.size := by
      rcases Nat.lt_or_ge X w1.heap.size with h' | h'
      · exact h'
      · simp [Array.getElem?_eq_none h'] at h1
    have h2 := hkeep X hlt1 (bytes_other hown h1 ht)
    rw [heap_setCell_other _ _ _ _ (fun e => hX (by first | exact e | exact e.symm))]
    exact h2.trans h1
end Go.Proofs.Ytdebgkjekcppmaa
