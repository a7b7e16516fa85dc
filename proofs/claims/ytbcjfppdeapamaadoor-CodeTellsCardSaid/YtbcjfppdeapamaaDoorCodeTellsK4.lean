/- Lemmas for CodeTells, part 4: walks of the functions that it reaches, and the plain laws behind them. -/
import Derived.Recover
import Derived.Test.YtbcjfppdeapamaaDoorCodeTellsK3
set_option linter.unusedSimpArgs false
set_option linter.unusedVariables false
namespace Go.Proofs.YtbcjfppdeapamaaDoor
open Go.RowKit Oct
attribute [local irreducible] wpG
theorem effs_g5 : ∀ k, k < 24 → (50 ∈ (effs.getD k ([], [])).2 → (effs.getD k ([], [])).1.length = 2) := by decide
theorem eff_two (x : VI) (hx : x.1.toNat < 24) (h : 50 ∈ (effV x).2) : (effV x).1.length = 2 := by
  have hl : ∀ s : List UInt8, (replV s (regV x.2)).length = s.length := fun s => by
    unfold replV
    split
    · rename_i h; rw [h]; rcases regV_two x.2 with e | e <;> rw [e] <;> rfl
    · rfl
  unfold effV at h ⊢
  rw [hl]
  rcases replV_mem h with h | ⟨_, h⟩
  · exact effs_g5 _ hx h
  · rcases regV_two x.2 with e | e <;> (rw [e] at h; simp at h)
theorem valuesV_A {k : List UInt8} {x : VI} (h : k.length < (effV x).1.length) : valuesV k x = (130, k) := by unfold valuesV; rw [if_pos h]
theorem valuesV_B {k : List UInt8} {x : VI} (h : ¬ k.length < (effV x).1.length) (hf : fitV (effV x).1 (k.drop (k.length - (effV x).1.length)) = false) : valuesV k x = (131, k) := by unfold valuesV; rw [if_neg h, if_pos hf]
theorem valuesV_C {k : List UInt8} {x : VI} (h : ¬ k.length < (effV x).1.length) (hf : fitV (effV x).1 (k.drop (k.length - (effV x).1.length)) = true) {r : List UInt8}
    (hr : r = k.take (k.length - (effV x).1.length) ++ givesV (k.drop (k.length - (effV x).1.length)) (effV x).2) (hm : (x.1 = 22 ∧ 16 ≤ r.length) ∨ 16 < r.length) : valuesV k x = (130, k) := by
  unfold valuesV; rw [if_neg h, if_neg (by rw [hf]; decide), ← hr, if_pos hm]
theorem valuesV_D {k : List UInt8} {x : VI} (h : ¬ k.length < (effV x).1.length) (hf : fitV (effV x).1 (k.drop (k.length - (effV x).1.length)) = true) {r : List UInt8}
    (hr : r = k.take (k.length - (effV x).1.length) ++ givesV (k.drop (k.length - (effV x).1.length)) (effV x).2) (hm : ¬ ((x.1 = 22 ∧ 16 ≤ r.length) ∨ 16 < r.length)) : valuesV k x = (0, r) := by
  unfold valuesV; rw [if_neg h, if_neg (by rw [hf]; decide), ← hr, if_neg hm]
section
variable {w : World} {base G : Nat} {tv cv bv sv ev : Value} {role : UInt8} {s : Vs}
end
end Go.Proofs.YtbcjfppdeapamaaDoor
namespace Go.Proofs.YtbcjfppdeapamaaDoor
open Go.RowKit Oct
attribute [local irreducible] wpG
section
variable {α : Type}
/-- the world grows behind 'base'; rows xs and xs ++ [p] that lie behind it stand, and so do single cells of p -/
def RelA (R : Rec α) (base : Nat) (xs : List α) (p : α) (w w' : World) : Prop :=
  Below base w w' ∧ (∀ v, R.Own w base v xs → R.Own w' base v xs) ∧ (∀ v, R.Own w base v (xs ++ [p]) → R.Own w' base v (xs ++ [p])) ∧
    ∀ b : Nat, w.heap[b]? = some (.cells (R.cell p).toArray R.e (0, 0)) → w'.heap[b]? = some (.cells (R.cell p).toArray R.e (0, 0))
variable {R : Rec α} {base : Nat} {xs : List α} {p : α}
theorem RelA.refl (w : World) : RelA R base xs p w w := ⟨Below.refl _ _, fun _ h => h, fun _ h => h, fun _ h => h⟩
theorem RelA.of_bel {w w' : World} (hb : base ≤ w.heap.size) (h : Bel w w') : RelA R base xs p w w' :=
  ⟨Below.mono h hb, fun _ ho => ownsRow_below ho h, fun _ ho => ownsRow_below ho h, fun b hh => (h.block b (Array.getElem?_eq_some_iff.1 hh).1).trans hh⟩
/-- xs, of the call's own -/
def kOwnA (R : Rec α) (base : Nat) (xs : List α) (p : α) : Known (RelA R base xs p) :=
  ⟨Option Addr × Nat, fun x => .slice x.1 xs.length x.2, fun x => some fun w => R.Own w base (.slice x.1 xs.length x.2) xs, fun _ _ h _ _ hφ hB => by cases h; exact hB.2.1 _ hφ⟩
@[go_sem] theorem kOwnA_val (a : Option Addr) (c : Nat) : (kOwnA R base xs p).val (a, c) = .slice a xs.length c := rfl
/-- xs ++ [p], of the call's own -/
def kOwnB (R : Rec α) (base : Nat) (xs : List α) (p : α) : Known (RelA R base xs p) :=
  ⟨Option Addr × Nat, fun x => .slice x.1 (xs.length + 1) x.2, fun x => some fun w => R.Own w base (.slice x.1 (xs.length + 1) x.2) (xs ++ [p]), fun _ _ h _ _ hφ hB => by cases h; exact hB.2.2.1 _ hφ⟩
@[go_sem] theorem kOwnB_val (a : Option Addr) (c : Nat) : (kOwnB R base xs p).val (a, c) = .slice a (xs.length + 1) c := rfl
/-- the row of p alone -/
def kOneA (R : Rec α) (base : Nat) (xs : List α) (p : α) : Known (RelA R base xs p) :=
  ⟨Nat, fun b => .slice (some ⟨b, 0, none⟩) 1 1, fun b => some fun w => w.heap[b]? = some (.cells (R.cell p).toArray R.e (0, 0)), fun _ _ h _ _ hφ hB => by cases h; exact hB.2.2.2 _ hφ⟩
@[go_sem] theorem kOneA_val (b : Nat) : (kOneA R base xs p).val b = .slice (some ⟨b, 0, none⟩) 1 1 := rfl
theorem own_sameA {w w' : World} {v : Value} {l : List α} (h : R.Own w base v l) (h4 : ∀ k, k < w.heap.size → w'.heap[k]? = w.heap[k]?) : R.Own w' base v l := own_same h h4
/-- append(s, x) as an operation of a region that is known -/
theorem Rec.grow_app1 (R : Rec α) {o : Oper} {a : Act} {w : World} {G : Value → World → Prop} (s x : Operand) (t : TypeId)
    (ho : o.op = .call { callee := .builtin .append, args := #[s, x], argTypes := #[t, t] }) (ht : Tryd.prog.underlying t = some (.slice R.e))
    (base : Nat) (v : Value) (xs : List α) (p : α) (hown : R.Own w base v xs) (hs : a.eval s = v) (b : Nat) (hx : a.eval x = .slice (some ⟨b, 0, none⟩) 1 1) (hb : w.heap[b]? = some (.cells (R.cell p).toArray R.e (0, 0)))
    (hbytes : (xs.length + 1) * R.bytes ≤ 140737488355328) (hbase : base ≤ w.heap.size)
    (h : ∀ A C w', R.Own w' base (.slice A (xs.length + 1) C) (xs ++ [p]) → RelA R base xs p w w' → G (.slice A (xs.length + 1) C) w') : growAt Tryd.prog o a w G := by
  obtain ⟨i, hi, hz, hi1, hi2⟩ := info_parts R.info
  have hle : xs.length + 1 ≤ 140737488355328 := by have := Nat.le_mul_of_pos_right (xs.length + 1) R.bpos; omega
  obtain ⟨v', w', h1, h2, h3, h4⟩ := run_append3 (P := Tryd.prog) w base t o.type R.e i R.z R.n R.bytes ht hi hz hi1 hi2 R.zs R.pos v xs.length (R.cells xs) hown ⟨b, 0, none⟩ 1 1 (R.cell p) (by rw [Nat.one_mul]; exact R.len p) (by
    intro j u hj
    rw [Addr.add_lit, Nat.zero_add]
    simp [World.cell?, hb, hj]) (R.one p) (by unfold maxLen; omega) hbytes hbase
  have h2' : R.Own w' base v' (xs ++ [p]) := by
    unfold Rec.Own
    rw [R.cells_append, List.length_append, Rec.cells, Rec.cells, List.append_nil]
    exact h2
  have key : ∀ (l : List α), (l = xs ∨ l = xs ++ [p]) → ∀ u, R.Own w base u l → R.Own w' base u l := by
    intro l hl u hu
    rcases h4 with h4 | ⟨g, cap', cur, cur', rfl, hg, hg', hsz, htk, hoth⟩
    · exact own_sameA hu h4
    · refine ⟨hu.1, ?_⟩
      rcases hu.2 with h5 | ⟨g2, c2, cur2, rfl, hb2, hh2, hn2, hm2, hs2, ht2⟩
      · exact .inl h5
      · by_cases hgg : g2 = g
        · subst hgg
          rw [hg] at hh2
          obtain rfl : cur = cur2 := by simp only [Option.some.injEq, Obj.cells.injEq] at hh2; exact hh2.1
          refine .inr ⟨g2, c2, cur', rfl, hb2, hg', hn2, hm2, by rw [hsz]; exact hs2, ?_⟩
          rcases hl with rfl | rfl
          · have h6 : cur'.toList.take (l.length * R.n) = (cur'.toList.take ((l.length + 1) * R.n)).take (l.length * R.n) := by
              rw [List.take_take, Nat.min_eq_left (Nat.mul_le_mul_right _ (by omega))]
            rw [h6, htk, ← R.cells_length l]
            exact List.take_left
          · rw [List.length_append, List.length_singleton, htk, R.cells_append, Rec.cells, Rec.cells, List.append_nil]
        · exact .inr ⟨g2, c2, cur2, rfl, hb2, by rw [hoth g2 hgg]; exact hh2, hn2, hm2, hs2, ht2⟩
  have hrel : RelA R base xs p w w' := by
    refine ⟨(Below.refl base w).grown h3 hbase (fun k hk => (Rec.Own.ltV hown k hk).1), key xs (.inl rfl), key _ (.inr rfl), ?_⟩
    intro b' hb'
    rcases h4 with h4 | ⟨g, cap', cur, cur', rfl, hg, hg', hsz, htk, hoth⟩
    · rw [h4 b' (Array.getElem?_eq_some_iff.1 hb').1]; exact hb'
    · by_cases hgg : b' = g
      · subst hgg
        rw [hg] at hb'
        obtain rfl : cur = (R.cell p).toArray := by simp only [Option.some.injEq, Obj.cells.injEq] at hb'; exact hb'.1
        rw [hg']
        have hl1 := congrArg List.length htk
        have hcl : cur'.toList.length = R.n := by rw [show cur'.toList.length = cur'.size from Array.length_toList, hsz, List.size_toArray, R.len]
        rw [List.length_take, List.length_append, R.cells_length, R.len, hcl] at hl1
        have hp := R.pos
        have hx0 : xs.length * R.n = 0 := by
          have := Nat.min_le_right ((xs.length + 1) * R.n) R.n
          omega
        have hx1 : xs.length = 0 := by
          rcases Nat.mul_eq_zero.1 hx0 with e | e
          · exact e
          · omega
        obtain rfl : xs = [] := List.eq_nil_of_length_eq_zero hx1
        rw [Rec.cells, List.nil_append, List.length_nil, Nat.zero_add, Nat.one_mul, List.take_of_length_le (by rw [hcl]; exact Nat.le_refl _)] at htk
        rw [← htk, Array.toArray_toList]
      · rw [hoth b' hgg]; exact hb'
  obtain ⟨A, C, rfl⟩ := owns_slice h2
  unfold growAt execOp
  simp only [ho, resolve, invoke, builtin, Sem.run_bind, Sem.run_pure, Result.andThen_ok, List.map_toArray, List.map_cons, List.map_nil, hs, hx, h1]
  exact h A C w' h2' hrel
theorem one_newA {w' : World} {G : Value → World → Prop} {cs : Array Value} (hG : ∀ x w'', RelA R base xs p w' w'' → (∀ φ, (kOneA R base xs p).fact x = some φ → φ w'') → G ((kOneA R base xs p).val x) w'') (hcs : cs = (R.cell p).toArray) (hb : base ≤ w'.heap.size) :
    G (.slice (some ⟨w'.heap.size, 0, none⟩) 1 1) (w'.alloc (.cells cs R.e)) := by
  subst hcs
  exact hG w'.heap.size _ (RelA.of_bel hb (b_alloc w' _)) (fun φ h => by cases h; exact heap_alloc_last w' _)
theorem region_relA {id : Nat} {Q : Exit → Act → World → Prop} {a : Act} {w : World} {l : List Oper} (R : Rec α) (xs : List α) (p : α) (n : Nat) (L : List (Nat × Known (RelA R w.heap.size xs p))) (hm : Tryd.prog.follows .mixedOrders = true) (hB : splitB l.toArray n = true)
    (h : wpG Tryd.prog l.toArray (Bel w) (RelA R w.heap.size xs p) (knownAt L) (fun S a' => ∀ w', Bel w w' → S.all w' → wpList Tryd.prog l.toArray Q (l.drop n) a' w') 0 (l.take n) Facts.none a) : (Code.region id l.toArray true).wp Tryd.prog Q a w :=
  wp_region_grown (knownAt L) n hm hB (fun _ _ h k => h.trans k.1) (b_drew w) h
end
theorem wpG_nilVT {P : Program} {ops : Array Oper} {C : World → Prop} {R : World → World → Prop} {F : Nat → Option (Known R)} {Q : Facts → Act → Prop} {k : Nat} {S : Facts} {a : Act} (h : Q S a) : wpG P ops C R F Q k [] S a := by unfold wpG; exact h
section
variable {w : World} {base G : Nat} {tv cv bv sv ev : Value} {role : UInt8} {s : Vs}
end
end Go.Proofs.YtbcjfppdeapamaaDoor
namespace Go.Proofs.YtbcjfppdeapamaaDoor
open Go.RowKit Oct
attribute [local irreducible] wpG
/-- what a reader that wants more panics with -/
def endV : Value := .iface 55 (.agg #[])
def endP : List PanicEntry := [{ v := endV, recovered := false }]
set_option maxRecDepth 100000 in
theorem take_ok (R : Nat) (s : List UInt8) (n : Nat) (w : World) (h : Blk w R 59 [.string (bs s)]) (hn : n ≤ s.length) (hs : s.length ≤ 100000) :
    Calls Tryd.prog 29 #[.pointer (some ⟨R, 0, none⟩), .int .i64 (n : Int)] w fun e w' => e = .returned (.string (bs (s.take n))) ∧ Blk w' R 59 [.string (bs (s.drop n))] ∧ Chg (fun x => x = R) w w' := by
  have c0 := h.cell (k := 0) rfl
  have f0 := h.free (k := 0) (by simp)
  have t1 : ¬ (s.length : Int) < (n : Int) := by omega
  have t2 : (n : Int) ≤ (s.length : Int) := by omega
  have t3 : (0 : Int) ≤ (n : Int) := by omega
  have t4 : (s.length : Int) ≤ 100000 := by omega
  have H := Lib.hid h
  clear h
  go_enter Tryd.func29, Tryd.ntmps29
  go_wp2
  go_ret
  exact ⟨rfl, H.out.set 0 _, Chg.set1R⟩
set_option maxRecDepth 100000 in
theorem take_bad (R : Nat) (s : List UInt8) (n : Nat) (w : World) (h : Blk w R 59 [.string (bs s)]) (hn : s.length < n) (hs : n ≤ 100000) :
    Calls Tryd.prog 29 #[.pointer (some ⟨R, 0, none⟩), .int .i64 (n : Int)] w fun e w' => e = .panicked endP ∧ w' = w := by
  have c0 := h.cell (k := 0) rfl
  have f0 := h.free (k := 0) (by simp)
  have t1 : (s.length : Int) < (n : Int) := by omega
  have t4 : (n : Int) ≤ 100000 := by omega
  clear h
  go_enter Tryd.func29, Tryd.ntmps29
  go_wp2
  exact ⟨rfl, rfl, rfl⟩
set_option maxRecDepth 100000 in
theorem num_ok (R : Nat) (c : UInt8) (s : List UInt8) (w : World) (h : Blk w R 59 [.string (bs (c :: s))]) (hs : s.length ≤ 90000) :
    Calls Tryd.prog 28 #[.pointer (some ⟨R, 0, none⟩)] w fun e w' => e = .returned (.int .i64 (c.toNat : Int)) ∧ Blk w' R 59 [.string (bs s)] ∧ Chg (fun x => x = R) w w' := by
  have HT := Lib.hid (take_ok R (c :: s) 1 w h (by simp) (by simp; omega))
  have cw : IntKind.i64.wrap (c.toNat : Int) = (c.toNat : Int) := by have := c.toNat_lt; simp [IntKind.wrap, IntKind.bits, IntKind.signed]; omega
  clear h
  go_enter Tryd.func28, Tryd.ntmps28
  go_wp2_with fail
  refine HT.out.mono ?_
  rintro e w2 ⟨rfl, hb, hc⟩
  have HB := Lib.hid hb
  have HC := Lib.hid hc
  clear hb hc
  go_wp2_with fail
  go_ret
  exact ⟨rfl, HB.out, HC.out⟩
set_option maxRecDepth 100000 in
theorem num_bad (R : Nat) (w : World) (h : Blk w R 59 [.string (bs [])]) :
    Calls Tryd.prog 28 #[.pointer (some ⟨R, 0, none⟩)] w fun e w' => e = .panicked endP ∧ w' = w := by
  have HT := Lib.hid (take_bad R [] 1 w h (by simp) (by omega))
  clear h
  go_enter Tryd.func28, Tryd.ntmps28
  go_wp2_with fail
  refine HT.out.mono ?_
  rintro e w2 ⟨rfl, rfl⟩
  go_wp2_with fail
  exact ⟨rfl, rfl, rfl⟩
set_option maxRecDepth 100000 in
/-- the deferred closure, behind a panic of the reader's -/
theorem catch_end (P E : Nat) (w : World) (v0 v1 x : Value) (hP : Blk w P 25 [v0, v1]) (hE : Blk w E 29 [x]) (hne : P ≠ E) :
    CallsD Tryd.prog 27 #[.pointer (some ⟨P, 0, none⟩), .pointer (some ⟨E, 0, none⟩)] (.panicking endP) w fun e u' w' =>
      e = .returned (.tuple #[]) ∧ u' = .panicking [{ v := endV, recovered := true }] ∧ Blk w' P 25 [.slice none 0 0, .slice none 0 0] ∧ Blk w' E 29 [.int .i64 7] ∧ Chg (fun j => j = P ∨ j = E) w w' := by
  unfold endP endV
  have c0 := hP.cell (k := 0) rfl
  have c1 := hP.cell (k := 1) rfl
  have c2 := hE.cell (k := 0) rfl
  have f0 := hP.free (k := 0) (by simp)
  have f1 := hP.free (k := 1) (by simp)
  have f2 := hE.free (k := 0) (by simp)
  have lP : P < w.heap.size := hP.lt
  have lE : E < w.heap.size := hE.lt
  have hne2 : E ≠ P := fun e => hne e.symm
  have HP := Lib.hid hP
  have HE := Lib.hid hE
  refine callsD_of_wpS Tryd.func27 rfl fun c₀ cs hu => ?_
  apply wpS_seq
  apply wpS_region
  simp [wpOpsS, go_sem, recoverD, hu, Tryd.ntmps27, Exit.thenS]
  have ht : (#[Value.pointer (some ⟨P, 0, none⟩), Value.pointer (some ⟨E, 0, none⟩)] ++ ((Array.replicate 15 undef).setIfInBounds 3 (Value.iface 55 (.agg #[]))).setIfInBounds 0 (Value.iface 55 (.agg #[]))) =
      #[.pointer (some ⟨P, 0, none⟩), .pointer (some ⟨E, 0, none⟩), .iface 55 (.agg #[]), undef, undef, .iface 55 (.agg #[]), undef, undef, undef, undef, undef, undef, undef, undef, undef, undef, undef] := by kernel_rfl
  rw [ht]
  clear ht
  have hta : ∀ w, (Instr.typeAssert (.iface 55 (.agg #[])) 20 55 true).run Tryd.prog w = .ok (.tuple #[.agg #[], .bool true]) w := by intro w; kernel_rfl
  refine wpS_of_wp ?_
  go_wp2
  have k1 := (HP.out.set 0 (.slice none 0 0)).set 1 (.slice none 0 0)
  have g1 : Chg (fun j => j = P ∨ j = E) w ((w.setCell ⟨P, 0, none⟩ (.slice none 0 0)).setCell ⟨P, 1, none⟩ (.slice none 0 0)) := (Chg.setCell _ _ _ (.inl rfl)).trans (Chg.setCell _ _ _ (.inl rfl))
  have k2 := HE.out.chg (X := fun j => j = P) ((Chg.set1R (w := w) (b := P) (k := 0) (v := .slice none 0 0)).trans (Chg.set1R (k := 1) (v := .slice none 0 0))) hne2
  have k3 := k2.set 0 (.int .i64 7)
  have k4 := k1.chg (X := fun j => j = E) (Chg.set1R (b := E) (k := 0) (v := .int .i64 7)) hne
  have g2 := g1.trans (Chg.setCell (X := fun j => j = P ∨ j = E) _ ⟨E, 0, none⟩ (.int .i64 7) (.inr rfl))
  exact ⟨rfl, _, rfl, _, results_none rfl _ _ _, rfl, rfl, k4.below (b_alloc _ _), k3.below (b_alloc _ _), g2.trans (Chg.alloc _ _ _)⟩
set_option maxRecDepth 100000 in
/-- the deferred closure, behind a return -/
theorem idle_end (P E : Nat) (w : World) :
    CallsD Tryd.prog 27 #[.pointer (some ⟨P, 0, none⟩), .pointer (some ⟨E, 0, none⟩)] .returning w fun e u' w' => e = .returned (.tuple #[]) ∧ u' = .returning ∧ w' = w := by
  refine callsD_of_wpS Tryd.func27 rfl fun c₀ cs hu => ?_
  apply wpS_seq
  apply wpS_region
  simp [wpOpsS, go_sem, recoverD, hu, Tryd.ntmps27, Exit.thenS]
  have ht : (#[Value.pointer (some ⟨P, 0, none⟩), Value.pointer (some ⟨E, 0, none⟩)] ++ ((Array.replicate 15 undef).setIfInBounds 3 Value.nilIface).setIfInBounds 0 Value.nilIface) =
      #[.pointer (some ⟨P, 0, none⟩), .pointer (some ⟨E, 0, none⟩), .nilIface, undef, undef, .nilIface, undef, undef, undef, undef, undef, undef, undef, undef, undef, undef, undef] := by kernel_rfl
  rw [ht]
  clear ht
  refine wpS_of_wp ?_
  go_wp2
  exact ⟨rfl, _, by cases c₀; simp_all, _, results_none rfl _ _ _, rfl, rfl, rfl⟩
end Go.Proofs.YtbcjfppdeapamaaDoor
namespace Go.Proofs.YtbcjfppdeapamaaDoor
open Go.RowKit Oct
attribute [local irreducible] wpG
/-- what Get tells -/
def GetR (w w' : World) (s : List UInt8) (e : Ending) : Prop :=
  match getC s with
  | some (t, c) => ∃ tv cv, e = .returned (.tuple #[.agg #[tv, cv], .int .i64 0]) ∧ recS.Own w' w.heap.size tv t ∧ recIns.Own w' w.heap.size cv c
  | none => e = .returned (.tuple #[.agg #[.slice none 0 0, .slice none 0 0], .int .i64 7])
theorem results_cell_cellC {P : Program} {fn : Func} {p q : Tmp} {ty tq : TypeId} {tmps : Array Value} {w : World} {v u : Value} {b c : Nat} (hr : fn.results = #[.cell p ty, .cell q tq]) (hp : tmps.getD p undef = .pointer (some ⟨b, 0, none⟩))
    (hq : tmps.getD q undef = .pointer (some ⟨c, 0, none⟩)) (hl : (loadVar ty ⟨b, 0, none⟩).run P w = .ok v w) (hl2 : (loadVar tq ⟨c, 0, none⟩).run P w = .ok u w) : (results fn tmps).run P w = .ok (.tuple #[v, u]) w := by
  simp only [Array.getD_eq_getD_getElem?] at hp hq ⊢
  simp [results, hr, Sem.run_bind, Result.andThen, hp, hq, asAddr, hl, hl2]
theorem load_err {w : World} {b : Nat} {v0 : Value} (h0 : w.cell? ⟨b, 0, none⟩ = some v0) : (loadVar 29 ⟨b, 0, none⟩).run Tryd.prog w = .ok v0 w := by
  go_simp
/-- the door, behind a panic of the reader's -/
theorem get_caught {w w4 : World} {P E : Nat} {tmps : Array Value} {v0 v1 x : Value} {s : List UInt8} (hg : getC s = none) (hP : Blk w4 P 25 [v0, v1]) (hE : Blk w4 E 29 [x]) (hne : P ≠ E) (hPw : w.heap.size ≤ P) (hEw : w.heap.size ≤ E)
    (hB : Below w.heap.size w w4) (h2 : tmps.getD 2 undef = .pointer (some ⟨P, 0, none⟩)) (h3 : tmps.getD 3 undef = .pointer (some ⟨E, 0, none⟩)) :
    Leaves Tryd.prog Tryd.f12 tmps (fun e w' => GetR w w' s e ∧ Below w.heap.size w w') [{ target := Target.fn (Fn.func 27) #[.pointer (some ⟨P, 0, none⟩), .pointer (some ⟨E, 0, none⟩)], args := #[] }] (.panicking endP) w4 := by
  refine leaves_cons (f := 27) (args := #[.pointer (some ⟨P, 0, none⟩), .pointer (some ⟨E, 0, none⟩)]) (by simp) (by simp [go_sem]) ?_
  refine (catch_end P E w4 _ _ _ hP hE hne).mono ?_
  rintro e u' w5 ⟨rfl, rfl, hp5, he5, hc5⟩
  refine ⟨_, results_cell_cellC rfl h2 h3 (load_prog (hp5.cell (k := 0) rfl) (hp5.cell (k := 1) rfl)) (load_err (he5.cell (k := 0) rfl)), ?_, hB.trans (hc5.below (fun j hj => by rcases hj with rfl | rfl <;> assumption) hB.size)⟩
  unfold GetR
  rw [hg]
/-- the door, behind a return -/
theorem get_done {w w4 : World} {P E : Nat} {tmps : Array Value} {v0 v1 x : Value} {s : List UInt8} (hP : Blk w4 P 25 [v0, v1]) (hE : Blk w4 E 29 [x])
    (hB : Below w.heap.size w w4) (h2 : tmps.getD 2 undef = .pointer (some ⟨P, 0, none⟩)) (h3 : tmps.getD 3 undef = .pointer (some ⟨E, 0, none⟩)) (hR : GetR w w4 s (.returned (.tuple #[.agg #[v0, v1], x]))) :
    Leaves Tryd.prog Tryd.f12 tmps (fun e w' => GetR w w' s e ∧ Below w.heap.size w w') [{ target := Target.fn (Fn.func 27) #[.pointer (some ⟨P, 0, none⟩), .pointer (some ⟨E, 0, none⟩)], args := #[] }] .returning w4 := by
  refine leaves_cons (f := 27) (args := #[.pointer (some ⟨P, 0, none⟩), .pointer (some ⟨E, 0, none⟩)]) (by simp) (by simp [go_sem]) ?_
  refine (idle_end P E w4).mono ?_
  rintro e u' w5 ⟨rfl, rfl, rfl⟩
  exact ⟨_, results_cell_cellC rfl h2 h3 (load_prog (hP.cell (k := 0) rfl) (hP.cell (k := 1) rfl)) (load_err (hE.cell (k := 0) rfl)), hR, hB⟩
/-- a call of a Go function as a step of a region that draws -/
theorem step_call {P : Program} {ops : Array Oper} {o : Oper} {a : Act} {w : World} {K : Act → World → Prop} {Q : Exit → Act → World → Prop} {E : Prop} {R : Ending → World → Prop} (hg : o.guard = none) (f : FuncId) (vals : Array Value)
    (hrun : (execOp a.eval o).run P w = .ok (.enter f vals) w) (hc : Calls P f vals w R)
    (h : ∀ e w', R e w' → match e with | .returned v => K (a.put o.dst v) w' | .panicked ch => Q (.panic ch) a w' | .outgrown => LetsOut Q) : if Region.wanted o (yielded ops a.tmps) = true then Oper.wp P o a w K Q else E := by
  have hw : Region.wanted o (yielded ops a.tmps) = true := by simp [Region.wanted, hg]
  rw [if_pos hw]
  unfold Oper.wp
  rw [hrun]
  refine Calls.mono hc ?_
  intro e w' hR
  have := h e w' hR
  cases e <;> exact this
/-- what is left of a region's walk behind a panic: nothing -/
theorem panic_out {P : Program} {G : Prop} {a : Act} {w : World} (hp : G) (_ : wpAny P .any #[] (fun _ _ _ => True) 0 #[] a w) : G := hp
def goneC (r : List UInt8) (k : Nat) (acc : List (List UInt8)) : Option (List (List UInt8) × List UInt8) := (takeT k r).map fun p => (acc ++ p.1, p.2)
theorem goneC_zero (r : List UInt8) (acc : List (List UInt8)) : goneC r 0 acc = some (acc, r) := by unfold goneC; rw [takeT]; simp
theorem goneC_nil (k : Nat) (acc : List (List UInt8)) : goneC [] (k + 1) acc = none := rfl
theorem goneC_bad {c : UInt8} {r : List UInt8} {k : Nat} {acc : List (List UInt8)} (h : ¬ c.toNat ≤ r.length) : goneC (c :: r) (k + 1) acc = none := by unfold goneC; rw [takeT, if_neg h]; rfl
theorem goneC_ok {c : UInt8} {r : List UInt8} {k : Nat} {acc : List (List UInt8)} (h : c.toNat ≤ r.length) : goneC (c :: r) (k + 1) acc = goneC (r.drop c.toNat) k (acc ++ [r.take c.toNat]) := by
  unfold goneC
  rw [takeT, if_pos h]
  cases takeT k (r.drop c.toNat) with
  | none => rfl
  | some p => simp
theorem getC_bad {n : UInt8} {s : List UInt8} (h : takeT n.toNat s = none) : getC (n :: s) = none := by
  unfold getC; rw [parseC, h]
theorem getC_short {n : UInt8} {s r : List UInt8} {t : List (List UInt8)} (h : takeT n.toNat s = some (t, r)) (hr : r.length < 2) : getC (n :: s) = none := by
  unfold getC; rw [parseC, h]
  match r, hr with
  | [], _ => rfl
  | [a], _ => rfl
set_option maxRecDepth 100000 in
set_option maxHeartbeats 16000000 in
theorem Get_nil (w : World) :
    Calls Tryd.prog 12 #[.string (bs [])] w fun e w' => GetR w w' [] e ∧ Below w.heap.size w w' := by
  have hmf : ∀ (fn : Fn) (first cap : Array Value) (w : World), (Instr.makeFunc fn first cap).run Tryd.prog w = .ok (.func fn first cap) w := fun _ _ _ _ => rfl
  obtain ⟨W3, hW3⟩ : ∃ W3, W3 = ((w.alloc (.cells #[.slice none 0 0, .slice none 0 0] 25)).alloc (.cells #[.int .i64 0] 29)).alloc (.cells #[.string (bs [])] 59) := ⟨_, rfl⟩
  have hp : Blk W3 w.heap.size 25 [.slice none 0 0, .slice none 0 0] := by rw [hW3]; exact ((Blk.new w _ _).below (b_alloc _ _)).below (b_alloc _ _)
  have he : Blk W3 (w.heap.size + 1) 29 [.int .i64 0] := by
    rw [hW3]
    have := (Blk.new (w.alloc (.cells #[.slice none 0 0, .slice none 0 0] 25)) [.int .i64 0] 29)
    rw [size_alV] at this
    exact this.below (b_alloc _ _)
  have hr : Blk W3 (w.heap.size + 2) 59 [.string (bs [])] := by
    rw [hW3]
    have := Blk.new ((w.alloc (.cells #[.slice none 0 0, .slice none 0 0] 25)).alloc (.cells #[.int .i64 0] 29)) [.string (bs [])] 59
    rw [size_alV, size_alV] at this
    exact this
  have hb3 : Below w.heap.size w W3 := by rw [hW3]; exact bt (b_alloc _ _) (bt (b_alloc _ _) (b_alloc _ _))
  have HP := Lib.hid hp
  have HE := Lib.hid he
  have HR := Lib.hid hr
  have HB3 := Lib.hid hb3
  clear hp he hr hb3
  have HG := Lib.hid (show getC [] = none from rfl)
  have HN := Lib.hid (num_bad _ W3 HR.out)
  go_enter_defers Tryd.func12, Tryd.ntmps12
  go_upto_region 3 with fail
  rw [← hW3]
  clear hW3
  go_wp2_with fail
  refine HN.out.mono ?_
  rintro e w4 ⟨rfl, rfl⟩
  go_wp2_with fail
  exact get_caught HG.out HP.out HE.out (by omega) (Nat.le_refl _) (by omega) HB3.out rfl rfl
end Go.Proofs.YtbcjfppdeapamaaDoor
namespace Go.Proofs.YtbcjfppdeapamaaDoor
open Go.RowKit

/-- each operation waits for earlier ones alone -/
def lexDeps (md : Region.Mode) (ops : Array Oper) : Bool :=
  (List.range ops.size).all fun i => match ops[i]? with
    | some o => o.after.all fun e => !Region.binds md e || decide (e.on < i)
    | none => true
def invSteps (P : Program) (md : Region.Mode) (ops : Array Oper) (I : Array Bool → Act → World → Prop) (Q : Exit → Act → World → Prop) : Nat → List Oper → Prop
  | _, [] => True
  | k, o :: rest => (∀ listed a w, I listed a w → listed.getD k true = false → (∀ e ∈ o.after, Region.binds md e = true → listed.getD e.on false = true) →
      (if Region.wanted o (yielded ops a.tmps) = true then o.wp P a w (fun a' w' => I (listed.setIfInBounds k true) a' w') Q else I (listed.setIfInBounds k true) (a.put o.dst undef) w)) ∧ invSteps P md ops I Q (k + 1) rest

section
variable {P : Program} {md : Region.Mode} {ops : Array Oper} {I : Array Bool → Act → World → Prop} {Q : Exit → Act → World → Prop}
theorem invSteps_at : ∀ (l : List Oper) (k i : Nat) (o : Oper), invSteps P md ops I Q k l → l[i]? = some o →
    ∀ listed a w, I listed a w → listed.getD (k + i) true = false → (∀ e ∈ o.after, Region.binds md e = true → listed.getD e.on false = true) →
      (if Region.wanted o (yielded ops a.tmps) = true then o.wp P a w (fun a' w' => I (listed.setIfInBounds (k + i) true) a' w') Q else I (listed.setIfInBounds (k + i) true) (a.put o.dst undef) w)
  | [], _, _, _, _, h => by simp at h
  | o :: l, k, 0, o', hs, h => by
    simp only [List.getElem?_cons_zero, Option.some.injEq] at h
    subst h
    exact hs.1
  | o :: l, k, i + 1, o', hs, h => by
    have := invSteps_at l (k + 1) i o' hs.2 (by simpa using h)
    rw [show k + (i + 1) = k + 1 + i by omega]
    exact this
theorem all_listed (hl : lexDeps md ops = true) {listed : Array Bool} (hs : listed.size = ops.size) (hr : Region.ready md ops listed = []) : ∀ n i, i < n → i < ops.size → listed.getD i false = true := by
  intro n
  induction n with
  | zero => intro i h; omega
  | succ n ih =>
    intro i hi his
    have ho : ops[i]? = some ops[i] := Array.getElem?_eq_getElem his
    have h1 := List.all_eq_true.1 hl i (List.mem_range.2 his)
    simp only [ho, Array.all_eq_true_iff_forall_mem] at h1
    cases hb : listed.getD i true with
    | true =>
      have hx : i < listed.size := by omega
      simp only [Array.getD_eq_getD_getElem?, Array.getElem?_eq_getElem hx, Option.getD_some] at hb ⊢
      exact hb
    | false =>
      have : i ∈ Region.ready md ops listed := mem_ready.2 ⟨hb, _, ho, fun e he hbi => by
        have h2 := h1 e he
        rw [hbi] at h2
        have h3 : e.on < i := by simpa using h2
        exact ih e.on (by omega) (by omega)⟩
      rw [hr] at this
      cases this
theorem count_set_true : ∀ (l : List Bool) (i : Nat), l[i]? = some false → (l.set i true).count false + 1 = l.count false
  | [], _, h => by simp at h
  | b :: l, 0, h => by simp at h; subst h; simp
  | b :: l, i + 1, h => by
    have := count_set_true l i (by simpa using h)
    cases b <;> simp [List.set_cons_succ, List.count_cons] <;> omega
theorem wpAny_inv (hlex : lexDeps md ops = true)
    (hend : ∀ listed a w, I listed a w → listed.size = ops.size → (∀ i, i < ops.size → listed.getD i false = true) → Q .normal a w) (hstep : invSteps P md ops I Q 0 ops.toList) :
    ∀ (fuel : Nat) (listed : Array Bool) (a : Act) (w : World), listed.size = ops.size → listed.toList.count false ≤ fuel → I listed a w → wpAny P md ops Q fuel listed a w := by
  intro fuel
  induction fuel with
  | zero =>
    intro listed a w hs hc hI
    have hr : Region.ready md ops listed = [] := by
      rw [List.eq_nil_iff_forall_not_mem]
      intro j hj
      obtain ⟨h1, o, h2, _⟩ := mem_ready.1 hj
      have hjs : j < listed.size := by rw [hs]; exact (Array.getElem?_eq_some_iff.1 h2).1
      have : false ∈ listed.toList := by
        simp only [Array.getD_eq_getD_getElem?, Array.getElem?_eq_getElem hjs, Option.getD_some] at h1
        rw [← h1]; simp
      have := List.count_pos_iff.2 this
      omega
    exact ⟨hr, hend listed a w hI hs fun i hi => all_listed hlex hs hr (i + 1) i (by omega) hi⟩
  | succ fuel ih =>
    intro listed a w hs hc hI
    refine ⟨fun hr => hend listed a w hI hs fun i hi => all_listed hlex hs hr (i + 1) i (by omega) hi, fun i hi => ?_⟩
    obtain ⟨h1, o, h2, h3⟩ := mem_ready.1 hi
    have his : i < listed.size := by rw [hs]; exact (Array.getElem?_eq_some_iff.1 h2).1
    have hget : listed.toList[i]? = some false := by
      simp only [Array.getD_eq_getD_getElem?, Array.getElem?_eq_getElem his, Option.getD_some] at h1
      rw [Array.getElem?_toList, Array.getElem?_eq_getElem his, h1]
    have hcc := count_set_true _ _ hget
    have hnext : ∀ a' w', I (listed.setIfInBounds i true) a' w' → wpAny P md ops Q fuel (listed.setIfInBounds i true) a' w' := fun a' w' hI' =>
      ih _ a' w' (by simpa using hs) (by rw [Array.toList_setIfInBounds]; omega) hI'
    have hk := invSteps_at ops.toList 0 i o hstep (by simpa using h2) listed a w hI (by simpa using h1) h3
    rw [Nat.zero_add] at hk
    unfold wpOp
    simp only [h2]
    split
    · rename_i hw
      rw [if_pos hw] at hk
      exact .inl (Oper.wp_mono hnext hk)
    · rename_i hw
      rw [if_neg hw] at hk
      exact hnext _ _ hk
/-- a drawn region by an invariant -/
theorem region_inv {id : Nat} {a : Act} {w : World} {l : List Oper} (I : Array Bool → Act → World → Prop) (hm : P.follows .mixedOrders = true) (hlex : lexDeps .any l.toArray = true)
    (h0 : I (Array.replicate l.length false) a w.drew) (hend : ∀ listed a w, I listed a w → listed.size = l.length → (∀ i, i < l.length → listed.getD i false = true) → Q .normal a w)
    (hstep : invSteps P .any l.toArray I Q 0 l) : (Code.region id l.toArray true).wp P Q a w :=
  wp_region_any hm (wpAny_inv hlex (fun listed a w h hs hall => hend listed a w h (by simpa using hs) (fun i hi => hall i (by simpa using hi))) (by simpa using hstep) _ _ _ _ (by simp) (by simp) (by simpa using h0))
end
end Go.Proofs.YtbcjfppdeapamaaDoor
namespace Go.Proofs.YtbcjfppdeapamaaDoor
open Go.RowKit Oct
attribute [local irreducible] wpG
def sd (d : Bool) (v u : Value) : Value := bif d then v else u
@[go_sem] theorem sd_true (v u : Value) : sd true v u = v := rfl
@[go_sem] theorem sd_false (v u : Value) : sd false v u = u := rfl
/-- a walk that never leaves otherwise than behind its end -/
theorem wp_calm {P : Program} {c : Code} {Q : Exit → Act → World → Prop} {a : Act} {w : World} (h : c.wp P (fun e a w => match e with | .normal => Q .normal a w | _ => False) a w) : c.wp P Q a w := by
  refine wp_mono h fun e a w hq => ?_
  cases e <;> first | exact hq | exact hq.elim
/-- what stands while a text is taken -/
def WX6 (w wx : World) (tv : Value) (r0 r1 : List UInt8) (d : Bool) : Prop :=
  Blk wx w.heap.size 25 [tv, .slice none 0 0] ∧ Blk wx (w.heap.size + 1) 29 [.int .i64 0] ∧ Below w.heap.size w wx ∧ Blk wx (w.heap.size + 2) 59 [.string (bs (bif d then r1 else r0))]
theorem WX6.start {w wr : World} {tv : Value} {r0 r1 : List UInt8} (hp : Blk wr w.heap.size 25 [tv, .slice none 0 0]) (he : Blk wr (w.heap.size + 1) 29 [.int .i64 0]) (hb : Below w.heap.size w wr)
    (hr : Blk wr (w.heap.size + 2) 59 [.string (bs r0)]) : WX6 w wr.drew tv r0 r1 false := ⟨hp.below (b_drew wr), he.below (b_drew wr), bt hb (b_drew wr), hr.below (b_drew wr)⟩
theorem WX6.rd {w wx : World} {tv : Value} {r0 r1 : List UInt8} {d : Bool} (h : WX6 w wx tv r0 r1 d) : Blk wx (w.heap.size + 2) 59 [.string (bs (bif d then r1 else r0))] := h.2.2.2
theorem WX6.step {w wx w' : World} {tv : Value} {r0 r1 : List UInt8} (h : WX6 w wx tv r0 r1 false) (hr : Blk w' (w.heap.size + 2) 59 [.string (bs r1)]) (hc : Chg (fun x => x = w.heap.size + 2) wx w') : WX6 w w' tv r0 r1 true :=
  ⟨h.1.chg hc (by omega), h.2.1.chg hc (by omega), h.2.2.1.trans (hc.below (fun j (hj : j = w.heap.size + 2) => by omega) h.2.2.1.size), hr⟩
/-- what stands in the first loop -/
def OKT (w wx : World) (B : Nat) (tv : Value) (r : List UInt8) (acc : List (List UInt8)) : Prop :=
  Blk wx w.heap.size 25 [tv, .slice none 0 0] ∧ recS.Own wx B tv acc ∧ Blk wx (w.heap.size + 1) 29 [.int .i64 0] ∧ Blk wx (w.heap.size + 2) 59 [.string (bs r)] ∧ Below w.heap.size w wx ∧ B ≤ wx.heap.size
section
variable {w wx w' : World} {B : Nat} {tv tv' : Value} {r r' : List UInt8} {acc acc' : List (List UInt8)}
theorem OKT.drew (h : OKT w wx B tv r acc) : OKT w wx.drew B tv r acc := ⟨h.1.below (b_drew wx), h.2.1.below (b_drew wx), h.2.2.1.below (b_drew wx), h.2.2.2.1.below (b_drew wx), bt h.2.2.2.2.1 (b_drew wx), Nat.le_trans h.2.2.2.2.2 (b_drew wx).size⟩
theorem OKT.read (h : OKT w wx B tv r acc) (hB : w.heap.size + 3 ≤ B) (hr : Blk w' (w.heap.size + 2) 59 [.string (bs r')]) (hc : Chg (fun x => x = w.heap.size + 2) wx w') : OKT w w' B tv r' acc :=
  ⟨h.1.chg hc (by omega), h.2.1.chgV hc (fun k hk (e : k = w.heap.size + 2) => by have := (Rec.Own.ltV h.2.1 k hk).1; omega), h.2.2.1.chg hc (by omega), hr, h.2.2.2.2.1.trans (hc.below (fun j (hj : j = w.heap.size + 2) => by omega) h.2.2.2.2.1.size), Nat.le_trans h.2.2.2.2.2 hc.size⟩
theorem OKT.appP (h : OKT w wx B tv r acc) (hB : w.heap.size + 3 ≤ B) (hc : Chg (fun k => tv.ownBlock = some k) wx w') : Blk w' w.heap.size 25 [tv, .slice none 0 0] :=
  h.1.chg hc (fun e => by have := (Rec.Own.ltV h.2.1 _ e).1; omega)
theorem OKT.app (h : OKT w wx B tv r acc) (hB : w.heap.size + 3 ≤ B) (ho : recS.Own w' B tv' acc') (hc : Chg (fun k => tv.ownBlock = some k) wx w') : OKT w (w'.setCell ⟨w.heap.size, 0, none⟩ tv') B tv' r acc' := by
  have g : Chg (fun x => x = w.heap.size) w' (w'.setCell ⟨w.heap.size, 0, none⟩ tv') := Chg.set1R
  have hb : Below w.heap.size w w' := h.2.2.2.2.1.trans (hc.below (fun j hj => by have := (Rec.Own.ltV h.2.1 j hj).1; omega) h.2.2.2.2.1.size)
  refine ⟨(h.appP hB hc).set 0 tv', ho.chgV g (fun k hk (e : k = w.heap.size) => by have := (Rec.Own.ltV ho k hk).1; omega), ?_, ?_, hb.trans (g.below (fun j (hj : j = w.heap.size) => by omega) hb.size), Nat.le_trans h.2.2.2.2.2 (Nat.le_trans hc.size g.size)⟩
  · exact (h.2.2.1.chg hc (fun e => by have := (Rec.Own.ltV h.2.1 _ e).1; omega)).chg g (by omega)
  · exact (h.2.2.2.1.chg hc (fun e => by have := (Rec.Own.ltV h.2.1 _ e).1; omega)).chg g (by omega)
end
/-- what stands in the second loop -/
def OKI (w wx : World) (B C : Nat) (tv cv : Value) (r : List UInt8) (t : List (List UInt8)) (acc : List VI) : Prop :=
  Blk wx w.heap.size 25 [tv, cv] ∧ recS.Own wx B tv t ∧ recIns.Own wx C cv acc ∧ Blk wx (w.heap.size + 1) 29 [.int .i64 0] ∧ Blk wx (w.heap.size + 2) 59 [.string (bs r)] ∧ Below w.heap.size w wx ∧ C ≤ wx.heap.size ∧ (∀ k, tv.ownBlock = some k → k < C)
section
variable {w wx w' : World} {B C : Nat} {tv cv cv' : Value} {r r' : List UInt8} {t : List (List UInt8)} {acc acc' : List VI}
theorem OKT.code (h : OKT w wx B tv r t) : OKI w wx B wx.heap.size tv (.slice none 0 0) r t [] := ⟨h.1, h.2.1, Rec.Own.nil _ _, h.2.2.1, h.2.2.2.1, h.2.2.2.2.1, Nat.le_refl _, fun k hk => (Rec.Own.ltV h.2.1 k hk).2⟩
theorem OKI.drew (h : OKI w wx B C tv cv r t acc) : OKI w wx.drew B C tv cv r t acc := ⟨h.1.below (b_drew wx), h.2.1.below (b_drew wx), h.2.2.1.below (b_drew wx), h.2.2.2.1.below (b_drew wx), h.2.2.2.2.1.below (b_drew wx), bt h.2.2.2.2.2.1 (b_drew wx), Nat.le_trans h.2.2.2.2.2.2.1 (b_drew wx).size, h.2.2.2.2.2.2.2⟩
theorem OKI.read (h : OKI w wx B C tv cv r t acc) (hB : w.heap.size + 3 ≤ B) (hBC : w.heap.size + 3 ≤ C) (hr : Blk w' (w.heap.size + 2) 59 [.string (bs r')]) (hc : Chg (fun x => x = w.heap.size + 2) wx w') : OKI w w' B C tv cv r' t acc :=
  ⟨h.1.chg hc (by omega), h.2.1.chgV hc (fun k hk (e : k = w.heap.size + 2) => by have := (Rec.Own.ltV h.2.1 k hk).1; omega), h.2.2.1.chgV hc (fun k hk (e : k = w.heap.size + 2) => by have := (Rec.Own.ltV h.2.2.1 k hk).1; omega), h.2.2.2.1.chg hc (by omega), hr,
    h.2.2.2.2.2.1.trans (hc.below (fun j (hj : j = w.heap.size + 2) => by omega) h.2.2.2.2.2.1.size), Nat.le_trans h.2.2.2.2.2.2.1 hc.size, h.2.2.2.2.2.2.2⟩
theorem OKI.appP (h : OKI w wx B C tv cv r t acc) (hBC : w.heap.size + 3 ≤ C) (hc : Chg (fun k => cv.ownBlock = some k) wx w') : Blk w' w.heap.size 25 [tv, cv] :=
  h.1.chg hc (fun e => by have := (Rec.Own.ltV h.2.2.1 _ e).1; omega)
theorem OKI.app (h : OKI w wx B C tv cv r t acc) (hB : w.heap.size + 3 ≤ B) (hBC : w.heap.size + 3 ≤ C) (ho : recIns.Own w' C cv' acc') (hc : Chg (fun k => cv.ownBlock = some k) wx w') : OKI w (w'.setCell ⟨w.heap.size, 1, none⟩ cv') B C tv cv' r t acc' := by
  have g : Chg (fun x => x = w.heap.size) w' (w'.setCell ⟨w.heap.size, 1, none⟩ cv') := Chg.set1R
  have hb : Below w.heap.size w w' := h.2.2.2.2.2.1.trans (hc.below (fun j hj => by have := (Rec.Own.ltV h.2.2.1 j hj).1; omega) h.2.2.2.2.2.1.size)
  refine ⟨(h.appP hBC hc).set 1 cv', (h.2.1.chgV hc (fun k hk e => ?_)).chgV g (fun k hk (e : k = w.heap.size) => by have := (Rec.Own.ltV h.2.1 k hk).1; omega), ho.chgV g (fun k hk (e : k = w.heap.size) => by have := (Rec.Own.ltV ho k hk).1; omega), ?_, ?_, hb.trans (g.below (fun j (hj : j = w.heap.size) => by omega) hb.size), Nat.le_trans h.2.2.2.2.2.2.1 (Nat.le_trans hc.size g.size), h.2.2.2.2.2.2.2⟩
  · have h1 := h.2.2.2.2.2.2.2 k hk
    have h2 := (Rec.Own.ltV h.2.2.1 k e).1
    omega
  · exact (h.2.2.2.1.chg hc (fun e => by have := (Rec.Own.ltV h.2.2.1 _ e).1; omega)).chg g (by omega)
  · exact (h.2.2.2.2.1.chg hc (fun e => by have := (Rec.Own.ltV h.2.2.1 _ e).1; omega)).chg g (by omega)
end
section
variable {w wx : World} {B C : Nat} {tv cv : Value} {r : List UInt8} {t : List (List UInt8)} {acc : List VI}
theorem OKI.below (h : OKI w wx B C tv cv r t acc) {w' : World} (hb : Below wx.heap.size wx w') : OKI w w' B C tv cv r t acc := ⟨h.1.below hb, h.2.1.below hb, h.2.2.1.below hb, h.2.2.2.1.below hb, h.2.2.2.2.1.below hb, bt h.2.2.2.2.2.1 hb, Nat.le_trans h.2.2.2.2.2.2.1 hb.size, h.2.2.2.2.2.2.2⟩
theorem fin_chg (w wx : World) (x y z : Value) : Chg (fun j => j = w.heap.size ∨ j = w.heap.size + 1) wx (((wx.setCell ⟨w.heap.size, 0, none⟩ x).setCell ⟨w.heap.size, 1, none⟩ y).setCell ⟨w.heap.size + 1, 0, none⟩ z) :=
  ((Chg.setCell _ _ _ (.inl rfl)).trans (Chg.setCell _ _ _ (.inl rfl))).trans (Chg.setCell _ _ _ (.inr rfl))
theorem OKI.fin (h : OKI w wx B C tv cv r t acc) (x y z : Value) : Blk (((wx.setCell ⟨w.heap.size, 0, none⟩ x).setCell ⟨w.heap.size, 1, none⟩ y).setCell ⟨w.heap.size + 1, 0, none⟩ z) w.heap.size 25 [x, y] ∧
    Blk (((wx.setCell ⟨w.heap.size, 0, none⟩ x).setCell ⟨w.heap.size, 1, none⟩ y).setCell ⟨w.heap.size + 1, 0, none⟩ z) (w.heap.size + 1) 29 [z] ∧ Below w.heap.size w (((wx.setCell ⟨w.heap.size, 0, none⟩ x).setCell ⟨w.heap.size, 1, none⟩ y).setCell ⟨w.heap.size + 1, 0, none⟩ z) :=
  ⟨((h.1.set 0 x).set 1 y).chg (Chg.set1R (b := w.heap.size + 1) (k := 0) (v := z)) (by omega), (h.2.2.2.1.chg ((Chg.set1R (w := wx) (b := w.heap.size) (k := 0) (v := x)).trans (Chg.set1R (k := 1) (v := y))) (by omega)).set 0 z,
    h.2.2.2.2.2.1.trans ((fin_chg w wx x y z).below (fun j hj => by rcases hj with rfl | rfl <;> omega) h.2.2.2.2.2.1.size)⟩
theorem OKI.own (h : OKI w wx B C tv cv r t acc) (hB : w.heap.size + 3 ≤ B) (hC : w.heap.size + 3 ≤ C) (x y z : Value) : recS.Own (((wx.setCell ⟨w.heap.size, 0, none⟩ x).setCell ⟨w.heap.size, 1, none⟩ y).setCell ⟨w.heap.size + 1, 0, none⟩ z) w.heap.size tv t ∧
    recIns.Own (((wx.setCell ⟨w.heap.size, 0, none⟩ x).setCell ⟨w.heap.size, 1, none⟩ y).setCell ⟨w.heap.size + 1, 0, none⟩ z) w.heap.size cv acc :=
  ⟨(h.2.1.chgV (fin_chg w wx x y z) (fun k hk e => by have := (Rec.Own.ltV h.2.1 k hk).1; rcases e with rfl | rfl <;> omega)).mono (by omega), (h.2.2.1.chgV (fin_chg w wx x y z) (fun k hk e => by have := (Rec.Own.ltV h.2.2.1 k hk).1; rcases e with rfl | rfl <;> omega)).mono (by omega)⟩
end
theorem take2_ok (R : Nat) (a b : UInt8) (s : List UInt8) (w : World) (h : Blk w R 59 [.string (bs (a :: b :: s))]) (hs : s.length ≤ 90000) :
    Calls Tryd.prog 29 #[.pointer (some ⟨R, 0, none⟩), .int .i64 2] w fun e w' => e = .returned (.string (bs [a, b])) ∧ Blk w' R 59 [.string (bs s)] ∧ Chg (fun x => x = R) w w' :=
  take_ok R (a :: b :: s) 2 w h (by simp) (by simp; omega)
theorem step_callW {P : Program} {o : Oper} {a : Act} {w : World} {K : Act → World → Prop} {Q : Exit → Act → World → Prop} {R : Ending → World → Prop} (f : FuncId) (vals : Array Value)
    (hrun : (execOp a.eval o).run P w = .ok (.enter f vals) w) (hc : Calls P f vals w R)
    (h : ∀ e w', R e w' → match e with | .returned v => K (a.put o.dst v) w' | .panicked ch => Q (.panic ch) a w' | .outgrown => LetsOut Q) : Oper.wp P o a w K Q := by
  unfold Oper.wp
  rw [hrun]
  refine Calls.mono hc ?_
  intro e w' hR
  have := h e w' hR
  cases e <;> exact this
def goneI (r : List UInt8) (k : Nat) (acc : List VI) : Option (List VI × List UInt8) := (takeI k r).map fun p => (acc ++ p.1, p.2)
theorem goneI_zero (r : List UInt8) (acc : List VI) : goneI r 0 acc = some (acc, r) := by unfold goneI; rw [takeI]; simp
theorem goneI_bad {r : List UInt8} {k : Nat} {acc : List VI} (h : r.length < 2) : goneI r (k + 1) acc = none := by
  match r, h with
  | [], _ => rfl
  | [a], _ => rfl
theorem goneI_ok {a b : UInt8} {r : List UInt8} {k : Nat} {acc : List VI} : goneI (a :: b :: r) (k + 1) acc = goneI r k (acc ++ [(a, b)]) := by
  unfold goneI
  rw [takeI]
  cases takeI k r with
  | none => rfl
  | some p => simp
theorem getC_code {n a b : UInt8} {s r : List UInt8} {t : List (List UInt8)} (h : takeT n.toNat s = some (t, a :: b :: r)) :
    getC (n :: s) = match takeI (a.toNat + 256 * b.toNat) r with | some (c, r') => if r' = [] ∧ mayV t c = true then some (t, c) else none | none => none := by
  unfold getC
  rw [parseC, h]
  dsimp only
  cases takeI (a.toNat + 256 * b.toNat) r <;> rfl
theorem getC_noI {n a b : UInt8} {s r : List UInt8} {t : List (List UInt8)} (h : takeT n.toNat s = some (t, a :: b :: r)) (hi : goneI r (a.toNat + 256 * b.toNat) [] = none) : getC (n :: s) = none := by
  rw [getC_code h]
  unfold goneI at hi
  cases hh : takeI (a.toNat + 256 * b.toNat) r with
  | none => rfl
  | some p => rw [hh] at hi; cases hi
theorem getC_isI {n a b : UInt8} {s r r' : List UInt8} {t : List (List UInt8)} {c : List VI} (h : takeT n.toNat s = some (t, a :: b :: r)) (hi : goneI r (a.toNat + 256 * b.toNat) [] = some (c, r')) : getC (n :: s) = if r' = [] ∧ mayV t c = true then some (t, c) else none := by
  rw [getC_code h]
  unfold goneI at hi
  cases hh : takeI (a.toNat + 256 * b.toNat) r with
  | none => rw [hh] at hi; cases hi
  | some p =>
    rw [hh] at hi
    simp only [Option.map_some, List.nil_append, Option.some.injEq] at hi
    obtain ⟨p1, p2⟩ := p
    cases hi
    rfl
theorem GetR_none {w w' : World} {s : List UInt8} (h : getC s = none) : GetR w w' s (.returned (.tuple #[.agg #[.slice none 0 0, .slice none 0 0], .int .i64 7])) := by unfold GetR; rw [h]
theorem GetR_some {w w' : World} {s : List UInt8} {t : List (List UInt8)} {c : List VI} {tv cv : Value} (h : getC s = some (t, c)) (ht : recS.Own w' w.heap.size tv t) (hc : recIns.Own w' w.heap.size cv c) : GetR w w' s (.returned (.tuple #[.agg #[tv, cv], .int .i64 0])) := by unfold GetR; rw [h]; exact ⟨_, _, rfl, ht, hc⟩
set_option maxRecDepth 100000 in
set_option maxHeartbeats 16000000 in
theorem Get_any (s : List UInt8) (w : World) (hs : s.length ≤ 10000) :
    Calls Tryd.prog 12 #[.string (bs s)] w fun e w' => GetR w w' s e ∧ Below w.heap.size w w' := by
  cases s with
  | nil => exact Get_nil w
  | cons n s =>
    have hmf : ∀ (fn : Fn) (first cap : Array Value) (w : World), (Instr.makeFunc fn first cap).run Tryd.prog w = .ok (.func fn first cap) w := fun _ _ _ _ => rfl
    obtain ⟨W3, hW3⟩ : ∃ W3, W3 = ((w.alloc (.cells #[.slice none 0 0, .slice none 0 0] 25)).alloc (.cells #[.int .i64 0] 29)).alloc (.cells #[.string (bs (n :: s))] 59) := ⟨_, rfl⟩
    have hp : Blk W3 w.heap.size 25 [.slice none 0 0, .slice none 0 0] := by rw [hW3]; exact ((Blk.new w _ _).below (b_alloc _ _)).below (b_alloc _ _)
    have he : Blk W3 (w.heap.size + 1) 29 [.int .i64 0] := by
      rw [hW3]
      have := (Blk.new (w.alloc (.cells #[.slice none 0 0, .slice none 0 0] 25)) [.int .i64 0] 29)
      rw [size_alV] at this
      exact this.below (b_alloc _ _)
    have hr : Blk W3 (w.heap.size + 2) 59 [.string (bs (n :: s))] := by
      rw [hW3]
      have := Blk.new ((w.alloc (.cells #[.slice none 0 0, .slice none 0 0] 25)).alloc (.cells #[.int .i64 0] 29)) [.string (bs (n :: s))] 59
      rw [size_alV, size_alV] at this
      exact this
    have hb3 : Below w.heap.size w W3 := by rw [hW3]; exact bt (b_alloc _ _) (bt (b_alloc _ _) (b_alloc _ _))
    have HP := Lib.hid hp
    have HE := Lib.hid he
    have HR := Lib.hid hr
    have HB3 := Lib.hid hb3
    clear hp he hr hb3
    have hs2 : s.length ≤ 10000 := by simp at hs; omega
    have HN := Lib.hid (num_ok _ n s W3 HR.out (by omega))
    have HG0 := Lib.hid (show takeT n.toNat s = goneC s n.toNat [] by unfold goneC; cases takeT n.toNat s <;> simp)
    have hn256 := n.toNat_lt
    clear hs
    go_enter_defers Tryd.func12, Tryd.ntmps12
    go_upto_region 3 with fail
    rw [← hW3]
    clear hW3
    go_wp2_with fail
    refine HN.out.mono ?_
    rintro e w4 ⟨rfl, hr4, hc4⟩
    have HR4 := Lib.hid hr4
    have HP4 := Lib.hid (HP.out.chg hc4 (by show ¬ (w.heap.size = w.heap.size + 2); omega))
    have HE4 := Lib.hid (HE.out.chg hc4 (by show ¬ (w.heap.size + 1 = w.heap.size + 2); omega))
    have HB4 := Lib.hid (HB3.out.trans (hc4.below (fun j (hj : j = w.heap.size + 2) => by omega) HB3.out.size))
    have hsz4 : w.heap.size + 3 ≤ w4.heap.size := by
      have := HR4.out.lt
      omega
    clear hr4 hc4 HN HP HE HR HB3
    go_wp2_with fail
    go_loopw [5] (fun v wr => ∃ (k : Nat) (acc : List (List UInt8)) (r : List UInt8) (tv : Value), v = .int .i64 (k : Int) ∧ k ≤ 256 ∧ r.length ≤ 10000 ∧ acc.length + k ≤ 256 ∧ Hid (takeT n.toNat s = goneC r k acc) ∧ Hid (Blk wr w.heap.size 25 [tv, .slice none 0 0]) ∧ Hid (recS.Own wr w4.heap.size tv acc) ∧ Hid (Blk wr (w.heap.size + 1) 29 [.int .i64 0]) ∧ Hid (Blk wr (w.heap.size + 2) 59 [.string (bs r)]) ∧ Hid (Below w.heap.size w wr) ∧ w4.heap.size ≤ wr.heap.size ∧ Hid (∀ x ∈ acc, x.length ≤ 255)) (fun v _ => (intOf v).toNat)
    case atStart => exact ⟨n.toNat, [], s, _, rfl, by omega, hs2, by simp; omega, HG0.out, HP4.out, Rec.Own.nil _ _, HE4.out, HR4.out, HB4.out, Nat.le_refl _, fun x hx => by cases hx⟩
    case round =>
      obtain ⟨k, acc, r, tv, rfl, hk, hrl, hac, HT, HP, HO, HE, HR, HB, hsz, HL⟩ := hrel
      obtain ⟨at_, ct, rfl⟩ := owns_slice HO.out
      by_cases h0 : 0 < k
      · have t0 : (0 : Int) < (k : Int) := by omega
        obtain ⟨k', rfl⟩ : ∃ k', k = k' + 1 := ⟨k - 1, by omega⟩
        cases r with
        | nil =>
          have HGN := Lib.hid (show getC (n :: s) = none from getC_bad (by rw [HT.out]; exact goneC_nil _ _))
          go_upto_region 6 with fail
          have hI0 : ∃ I : Array Bool → Act → World → Prop, I = (fun listed ax wx => ∃ d0 d1 d2 d3 d8 : Bool, listed = #[d0, d1, d2, d3, false, false, false, false, d8, false] ∧ ax = { tmps := List.toArray ((.string (bs (n :: s))) :: (undef) :: (.pointer (some ⟨w.heap.size, 0, none⟩)) :: (.pointer (some ⟨w.heap.size + 1, 0, none⟩)) :: (.pointer (some ⟨w.heap.size + 1 + 1, 0, none⟩)) :: ((.int .i64 ((k' + 1 : Nat) : Int))) :: (undef) :: (undef) :: (.func (.func 27) #[] #[.pointer (some ⟨w.heap.size, 0, none⟩), .pointer (some ⟨w.heap.size + 1, 0, none⟩)]) :: (.string (bs (n :: s))) :: (.agg #[.string (bs (n :: s))]) :: (.pointer (some ⟨w.heap.size + 1 + 1, 0, none⟩)) :: (.pointer (some ⟨w.heap.size + 1 + 1, 0, none⟩)) :: (.int .i64 (n.toNat : Int)) :: ((.int .i64 ((k' + 1 : Nat) : Int))) :: (.bool true) :: (u16) :: (u17) :: (sd d0 (.pointer (some ⟨w.heap.size, 0, none⟩)) u18) :: (sd d1 (.slice at_ acc.length ct) u19) :: (sd d2 (.pointer (some ⟨w.heap.size + 1 + 1, 0, none⟩)) u20) :: (sd d3 (.pointer (some ⟨w.heap.size + 1 + 1, 0, none⟩)) u21) :: (u22) :: (u23) :: (u24) :: (u25) :: (sd d8 (.pointer (some ⟨w.heap.size, 0, none⟩)) u26) :: (undef) :: (undef) :: (undef) :: (undef) :: (undef) :: (undef) :: (undef) :: (undef) :: (undef) :: (undef) :: (undef) :: (undef) :: (undef) :: (undef) :: (undef) :: (undef) :: (undef) :: (undef) :: (undef) :: (undef) :: (undef) :: (undef) :: (undef) :: (undef) :: (undef) :: (undef) :: (undef) :: (undef) :: (undef) :: (undef) :: (undef) :: (undef) :: (undef) :: (undef) :: (undef) :: []), defers := [{ target := Target.fn (Fn.func 27) #[.pointer (some ⟨w.heap.size, 0, none⟩), .pointer (some ⟨w.heap.size + 1, 0, none⟩)], args := #[] }] } ∧ Hid (WX6 w wx (.slice at_ acc.length ct) [] [] false)) := ⟨_, rfl⟩
          obtain ⟨INV, hINV⟩ := hI0
          have HINV := Lib.hid hINV
          clear hINV
          refine region_inv INV (by kernel_rfl) (by kernel_rfl) (by rw [HINV.out]; exact ⟨false, false, false, false, false, rfl, rfl, WX6.start HP.out HE.out HB.out HR.out⟩) ?_ ?_
          · intro listed ax wx hI hs hall
            rw [HINV.out] at hI
            obtain ⟨d0, d1, d2, d3, d8, rfl, rfl, hBI⟩ := hI
            have := hall 5 (by decide)
            simp at this
          refine ⟨fun listed ax wx hI hd hdep => ?_, fun listed ax wx hI hd hdep => ?_, fun listed ax wx hI hd hdep => ?_, fun listed ax wx hI hd hdep => ?_, fun listed ax wx hI hd hdep => ?_, fun listed ax wx hI hd hdep => ?_, fun listed ax wx hI hd hdep => ?_, fun listed ax wx hI hd hdep => ?_, fun listed ax wx hI hd hdep => ?_, fun listed ax wx hI hd hdep => ?_, True.intro⟩
          · rw [HINV.out] at hI
            obtain ⟨d0, d1, d2, d3, d8, rfl, rfl, hBI⟩ := hI
            obtain rfl : d0 = false := by simpa using hd
            clear hdep
            clear hd
            rw [if_pos (by rfl)]
            unfold Oper.wp
            go_simp
            rw [HINV.out]
            exact ⟨true, d1, d2, d3, d8, rfl, rfl, hBI⟩
          · rw [HINV.out] at hI
            obtain ⟨d0, d1, d2, d3, d8, rfl, rfl, hBI⟩ := hI
            obtain rfl : d1 = false := by simpa using hd
            simp [Region.binds] at hdep
            have e0 : d0 = true := by simp [hdep]
            clear hdep
            simp only [e0] at hBI ⊢
            clear hd
            rw [if_pos (by rfl)]
            unfold Oper.wp
            have y0 := hBI.out.1.cell (k := 0) rfl
            go_simp
            rw [HINV.out]
            exact ⟨true, true, d2, d3, d8, rfl, rfl, hBI⟩
          · rw [HINV.out] at hI
            obtain ⟨d0, d1, d2, d3, d8, rfl, rfl, hBI⟩ := hI
            obtain rfl : d2 = false := by simpa using hd
            clear hdep
            clear hd
            rw [if_pos (by rfl)]
            unfold Oper.wp
            go_simp
            rw [HINV.out]
            exact ⟨d0, d1, true, d3, d8, rfl, rfl, hBI⟩
          · rw [HINV.out] at hI
            obtain ⟨d0, d1, d2, d3, d8, rfl, rfl, hBI⟩ := hI
            obtain rfl : d3 = false := by simpa using hd
            clear hdep
            clear hd
            rw [if_pos (by rfl)]
            unfold Oper.wp
            go_simp
            rw [HINV.out]
            exact ⟨d0, d1, d2, true, d8, rfl, rfl, hBI⟩
          · rw [HINV.out] at hI
            obtain ⟨d0, d1, d2, d3, d8, rfl, rfl, hBI⟩ := hI
            simp [Region.binds] at hdep
            have e3 : d3 = true := by simp [hdep]
            clear hdep
            simp only [e3] at hBI ⊢
            clear hd
            rw [if_pos (by rfl)]
            refine step_callW 28 #[.pointer (some ⟨w.heap.size + 2, 0, none⟩)] (by go_simp) (num_bad _ wx hBI.out.rd) ?_
            rintro e w6 ⟨rfl, rfl⟩
            exact get_caught HGN.out hBI.out.1 hBI.out.2.1 (by omega) (Nat.le_refl _) (by omega) hBI.out.2.2.1 rfl rfl
          · rw [HINV.out] at hI
            obtain ⟨d0, d1, d2, d3, d8, rfl, rfl, hBI⟩ := hI
            simp [Region.binds] at hdep
          · rw [HINV.out] at hI
            obtain ⟨d0, d1, d2, d3, d8, rfl, rfl, hBI⟩ := hI
            simp [Region.binds] at hdep
          · rw [HINV.out] at hI
            obtain ⟨d0, d1, d2, d3, d8, rfl, rfl, hBI⟩ := hI
            simp [Region.binds] at hdep
          · rw [HINV.out] at hI
            obtain ⟨d0, d1, d2, d3, d8, rfl, rfl, hBI⟩ := hI
            obtain rfl : d8 = false := by simpa using hd
            clear hdep
            clear hd
            rw [if_pos (by rfl)]
            unfold Oper.wp
            go_simp
            rw [HINV.out]
            exact ⟨d0, d1, d2, d3, true, rfl, rfl, hBI⟩
          · rw [HINV.out] at hI
            obtain ⟨d0, d1, d2, d3, d8, rfl, rfl, hBI⟩ := hI
            simp [Region.binds] at hdep
        | cons c r =>
          by_cases hcr : c.toNat ≤ r.length
          · have hrl2 : r.length ≤ 10000 := by simp at hrl; omega
            have hc256 := c.toNat_lt
            have HT2 := Lib.hid (show takeT n.toNat s = goneC (r.drop c.toNat) k' (acc ++ [r.take c.toNat]) by rw [HT.out]; exact goneC_ok hcr)
            have HD := Lib.hid (OKT.drew ⟨HP.out, HO.out, HE.out, HR.out, HB.out, hsz⟩)
            have HN := Lib.hid (num_ok _ c r wr.drew HD.out.2.2.2.1 (by omega))
            have c0 := HD.out.1.cell (k := 0) rfl
            have HL2 := Lib.hid (show ∀ x ∈ acc ++ [r.take c.toNat], x.length ≤ 255 from fun x hx => by
              rcases List.mem_append.1 hx with h | h
              · exact HL.out x h
              · rw [List.mem_singleton.1 h, List.length_take]; omega)
            go_upto_region 6 with fail
            refine wp_calm ?_
            go_region_law (first | (refine step_call rfl 28 #[.pointer (some ⟨w.heap.size + 2, 0, none⟩)] (by go_simp) HN.out ?_; rintro e w6 ⟨rfl, hr6, hc6⟩; have H6 := Lib.hid (HD.out.read hsz4 hr6 hc6); have c6 := H6.out.1.cell (k := 0) rfl; clear hr6 hc6) | (refine step_call rfl 29 #[.pointer (some ⟨w.heap.size + 2, 0, none⟩), .int .i64 (c.toNat : Int)] (by go_simp) (take_ok _ r c.toNat w6 H6.out.2.2.2.1 hcr (by omega)) ?_; rintro e w7 ⟨rfl, hr7, hc7⟩; have H7 := Lib.hid (H6.out.read hsz4 hr7 hc7); have c7 := H7.out.1.cell (k := 0) rfl; have l7 := H7.out.1.lt; clear hr7 hc7) | (refine recS.step_append1V w7 (r.take c.toNat) rfl _ _ 22 rfl Tryd.underlying22 w4.heap.size (.slice at_ acc.length ct) acc rfl H7.out.2.1 _ rfl _ rfl _ rfl (by show (acc.length + 1) * 16 ≤ _; omega) H7.out.2.2.2.2.2 ?_; intro g gc w8 hown8 hc8 _; have hp8 := H7.out.appP hsz4 hc8; have c8 := hp8.cell (k := 0) rfl; have f8 := hp8.free (k := 0) (by simp); have H9 := Lib.hid (H7.out.app hsz4 hown8 hc8); clear hown8 hc8 hp8))
            all_goals
              dsimp only
              (try go_frame)
              go_wp2
              refine ⟨⟨k', acc ++ [r.take c.toNat], r.drop c.toNat, _, by go_num, by omega, by rw [List.length_drop]; omega, by rw [List.length_append, List.length_singleton]; omega, HT2.out, H9.out.1, H9.out.2.1, H9.out.2.2.1, H9.out.2.2.2.1, H9.out.2.2.2.2.1, H9.out.2.2.2.2.2, HL2.out⟩, by simp [intOf]⟩
          · have HGN := Lib.hid (show getC (n :: s) = none from getC_bad (by rw [HT.out]; exact goneC_bad hcr))
            go_upto_region 6 with fail
            have hI0 : ∃ I : Array Bool → Act → World → Prop, I = (fun listed ax wx => ∃ d0 d1 d2 d3 d4 d8 : Bool, listed = #[d0, d1, d2, d3, d4, false, false, false, d8, false] ∧ ax = { tmps := List.toArray ((.string (bs (n :: s))) :: (undef) :: (.pointer (some ⟨w.heap.size, 0, none⟩)) :: (.pointer (some ⟨w.heap.size + 1, 0, none⟩)) :: (.pointer (some ⟨w.heap.size + 1 + 1, 0, none⟩)) :: ((.int .i64 ((k' + 1 : Nat) : Int))) :: (undef) :: (undef) :: (.func (.func 27) #[] #[.pointer (some ⟨w.heap.size, 0, none⟩), .pointer (some ⟨w.heap.size + 1, 0, none⟩)]) :: (.string (bs (n :: s))) :: (.agg #[.string (bs (n :: s))]) :: (.pointer (some ⟨w.heap.size + 1 + 1, 0, none⟩)) :: (.pointer (some ⟨w.heap.size + 1 + 1, 0, none⟩)) :: (.int .i64 (n.toNat : Int)) :: ((.int .i64 ((k' + 1 : Nat) : Int))) :: (.bool true) :: (u16) :: (u17) :: (sd d0 (.pointer (some ⟨w.heap.size, 0, none⟩)) u18) :: (sd d1 (.slice at_ acc.length ct) u19) :: (sd d2 (.pointer (some ⟨w.heap.size + 1 + 1, 0, none⟩)) u20) :: (sd d3 (.pointer (some ⟨w.heap.size + 1 + 1, 0, none⟩)) u21) :: (sd d4 (.int .i64 (c.toNat : Int)) u22) :: (u23) :: (u24) :: (u25) :: (sd d8 (.pointer (some ⟨w.heap.size, 0, none⟩)) u26) :: (undef) :: (undef) :: (undef) :: (undef) :: (undef) :: (undef) :: (undef) :: (undef) :: (undef) :: (undef) :: (undef) :: (undef) :: (undef) :: (undef) :: (undef) :: (undef) :: (undef) :: (undef) :: (undef) :: (undef) :: (undef) :: (undef) :: (undef) :: (undef) :: (undef) :: (undef) :: (undef) :: (undef) :: (undef) :: (undef) :: (undef) :: (undef) :: (undef) :: (undef) :: (undef) :: []), defers := [{ target := Target.fn (Fn.func 27) #[.pointer (some ⟨w.heap.size, 0, none⟩), .pointer (some ⟨w.heap.size + 1, 0, none⟩)], args := #[] }] } ∧ Hid (WX6 w wx (.slice at_ acc.length ct) (c :: r) r d4)) := ⟨_, rfl⟩
            obtain ⟨INV, hINV⟩ := hI0
            have HINV := Lib.hid hINV
            clear hINV
            refine region_inv INV (by kernel_rfl) (by kernel_rfl) (by rw [HINV.out]; exact ⟨false, false, false, false, false, false, rfl, rfl, WX6.start HP.out HE.out HB.out HR.out⟩) ?_ ?_
            · intro listed ax wx hI hs hall
              rw [HINV.out] at hI
              obtain ⟨d0, d1, d2, d3, d4, d8, rfl, rfl, hBI⟩ := hI
              have := hall 5 (by decide)
              simp at this
            refine ⟨fun listed ax wx hI hd hdep => ?_, fun listed ax wx hI hd hdep => ?_, fun listed ax wx hI hd hdep => ?_, fun listed ax wx hI hd hdep => ?_, fun listed ax wx hI hd hdep => ?_, fun listed ax wx hI hd hdep => ?_, fun listed ax wx hI hd hdep => ?_, fun listed ax wx hI hd hdep => ?_, fun listed ax wx hI hd hdep => ?_, fun listed ax wx hI hd hdep => ?_, True.intro⟩
            · rw [HINV.out] at hI
              obtain ⟨d0, d1, d2, d3, d4, d8, rfl, rfl, hBI⟩ := hI
              obtain rfl : d0 = false := by simpa using hd
              clear hdep
              clear hd
              rw [if_pos (by rfl)]
              unfold Oper.wp
              go_simp
              rw [HINV.out]
              exact ⟨true, d1, d2, d3, d4, d8, rfl, rfl, hBI⟩
            · rw [HINV.out] at hI
              obtain ⟨d0, d1, d2, d3, d4, d8, rfl, rfl, hBI⟩ := hI
              obtain rfl : d1 = false := by simpa using hd
              simp [Region.binds] at hdep
              have e0 : d0 = true := by simp [hdep]
              clear hdep
              simp only [e0] at hBI ⊢
              clear hd
              rw [if_pos (by rfl)]
              unfold Oper.wp
              have y0 := hBI.out.1.cell (k := 0) rfl
              go_simp
              rw [HINV.out]
              exact ⟨true, true, d2, d3, d4, d8, rfl, rfl, hBI⟩
            · rw [HINV.out] at hI
              obtain ⟨d0, d1, d2, d3, d4, d8, rfl, rfl, hBI⟩ := hI
              obtain rfl : d2 = false := by simpa using hd
              clear hdep
              clear hd
              rw [if_pos (by rfl)]
              unfold Oper.wp
              go_simp
              rw [HINV.out]
              exact ⟨d0, d1, true, d3, d4, d8, rfl, rfl, hBI⟩
            · rw [HINV.out] at hI
              obtain ⟨d0, d1, d2, d3, d4, d8, rfl, rfl, hBI⟩ := hI
              obtain rfl : d3 = false := by simpa using hd
              clear hdep
              clear hd
              rw [if_pos (by rfl)]
              unfold Oper.wp
              go_simp
              rw [HINV.out]
              exact ⟨d0, d1, d2, true, d4, d8, rfl, rfl, hBI⟩
            · rw [HINV.out] at hI
              obtain ⟨d0, d1, d2, d3, d4, d8, rfl, rfl, hBI⟩ := hI
              obtain rfl : d4 = false := by simpa using hd
              simp [Region.binds] at hdep
              have e3 : d3 = true := by simp [hdep]
              clear hdep
              simp only [e3] at hBI ⊢
              clear hd
              rw [if_pos (by rfl)]
              refine step_callW 28 #[.pointer (some ⟨w.heap.size + 2, 0, none⟩)] (by go_simp) (num_ok _ c r wx hBI.out.rd (by simp at hrl; omega)) ?_
              rintro e w6 ⟨rfl, hr6, hc6⟩
              show INV _ _ _
              rw [HINV.out]
              exact ⟨d0, d1, d2, true, true, d8, rfl, rfl, hBI.out.step hr6 hc6⟩
            · rw [HINV.out] at hI
              obtain ⟨d0, d1, d2, d3, d4, d8, rfl, rfl, hBI⟩ := hI
              simp [Region.binds] at hdep
              have e2 : d2 = true := by simp [hdep]
              have e4 : d4 = true := by simp [hdep]
              clear hdep
              simp only [e2, e4] at hBI ⊢
              clear hd
              rw [if_pos (by rfl)]
              refine step_callW 29 #[.pointer (some ⟨w.heap.size + 2, 0, none⟩), .int .i64 (c.toNat : Int)] (by go_simp) (take_bad _ r c.toNat wx hBI.out.rd (by omega) (by have := c.toNat_lt; omega)) ?_
              rintro e w6 ⟨rfl, rfl⟩
              exact get_caught HGN.out hBI.out.1 hBI.out.2.1 (by omega) (Nat.le_refl _) (by omega) hBI.out.2.2.1 rfl rfl
            · rw [HINV.out] at hI
              obtain ⟨d0, d1, d2, d3, d4, d8, rfl, rfl, hBI⟩ := hI
              simp [Region.binds] at hdep
            · rw [HINV.out] at hI
              obtain ⟨d0, d1, d2, d3, d4, d8, rfl, rfl, hBI⟩ := hI
              simp [Region.binds] at hdep
            · rw [HINV.out] at hI
              obtain ⟨d0, d1, d2, d3, d4, d8, rfl, rfl, hBI⟩ := hI
              obtain rfl : d8 = false := by simpa using hd
              clear hdep
              clear hd
              rw [if_pos (by rfl)]
              unfold Oper.wp
              go_simp
              rw [HINV.out]
              exact ⟨d0, d1, d2, d3, d4, true, rfl, rfl, hBI⟩
            · rw [HINV.out] at hI
              obtain ⟨d0, d1, d2, d3, d4, d8, rfl, rfl, hBI⟩ := hI
              simp [Region.binds] at hdep
      · obtain rfl : k = 0 := by omega
        have hT := HT.out
        rw [goneC_zero] at hT
        have HT0 := Lib.hid hT
        have HO0 := Lib.hid (show OKT w wr w4.heap.size _ r acc from ⟨HP.out, HO.out, HE.out, HR.out, HB.out, hsz⟩)
        clear hT HT h0
        cases r with
        | nil =>
          have HGN := Lib.hid (getC_short HT0.out (by simp))
          have HN := Lib.hid (num_bad _ wr HR.out)
          go_wp2_with fail
          refine HN.out.mono ?_
          rintro e w5 ⟨rfl, rfl⟩
          go_wp2_with fail
          exact get_caught HGN.out HP.out HE.out (by omega) (Nat.le_refl _) (by omega) HB.out rfl rfl
        | cons a r =>
          have hrl1 : r.length ≤ 10000 := by simp at hrl; omega
          have HN := Lib.hid (num_ok _ a r wr HR.out (by omega))
          have ha256 := a.toNat_lt
          clear HP HE HR HB HO hrl
          go_wp2_with fail
          refine HN.out.mono ?_
          rintro e w5 ⟨rfl, hr5, hc5⟩
          have H5 := Lib.hid (HO0.out.read hsz4 hr5 hc5)
          clear hr5 hc5 HN HO0
          cases r with
          | nil =>
            have HGN := Lib.hid (getC_short HT0.out (by simp))
            have HN := Lib.hid (num_bad _ w5 H5.out.2.2.2.1)
            go_wp2_with fail
            refine HN.out.mono ?_
            rintro e w6 ⟨rfl, rfl⟩
            go_wp2_with fail
            exact get_caught HGN.out H5.out.1 H5.out.2.2.1 (by omega) (Nat.le_refl _) (by omega) H5.out.2.2.2.2.1 rfl rfl
          | cons b r0 =>
            have hrl2 : r0.length ≤ 10000 := by simp at hrl1; omega
            have HN := Lib.hid (num_ok _ b r0 w5 H5.out.2.2.2.1 (by omega))
            have hb256 := b.toNat_lt
            clear hrl1
            obtain ⟨N, hN⟩ : ∃ N, N = a.toNat + 256 * b.toNat := ⟨_, rfl⟩
            have hNl : N ≤ 65535 := by omega
            have ew : (a.toNat : Int) + 256 * (b.toNat : Int) = (N : Int) := by omega
            have q1 : (0 : Int) ≤ (b.toNat : Int) := by omega
            have q2 : (b.toNat : Int) ≤ 255 := by omega
            have q3 : (0 : Int) ≤ (a.toNat : Int) := by omega
            have q4 : (a.toNat : Int) ≤ 255 := by omega
            have HNN := Lib.hid hN
            clear hN
            go_wp2_with fail
            refine HN.out.mono ?_
            rintro e w6 ⟨rfl, hr6, hc6⟩
            have H6 := Lib.hid (H5.out.read hsz4 hr6 hc6).code
            have hsz6 : w.heap.size + 3 ≤ w6.heap.size := by have := (H5.out.read hsz4 hr6 hc6).2.2.2.2.2; omega
            clear hr6 hc6 HN H5
            go_wp2_with fail
            go_loopw [6] (fun v wr => ∃ (k : Nat) (acc2 : List VI) (r : List UInt8) (cv : Value), v = .int .i64 (k : Int) ∧ k ≤ 65535 ∧ r.length ≤ 10000 ∧ acc2.length + k ≤ 65535 ∧ Hid (goneI r0 (a.toNat + 256 * b.toNat) [] = goneI r k acc2) ∧ Hid (OKI w wr w4.heap.size w6.heap.size (.slice at_ acc.length ct) cv r acc acc2)) (fun v _ => (intOf v).toNat)
            case atStart => exact ⟨N, [], r0, _, rfl, hNl, hrl2, by simp; omega, by unfold Hid; rw [HNN.out], H6.out⟩
            case round =>
              obtain ⟨k, acc2, r, cv, rfl, hk, hrl, hac2, HI, HO⟩ := hrel
              obtain ⟨ac_, cc, rfl⟩ := owns_slice HO.out.2.2.1
              by_cases h0 : 0 < k
              · have t0 : (0 : Int) < (k : Int) := by omega
                obtain ⟨k', rfl⟩ : ∃ k', k = k' + 1 := ⟨k - 1, by omega⟩
                by_cases h2 : r.length < 2
                · have HGN := Lib.hid (getC_noI HT0.out (by rw [HI.out]; exact goneI_bad h2))
                  have HN := Lib.hid (take_bad _ r 2 wr HO.out.2.2.2.2.1 h2 (by omega))
                  clear h2
                  go_wp2_with fail
                  refine HN.out.mono ?_
                  rintro e w7 ⟨rfl, rfl⟩
                  go_wp2_with fail
                  exact get_caught HGN.out HO.out.1 HO.out.2.2.2.1 (by omega) (Nat.le_refl _) (by omega) HO.out.2.2.2.2.2.1 rfl rfl
                · obtain ⟨x, y, r2, rfl⟩ : ∃ x y r2, r = x :: y :: r2 := by
                    match r, h2 with
                    | [], h => exact absurd (by simp) h
                    | [a], h => exact absurd (by simp) h
                    | x :: y :: r2, _ => exact ⟨x, y, r2, rfl⟩
                  have hrl3 : r2.length ≤ 10000 := by simp at hrl; omega
                  have HN := Lib.hid (take2_ok _ x y r2 wr HO.out.2.2.2.2.1 (by omega))
                  have HI2 := Lib.hid (HI.out.trans goneI_ok)
                  clear h2 hrl
                  go_wp2_with fail
                  refine HN.out.mono ?_
                  rintro e w7 ⟨rfl, hr7, hc7⟩
                  have H7 := Lib.hid (HO.out.read hsz4 hsz6 hr7 hc7).drew
                  have c7 := (HO.out.read hsz4 hsz6 hr7 hc7).1.cell (k := 1) rfl
                  have l7 := (HO.out.read hsz4 hsz6 hr7 hc7).1.lt
                  clear hr7 hc7 HN
                  go_upto_region 12 with fail
                  refine wp_calm ?_
                  go_region_law (refine recIns.step_append1V w7.drew (x, y) rfl _ _ 23 rfl Tryd.underlying23 w6.heap.size (.slice ac_ acc2.length cc) acc2 rfl H7.out.2.2.1 _ rfl _ rfl _ rfl (by show (acc2.length + 1) * 2 ≤ _; omega) H7.out.2.2.2.2.2.2.1 ?_; intro g gc w8 hown8 hc8 _; have hp8 := H7.out.appP hsz6 hc8; have c8 := hp8.cell (k := 1) rfl; have f8 := hp8.free (k := 1) (by simp); have H9 := Lib.hid (H7.out.app hsz4 hsz6 hown8 hc8); clear hown8 hc8 hp8)
                  all_goals
                    dsimp only
                    (try go_frame)
                    go_wp2
                    refine ⟨⟨k', acc2 ++ [(x, y)], r2, _, by go_num, by omega, hrl3, by rw [List.length_append, List.length_singleton]; omega, HI2.out, H9.out⟩, by simp [intOf]⟩
              · obtain rfl : k = 0 := by omega
                have hI := HI.out
                rw [goneI_zero] at hI
                have HGI := Lib.hid (getC_isI HT0.out hI)
                clear hI
                have c0 := HO.out.1.cell (k := 0) rfl
                have c1 := HO.out.1.cell (k := 1) rfl
                have f0 := HO.out.1.free (k := 0) (by simp)
                have f1 := HO.out.1.free (k := 1) (by simp)
                have d0 := HO.out.2.2.2.1.cell (k := 0) rfl
                have g0 := HO.out.2.2.2.1.free (k := 0) (by simp)
                have r0_ := HO.out.2.2.2.2.1.cell (k := 0) rfl
                cases r with
                | nil =>
                  have HCK := Lib.hid (CCheck_any _ _ acc acc2 wr HO.out.2.1.row HO.out.2.2.1.row (by omega) (by omega) (fun x hx => Nat.le_trans (HL.out x hx) (by decide)))
                  by_cases hm : mayV acc acc2 = true
                  · rw [if_pos hm] at HCK
                    rw [if_pos ⟨rfl, hm⟩] at HGI
                    clear hm
                    go_wp2_with fail
                    refine HCK.out.mono ?_
                    rintro e w8 ⟨rfl, hB⟩
                    have H8 := Lib.hid (HO.out.below hB)
                    clear c0 c1 f0 f1 d0 g0 r0_ hB
                    have c0 := H8.out.1.cell (k := 0) rfl
                    have c1 := H8.out.1.cell (k := 1) rfl
                    have f0 := H8.out.1.free (k := 0) (by simp)
                    have f1 := H8.out.1.free (k := 1) (by simp)
                    have d0 := H8.out.2.2.2.1.cell (k := 0) rfl
                    have g0 := H8.out.2.2.2.1.free (k := 0) (by simp)
                    go_wp2_with fail
                    obtain ⟨h1, h2, h3⟩ := H8.out.fin (.slice at_ acc.length ct) (.slice ac_ acc2.length cc) (.int .i64 0)
                    obtain ⟨h4, h5⟩ := H8.out.own hsz4 hsz6 (.slice at_ acc.length ct) (.slice ac_ acc2.length cc) (.int .i64 0)
                    exact get_done h1 h2 h3 rfl rfl (GetR_some HGI.out h4 h5)
                  · rw [if_neg hm] at HCK
                    rw [if_neg (fun h => hm h.2)] at HGI
                    clear hm
                    go_wp2_with fail
                    refine HCK.out.mono ?_
                    rintro e w8 ⟨rfl, hB⟩
                    have H8 := Lib.hid (HO.out.below hB)
                    clear c0 c1 f0 f1 d0 g0 r0_ hB
                    have c0 := H8.out.1.cell (k := 0) rfl
                    have c1 := H8.out.1.cell (k := 1) rfl
                    have f0 := H8.out.1.free (k := 0) (by simp)
                    have f1 := H8.out.1.free (k := 1) (by simp)
                    have d0 := H8.out.2.2.2.1.cell (k := 0) rfl
                    have g0 := H8.out.2.2.2.1.free (k := 0) (by simp)
                    go_wp2_with fail
                    obtain ⟨h1, h2, h3⟩ := H8.out.fin (.slice none 0 0) (.slice none 0 0) (.int .i64 7)
                    exact get_done h1 h2 h3 rfl rfl (GetR_none HGI.out)
                | cons c r =>
                  rw [if_neg (fun h => by cases h.1)] at HGI
                  go_wp2_with fail
                  obtain ⟨h1, h2, h3⟩ := HO.out.fin (.slice none 0 0) (.slice none 0 0) (.int .i64 7)
                  exact get_done h1 h2 h3 rfl rfl (GetR_none HGI.out)
end Go.Proofs.YtbcjfppdeapamaaDoor
namespace Go.Proofs.YtbcjfppdeapamaaDoor
open Go.RowKit Oct
attribute [local irreducible] wpG
theorem Blk.list {w : World} {b : Nat} {t : TypeId} {cs : List Value} (h : Blk w b t cs) : w.heap[b]? = some (.cells cs.toArray t (0, 0)) := h
theorem Rec.Own.freeR {α : Type} {R : Rec α} {w : World} {base g n c : Nat} {l : List α} (h : R.Own w base (.slice (some ⟨g, 0, none⟩) n c) l) {k : Nat} (hk : k < l.length * R.n) : (∃ v, w.cell? ⟨g, k, none⟩ = some v) ∧ w.frozen? ⟨g, k, none⟩ = false := by
  obtain ⟨_, h2⟩ := h
  rcases h2 with ⟨hv, _⟩ | ⟨g', cap, cur, hv, hb, hh, r1, r2, r3, r4⟩
  · cases hv
  · obtain ⟨rfl, rfl, rfl⟩ : g = g' ∧ n = l.length ∧ c = cap := by simpa using hv
    have hlt : k < cur.size := by
      rw [r3]
      exact Nat.lt_of_lt_of_le hk (Nat.mul_le_mul_right _ r1)
    exact ⟨⟨cur[k], by simp [World.cell?, hh, hlt]⟩, by simp [World.frozen?, hh]⟩
section
variable {w : World} {base G : Nat} {tv cv bv sv ev : Value} {role : UInt8} {s : Vs} {n : Nat}
end
end Go.Proofs.YtbcjfppdeapamaaDoor
namespace Go.Proofs.YtbcjfppdeapamaaDoor
open Go.RowKit Oct
attribute [local irreducible] wpG
theorem mayR_long {texts : List (List UInt8)} {code : List VI} (h : 16 < texts.length) : mayV texts code = false := by unfold mayV; rw [decide_eq_false (by omega)]; simp
theorem mayR_code {texts : List (List UInt8)} {code : List VI} (h : 256 < code.length) : mayV texts code = false := by unfold mayV; rw [decide_eq_false (show ¬ code.length ≤ 256 by omega)]; simp
theorem mayR_text {texts : List (List UInt8)} {code : List VI} (k : Nat) (h : k < texts.length) (h1 : 64 < texts[k].length) : mayV texts code = false := by
  have : texts.all (fun s => decide (s.length ≤ 64)) = false := all_false k h (decide_eq_false (by omega))
  unfold mayV; rw [this]; simp
theorem mayR_ins {texts : List (List UInt8)} {code : List VI} (k : Nat) (h : k < code.length) (h1 : insOk code[k] = false) : mayV texts code = false := by
  have : code.all insOk = false := all_false k h h1
  unfold mayV; rw [this]; simp
theorem mayR_ok {texts : List (List UInt8)} {code : List VI} (h1 : texts.length ≤ 16) (h2 : code.length ≤ 256) (h3 : ∀ k (h : k < texts.length), texts[k].length ≤ 64) (h4 : ∀ k (h : k < code.length), insOk code[k] = true) : mayV texts code = true := by
  have e3 : texts.all (fun s => decide (s.length ≤ 64)) = true := all_true (fun k h => decide_eq_true (h3 k h))
  have e4 : code.all insOk = true := all_true h4
  unfold mayV; rw [e3, e4, decide_eq_true h1, decide_eq_true h2]; rfl
set_option maxRecDepth 100000 in
set_option maxHeartbeats 8000000 in
theorem rMay12_any (tv cv : Value) (texts : List (List UInt8)) (code : List VI) (w : World) (ht : recS.Row w tv texts) (hc : recIns.Row w cv code) (hlt : texts.length ≤ 140737488355328) (hlc : code.length ≤ 140737488355328) (hm : ∀ s ∈ texts, s.length ≤ 140737488355328) :
    Calls Tryd.prog 15 #[.agg #[tv, cv]] w fun e w' => e = .returned (.bool (mayV texts code)) ∧ Below w.heap.size w w' := by
  obtain ⟨at_, ct, rfl, -, hct⟩ := recS_open ht
  obtain ⟨ac, cc, rfl, -, hcc⟩ := recIns_open hc
  have HM := Lib.hid hm
  have HCT := Lib.hid hct
  have HCC := Lib.hid hcc
  obtain ⟨W1, hW1⟩ : ∃ W1, W1 = w.alloc (.cells #[.slice at_ texts.length ct, .slice ac code.length cc] 25) := ⟨_, rfl⟩
  have hb1 : Below w.heap.size w W1 := by rw [hW1]; exact b_alloc _ _
  have hx : Blk W1 w.heap.size 25 [.slice at_ texts.length ct, .slice ac code.length cc] := by rw [hW1]; exact Blk.new w _ _
  have x0 := hx.cell (k := 0) rfl
  have x1 := hx.cell (k := 1) rfl
  have HB1 := Lib.hid hb1
  have HX := Lib.hid hx
  obtain ⟨mv, hmv⟩ : ∃ mv, mv = mayV texts code := ⟨_, rfl⟩
  have HMV := Lib.hid hmv
  have lt1 : (texts.length : Int) ≤ 140737488355328 := by omega
  have lc1 : (code.length : Int) ≤ 140737488355328 := by omega
  rw [← hmv]
  clear ht hc hct hcc hm hb1 hx hmv
  by_cases h16 : 16 < texts.length
  · have t1 : (16 : Int) < (texts.length : Int) := by omega
    have HV := Lib.hid (HMV.out.trans (mayR_long h16))
    clear h16
    go_enter Tryd.func15, Tryd.ntmps15
    go_upto_region 1 with fail
    rw [← hW1]
    clear hW1
    go_wp2_with fail
    go_ret
    exact ⟨by rw [HV.out]; rfl, HB1.out⟩
  · have t1 : ¬ (16 : Int) < (texts.length : Int) := by omega
    by_cases h256 : 256 < code.length
    · have t2 : (256 : Int) < (code.length : Int) := by omega
      have HV := Lib.hid (HMV.out.trans (mayR_code h256))
      clear h16 h256
      go_enter Tryd.func15, Tryd.ntmps15
      go_upto_region 1 with fail
      rw [← hW1]
      clear hW1
      go_wp2_with fail
      go_ret
      exact ⟨by rw [HV.out]; rfl, HB1.out⟩
    · have t2 : ¬ (256 : Int) < (code.length : Int) := by omega
      have hOK := mayR_ok (texts := texts) (code := code) (by omega) (by omega)
      have HOK := Lib.hid hOK
      clear hOK
      go_enter Tryd.func15, Tryd.ntmps15
      go_upto_region 1 with fail
      rw [← hW1]
      clear hW1
      go_wp2_with fail
      go_loop [3] (fun v => ∃ i : Nat, v = .int .i64 (i : Int) ∧ i ≤ texts.length ∧ Hid (∀ k (h : k < texts.length), k < i → texts[k].length ≤ 64)) (fun v => texts.length - (intOf v).toNat)
      case atStart => exact ⟨0, rfl, Nat.zero_le _, fun k _ h => absurd h (by omega)⟩
      case round =>
        obtain ⟨i, rfl, hi, HTI⟩ := hrel
        by_cases h0 : i < texts.length
        · obtain ⟨b, off, rfl, d0⟩ := HCT.out i h0
          have d0 := Below.keeps HB1.out d0
          have ii0 : (0 : Int) ≤ (i : Int) := by omega
          have ii1 : (i : Int) < (texts.length : Int) := by omega
          have hsl := HM.out texts[i] (List.getElem_mem h0)
          by_cases h64 : 64 < texts[i].length
          · have t3 : (64 : Int) < (texts[i].length : Int) := by omega
            have HV := Lib.hid (HMV.out.trans (mayR_text i h0 h64))
            clear h64
            go_wp2_with fail
            go_ret
            exact ⟨by rw [HV.out]; rfl, HB1.out⟩
          · have t3 : ¬ (64 : Int) < (texts[i].length : Int) := by omega
            have HN := Lib.hid (show ∀ k (h : k < texts.length), k < i + 1 → texts[k].length ≤ 64 from fun k h hk => by
              by_cases e : k = i
              · subst e; omega
              · exact HTI.out k h (by omega))
            clear h64 HTI
            go_wp2_with fail
            go_round
            case rel => exact ⟨i + 1, by go_num, by omega, HN.out⟩
            case measure => simp [intOf]; omega
        · obtain rfl : i = texts.length := by omega
          have e0 : ¬ (texts.length : Int) < (texts.length : Int) := by omega
          clear h0
          go_wp2_with fail
          go_loopw [4] (fun v wr => ∃ i : Nat, v = .int .i64 (i : Int) ∧ i ≤ code.length ∧ Hid (∀ k (h : k < code.length), k < i → insOk code[k] = true) ∧ Hid (Below W1.heap.size W1 wr)) (fun v _ => code.length - (intOf v).toNat)
          case atStart => exact ⟨0, rfl, Nat.zero_le _, fun k _ h => absurd h (by omega), Below.refl _ _⟩
          case round =>
            obtain ⟨i, rfl, hi, HCI, HBr⟩ := hrel
            have x1 := (HX.out.below HBr.out).cell (k := 1) rfl
            by_cases h0 : i < code.length
            · obtain ⟨b, off, rfl, d0, d1⟩ := HCC.out i h0
              have d0 := Below.keeps (bt HB1.out HBr.out) d0
              have d1 := Below.keeps (bt HB1.out HBr.out) d1
              have ii0 : (0 : Int) ≤ (i : Int) := by omega
              have ii1 : (i : Int) < (code.length : Int) := by omega
              have HIN := Lib.hid (rIns_any code[i] wr)
              obtain ⟨q, hq⟩ : ∃ q, q = insOk code[i] := ⟨_, rfl⟩
              rw [← hq] at HIN
              have HQ := Lib.hid hq
              clear hq
              cases q with
              | false =>
                have HV := Lib.hid (HMV.out.trans (mayR_ins i h0 HQ.out.symm))
                go_wp2_with fail
                refine HIN.out.mono ?_
                rintro e w2 ⟨rfl, hB2⟩
                have HB2 := Lib.hid (bt HBr.out hB2)
                clear hB2
                go_wp2_with fail
                go_ret
                exact ⟨by rw [HV.out]; rfl, bt HB1.out HB2.out⟩
              | true =>
                have HN := Lib.hid (show ∀ k (h : k < code.length), k < i + 1 → insOk code[k] = true from fun k h hk => by
                  by_cases e : k = i
                  · subst e; exact HQ.out.symm
                  · exact HCI.out k h (by omega))
                go_wp2_with fail
                refine HIN.out.mono ?_
                rintro e w2 ⟨rfl, hB2⟩
                have HB2 := Lib.hid (bt HBr.out hB2)
                clear hB2
                go_wp2_with fail
                go_roundw
                case rel => exact ⟨i + 1, by go_num, by omega, HN.out, HB2.out⟩
                case measure => simp [intOf]; omega
            · obtain rfl : i = code.length := by omega
              have e1 : ¬ (code.length : Int) < (code.length : Int) := by omega
              have HV := Lib.hid (HMV.out.trans (HOK.out (fun k h => HTI.out k h h) (fun k h => HCI.out k h h)))
              clear h0
              go_wp2_with fail
              go_ret
              exact ⟨by rw [HV.out]; rfl, bt HB1.out HBr.out⟩
set_option maxRecDepth 100000 in
set_option maxHeartbeats 8000000 in
theorem rSame12_any (ta ca tb cb : Value) (texts : List (List UInt8)) (code : List VI) (w : World) (ht : recS.Row w ta texts) (hc : recIns.Row w ca code) (ht' : recS.Row w tb texts) (hc' : recIns.Row w cb code) (hlt : texts.length ≤ 140737488355328) (hlc : code.length ≤ 140737488355328) :
    Calls Tryd.prog 14 #[.agg #[ta, ca], .agg #[tb, cb]] w fun e w' => e = .returned (.bool true) ∧ Below w.heap.size w w' := by
  obtain ⟨a1, n1, rfl, -, h1⟩ := recS_open ht
  obtain ⟨a2, n2, rfl, -, h2⟩ := recIns_open hc
  obtain ⟨a3, n3, rfl, -, h3⟩ := recS_open ht'
  obtain ⟨a4, n4, rfl, -, h4⟩ := recIns_open hc'
  have G1 := Lib.hid h1
  have G2 := Lib.hid h2
  have G3 := Lib.hid h3
  have G4 := Lib.hid h4
  obtain ⟨W1, hW1⟩ : ∃ W1, W1 = (w.alloc (.cells #[.slice a1 texts.length n1, .slice a2 code.length n2] 25)).alloc (.cells #[.slice a3 texts.length n3, .slice a4 code.length n4] 25) := ⟨_, rfl⟩
  have hb1 : Below w.heap.size w W1 := by rw [hW1]; exact bt (b_alloc _ _) (b_alloc _ _)
  have hx : Blk W1 w.heap.size 25 [.slice a1 texts.length n1, .slice a2 code.length n2] := by rw [hW1]; exact (Blk.new w _ _).below (b_alloc _ _)
  have hy : Blk W1 (w.heap.size + 1) 25 [.slice a3 texts.length n3, .slice a4 code.length n4] := by
    rw [hW1]
    have := Blk.new (w.alloc (.cells #[.slice a1 texts.length n1, .slice a2 code.length n2] 25)) [.slice a3 texts.length n3, .slice a4 code.length n4] 25
    rw [size_alV] at this
    exact this
  have x0 := hx.cell (k := 0) rfl
  have x1 := hx.cell (k := 1) rfl
  have y0 := hy.cell (k := 0) rfl
  have y1 := hy.cell (k := 1) rfl
  have HB1 := Lib.hid hb1
  have HX := Lib.hid hx
  have HY := Lib.hid hy
  have t1 : ((texts.length : Int) != (texts.length : Int)) = false := by simp
  have t2 : ((code.length : Int) != (code.length : Int)) = false := by simp
  have lt1 : (texts.length : Int) ≤ 140737488355328 := by omega
  have lc1 : (code.length : Int) ≤ 140737488355328 := by omega
  clear ht hc ht' hc' h1 h2 h3 h4 hb1 hx hy
  go_enter Tryd.func14, Tryd.ntmps14
  go_upto_region 1 with fail
  rw [← hW1]
  clear hW1
  go_wp2_with fail
  clear x0 x1 y0 y1
  go_loopw [5] (fun v wr => ∃ i : Nat, v = .int .i64 (i : Int) ∧ i ≤ texts.length ∧ Hid (Below W1.heap.size W1 wr)) (fun v _ => texts.length - (intOf v).toNat)
  case atStart => exact ⟨0, rfl, Nat.zero_le _, Below.refl _ _⟩
  case round =>
    obtain ⟨i, rfl, hi, HBr⟩ := hrel
    have x0 := (HX.out.below HBr.out).cell (k := 0) rfl
    have y0 := (HY.out.below HBr.out).cell (k := 0) rfl
    have x1 := (HX.out.below HBr.out).cell (k := 1) rfl
    have y1 := (HY.out.below HBr.out).cell (k := 1) rfl
    by_cases h0 : i < texts.length
    · obtain ⟨b, off, rfl, d0⟩ := G1.out i h0
      obtain ⟨b', off', rfl, d1⟩ := G3.out i h0
      have d0 := Below.keeps (bt HB1.out HBr.out) d0
      have d1 := Below.keeps (bt HB1.out HBr.out) d1
      have ii0 : (0 : Int) ≤ (i : Int) := by omega
      have ii1 : (i : Int) < (texts.length : Int) := by omega
      have q1 : (texts[i] != texts[i]) = false := by simp
      have q2 : (texts[i] == texts[i]) = true := by simp
      go_upto_region 6 with fail
      go_quiet (fail)
      go_wp2_with fail
      go_roundw
      case rel => exact ⟨i + 1, by go_num, by omega, bt HBr.out (Below.drewN' _ _)⟩
      case measure => simp [intOf]; omega
    · obtain rfl : i = texts.length := by omega
      have e0 : ¬ (texts.length : Int) < (texts.length : Int) := by omega
      clear h0
      go_wp2_with fail
      clear x0 x1 y0 y1
      obtain ⟨W2, hW2⟩ : ∃ W, W = wr := ⟨_, rfl⟩
      subst hW2
      have HB2 := Lib.hid HBr.out
      clear HBr
      go_loopw [6] (fun v wr => ∃ i : Nat, v = .int .i64 (i : Int) ∧ i ≤ code.length ∧ Hid (Below W2.heap.size W2 wr)) (fun v _ => code.length - (intOf v).toNat)
      case atStart => exact ⟨0, rfl, Nat.zero_le _, Below.refl _ _⟩
      case round =>
        obtain ⟨i, rfl, hi, HBr⟩ := hrel
        have hbw := bt HB2.out HBr.out
        have x1 := (HX.out.below hbw).cell (k := 1) rfl
        have y1 := (HY.out.below hbw).cell (k := 1) rfl
        have HBW := Lib.hid hbw
        clear hbw
        by_cases h0 : i < code.length
        · obtain ⟨b, off, rfl, d0, d1⟩ := G2.out i h0
          obtain ⟨b', off', rfl, d2, d3⟩ := G4.out i h0
          have d0 := Below.keeps (bt HB1.out HBW.out) d0
          have d1 := Below.keeps (bt HB1.out HBW.out) d1
          have d2 := Below.keeps (bt HB1.out HBW.out) d2
          have d3 := Below.keeps (bt HB1.out HBW.out) d3
          have ii0 : (0 : Int) ≤ (i : Int) := by omega
          have ii1 : (i : Int) < (code.length : Int) := by omega
          have q1 : ((code[i].1.toNat : Int) == (code[i].1.toNat : Int)) = true := by simp
          have q2 : ((code[i].2.toNat : Int) == (code[i].2.toNat : Int)) = true := by simp
          go_upto_region 11 with fail
          go_quiet (fail)
          go_wp2_with fail
          go_roundw
          case rel => exact ⟨i + 1, by go_num, by omega, bt HBr.out (Below.drewN' _ _)⟩
          case measure => simp [intOf]; omega
        · obtain rfl : i = code.length := by omega
          have e0 : ¬ (code.length : Int) < (code.length : Int) := by omega
          clear h0
          go_wp2_with fail
          go_ret
          exact ⟨rfl, bt HB1.out HBW.out⟩
end Go.Proofs.YtbcjfppdeapamaaDoor
