/- Lemmas for VerifyTells, part 7: walks of the functions that it reaches, and the plain laws behind them. -/
import Derived.Test.YtahmacnmphjhgaaDoorVerifyTellsK6
set_option linter.unusedSimpArgs false
set_option linter.unusedVariables false
namespace Go.Proofs.YtahmacnmphjhgaaDoor
open Go.RowKit Oct
attribute [local irreducible] wpG
section
variable {α : Type}
/-- the world grows behind 'base'; rows xs and xs ++ [p] that lie behind it stand, and so do single cells of p -/
def RelA (R : Rec α) (base : Nat) (xs : List α) (p : α) (w w' : World) : Prop :=
  Below base w w' ∧ (∀ v, R.Own w base v xs → R.Own w' base v xs) ∧ (∀ v, R.Own w base v (xs ++ [p]) → R.Own w' base v (xs ++ [p])) ∧
    ∀ b : Nat, w.heap[b]? = some (.cells (R.cell p).toArray R.e (0, 0)) → w'.heap[b]? = some (.cells (R.cell p).toArray R.e (0, 0))
variable {R : Rec α} {base : Nat} {xs : List α} {p : α}
theorem RelA.refl (w : World) : RelA R base xs p w w := ⟨Below.refl _ _, fun _ h => h, fun _ h => h, fun _ h => h⟩
theorem RelA.of_bel {w w' : World} (hb : base ≤ w.heap.size) (h : Bel w w') : RelA R base xs p w w' :=
  ⟨Below.mono h hb, fun _ ho => ownsRow_below ho h, fun _ ho => ownsRow_below ho h, fun b hh => (h.block b (Array.getElem?_eq_some_iff.1 hh).1).trans hh⟩
/-- xs, of the call's own -/
def kOwnA (R : Rec α) (base : Nat) (xs : List α) (p : α) : Known (RelA R base xs p) :=
  ⟨Option Addr × Nat, fun x => .slice x.1 xs.length x.2, fun x => some fun w => R.Own w base (.slice x.1 xs.length x.2) xs, fun _ _ h _ _ hφ hB => by cases h; exact hB.2.1 _ hφ⟩
@[go_sem] theorem kOwnA_val (a : Option Addr) (c : Nat) : (kOwnA R base xs p).val (a, c) = .slice a xs.length c := rfl
/-- xs ++ [p], of the call's own -/
def kOwnB (R : Rec α) (base : Nat) (xs : List α) (p : α) : Known (RelA R base xs p) :=
  ⟨Option Addr × Nat, fun x => .slice x.1 (xs.length + 1) x.2, fun x => some fun w => R.Own w base (.slice x.1 (xs.length + 1) x.2) (xs ++ [p]), fun _ _ h _ _ hφ hB => by cases h; exact hB.2.2.1 _ hφ⟩
@[go_sem] theorem kOwnB_val (a : Option Addr) (c : Nat) : (kOwnB R base xs p).val (a, c) = .slice a (xs.length + 1) c := rfl
/-- the row of p alone -/
def kOneA (R : Rec α) (base : Nat) (xs : List α) (p : α) : Known (RelA R base xs p) :=
  ⟨Nat, fun b => .slice (some ⟨b, 0, none⟩) 1 1, fun b => some fun w => w.heap[b]? = some (.cells (R.cell p).toArray R.e (0, 0)), fun _ _ h _ _ hφ hB => by cases h; exact hB.2.2.2 _ hφ⟩
@[go_sem] theorem kOneA_val (b : Nat) : (kOneA R base xs p).val b = .slice (some ⟨b, 0, none⟩) 1 1 := rfl
theorem own_sameA {w w' : World} {v : Value} {l : List α} (h : R.Own w base v l) (h4 : ∀ k, k < w.heap.size → w'.heap[k]? = w.heap[k]?) : R.Own w' base v l := own_same h h4
/-- append(s, x) as an operation of a region that is known -/
theorem Rec.grow_app1 (R : Rec α) {o : Oper} {a : Act} {w : World} {G : Value → World → Prop} (s x : Operand) (t : TypeId)
    (ho : o.op = .call { callee := .builtin .append, args := #[s, x], argTypes := #[t, t] }) (ht : Tryd.prog.underlying t = some (.slice R.e))
    (base : Nat) (v : Value) (xs : List α) (p : α) (hown : R.Own w base v xs) (hs : a.eval s = v) (b : Nat) (hx : a.eval x = .slice (some ⟨b, 0, none⟩) 1 1) (hb : w.heap[b]? = some (.cells (R.cell p).toArray R.e (0, 0)))
    (hbytes : (xs.length + 1) * R.bytes ≤ 140737488355328) (hbase : base ≤ w.heap.size)
    (h : ∀ A C w', R.Own w' base (.slice A (xs.length + 1) C) (xs ++ [p]) → RelA R base xs p w w' → G (.slice A (xs.length + 1) C) w') : growAt Tryd.prog o a w G := by
  obtain ⟨i, hi, hz, hi1, hi2⟩ := info_parts R.info
  have hle : xs.length + 1 ≤ 140737488355328 := by have := Nat.le_mul_of_pos_right (xs.length + 1) R.bpos; omega
  obtain ⟨v', w', h1, h2, h3, h4⟩ := run_append3 (P := Tryd.prog) w base t o.type R.e i R.z R.n R.bytes ht hi hz hi1 hi2 R.zs R.pos v xs.length (R.cells xs) hown ⟨b, 0, none⟩ 1 1 (R.cell p) (by rw [Nat.one_mul]; exact R.len p) (by
    intro j u hj
    rw [Addr.add_lit, Nat.zero_add]
    simp [World.cell?, hb, hj]) (R.one p) (by unfold maxLen; omega) hbytes hbase
  have h2' : R.Own w' base v' (xs ++ [p]) := by
    unfold Rec.Own
    rw [R.cells_append, List.length_append, Rec.cells, Rec.cells, List.append_nil]
    exact h2
  have key : ∀ (l : List α), (l = xs ∨ l = xs ++ [p]) → ∀ u, R.Own w base u l → R.Own w' base u l := by
    intro l hl u hu
    rcases h4 with h4 | ⟨g, cap', cur, cur', rfl, hg, hg', hsz, htk, hoth⟩
    · exact own_sameA hu h4
    · refine ⟨hu.1, ?_⟩
      rcases hu.2 with h5 | ⟨g2, c2, cur2, rfl, hb2, hh2, hn2, hm2, hs2, ht2⟩
      · exact .inl h5
      · by_cases hgg : g2 = g
        · subst hgg
          rw [hg] at hh2
          obtain rfl : cur = cur2 := by simp only [Option.some.injEq, Obj.cells.injEq] at hh2; exact hh2.1
          refine .inr ⟨g2, c2, cur', rfl, hb2, hg', hn2, hm2, by rw [hsz]; exact hs2, ?_⟩
          rcases hl with rfl | rfl
          · have h6 : cur'.toList.take (l.length * R.n) = (cur'.toList.take ((l.length + 1) * R.n)).take (l.length * R.n) := by
              rw [List.take_take, Nat.min_eq_left (Nat.mul_le_mul_right _ (by omega))]
            rw [h6, htk, ← R.cells_length l]
            exact List.take_left
          · rw [List.length_append, List.length_singleton, htk, R.cells_append, Rec.cells, Rec.cells, List.append_nil]
        · exact .inr ⟨g2, c2, cur2, rfl, hb2, by rw [hoth g2 hgg]; exact hh2, hn2, hm2, hs2, ht2⟩
  have hrel : RelA R base xs p w w' := by
    refine ⟨(Below.refl base w).grown h3 hbase (fun k hk => (Rec.Own.ltV hown k hk).1), key xs (.inl rfl), key _ (.inr rfl), ?_⟩
    intro b' hb'
    rcases h4 with h4 | ⟨g, cap', cur, cur', rfl, hg, hg', hsz, htk, hoth⟩
    · rw [h4 b' (Array.getElem?_eq_some_iff.1 hb').1]; exact hb'
    · by_cases hgg : b' = g
      · subst hgg
        rw [hg] at hb'
        obtain rfl : cur = (R.cell p).toArray := by simp only [Option.some.injEq, Obj.cells.injEq] at hb'; exact hb'.1
        rw [hg']
        have hl1 := congrArg List.length htk
        have hcl : cur'.toList.length = R.n := by rw [show cur'.toList.length = cur'.size from Array.length_toList, hsz, List.size_toArray, R.len]
        rw [List.length_take, List.length_append, R.cells_length, R.len, hcl] at hl1
        have hp := R.pos
        have hx0 : xs.length * R.n = 0 := by
          have := Nat.min_le_right ((xs.length + 1) * R.n) R.n
          omega
        have hx1 : xs.length = 0 := by
          rcases Nat.mul_eq_zero.1 hx0 with e | e
          · exact e
          · omega
        obtain rfl : xs = [] := List.eq_nil_of_length_eq_zero hx1
        rw [Rec.cells, List.nil_append, List.length_nil, Nat.zero_add, Nat.one_mul, List.take_of_length_le (by rw [hcl]; exact Nat.le_refl _)] at htk
        rw [← htk, Array.toArray_toList]
      · rw [hoth b' hgg]; exact hb'
  obtain ⟨A, C, rfl⟩ := owns_slice h2
  unfold growAt execOp
  simp only [ho, resolve, invoke, builtin, Sem.run_bind, Sem.run_pure, Result.andThen_ok, List.map_toArray, List.map_cons, List.map_nil, hs, hx, h1]
  exact h A C w' h2' hrel
theorem one_newA {w' : World} {G : Value → World → Prop} {cs : Array Value} (hG : ∀ x w'', RelA R base xs p w' w'' → (∀ φ, (kOneA R base xs p).fact x = some φ → φ w'') → G ((kOneA R base xs p).val x) w'') (hcs : cs = (R.cell p).toArray) (hb : base ≤ w'.heap.size) :
    G (.slice (some ⟨w'.heap.size, 0, none⟩) 1 1) (w'.alloc (.cells cs R.e)) := by
  subst hcs
  exact hG w'.heap.size _ (RelA.of_bel hb (b_alloc w' _)) (fun φ h => by cases h; exact heap_alloc_last w' _)
theorem region_relA {id : Nat} {Q : Exit → Act → World → Prop} {a : Act} {w : World} {l : List Oper} (R : Rec α) (xs : List α) (p : α) (n : Nat) (L : List (Nat × Known (RelA R w.heap.size xs p))) (hm : Tryd.prog.follows .mixedOrders = true) (hB : splitB l.toArray n = true)
    (h : wpG Tryd.prog l.toArray (Bel w) (RelA R w.heap.size xs p) (knownAt L) (fun S a' => ∀ w', Bel w w' → S.all w' → wpList Tryd.prog l.toArray Q (l.drop n) a' w') 0 (l.take n) Facts.none a) : (Code.region id l.toArray true).wp Tryd.prog Q a w :=
  wp_region_grown (knownAt L) n hm hB (fun _ _ h k => h.trans k.1) (b_drew w) h
end
theorem wpG_nilVT {P : Program} {ops : Array Oper} {C : World → Prop} {R : World → World → Prop} {F : Nat → Option (Known R)} {Q : Facts → Act → Prop} {k : Nat} {S : Facts} {a : Act} (h : Q S a) : wpG P ops C R F Q k [] S a := by unfold wpG; exact h
section
variable {w : World} {base G : Nat} {tv cv bv sv ev : Value} {role : UInt8} {s : Vs}
/-- another row of blocks, made anew -/
theorem RG.freshB {w3 : World} {b0 : Nat} {bv' : Value} {l : List Vb} (h : RG w base G tv cv role s bv sv ev) (hB : Below w.heap.size w w3) (hb0 : w.heap.size ≤ b0) (ho : recRb.Own w3 b0 bv' l) :
    RG (w3.setCell ⟨G, 4, none⟩ bv') base G tv cv role { s with blocks := l } bv' sv ev ∧ Below base w (w3.setCell ⟨G, 4, none⟩ bv') := by
  have hGb := Nat.le_trans h.gb (Nat.le_of_lt h.blk.lt)
  refine h.newB (l := l) ⟨hB.os, hB.tape, hB.output, hB.size, fun j hj _ => hB.block j hj⟩ (fun k hk => .inr (Nat.le_trans hb0 (Rec.Own.ltV ho k hk).1)) (ho.baseLe (Nat.le_trans hGb hb0))
set_option maxRecDepth 100000 in
set_option maxHeartbeats 4000000 in
theorem rSet_any (b : Vb) (h : RG w base G tv cv role s bv sv ev) (hl : s.blocks.length ≤ 1000) (h0 : 0 < s.blocks.length) :
    Calls Tryd.prog 31 #[.pointer (some ⟨G, 0, none⟩), rbV b] w fun e w' => (∃ v, e = .returned v) ∧ (∃ bv', RG w' base G tv cv role { s with blocks := s.blocks.dropLast ++ [b] } bv' sv ev) ∧ Chg (fun x => x = G) w w' := by
  obtain ⟨⟨ab, cb, rfl⟩, _, _⟩ := h.slices
  obtain ⟨m, hm⟩ : ∃ m, s.blocks.length = m + 1 := ⟨s.blocks.length - 1, by omega⟩
  obtain ⟨g, rfl⟩ := h.ob.at0 h0
  have hm1 : (s.blocks.length : Int) - 1 = (m : Int) := by omega
  have hm2 : (m : Int) < (s.blocks.length : Int) := by omega
  have hm3 : (0 : Int) ≤ (m : Int) := by omega
  have hm4 : (s.blocks.length : Int) ≤ 1000 := by omega
  have hd : s.blocks.dropLast = s.blocks.take m := by rw [List.dropLast_eq_take]; congr 1; omega
  have HD := Lib.hid hd
  have hrun := h.ob.shortRun 45 Tryd.underlying45 (by intro wx; kernel_rfl) m (by omega)
  obtain ⟨W1, hW1⟩ : ∃ W1, W1 = w.alloc (.cells #[.int .u8 (b.op.toNat : Int), .string (bs b.opn), .string (bs (keptR b)), .bool b.did, .int .i64 (b.at_ : Int)] 65) := ⟨_, rfl⟩
  have hb1 : Below w.heap.size w W1 := by rw [hW1]; exact b_alloc _ _
  have hx : Blk W1 w.heap.size 65 [.int .u8 (b.op.toNat : Int), .string (bs b.opn), .string (bs (keptR b)), .bool b.did, .int .i64 (b.at_ : Int)] := by rw [hW1]; exact Blk.new w _ _
  have h1 := h.below hb1
  have c4 := h1.cell (k := 4) rfl
  have HX := Lib.hid hx
  have HB1 := Lib.hid hb1
  have H1 := Lib.hid h1
  have HH := Lib.hid h
  obtain ⟨xs, hxs⟩ : ∃ xs, xs = s.blocks.take m := ⟨_, rfl⟩
  have hxl : xs.length = m := by rw [hxs, List.length_take]; omega
  have HXS := Lib.hid hxs
  have HSH := Lib.hid (show recRb.Own W1 base (.slice (some ⟨g, 0, none⟩) m cb) xs from by rw [hxs]; exact h1.ob.short m (by omega))
  have HXL := Lib.hid hxl
  have hm5 : m ≤ 1000 := by omega
  clear h h1 h0 hm hd hb1 hx hxs hxl
  unfold rbV
  go_enter Tryd.func31, Tryd.ntmps31
  go_upto_region 1 with fail
  rw [← hW1]
  clear hW1
  refine region_known [(3, .exact _ (.slice (some ⟨g, 0, none⟩) s.blocks.length cb)), (7, .exact _ (.slice (some ⟨g, 0, none⟩) s.blocks.length cb)), (11, kOwnV recRb W1.heap.size xs)] (by kernel_rfl) (by kernel_rfl) ?_
  (repeat (first | (refine wpG_skip (by kernel_rfl) (fun K hK => ?_); go_big_quiet_skip; refine wpQuiet_nil (hK _ ?_); clear hK K) | (refine wpG_quiet (by rfl) (by rfl) (fun K hK => ?_); go_big_quiet_want; go_big_quiet_op; go_big_quiet_on; refine wpQuiet_nil (hK _ ?_); clear hK K) | (refine wpG_nilOk rfl rfl rfl (by kernel_rfl) (fun K hK => ?_); go_simp; refine hK _ ?_; clear hK K)))
  refine wpG_exact rfl (by kernel_rfl) (fun w' G hB hS hG => ?_) (fun K hK => ?_)
  · have y := Below.keeps hB c4
    go_simp; exact hG _ (Bel.refl _)
  go_simp; refine hK _ ?_; clear hK K; (repeat (first | (refine wpG_skip (by kernel_rfl) (fun K hK => ?_); go_big_quiet_skip; refine wpQuiet_nil (hK _ ?_); clear hK K) | (refine wpG_quiet (by rfl) (by rfl) (fun K hK => ?_); go_big_quiet_want; go_big_quiet_op; go_big_quiet_on; refine wpQuiet_nil (hK _ ?_); clear hK K) | (refine wpG_nilOk rfl rfl rfl (by kernel_rfl) (fun K hK => ?_); go_simp; refine hK _ ?_; clear hK K)))
  refine wpG_exact rfl (by kernel_rfl) (fun w' G hB hS hG => ?_) (fun K hK => ?_)
  · have y := Below.keeps hB c4
    go_simp; exact hG _ (Bel.refl _)
  go_simp; refine hK _ ?_; clear hK K; (repeat (first | (refine wpG_skip (by kernel_rfl) (fun K hK => ?_); go_big_quiet_skip; refine wpQuiet_nil (hK _ ?_); clear hK K) | (refine wpG_quiet (by rfl) (by rfl) (fun K hK => ?_); go_big_quiet_want; go_big_quiet_op; go_big_quiet_on; refine wpQuiet_nil (hK _ ?_); clear hK K) | (refine wpG_nilOk rfl rfl rfl (by kernel_rfl) (fun K hK => ?_); go_simp; refine hK _ ?_; clear hK K)))
  refine wpG_known (kOwnV recRb W1.heap.size xs) rfl (by kernel_rfl) (fun w' G hB hS hG => ?_) (fun x K hK => ?_)
  · refine recRb.grow_copy _ _ 45 rfl Tryd.underlying45 W1.heap.size rfl _ xs (show recRb.Row w' (.slice (some ⟨g, 0, none⟩) m cb) xs from (HSH.out.below hB).row) rfl (by show xs.length * 56 ≤ _; rw [HXL.out]; omega) hB.size (fun A C w'' ho hb => hG (A, C) w'' hb (fun φ h => by cases h; exact ho))
  obtain ⟨ad, c⟩ := x; go_simp; refine hK _ ?_; clear hK K; (repeat (first | (refine wpG_skip (by kernel_rfl) (fun K hK => ?_); go_big_quiet_skip; refine wpQuiet_nil (hK _ ?_); clear hK K) | (refine wpG_quiet (by rfl) (by rfl) (fun K hK => ?_); go_big_quiet_want; go_big_quiet_op; go_big_quiet_on; refine wpQuiet_nil (hK _ ?_); clear hK K) | (refine wpG_nilOk rfl rfl rfl (by kernel_rfl) (fun K hK => ?_); go_simp; refine hK _ ?_; clear hK K)))
  refine wpG_nilVT ?_
  intro w5 hB5 hA5
  have HO := Lib.hid (show recRb.Own w5 W1.heap.size (.slice ad xs.length c) xs from all0 hA5)
  have hx5 := HX.out.below hB5
  have x0 := hx5.cell (k := 0) rfl
  have x1 := hx5.cell (k := 1) rfl
  have x2 := hx5.cell (k := 2) rfl
  have x3 := hx5.cell (k := 3) rfl
  have x4 := hx5.cell (k := 4) rfl
  have HB5 := Lib.hid hB5
  have HW5 := Lib.hid (bt HB1.out hB5)
  have hsz : W1.heap.size ≤ w5.heap.size := hB5.size
  clear hB5 hA5 hx5 c4
  rw [HXL.out] at HO ⊢
  go_wp2_with (at_builtin; go_must (refine recRb.append1V _ b rfl _ _ 45 rfl Tryd.underlying45 W1.heap.size _ xs (HO.out.below (b_alloc _ _)) rfl _ rfl (Rec.Row.new (R := recRb) w5 [b] _).1 (by show (xs.length + 1) * 56 ≤ _; rw [HXL.out]; omega) (Nat.le_trans hsz (b_alloc _ _).size) ?_); go_must (intro g3 gc w6 hown3 hc3 _; have hb6 : Below w.heap.size w w6 := (by have e1 : Below W1.heap.size w5 (w5.alloc (.cells (recRb.cells [b]).toArray 65)) := (b_alloc _ _).mono hsz; have e2 := hc3.below (B := W1.heap.size) (fun k hk => (Rec.Own.ltV HO.out k hk).1) (Nat.le_trans hsz (b_alloc _ _).size); exact HW5.out.trans ((e1.trans e2).mono HB1.out.size)); have h6 := HH.out.below hb6; have c4 := h6.cell (k := 4) rfl; have f4 := h6.free (k := 4) (by decide); have HN := Lib.hid (HH.out.freshB hb6 HB1.out.size hown3); have HC6 := Lib.hid ((Chg.of_below (X := fun x => x = G) hb6).trans (Chg.set1R (k := 4) (v := .slice (some ⟨g3, 0, none⟩) (xs.length + 1) gc))); clear h6 hb6 hown3 hc3))
  refine bodyPost_end (results_none rfl _ _ _) rfl ?_
  rw [HD.out, ← HXS.out]
  exact ⟨⟨_, rfl⟩, ⟨_, HN.out.1⟩, HC6.out⟩
end
end Go.Proofs.YtahmacnmphjhgaaDoor
namespace Go.Proofs.YtahmacnmphjhgaaDoor
open Go.RowKit Oct
attribute [local irreducible] wpG
theorem Blk.list {w : World} {b : Nat} {t : TypeId} {cs : List Value} (h : Blk w b t cs) : w.heap[b]? = some (.cells cs.toArray t (0, 0)) := h
theorem Rec.Own.freeR {α : Type} {R : Rec α} {w : World} {base g n c : Nat} {l : List α} (h : R.Own w base (.slice (some ⟨g, 0, none⟩) n c) l) {k : Nat} (hk : k < l.length * R.n) : (∃ v, w.cell? ⟨g, k, none⟩ = some v) ∧ w.frozen? ⟨g, k, none⟩ = false := by
  obtain ⟨_, h2⟩ := h
  rcases h2 with ⟨hv, _⟩ | ⟨g', cap, cur, hv, hb, hh, r1, r2, r3, r4⟩
  · cases hv
  · obtain ⟨rfl, rfl, rfl⟩ : g = g' ∧ n = l.length ∧ c = cap := by simpa using hv
    have hlt : k < cur.size := by
      rw [r3]
      exact Nat.lt_of_lt_of_le hk (Nat.mul_le_mul_right _ r1)
    exact ⟨⟨cur[k], by simp [World.cell?, hh, hlt]⟩, by simp [World.frozen?, hh]⟩
section
variable {w : World} {base G : Nat} {tv cv bv sv ev : Value} {role : UInt8} {s : Vs} {n : Nat}
set_option maxRecDepth 100000 in
set_option maxHeartbeats 16000000 in
theorem rEnds_any (i : Nat) (x : VI) (h : RG w base G tv cv role s bv sv ev) (hI : InvV n s) (hi : i ≤ 1000) (hwd : ∀ b ∈ s.blocks, b.did = false → b.want = b.opn) (hne : x.1 = 20 ∨ x.1 = 21 → s.blocks ≠ []) :
    Calls Tryd.prog 23 #[.pointer (some ⟨G, 0, none⟩), .int .i64 (i : Int), .agg #[.int .u8 (x.1.toNat : Int), .int .u8 (x.2.toNat : Int)]] w fun e w' => e = .returned (.int .i64 ((turnsV i x s).1 : Int)) ∧ ((turnsV i x s).1 = 0 → ∃ bv', RG w' base G tv cv role (turnsV i x s).2 bv' sv ev) ∧ Below base w w' := by
  obtain ⟨p, a⟩ := x
  have hGb := Nat.le_trans h.gb (Nat.le_of_lt h.blk.lt)
  have hGw := h.blk.lt
  have hl : s.blocks.length ≤ 1000 := Nat.le_trans hI.bl (by decide)
  have hkl := hI.kl
  have hIb := hI.bs
  have hIe := hI.el
  have hbl := hI.bl
  obtain ⟨⟨ab, cb, rfl⟩, _, ⟨ae, ce, rfl⟩⟩ := h.slices
  obtain ⟨W1, hW1⟩ : ∃ W1, W1 = w.alloc (.cells #[.int .u8 (p.toNat : Int), .int .u8 (a.toNat : Int)] 33) := ⟨_, rfl⟩
  have hb1 : Below w.heap.size w W1 := by rw [hW1]; exact b_alloc _ _
  have hx : Blk W1 w.heap.size 33 [.int .u8 (p.toNat : Int), .int .u8 (a.toNat : Int)] := by rw [hW1]; exact Blk.new w _ _
  have HB1 := Lib.hid hb1
  have HX := Lib.hid hx
  have HH := Lib.hid h
  have HLST := Lib.hid (fun w' (hB : Below w.heap.size w w') => rLast_any (h.below hB) hl)
  have i0 : (0 : Int) ≤ (i : Int) := by omega
  have l1 : (s.blocks.length : Int) ≤ 8 := by omega
  have k16 : (s.kinds.length : Int) ≤ 16 := by omega
  obtain ⟨q, hq⟩ : ∃ q, q = lastR s.blocks := ⟨_, rfl⟩
  obtain ⟨is_, his⟩ : ∃ is_, is_ = s.blocks.getLast?.isSome := ⟨_, rfl⟩
  have HIS := Lib.hid his
  have HQ := Lib.hid hq
  have HLQ := Lib.hid (show rbV (s.blocks.getLast?.getD noVb) = .agg #[.int .u8 (q.op.toNat : Int), .string (bs q.opn), .string (bs (keptR q)), .bool q.did, .int .i64 (q.at_ : Int)] by rw [hq]; rfl)
  have HWD := Lib.hid hwd
  have HNE := Lib.hid hne
  have HIB := Lib.hid hIb
  clear h hb1 hx hq his hwd hne hIb hI
  go_enter Tryd.func23, Tryd.ntmps23
  go_upto_region 1 with fail
  rw [← hW1]
  clear hW1
  go_upto_region 2 with (go_at_call 28; refine (HLST.out _ HB1.out).mono ?_; rintro e w2 ⟨rfl, hB2⟩; rw [HLQ.out, ← HIS.out]; have HB2 := Lib.hid (bt HB1.out hB2); have HX2 := Lib.hid (HX.out.below hB2); clear hB2)
  obtain ⟨W3, hW3⟩ : ∃ W3, W3 = w2.alloc (.cells #[.int .u8 (q.op.toNat : Int), .string (bs q.opn), .string (bs (keptR q)), .bool q.did, .int .i64 (q.at_ : Int)] 65) := ⟨_, rfl⟩
  have hb23 : Below w2.heap.size w2 W3 := by rw [hW3]; exact b_alloc _ _
  have hy : Blk W3 w2.heap.size 65 [.int .u8 (q.op.toNat : Int), .string (bs q.opn), .string (bs (keptR q)), .bool q.did, .int .i64 (q.at_ : Int)] := by rw [hW3]; exact Blk.new w2 _ _
  rw [← hW3]
  have hb3 := bt HB2.out hb23
  have h3 := HH.out.below hb3
  have hx3 := HX2.out.below hb23
  have x0 := hx3.cell (k := 0) rfl
  obtain ⟨C, hC⟩ : ∃ C, C = w2.heap.size := ⟨_, rfl⟩
  have hCw : w.heap.size ≤ C := by rw [hC]; exact HB2.out.size
  have hCx : C ≠ w.heap.size := by
    have := lt_of_cell (HX2.out.cell (k := 0) rfl)
    have h' : w.heap.size < w2.heap.size := this
    omega
  rw [← hC] at hy ⊢
  have HY3 := Lib.hid hy
  have HX3 := Lib.hid hx3
  have H3 := Lib.hid h3
  have HB3 := Lib.hid hb3
  have hG3 : w.heap.size ≤ W3.heap.size := hb3.size
  clear hW3 hy hb23 hb3 h3 hx3 HB2 HX2 hC
  by_cases h19 : p = 19
  · have u19 : ((p.toNat : Int) == 19) = true := by rw [h19]; rfl
    have HV := Lib.hid (show turnsV i (p, a) s = (0, { s with blocks := s.blocks ++ [⟨19, s.kinds, s.kinds, i, false⟩] }) by unfold turnsV; simp [h19])
    have c3 := H3.out.cell (k := 3) rfl
    have c4 := H3.out.cell (k := 4) rfl
    obtain ⟨nb, hnb⟩ : ∃ nb : Vb, nb = ⟨p, s.kinds, s.kinds, i, false⟩ := ⟨_, rfl⟩
    have HNB := Lib.hid hnb
    have hc : (recRb.cell nb) = [.int .u8 (p.toNat : Int), .string (bs s.kinds), .string ⟨#[]⟩, .bool false, .int .i64 (i : Int)] := by rw [hnb]; rfl
    have HC := Lib.hid hc
    have HSH := Lib.hid H3.out.ob
    have HP := Lib.hid h19
    clear hnb hc h19
    go_upto_region 5 with fail
    refine region_relA recRb s.blocks nb 18 [(4, .exact _ (.slice ab s.blocks.length cb)), (5, kOwnA recRb W3.heap.size s.blocks nb), (7, .exact _ (.int .u8 (p.toNat : Int))), (11, .exact _ (.string (bs s.kinds))), (14, kOneA recRb W3.heap.size s.blocks nb), (15, kOwnB recRb W3.heap.size s.blocks nb)] (by kernel_rfl) (by kernel_rfl) ?_
    simp only [List.take_succ_cons, List.take_zero, List.drop_succ_cons, List.drop_zero]
    (repeat (first | (refine wpG_skip (by kernel_rfl) (fun K hK => ?_); go_big_quiet_skip; refine wpQuiet_nil (hK _ ?_); clear hK K) | (refine wpG_quiet (by rfl) (by rfl) (fun K hK => ?_); go_big_quiet_want; go_big_quiet_op; go_big_quiet_on; refine wpQuiet_nil (hK _ ?_); clear hK K) | (refine wpG_nilOk rfl rfl rfl (by kernel_rfl) (fun K hK => ?_); go_simp; refine hK _ ?_; clear hK K)))
    refine wpG_exact rfl (by kernel_rfl) (fun w' G hB hS hG => ?_) (fun K hK => ?_)
    · have y := Below.keeps hB c4
      go_simp; exact hG _ (RelA.refl _)
    go_simp; refine hK _ ?_; clear hK K; (repeat (first | (refine wpG_skip (by kernel_rfl) (fun K hK => ?_); go_big_quiet_skip; refine wpQuiet_nil (hK _ ?_); clear hK K) | (refine wpG_quiet (by rfl) (by rfl) (fun K hK => ?_); go_big_quiet_want; go_big_quiet_op; go_big_quiet_on; refine wpQuiet_nil (hK _ ?_); clear hK K) | (refine wpG_nilOk rfl rfl rfl (by kernel_rfl) (fun K hK => ?_); go_simp; refine hK _ ?_; clear hK K)))
    refine wpG_known (kOwnA recRb W3.heap.size s.blocks nb) rfl (by kernel_rfl) (fun w' G hB hS hG => ?_) (fun x K hK => ?_)
    · refine recRb.grow_copy _ _ 45 rfl Tryd.underlying45 W3.heap.size rfl _ s.blocks (HSH.out.below hB).row rfl (by show s.blocks.length * 56 ≤ _; omega) hB.size (fun A C w'' ho hb => hG (A, C) w'' (RelA.of_bel hB.size hb) (fun φ h => by cases h; exact ho))
    obtain ⟨ad, c⟩ := x; go_simp; refine hK _ ?_; clear hK K; (repeat (first | (refine wpG_skip (by kernel_rfl) (fun K hK => ?_); go_big_quiet_skip; refine wpQuiet_nil (hK _ ?_); clear hK K) | (refine wpG_quiet (by rfl) (by rfl) (fun K hK => ?_); go_big_quiet_want; go_big_quiet_op; go_big_quiet_on; refine wpQuiet_nil (hK _ ?_); clear hK K) | (refine wpG_nilOk rfl rfl rfl (by kernel_rfl) (fun K hK => ?_); go_simp; refine hK _ ?_; clear hK K)))
    refine wpG_exact rfl (by kernel_rfl) (fun w' G hB hS hG => ?_) (fun K hK => ?_)
    · have y := Below.keeps hB x0
      go_simp; exact hG _ (RelA.refl _)
    go_simp; refine hK _ ?_; clear hK K; (repeat (first | (refine wpG_skip (by kernel_rfl) (fun K hK => ?_); go_big_quiet_skip; refine wpQuiet_nil (hK _ ?_); clear hK K) | (refine wpG_quiet (by rfl) (by rfl) (fun K hK => ?_); go_big_quiet_want; go_big_quiet_op; go_big_quiet_on; refine wpQuiet_nil (hK _ ?_); clear hK K) | (refine wpG_nilOk rfl rfl rfl (by kernel_rfl) (fun K hK => ?_); go_simp; refine hK _ ?_; clear hK K)))
    refine wpG_exact rfl (by kernel_rfl) (fun w' G hB hS hG => ?_) (fun K hK => ?_)
    · have y := Below.keeps hB c3
      go_simp; exact hG _ (RelA.refl _)
    go_simp; refine hK _ ?_; clear hK K; (repeat (first | (refine wpG_skip (by kernel_rfl) (fun K hK => ?_); go_big_quiet_skip; refine wpQuiet_nil (hK _ ?_); clear hK K) | (refine wpG_quiet (by rfl) (by rfl) (fun K hK => ?_); go_big_quiet_want; go_big_quiet_op; go_big_quiet_on; refine wpQuiet_nil (hK _ ?_); clear hK K) | (refine wpG_nilOk rfl rfl rfl (by kernel_rfl) (fun K hK => ?_); go_simp; refine hK _ ?_; clear hK K)))
    refine wpG_known (kOneA recRb W3.heap.size s.blocks nb) rfl (by kernel_rfl) (fun w' G hB hS hG => ?_) (fun (bb : Nat) K hK => ?_)
    · go_simp; exact one_newA hG (by rw [HC.out]) hB.size
    go_simp; refine hK _ ?_; clear hK K; (repeat (first | (refine wpG_skip (by kernel_rfl) (fun K hK => ?_); go_big_quiet_skip; refine wpQuiet_nil (hK _ ?_); clear hK K) | (refine wpG_quiet (by rfl) (by rfl) (fun K hK => ?_); go_big_quiet_want; go_big_quiet_op; go_big_quiet_on; refine wpQuiet_nil (hK _ ?_); clear hK K) | (refine wpG_nilOk rfl rfl rfl (by kernel_rfl) (fun K hK => ?_); go_simp; refine hK _ ?_; clear hK K)))
    refine wpG_known (kOwnB recRb W3.heap.size s.blocks nb) rfl (by kernel_rfl) (fun w' G hB hS hG => ?_) (fun y K hK => ?_)
    · have hown : recRb.Own w' W3.heap.size (.slice ad s.blocks.length c) s.blocks := at1 hS (by kernel_rfl)
      have hone : w'.heap[bb]? = some (.cells (recRb.cell nb).toArray recRb.e (0, 0)) := at0 hS (by kernel_rfl)
      exact recRb.grow_app1 _ _ 45 rfl Tryd.underlying45 W3.heap.size _ s.blocks nb hown rfl bb rfl hone (by show (s.blocks.length + 1) * 56 ≤ _; omega) hB.size (fun A C w'' ho hr => hG (A, C) w'' hr (fun φ h => by cases h; exact ho))
    obtain ⟨ad2, c2⟩ := y
    go_simp; refine hK _ ?_; clear hK K; (repeat (first | (refine wpG_skip (by kernel_rfl) (fun K hK => ?_); go_big_quiet_skip; refine wpQuiet_nil (hK _ ?_); clear hK K) | (refine wpG_quiet (by rfl) (by rfl) (fun K hK => ?_); go_big_quiet_want; go_big_quiet_op; go_big_quiet_on; refine wpQuiet_nil (hK _ ?_); clear hK K) | (refine wpG_nilOk rfl rfl rfl (by kernel_rfl) (fun K hK => ?_); go_simp; refine hK _ ?_; clear hK K)))
    refine wpG_nilVT ?_
    intro w5 hB5 hA5
    have ho5 : recRb.Own w5 W3.heap.size (.slice ad2 (s.blocks.length + 1) c2) (s.blocks ++ [nb]) := all0 hA5
    have h5 := H3.out.below hB5
    have c4 := h5.cell (k := 4) rfl
    have f4 := h5.free (k := 4) (by decide)
    have hn5 := H3.out.freshB hB5 (Nat.le_refl _) ho5
    obtain ⟨W7, hW7⟩ : ∃ W7, W7 = w5.setCell ⟨G, 4, none⟩ (.slice ad2 (s.blocks.length + 1) c2) := ⟨_, rfl⟩
    have hc7 : Chg (fun x => x = G) w5 W7 := by rw [hW7]; exact Chg.set1R
    have hx5 := HX3.out.below hB5
    have hx7 := hx5.chg hc7 (by show ¬ (w.heap.size = G); omega)
    have x0 := hx7.cell (k := 0) rfl
    rw [← hW7] at hn5
    have H7 := Lib.hid hn5.1
    have c3 := hn5.1.cell (k := 3) rfl
    have f3 := hn5.1.free (k := 3) (by decide)
    have HB7 := Lib.hid ((HB3.out.mono hGb).trans (hn5.2.mono (Nat.le_refl _)))
    have HW7 := Lib.hid hW7
    clear hB5 hA5 ho5 h5 hn5 hc7 hx5 hx7 hW7
    go_upto_region 6 with fail
    rw [← HW7.out]
    clear c4 f4
    go_wp2_with fail
    go_ret
    exact ⟨by rw [HV.out]; rfl, (fun _ => ⟨_, by rw [HV.out]; have := H7.out; rw [HNB.out, HP.out] at this; exact this⟩), HB7.out⟩
  by_cases h22 : p = 22
  · have u19 : ((p.toNat : Int) == 19) = false := u8_ne (by decide) h19
    have u22 : ((p.toNat : Int) == 22) = true := by rw [h22]; rfl
    have HV := Lib.hid (show turnsV i (p, a) s = (0, { s with blocks := s.blocks ++ [⟨22, s.kinds, s.kinds, i, false⟩], kinds := s.kinds ++ [84] }) by unfold turnsV; simp [h22])
    have c3 := H3.out.cell (k := 3) rfl
    have c4 := H3.out.cell (k := 4) rfl
    obtain ⟨nb, hnb⟩ : ∃ nb : Vb, nb = ⟨p, s.kinds, s.kinds, i, false⟩ := ⟨_, rfl⟩
    have HNB := Lib.hid hnb
    have hc : (recRb.cell nb) = [.int .u8 (p.toNat : Int), .string (bs s.kinds), .string ⟨#[]⟩, .bool false, .int .i64 (i : Int)] := by rw [hnb]; rfl
    have HC := Lib.hid hc
    have HSH := Lib.hid H3.out.ob
    have HP := Lib.hid h22
    clear hnb hc h22
    go_upto_region 5 with fail
    refine region_relA recRb s.blocks nb 18 [(4, .exact _ (.slice ab s.blocks.length cb)), (5, kOwnA recRb W3.heap.size s.blocks nb), (7, .exact _ (.int .u8 (p.toNat : Int))), (11, .exact _ (.string (bs s.kinds))), (14, kOneA recRb W3.heap.size s.blocks nb), (15, kOwnB recRb W3.heap.size s.blocks nb)] (by kernel_rfl) (by kernel_rfl) ?_
    simp only [List.take_succ_cons, List.take_zero, List.drop_succ_cons, List.drop_zero]
    (repeat (first | (refine wpG_skip (by kernel_rfl) (fun K hK => ?_); go_big_quiet_skip; refine wpQuiet_nil (hK _ ?_); clear hK K) | (refine wpG_quiet (by rfl) (by rfl) (fun K hK => ?_); go_big_quiet_want; go_big_quiet_op; go_big_quiet_on; refine wpQuiet_nil (hK _ ?_); clear hK K) | (refine wpG_nilOk rfl rfl rfl (by kernel_rfl) (fun K hK => ?_); go_simp; refine hK _ ?_; clear hK K)))
    refine wpG_exact rfl (by kernel_rfl) (fun w' G hB hS hG => ?_) (fun K hK => ?_)
    · have y := Below.keeps hB c4
      go_simp; exact hG _ (RelA.refl _)
    go_simp; refine hK _ ?_; clear hK K; (repeat (first | (refine wpG_skip (by kernel_rfl) (fun K hK => ?_); go_big_quiet_skip; refine wpQuiet_nil (hK _ ?_); clear hK K) | (refine wpG_quiet (by rfl) (by rfl) (fun K hK => ?_); go_big_quiet_want; go_big_quiet_op; go_big_quiet_on; refine wpQuiet_nil (hK _ ?_); clear hK K) | (refine wpG_nilOk rfl rfl rfl (by kernel_rfl) (fun K hK => ?_); go_simp; refine hK _ ?_; clear hK K)))
    refine wpG_known (kOwnA recRb W3.heap.size s.blocks nb) rfl (by kernel_rfl) (fun w' G hB hS hG => ?_) (fun x K hK => ?_)
    · refine recRb.grow_copy _ _ 45 rfl Tryd.underlying45 W3.heap.size rfl _ s.blocks (HSH.out.below hB).row rfl (by show s.blocks.length * 56 ≤ _; omega) hB.size (fun A C w'' ho hb => hG (A, C) w'' (RelA.of_bel hB.size hb) (fun φ h => by cases h; exact ho))
    obtain ⟨ad, c⟩ := x; go_simp; refine hK _ ?_; clear hK K; (repeat (first | (refine wpG_skip (by kernel_rfl) (fun K hK => ?_); go_big_quiet_skip; refine wpQuiet_nil (hK _ ?_); clear hK K) | (refine wpG_quiet (by rfl) (by rfl) (fun K hK => ?_); go_big_quiet_want; go_big_quiet_op; go_big_quiet_on; refine wpQuiet_nil (hK _ ?_); clear hK K) | (refine wpG_nilOk rfl rfl rfl (by kernel_rfl) (fun K hK => ?_); go_simp; refine hK _ ?_; clear hK K)))
    refine wpG_exact rfl (by kernel_rfl) (fun w' G hB hS hG => ?_) (fun K hK => ?_)
    · have y := Below.keeps hB x0
      go_simp; exact hG _ (RelA.refl _)
    go_simp; refine hK _ ?_; clear hK K; (repeat (first | (refine wpG_skip (by kernel_rfl) (fun K hK => ?_); go_big_quiet_skip; refine wpQuiet_nil (hK _ ?_); clear hK K) | (refine wpG_quiet (by rfl) (by rfl) (fun K hK => ?_); go_big_quiet_want; go_big_quiet_op; go_big_quiet_on; refine wpQuiet_nil (hK _ ?_); clear hK K) | (refine wpG_nilOk rfl rfl rfl (by kernel_rfl) (fun K hK => ?_); go_simp; refine hK _ ?_; clear hK K)))
    refine wpG_exact rfl (by kernel_rfl) (fun w' G hB hS hG => ?_) (fun K hK => ?_)
    · have y := Below.keeps hB c3
      go_simp; exact hG _ (RelA.refl _)
    go_simp; refine hK _ ?_; clear hK K; (repeat (first | (refine wpG_skip (by kernel_rfl) (fun K hK => ?_); go_big_quiet_skip; refine wpQuiet_nil (hK _ ?_); clear hK K) | (refine wpG_quiet (by rfl) (by rfl) (fun K hK => ?_); go_big_quiet_want; go_big_quiet_op; go_big_quiet_on; refine wpQuiet_nil (hK _ ?_); clear hK K) | (refine wpG_nilOk rfl rfl rfl (by kernel_rfl) (fun K hK => ?_); go_simp; refine hK _ ?_; clear hK K)))
    refine wpG_known (kOneA recRb W3.heap.size s.blocks nb) rfl (by kernel_rfl) (fun w' G hB hS hG => ?_) (fun (bb : Nat) K hK => ?_)
    · go_simp; exact one_newA hG (by rw [HC.out]) hB.size
    go_simp; refine hK _ ?_; clear hK K; (repeat (first | (refine wpG_skip (by kernel_rfl) (fun K hK => ?_); go_big_quiet_skip; refine wpQuiet_nil (hK _ ?_); clear hK K) | (refine wpG_quiet (by rfl) (by rfl) (fun K hK => ?_); go_big_quiet_want; go_big_quiet_op; go_big_quiet_on; refine wpQuiet_nil (hK _ ?_); clear hK K) | (refine wpG_nilOk rfl rfl rfl (by kernel_rfl) (fun K hK => ?_); go_simp; refine hK _ ?_; clear hK K)))
    refine wpG_known (kOwnB recRb W3.heap.size s.blocks nb) rfl (by kernel_rfl) (fun w' G hB hS hG => ?_) (fun y K hK => ?_)
    · have hown : recRb.Own w' W3.heap.size (.slice ad s.blocks.length c) s.blocks := at1 hS (by kernel_rfl)
      have hone : w'.heap[bb]? = some (.cells (recRb.cell nb).toArray recRb.e (0, 0)) := at0 hS (by kernel_rfl)
      exact recRb.grow_app1 _ _ 45 rfl Tryd.underlying45 W3.heap.size _ s.blocks nb hown rfl bb rfl hone (by show (s.blocks.length + 1) * 56 ≤ _; omega) hB.size (fun A C w'' ho hr => hG (A, C) w'' hr (fun φ h => by cases h; exact ho))
    obtain ⟨ad2, c2⟩ := y
    go_simp; refine hK _ ?_; clear hK K; (repeat (first | (refine wpG_skip (by kernel_rfl) (fun K hK => ?_); go_big_quiet_skip; refine wpQuiet_nil (hK _ ?_); clear hK K) | (refine wpG_quiet (by rfl) (by rfl) (fun K hK => ?_); go_big_quiet_want; go_big_quiet_op; go_big_quiet_on; refine wpQuiet_nil (hK _ ?_); clear hK K) | (refine wpG_nilOk rfl rfl rfl (by kernel_rfl) (fun K hK => ?_); go_simp; refine hK _ ?_; clear hK K)))
    refine wpG_nilVT ?_
    intro w5 hB5 hA5
    have ho5 : recRb.Own w5 W3.heap.size (.slice ad2 (s.blocks.length + 1) c2) (s.blocks ++ [nb]) := all0 hA5
    have h5 := H3.out.below hB5
    have c4 := h5.cell (k := 4) rfl
    have f4 := h5.free (k := 4) (by decide)
    have hn5 := H3.out.freshB hB5 (Nat.le_refl _) ho5
    obtain ⟨W7, hW7⟩ : ∃ W7, W7 = w5.setCell ⟨G, 4, none⟩ (.slice ad2 (s.blocks.length + 1) c2) := ⟨_, rfl⟩
    have hc7 : Chg (fun x => x = G) w5 W7 := by rw [hW7]; exact Chg.set1R
    have hx5 := HX3.out.below hB5
    have hx7 := hx5.chg hc7 (by show ¬ (w.heap.size = G); omega)
    have x0 := hx7.cell (k := 0) rfl
    rw [← hW7] at hn5
    have H7 := Lib.hid hn5.1
    have c3 := hn5.1.cell (k := 3) rfl
    have f3 := hn5.1.free (k := 3) (by decide)
    have HB7 := Lib.hid ((HB3.out.mono hGb).trans (hn5.2.mono (Nat.le_refl _)))
    have HW7 := Lib.hid hW7
    clear hB5 hA5 ho5 h5 hn5 hc7 hx5 hx7 hW7
    go_upto_region 6 with fail
    rw [← HW7.out]
    clear c4 f4
    go_wp2_with fail
    go_ret
    have h9 := H7.out.kinds (s.kinds ++ [84])
    exact ⟨by rw [HV.out]; rfl, (fun _ => ⟨_, by rw [HV.out]; have := h9.1; rw [HNB.out, HP.out] at this; exact this⟩), HB7.out.trans h9.2⟩
  by_cases h20 : p = 20
  · have u19 : ((p.toNat : Int) == 19) = false := u8_ne (by decide) h19
    have u22 : ((p.toNat : Int) == 22) = false := u8_ne (by decide) h22
    have u20 : ((p.toNat : Int) == 20) = true := by rw [h20]; rfl
    have hbn := HNE.out (.inl h20)
    have hlast : s.blocks.getLast? = some q := by
      rw [HQ.out]; unfold lastR
      cases hb : s.blocks.getLast? with
      | none => exact absurd (List.getLast?_eq_none_iff.1 hb) hbn
      | some b => rfl
    have hqm : q ∈ s.blocks := List.mem_of_getLast? hlast
    have hqa := (HIB.out q hqm).1
    have hb0 : 0 < s.blocks.length := List.length_pos_of_mem hqm
    obtain ⟨nb, hnb⟩ : ∃ nb : Vb, nb = { q with want := s.kinds, at_ := i, did := true } := ⟨_, rfl⟩
    have HV := Lib.hid (show turnsV i (p, a) s = (0, { s with ends := s.ends.set q.at_ (i : Int), blocks := s.blocks.dropLast ++ [nb], kinds := q.opn }) by unfold turnsV; rw [hlast, hnb]; simp [h20])
    have HNB := Lib.hid (show rbV nb = .agg #[.int .u8 (q.op.toNat : Int), .string (bs q.opn), .string (bs s.kinds), .bool true, .int .i64 (i : Int)] by rw [hnb]; rfl)
    obtain ⟨ge, rfl⟩ := H3.out.oe.at0 (by omega)
    have hge := HH.out.oe.ltV ge rfl
    have hgn := fun e => HH.out.a3 ge rfl e
    obtain ⟨⟨v0, e0⟩, ef⟩ := H3.out.oe.freeR (k := q.at_) (by show q.at_ < s.ends.length * 1; omega)
    have c5 := H3.out.cell (k := 6) rfl
    have y4 := HY3.out.cell (k := 4) rfl
    have q0 : (0 : Int) ≤ (q.at_ : Int) := by omega
    have q1 : (q.at_ : Int) < (s.ends.length : Int) := by omega
    have q2 : (s.ends.length : Int) ≤ 256 := by omega
    clear hnb hlast hqm h20 hbn
    go_upto_region 9 with fail
    go_region
    obtain ⟨W4, hW4⟩ : ∃ W4, W4 = W3.setCell ⟨ge, q.at_, none⟩ (.int .i64 (i : Int)) := ⟨_, rfl⟩
    have hc4 : Chg (fun k => k = ge) W3 W4 := by rw [hW4]; exact Chg.setCell _ _ _ rfl
    have ho4 : recJ.Own W4 base (.slice (some ⟨ge, 0, none⟩) s.ends.length ce) (s.ends.set q.at_ (i : Int)) := by
      have := H3.out.oe.setCell (k := q.at_) hqa (y := (i : Int)) (j := 0) (by decide) (u := .int .i64 (i : Int)) rfl
      rw [show q.at_ * recJ.n + 0 = q.at_ from by show q.at_ * 1 + 0 = q.at_; omega, ← hW4] at this
      exact this
    have h4 := H3.out.chgE (l := s.ends.set q.at_ (i : Int)) (hc4.mono (fun k (hk : k = ge) => by rw [hk]; rfl)) ho4
    rw [← hW4]
    have hB34 : Below base W3 W4.drew := h4.2.trans ((b_drew W4).mono (Nat.le_trans (Nat.le_trans hGb hG3) hc4.size))
    have H4 := Lib.hid (h4.1.below (b_drew W4))
    have HY4 := Lib.hid ((HY3.out.chg hc4 (by show ¬ (C = ge); omega)).below (b_drew W4))
    have HB4 := Lib.hid ((HB3.out.mono hGb).trans hB34)
    clear hW4 hc4 ho4 h4 hB34 e0 c5 ef
    obtain ⟨W5, hW5⟩ : ∃ W5, W5 = W4.drew := ⟨_, rfl⟩
    rw [← hW5] at H4 HY4 HB4
    rw [← hW5]
    clear hW5 x0 y4
    have c3 := H4.out.cell (k := 3) rfl
    have y0 := HY4.out.cell (k := 0) rfl
    have y1 := HY4.out.cell (k := 1) rfl
    go_upto_region 10 with fail
    refine region_tail 11 [(2, .exact _ (.int .u8 (q.op.toNat : Int))), (4, .exact _ (.string (bs q.opn))), (8, .exact _ (.string (bs s.kinds)))] (by kernel_rfl) (by kernel_rfl) ?_
    simp only [List.take_succ_cons, List.take_zero, List.drop_succ_cons, List.drop_zero]
    (repeat (first | (refine wpG_skip (by kernel_rfl) (fun K hK => ?_); go_big_quiet_skip; refine wpQuiet_nil (hK _ ?_); clear hK K) | (refine wpG_quiet (by rfl) (by rfl) (fun K hK => ?_); go_big_quiet_want; go_big_quiet_op; go_big_quiet_on; refine wpQuiet_nil (hK _ ?_); clear hK K) | (refine wpG_nilOk rfl rfl rfl (by kernel_rfl) (fun K hK => ?_); go_simp; refine hK _ ?_; clear hK K)))
    refine wpG_exact rfl (by kernel_rfl) (fun w' G hB hS hG => ?_) (fun K hK => ?_)
    · have y := Below.keeps hB y0
      go_simp; exact hG _ (Bel.refl _)
    go_simp; refine hK _ ?_; clear hK K; (repeat (first | (refine wpG_skip (by kernel_rfl) (fun K hK => ?_); go_big_quiet_skip; refine wpQuiet_nil (hK _ ?_); clear hK K) | (refine wpG_quiet (by rfl) (by rfl) (fun K hK => ?_); go_big_quiet_want; go_big_quiet_op; go_big_quiet_on; refine wpQuiet_nil (hK _ ?_); clear hK K) | (refine wpG_nilOk rfl rfl rfl (by kernel_rfl) (fun K hK => ?_); go_simp; refine hK _ ?_; clear hK K)))
    refine wpG_exact rfl (by kernel_rfl) (fun w' G hB hS hG => ?_) (fun K hK => ?_)
    · have y := Below.keeps hB y1
      go_simp; exact hG _ (Bel.refl _)
    go_simp; refine hK _ ?_; clear hK K; (repeat (first | (refine wpG_skip (by kernel_rfl) (fun K hK => ?_); go_big_quiet_skip; refine wpQuiet_nil (hK _ ?_); clear hK K) | (refine wpG_quiet (by rfl) (by rfl) (fun K hK => ?_); go_big_quiet_want; go_big_quiet_op; go_big_quiet_on; refine wpQuiet_nil (hK _ ?_); clear hK K) | (refine wpG_nilOk rfl rfl rfl (by kernel_rfl) (fun K hK => ?_); go_simp; refine hK _ ?_; clear hK K)))
    refine wpG_exact rfl (by kernel_rfl) (fun w' G hB hS hG => ?_) (fun K hK => ?_)
    · have y := Below.keeps hB c3
      go_simp; exact hG _ (Bel.refl _)
    go_simp; refine hK _ ?_; clear hK K; (repeat (first | (refine wpG_skip (by kernel_rfl) (fun K hK => ?_); go_big_quiet_skip; refine wpQuiet_nil (hK _ ?_); clear hK K) | (refine wpG_quiet (by rfl) (by rfl) (fun K hK => ?_); go_big_quiet_want; go_big_quiet_op; go_big_quiet_on; refine wpQuiet_nil (hK _ ?_); clear hK K) | (refine wpG_nilOk rfl rfl rfl (by kernel_rfl) (fun K hK => ?_); go_simp; refine hK _ ?_; clear hK K)))
    refine wpG_nilVT ?_
    intro w6 hB6 hA6
    have h6 := H4.out.below hB6
    have HSET := Lib.hid (rSet_any nb h6 hl hb0)
    rw [HNB.out] at HSET
    have HY6 := Lib.hid (HY4.out.below hB6)
    have HB6 := Lib.hid (HB4.out.trans (hB6.mono (Nat.le_trans hGb HB4.out.size)))
    clear hB6 hA6 h6 c3 y0 y1
    go_upto_region 11 with (go_at_call 31; refine HSET.out.mono ?_; rintro e w7 ⟨⟨vv, rfl⟩, ⟨bv7, h7⟩, hc7⟩; have H7 := Lib.hid h7; have HY7 := Lib.hid (HY6.out.chg hc7 (show ¬ (C = G) by omega)); have HC7 := Lib.hid hc7; clear h7 hc7)
    have y1 := HY7.out.cell (k := 1) rfl
    have c3 := H7.out.cell (k := 3) rfl
    have f3 := H7.out.free (k := 3) (by decide)
    have hbb : base ≤ w6.heap.size := Nat.le_trans hGb HB6.out.size
    go_wp2_with fail
    go_ret
    have h9 := H7.out.kinds q.opn
    exact ⟨by rw [HV.out]; rfl, (fun _ => ⟨_, by rw [HV.out]; exact h9.1⟩), (HB6.out.trans (HC7.out.below (fun x (hx : x = G) => by have := H7.out.gb; omega) hbb)).trans h9.2⟩
  by_cases h21 : p = 21
  · have u19 : ((p.toNat : Int) == 19) = false := u8_ne (by decide) h19
    have u22 : ((p.toNat : Int) == 22) = false := u8_ne (by decide) h22
    have u20 : ((p.toNat : Int) == 20) = false := u8_ne (by decide) h20
    have u21 : ((p.toNat : Int) == 21) = true := by rw [h21]; rfl
    have hbn := HNE.out (.inr h21)
    have hlast : s.blocks.getLast? = some q := by
      rw [HQ.out]; unfold lastR
      cases hb : s.blocks.getLast? with
      | none => exact absurd (List.getLast?_eq_none_iff.1 hb) hbn
      | some b => rfl
    have hqm : q ∈ s.blocks := List.mem_of_getLast? hlast
    have hqa := (HIB.out q hqm).1
    have hb0 : 0 < s.blocks.length := List.length_pos_of_mem hqm
    have y1 := HY3.out.cell (k := 1) rfl
    have y2 := HY3.out.cell (k := 2) rfl
    have y3 := HY3.out.cell (k := 3) rfl
    have c3 := H3.out.cell (k := 3) rfl
    by_cases hd : q.did = true
    · have hkw : keptR q = q.want := by unfold keptR; rw [if_pos hd]
      rw [hkw] at y2
      rw [hd] at y3
      clear hd hkw
      by_cases hw : s.kinds = q.want
      · have tt : (s.kinds != q.want) = false := by rw [hw]; simp
        have tt2 : (s.kinds == q.want) = true := by rw [hw]; simp
        have HV := Lib.hid (show turnsV i (p, a) s = (0, { s with ends := s.ends.set q.at_ (i : Int), blocks := s.blocks.dropLast }) by unfold turnsV; rw [hlast]; simp [h21, hw])
        obtain ⟨m, hm⟩ : ∃ m, s.blocks.length = m + 1 := ⟨s.blocks.length - 1, by omega⟩
        have hd' : s.blocks.dropLast = s.blocks.take m := by rw [List.dropLast_eq_take]; congr 1; omega
        have HD := Lib.hid hd'
        have hm1 : (s.blocks.length : Int) - 1 = (m : Int) := by omega
        have hm2 : (m : Int) < (s.blocks.length : Int) := by omega
        have hm3 : (0 : Int) ≤ (m : Int) := by omega
        obtain ⟨gb, rfl⟩ := H3.out.ob.at0 hb0
        have hrun := H3.out.ob.shortRun 45 Tryd.underlying45 (by intro wx; kernel_rfl) m (by omega)
        obtain ⟨ge, rfl⟩ := H3.out.oe.at0 (by omega)
        have hge := HH.out.oe.ltV ge rfl
        have hgn := fun e => HH.out.a3 ge rfl e
        obtain ⟨⟨v0, e0⟩, ef⟩ := H3.out.oe.freeR (k := q.at_) (by show q.at_ < s.ends.length * 1; omega)
        have c5 := H3.out.cell (k := 6) rfl
        have y4 := HY3.out.cell (k := 4) rfl
        have q0 : (0 : Int) ≤ (q.at_ : Int) := by omega
        have q1 : (q.at_ : Int) < (s.ends.length : Int) := by omega
        have q2 : (s.ends.length : Int) ≤ 256 := by omega
        have hml : m ≤ s.blocks.length := by omega
        clear hlast hqm h21 hbn hd' hw hm
        go_upto_region 18 with fail
        go_region
        obtain ⟨W4, hW4⟩ : ∃ W4, W4 = W3.setCell ⟨ge, q.at_, none⟩ (.int .i64 (i : Int)) := ⟨_, rfl⟩
        have hc4 : Chg (fun k => k = ge) W3 W4 := by rw [hW4]; exact Chg.setCell _ _ _ rfl
        have ho4 : recJ.Own W4 base (.slice (some ⟨ge, 0, none⟩) s.ends.length ce) (s.ends.set q.at_ (i : Int)) := by
          have := H3.out.oe.setCell (k := q.at_) hqa (y := (i : Int)) (j := 0) (by decide) (u := .int .i64 (i : Int)) rfl
          rw [show q.at_ * recJ.n + 0 = q.at_ from by show q.at_ * 1 + 0 = q.at_; omega, ← hW4] at this
          exact this
        have h4 := H3.out.chgE (l := s.ends.set q.at_ (i : Int)) (hc4.mono (fun k (hk : k = ge) => by rw [hk]; rfl)) ho4
        rw [← hW4]
        have hB34 : Below base W3 W4.drew := h4.2.trans ((b_drew W4).mono (Nat.le_trans (Nat.le_trans hGb hG3) hc4.size))
        have H4 := Lib.hid (h4.1.below (b_drew W4))
        have HY4 := Lib.hid ((HY3.out.chg hc4 (by show ¬ (C = ge); omega)).below (b_drew W4))
        have HB4 := Lib.hid ((HB3.out.mono hGb).trans hB34)
        clear hW4 hc4 ho4 h4 hB34 e0 c5 ef
        obtain ⟨W5, hW5⟩ : ∃ W5, W5 = W4.drew := ⟨_, rfl⟩
        rw [← hW5] at H4 HY4 HB4
        rw [← hW5]
        clear hW5 x0 y1 y2 y3 y4 c3
        have c4 := H4.out.cell (k := 4) rfl
        have f4 := H4.out.free (k := 4) (by decide)
        go_upto_region 19 with fail
        go_region
        have h9 := H4.out.newB (bv' := .slice (some ⟨gb, 0, none⟩) m cb) (l := s.blocks.take m) (Chg.refl _ _) (fun k hk => by cases hk; exact .inl rfl) (H4.out.ob.short m hml)
        obtain ⟨W9, hW9⟩ : ∃ W9, W9 = W5.setCell ⟨G, 4, none⟩ (.slice (some ⟨gb, 0, none⟩) m cb) := ⟨_, rfl⟩
        rw [← hW9] at h9 ⊢
        have H9 := Lib.hid (h9.1.below (b_drew W9))
        have HB9 := Lib.hid ((HB4.out.trans h9.2).trans ((b_drew W9).mono (Nat.le_trans h9.1.gb (Nat.le_of_lt h9.1.blk.lt))))
        clear h9 hW9 c4 f4
        go_wp2_with fail
        go_ret
        exact ⟨by rw [HV.out]; rfl, (fun _ => ⟨_, by rw [HV.out, HD.out]; exact H9.out⟩), HB9.out⟩
      · have tt : (s.kinds != q.want) = true := by simpa using hw
        have tt2 : (s.kinds == q.want) = false := by simpa using hw
        have HV := Lib.hid (show turnsV i (p, a) s = (132, s) by unfold turnsV; rw [hlast]; simp [h21, hw])
        clear hlast hqm h21 hbn hw
        go_wp2_with fail
        go_ret
        exact ⟨by rw [HV.out]; rfl, (fun e => by rw [HV.out] at e; cases e), HB3.out.mono hGb⟩
    · have hd : q.did = false := by simpa using hd
      have hkw : q.opn = q.want := (HWD.out q hqm hd).symm
      rw [hkw] at y1
      rw [hd] at y3
      clear hd hkw
      by_cases hw : s.kinds = q.want
      · have tt : (s.kinds != q.want) = false := by rw [hw]; simp
        have tt2 : (s.kinds == q.want) = true := by rw [hw]; simp
        have HV := Lib.hid (show turnsV i (p, a) s = (0, { s with ends := s.ends.set q.at_ (i : Int), blocks := s.blocks.dropLast }) by unfold turnsV; rw [hlast]; simp [h21, hw])
        obtain ⟨m, hm⟩ : ∃ m, s.blocks.length = m + 1 := ⟨s.blocks.length - 1, by omega⟩
        have hd' : s.blocks.dropLast = s.blocks.take m := by rw [List.dropLast_eq_take]; congr 1; omega
        have HD := Lib.hid hd'
        have hm1 : (s.blocks.length : Int) - 1 = (m : Int) := by omega
        have hm2 : (m : Int) < (s.blocks.length : Int) := by omega
        have hm3 : (0 : Int) ≤ (m : Int) := by omega
        obtain ⟨gb, rfl⟩ := H3.out.ob.at0 hb0
        have hrun := H3.out.ob.shortRun 45 Tryd.underlying45 (by intro wx; kernel_rfl) m (by omega)
        obtain ⟨ge, rfl⟩ := H3.out.oe.at0 (by omega)
        have hge := HH.out.oe.ltV ge rfl
        have hgn := fun e => HH.out.a3 ge rfl e
        obtain ⟨⟨v0, e0⟩, ef⟩ := H3.out.oe.freeR (k := q.at_) (by show q.at_ < s.ends.length * 1; omega)
        have c5 := H3.out.cell (k := 6) rfl
        have y4 := HY3.out.cell (k := 4) rfl
        have q0 : (0 : Int) ≤ (q.at_ : Int) := by omega
        have q1 : (q.at_ : Int) < (s.ends.length : Int) := by omega
        have q2 : (s.ends.length : Int) ≤ 256 := by omega
        have hml : m ≤ s.blocks.length := by omega
        clear hlast hqm h21 hbn hd' hw hm
        go_upto_region 18 with fail
        go_region
        obtain ⟨W4, hW4⟩ : ∃ W4, W4 = W3.setCell ⟨ge, q.at_, none⟩ (.int .i64 (i : Int)) := ⟨_, rfl⟩
        have hc4 : Chg (fun k => k = ge) W3 W4 := by rw [hW4]; exact Chg.setCell _ _ _ rfl
        have ho4 : recJ.Own W4 base (.slice (some ⟨ge, 0, none⟩) s.ends.length ce) (s.ends.set q.at_ (i : Int)) := by
          have := H3.out.oe.setCell (k := q.at_) hqa (y := (i : Int)) (j := 0) (by decide) (u := .int .i64 (i : Int)) rfl
          rw [show q.at_ * recJ.n + 0 = q.at_ from by show q.at_ * 1 + 0 = q.at_; omega, ← hW4] at this
          exact this
        have h4 := H3.out.chgE (l := s.ends.set q.at_ (i : Int)) (hc4.mono (fun k (hk : k = ge) => by rw [hk]; rfl)) ho4
        rw [← hW4]
        have hB34 : Below base W3 W4.drew := h4.2.trans ((b_drew W4).mono (Nat.le_trans (Nat.le_trans hGb hG3) hc4.size))
        have H4 := Lib.hid (h4.1.below (b_drew W4))
        have HY4 := Lib.hid ((HY3.out.chg hc4 (by show ¬ (C = ge); omega)).below (b_drew W4))
        have HB4 := Lib.hid ((HB3.out.mono hGb).trans hB34)
        clear hW4 hc4 ho4 h4 hB34 e0 c5 ef
        obtain ⟨W5, hW5⟩ : ∃ W5, W5 = W4.drew := ⟨_, rfl⟩
        rw [← hW5] at H4 HY4 HB4
        rw [← hW5]
        clear hW5 x0 y1 y2 y3 y4 c3
        have c4 := H4.out.cell (k := 4) rfl
        have f4 := H4.out.free (k := 4) (by decide)
        go_upto_region 19 with fail
        go_region
        have h9 := H4.out.newB (bv' := .slice (some ⟨gb, 0, none⟩) m cb) (l := s.blocks.take m) (Chg.refl _ _) (fun k hk => by cases hk; exact .inl rfl) (H4.out.ob.short m hml)
        obtain ⟨W9, hW9⟩ : ∃ W9, W9 = W5.setCell ⟨G, 4, none⟩ (.slice (some ⟨gb, 0, none⟩) m cb) := ⟨_, rfl⟩
        rw [← hW9] at h9 ⊢
        have H9 := Lib.hid (h9.1.below (b_drew W9))
        have HB9 := Lib.hid ((HB4.out.trans h9.2).trans ((b_drew W9).mono (Nat.le_trans h9.1.gb (Nat.le_of_lt h9.1.blk.lt))))
        clear h9 hW9 c4 f4
        go_wp2_with fail
        go_ret
        exact ⟨by rw [HV.out]; rfl, (fun _ => ⟨_, by rw [HV.out, HD.out]; exact H9.out⟩), HB9.out⟩
      · have tt : (s.kinds != q.want) = true := by simpa using hw
        have tt2 : (s.kinds == q.want) = false := by simpa using hw
        have HV := Lib.hid (show turnsV i (p, a) s = (132, s) by unfold turnsV; rw [hlast]; simp [h21, hw])
        clear hlast hqm h21 hbn hw
        go_wp2_with fail
        go_ret
        exact ⟨by rw [HV.out]; rfl, (fun e => by rw [HV.out] at e; cases e), HB3.out.mono hGb⟩
  have u19 : ((p.toNat : Int) == 19) = false := u8_ne (by decide) h19
  have u22 : ((p.toNat : Int) == 22) = false := u8_ne (by decide) h22
  have u20 : ((p.toNat : Int) == 20) = false := u8_ne (by decide) h20
  have u21 : ((p.toNat : Int) == 21) = false := u8_ne (by decide) h21
  have HV := Lib.hid (show turnsV i (p, a) s = (0, s) by unfold turnsV; simp [h19, h22, h20, h21])
  clear h19 h22 h20 h21
  go_wp2_with fail
  go_ret
  exact ⟨by rw [HV.out]; rfl, (fun _ => ⟨_, by rw [HV.out]; exact H3.out⟩), HB3.out.mono hGb⟩
end
end Go.Proofs.YtahmacnmphjhgaaDoor
namespace Go.Proofs.YtahmacnmphjhgaaDoor
open Go.RowKit Oct
attribute [local irreducible] wpG
theorem mayR_long {texts : List (List UInt8)} {code : List VI} (h : 16 < texts.length) : mayV texts code = false := by unfold mayV; rw [decide_eq_false (by omega)]; simp
theorem mayR_code {texts : List (List UInt8)} {code : List VI} (h : 256 < code.length) : mayV texts code = false := by unfold mayV; rw [decide_eq_false (show ¬ code.length ≤ 256 by omega)]; simp
theorem mayR_text {texts : List (List UInt8)} {code : List VI} (k : Nat) (h : k < texts.length) (h1 : 64 < texts[k].length) : mayV texts code = false := by
  have : texts.all (fun s => decide (s.length ≤ 64)) = false := all_false k h (decide_eq_false (by omega))
  unfold mayV; rw [this]; simp
theorem mayR_ins {texts : List (List UInt8)} {code : List VI} (k : Nat) (h : k < code.length) (h1 : insOk code[k] = false) : mayV texts code = false := by
  have : code.all insOk = false := all_false k h h1
  unfold mayV; rw [this]; simp
theorem mayR_ok {texts : List (List UInt8)} {code : List VI} (h1 : texts.length ≤ 16) (h2 : code.length ≤ 256) (h3 : ∀ k (h : k < texts.length), texts[k].length ≤ 64) (h4 : ∀ k (h : k < code.length), insOk code[k] = true) : mayV texts code = true := by
  have e3 : texts.all (fun s => decide (s.length ≤ 64)) = true := all_true (fun k h => decide_eq_true (h3 k h))
  have e4 : code.all insOk = true := all_true h4
  unfold mayV; rw [e3, e4, decide_eq_true h1, decide_eq_true h2]; rfl
set_option maxRecDepth 100000 in
set_option maxHeartbeats 8000000 in
theorem rMay12_any (tv cv : Value) (texts : List (List UInt8)) (code : List VI) (w : World) (ht : recS.Row w tv texts) (hc : recIns.Row w cv code) (hlt : texts.length ≤ 140737488355328) (hlc : code.length ≤ 140737488355328) (hm : ∀ s ∈ texts, s.length ≤ 140737488355328) :
    Calls Tryd.prog 19 #[.agg #[tv, cv]] w fun e w' => e = .returned (.bool (mayV texts code)) ∧ Below w.heap.size w w' := by
  obtain ⟨at_, ct, rfl, -, hct⟩ := recS_open ht
  obtain ⟨ac, cc, rfl, -, hcc⟩ := recIns_open hc
  have HM := Lib.hid hm
  have HCT := Lib.hid hct
  have HCC := Lib.hid hcc
  obtain ⟨W1, hW1⟩ : ∃ W1, W1 = w.alloc (.cells #[.slice at_ texts.length ct, .slice ac code.length cc] 25) := ⟨_, rfl⟩
  have hb1 : Below w.heap.size w W1 := by rw [hW1]; exact b_alloc _ _
  have hx : Blk W1 w.heap.size 25 [.slice at_ texts.length ct, .slice ac code.length cc] := by rw [hW1]; exact Blk.new w _ _
  have x0 := hx.cell (k := 0) rfl
  have x1 := hx.cell (k := 1) rfl
  have HB1 := Lib.hid hb1
  have HX := Lib.hid hx
  obtain ⟨mv, hmv⟩ : ∃ mv, mv = mayV texts code := ⟨_, rfl⟩
  have HMV := Lib.hid hmv
  have lt1 : (texts.length : Int) ≤ 140737488355328 := by omega
  have lc1 : (code.length : Int) ≤ 140737488355328 := by omega
  rw [← hmv]
  clear ht hc hct hcc hm hb1 hx hmv
  by_cases h16 : 16 < texts.length
  · have t1 : (16 : Int) < (texts.length : Int) := by omega
    have HV := Lib.hid (HMV.out.trans (mayR_long h16))
    clear h16
    go_enter Tryd.func19, Tryd.ntmps19
    go_upto_region 1 with fail
    rw [← hW1]
    clear hW1
    go_wp2_with fail
    go_ret
    exact ⟨by rw [HV.out]; rfl, HB1.out⟩
  · have t1 : ¬ (16 : Int) < (texts.length : Int) := by omega
    by_cases h256 : 256 < code.length
    · have t2 : (256 : Int) < (code.length : Int) := by omega
      have HV := Lib.hid (HMV.out.trans (mayR_code h256))
      clear h16 h256
      go_enter Tryd.func19, Tryd.ntmps19
      go_upto_region 1 with fail
      rw [← hW1]
      clear hW1
      go_wp2_with fail
      go_ret
      exact ⟨by rw [HV.out]; rfl, HB1.out⟩
    · have t2 : ¬ (256 : Int) < (code.length : Int) := by omega
      have hOK := mayR_ok (texts := texts) (code := code) (by omega) (by omega)
      have HOK := Lib.hid hOK
      clear hOK
      go_enter Tryd.func19, Tryd.ntmps19
      go_upto_region 1 with fail
      rw [← hW1]
      clear hW1
      go_wp2_with fail
      go_loop [3] (fun v => ∃ i : Nat, v = .int .i64 (i : Int) ∧ i ≤ texts.length ∧ Hid (∀ k (h : k < texts.length), k < i → texts[k].length ≤ 64)) (fun v => texts.length - (intOf v).toNat)
      case atStart => exact ⟨0, rfl, Nat.zero_le _, fun k _ h => absurd h (by omega)⟩
      case round =>
        obtain ⟨i, rfl, hi, HTI⟩ := hrel
        by_cases h0 : i < texts.length
        · obtain ⟨b, off, rfl, d0⟩ := HCT.out i h0
          have d0 := Below.keeps HB1.out d0
          have ii0 : (0 : Int) ≤ (i : Int) := by omega
          have ii1 : (i : Int) < (texts.length : Int) := by omega
          have hsl := HM.out texts[i] (List.getElem_mem h0)
          by_cases h64 : 64 < texts[i].length
          · have t3 : (64 : Int) < (texts[i].length : Int) := by omega
            have HV := Lib.hid (HMV.out.trans (mayR_text i h0 h64))
            clear h64
            go_wp2_with fail
            go_ret
            exact ⟨by rw [HV.out]; rfl, HB1.out⟩
          · have t3 : ¬ (64 : Int) < (texts[i].length : Int) := by omega
            have HN := Lib.hid (show ∀ k (h : k < texts.length), k < i + 1 → texts[k].length ≤ 64 from fun k h hk => by
              by_cases e : k = i
              · subst e; omega
              · exact HTI.out k h (by omega))
            clear h64 HTI
            go_wp2_with fail
            go_round
            case rel => exact ⟨i + 1, by go_num, by omega, HN.out⟩
            case measure => simp [intOf]; omega
        · obtain rfl : i = texts.length := by omega
          have e0 : ¬ (texts.length : Int) < (texts.length : Int) := by omega
          clear h0
          go_wp2_with fail
          go_loopw [4] (fun v wr => ∃ i : Nat, v = .int .i64 (i : Int) ∧ i ≤ code.length ∧ Hid (∀ k (h : k < code.length), k < i → insOk code[k] = true) ∧ Hid (Below W1.heap.size W1 wr)) (fun v _ => code.length - (intOf v).toNat)
          case atStart => exact ⟨0, rfl, Nat.zero_le _, fun k _ h => absurd h (by omega), Below.refl _ _⟩
          case round =>
            obtain ⟨i, rfl, hi, HCI, HBr⟩ := hrel
            have x1 := (HX.out.below HBr.out).cell (k := 1) rfl
            by_cases h0 : i < code.length
            · obtain ⟨b, off, rfl, d0, d1⟩ := HCC.out i h0
              have d0 := Below.keeps (bt HB1.out HBr.out) d0
              have d1 := Below.keeps (bt HB1.out HBr.out) d1
              have ii0 : (0 : Int) ≤ (i : Int) := by omega
              have ii1 : (i : Int) < (code.length : Int) := by omega
              have HIN := Lib.hid (rIns_any code[i] wr)
              obtain ⟨q, hq⟩ : ∃ q, q = insOk code[i] := ⟨_, rfl⟩
              rw [← hq] at HIN
              have HQ := Lib.hid hq
              clear hq
              cases q with
              | false =>
                have HV := Lib.hid (HMV.out.trans (mayR_ins i h0 HQ.out.symm))
                go_wp2_with fail
                refine HIN.out.mono ?_
                rintro e w2 ⟨rfl, hB2⟩
                have HB2 := Lib.hid (bt HBr.out hB2)
                clear hB2
                go_wp2_with fail
                go_ret
                exact ⟨by rw [HV.out]; rfl, bt HB1.out HB2.out⟩
              | true =>
                have HN := Lib.hid (show ∀ k (h : k < code.length), k < i + 1 → insOk code[k] = true from fun k h hk => by
                  by_cases e : k = i
                  · subst e; exact HQ.out.symm
                  · exact HCI.out k h (by omega))
                go_wp2_with fail
                refine HIN.out.mono ?_
                rintro e w2 ⟨rfl, hB2⟩
                have HB2 := Lib.hid (bt HBr.out hB2)
                clear hB2
                go_wp2_with fail
                go_roundw
                case rel => exact ⟨i + 1, by go_num, by omega, HN.out, HB2.out⟩
                case measure => simp [intOf]; omega
            · obtain rfl : i = code.length := by omega
              have e1 : ¬ (code.length : Int) < (code.length : Int) := by omega
              have HV := Lib.hid (HMV.out.trans (HOK.out (fun k h => HTI.out k h h) (fun k h => HCI.out k h h)))
              clear h0
              go_wp2_with fail
              go_ret
              exact ⟨by rw [HV.out]; rfl, bt HB1.out HBr.out⟩
set_option maxRecDepth 100000 in
set_option maxHeartbeats 8000000 in
theorem rSame12_any (ta ca tb cb : Value) (texts : List (List UInt8)) (code : List VI) (w : World) (ht : recS.Row w ta texts) (hc : recIns.Row w ca code) (ht' : recS.Row w tb texts) (hc' : recIns.Row w cb code) (hlt : texts.length ≤ 140737488355328) (hlc : code.length ≤ 140737488355328) :
    Calls Tryd.prog 16 #[.agg #[ta, ca], .agg #[tb, cb]] w fun e w' => e = .returned (.bool true) ∧ Below w.heap.size w w' := by
  obtain ⟨a1, n1, rfl, -, h1⟩ := recS_open ht
  obtain ⟨a2, n2, rfl, -, h2⟩ := recIns_open hc
  obtain ⟨a3, n3, rfl, -, h3⟩ := recS_open ht'
  obtain ⟨a4, n4, rfl, -, h4⟩ := recIns_open hc'
  have G1 := Lib.hid h1
  have G2 := Lib.hid h2
  have G3 := Lib.hid h3
  have G4 := Lib.hid h4
  obtain ⟨W1, hW1⟩ : ∃ W1, W1 = (w.alloc (.cells #[.slice a1 texts.length n1, .slice a2 code.length n2] 25)).alloc (.cells #[.slice a3 texts.length n3, .slice a4 code.length n4] 25) := ⟨_, rfl⟩
  have hb1 : Below w.heap.size w W1 := by rw [hW1]; exact bt (b_alloc _ _) (b_alloc _ _)
  have hx : Blk W1 w.heap.size 25 [.slice a1 texts.length n1, .slice a2 code.length n2] := by rw [hW1]; exact (Blk.new w _ _).below (b_alloc _ _)
  have hy : Blk W1 (w.heap.size + 1) 25 [.slice a3 texts.length n3, .slice a4 code.length n4] := by
    rw [hW1]
    have := Blk.new (w.alloc (.cells #[.slice a1 texts.length n1, .slice a2 code.length n2] 25)) [.slice a3 texts.length n3, .slice a4 code.length n4] 25
    rw [size_alV] at this
    exact this
  have x0 := hx.cell (k := 0) rfl
  have x1 := hx.cell (k := 1) rfl
  have y0 := hy.cell (k := 0) rfl
  have y1 := hy.cell (k := 1) rfl
  have HB1 := Lib.hid hb1
  have HX := Lib.hid hx
  have HY := Lib.hid hy
  have t1 : ((texts.length : Int) != (texts.length : Int)) = false := by simp
  have t2 : ((code.length : Int) != (code.length : Int)) = false := by simp
  have lt1 : (texts.length : Int) ≤ 140737488355328 := by omega
  have lc1 : (code.length : Int) ≤ 140737488355328 := by omega
  clear ht hc ht' hc' h1 h2 h3 h4 hb1 hx hy
  go_enter Tryd.func16, Tryd.ntmps16
  go_upto_region 1 with fail
  rw [← hW1]
  clear hW1
  go_wp2_with fail
  clear x0 x1 y0 y1
  go_loopw [5] (fun v wr => ∃ i : Nat, v = .int .i64 (i : Int) ∧ i ≤ texts.length ∧ Hid (Below W1.heap.size W1 wr)) (fun v _ => texts.length - (intOf v).toNat)
  case atStart => exact ⟨0, rfl, Nat.zero_le _, Below.refl _ _⟩
  case round =>
    obtain ⟨i, rfl, hi, HBr⟩ := hrel
    have x0 := (HX.out.below HBr.out).cell (k := 0) rfl
    have y0 := (HY.out.below HBr.out).cell (k := 0) rfl
    have x1 := (HX.out.below HBr.out).cell (k := 1) rfl
    have y1 := (HY.out.below HBr.out).cell (k := 1) rfl
    by_cases h0 : i < texts.length
    · obtain ⟨b, off, rfl, d0⟩ := G1.out i h0
      obtain ⟨b', off', rfl, d1⟩ := G3.out i h0
      have d0 := Below.keeps (bt HB1.out HBr.out) d0
      have d1 := Below.keeps (bt HB1.out HBr.out) d1
      have ii0 : (0 : Int) ≤ (i : Int) := by omega
      have ii1 : (i : Int) < (texts.length : Int) := by omega
      have q1 : (texts[i] != texts[i]) = false := by simp
      have q2 : (texts[i] == texts[i]) = true := by simp
      go_upto_region 6 with fail
      go_quiet (fail)
      go_wp2_with fail
      go_roundw
      case rel => exact ⟨i + 1, by go_num, by omega, bt HBr.out (Below.drewN' _ _)⟩
      case measure => simp [intOf]; omega
    · obtain rfl : i = texts.length := by omega
      have e0 : ¬ (texts.length : Int) < (texts.length : Int) := by omega
      clear h0
      go_wp2_with fail
      clear x0 x1 y0 y1
      obtain ⟨W2, hW2⟩ : ∃ W, W = wr := ⟨_, rfl⟩
      subst hW2
      have HB2 := Lib.hid HBr.out
      clear HBr
      go_loopw [6] (fun v wr => ∃ i : Nat, v = .int .i64 (i : Int) ∧ i ≤ code.length ∧ Hid (Below W2.heap.size W2 wr)) (fun v _ => code.length - (intOf v).toNat)
      case atStart => exact ⟨0, rfl, Nat.zero_le _, Below.refl _ _⟩
      case round =>
        obtain ⟨i, rfl, hi, HBr⟩ := hrel
        have hbw := bt HB2.out HBr.out
        have x1 := (HX.out.below hbw).cell (k := 1) rfl
        have y1 := (HY.out.below hbw).cell (k := 1) rfl
        have HBW := Lib.hid hbw
        clear hbw
        by_cases h0 : i < code.length
        · obtain ⟨b, off, rfl, d0, d1⟩ := G2.out i h0
          obtain ⟨b', off', rfl, d2, d3⟩ := G4.out i h0
          have d0 := Below.keeps (bt HB1.out HBW.out) d0
          have d1 := Below.keeps (bt HB1.out HBW.out) d1
          have d2 := Below.keeps (bt HB1.out HBW.out) d2
          have d3 := Below.keeps (bt HB1.out HBW.out) d3
          have ii0 : (0 : Int) ≤ (i : Int) := by omega
          have ii1 : (i : Int) < (code.length : Int) := by omega
          have q1 : ((code[i].1.toNat : Int) == (code[i].1.toNat : Int)) = true := by simp
          have q2 : ((code[i].2.toNat : Int) == (code[i].2.toNat : Int)) = true := by simp
          go_upto_region 11 with fail
          go_quiet (fail)
          go_wp2_with fail
          go_roundw
          case rel => exact ⟨i + 1, by go_num, by omega, bt HBr.out (Below.drewN' _ _)⟩
          case measure => simp [intOf]; omega
        · obtain rfl : i = code.length := by omega
          have e0 : ¬ (code.length : Int) < (code.length : Int) := by omega
          clear h0
          go_wp2_with fail
          go_ret
          exact ⟨rfl, bt HB1.out HBW.out⟩
end Go.Proofs.YtahmacnmphjhgaaDoor
namespace Go.Proofs.YtahmacnmphjhgaaDoor

/-- does an instruction open a block, or turn it? -/
def opensV (op : UInt8) : Bool := op == 19 || op == 22 || op == 20
/-- the state ahead of instruction i -/
def stV (nt inp : Nat) (role : UInt8) (code : List VI) : Nat → Vs
  | 0 => startV code.length
  | i + 1 => (oneV nt inp role i (code.getD i (0, 0)) (stV nt inp role code i)).2
theorem runV_st {nt inp : Nat} {role : UInt8} {code : List VI} {n : Nat} {t : Vs} : ∀ (r : List VI) (i : Nat), r = code.drop i → i ≤ code.length → runV nt inp role i r (stV nt inp role code i) = (n, 0, t) →
    (∀ j, i ≤ j → j < code.length → (oneV nt inp role j (code.getD j (0, 0)) (stV nt inp role code j)).1 = 0) ∧ stV nt inp role code code.length = t ∧ overV role t = 0
  | [], i, hr, hi, h => by
    have hl : i = code.length := by
      have := congrArg List.length hr
      simp at this; omega
    subst hl
    rw [runV_nil] at h
    injection h with _ h
    injection h with h1 h2
    exact ⟨fun j h1 h2 => by omega, h2, by rw [← h2]; exact h1⟩
  | x :: r, i, hr, hi, h => by
    have hlt : i < code.length := by
      rcases Nat.lt_or_ge i code.length with h' | h'
      · exact h'
      · rw [List.drop_of_length_le h'] at hr; cases hr
    rw [List.drop_eq_getElem_cons hlt] at hr
    injection hr with hx hr
    have hx' : code.getD i (0, 0) = x := by rw [List.getD, List.getElem?_eq_getElem hlt, hx]; rfl
    by_cases h0 : (oneV nt inp role i x (stV nt inp role code i)).1 = 0
    · rw [runV_ok h0] at h
      have hst : stV nt inp role code (i + 1) = (oneV nt inp role i x (stV nt inp role code i)).2 := by rw [stV, hx']
      rw [← hst] at h
      obtain ⟨g1, g2⟩ := runV_st r (i + 1) hr hlt h
      refine ⟨fun j h1 h2 => ?_, g2⟩
      by_cases e : j = i
      · subst e; rw [hx']; exact h0
      · exact g1 j (by omega) h2
    · rw [runV_bad h0] at h
      injection h with _ h
      injection h with h1 h2
      exact absurd h1 h0
theorem effV_none (x : VI) (h : x.1 = 20 ∨ x.1 = 21) : effV x = ([], []) := by
  obtain ⟨p, a⟩ := x
  rcases h with h | h
  · obtain rfl : p = 20 := h
    rfl
  · obtain rfl : p = 21 := h
    rfl
theorem effV_one (x : VI) (h : x.1 = 19 ∨ x.1 = 22) : (effV x).1.length = 1 ∧ (effV x).2 = [] := by
  obtain ⟨p, a⟩ := x
  rcases h with h | h
  · obtain rfl : p = 19 := h
    exact ⟨rfl, rfl⟩
  · obtain rfl : p = 22 := h
    exact ⟨rfl, rfl⟩
theorem valuesV_none {k : List UInt8} {x : VI} (h : x.1 = 20 ∨ x.1 = 21) : (valuesV k x).2 = k := by
  have he := effV_none x h
  unfold valuesV
  rw [he]
  split
  · rfl
  split
  · rfl
  split
  · rfl
  simp [givesV]
theorem valuesV_one {k : List UInt8} {x : VI} (h : x.1 = 19 ∨ x.1 = 22) (h0 : (valuesV k x).1 = 0) : (valuesV k x).2 = k.take (k.length - min 1 k.length) := by
  obtain ⟨h1, h2⟩ := effV_one x h
  unfold valuesV at h0 ⊢
  rw [h1, h2] at h0 ⊢
  split at h0
  · cases h0
  rename_i hl
  rw [if_neg hl]
  split at h0
  · cases h0
  rename_i hf
  rw [if_neg hf]
  split at h0
  · cases h0
  rename_i hm
  rw [if_neg hm]
  show k.take (k.length - 1) ++ [] = _
  rw [List.append_nil]
  congr 1
  omega
theorem valuesV_le {k : List UInt8} {x : VI} (h0 : (valuesV k x).1 = 0) : (valuesV k x).2.length ≤ 16 ∧ (x.1 = 22 → (valuesV k x).2.length < 16) := by
  unfold valuesV at h0 ⊢
  split at h0
  · cases h0
  rename_i hl
  rw [if_neg hl]
  split at h0
  · cases h0
  rename_i hf
  rw [if_neg hf]
  split at h0
  · cases h0
  rename_i hm
  rw [if_neg hm]
  obtain ⟨r, hr⟩ : ∃ r, r = k.take (k.length - (effV x).1.length) ++ givesV (k.drop (k.length - (effV x).1.length)) (effV x).2 := ⟨_, rfl⟩
  rw [← hr] at hm ⊢
  refine ⟨?_, fun e => ?_⟩
  · show r.length ≤ 16
    omega
  · show r.length < 16
    have : ¬ 16 ≤ r.length := fun h => hm (.inl ⟨e, h⟩)
    omega
/-- what an instruction that is let be makes of the state -/
inductive StepB (i : Nat) (x : VI) (s s' : Vs) : Prop where
  | push (h : x.1 = 19 ∨ x.1 = 22) (k : List UInt8) (hk : k = s.kinds.take (s.kinds.length - min 1 s.kinds.length)) (hb : s'.blocks = s.blocks ++ [⟨x.1, k, k, i, false⟩]) (he : s'.ends = s.ends)
  | turn (h : x.1 = 20) (r : List Vb) (b : Vb) (hl : s.blocks = r ++ [b]) (hb : s'.blocks = r ++ [{ b with want := s.kinds, at_ := i, did := true }]) (he : s'.ends = s.ends.set b.at_ (i : Int))
  | pop (h : x.1 = 21) (r : List Vb) (b : Vb) (hl : s.blocks = r ++ [b]) (hk : s.kinds = b.want) (hb : s'.blocks = r) (he : s'.ends = s.ends.set b.at_ (i : Int))
  | rest (h : opensV x.1 = false ∧ x.1 ≠ 21) (hb : s'.blocks = s.blocks) (he : s'.ends = s.ends)
theorem getLast_split {α : Type} {l : List α} {b : α} (h : l.getLast? = some b) : l = l.dropLast ++ [b] := by
  obtain ⟨ys, rfl⟩ := List.getLast?_eq_some_iff.1 h
  rw [List.dropLast_concat]
theorem oneV_step {nt inp : Nat} {role : UInt8} {i : Nat} {x : VI} {s : Vs} (hk : s.kinds.length ≤ 16) (h0 : (oneV nt inp role i x s).1 = 0) :
    StepB i x s (oneV nt inp role i x s).2 ∧ (oneV nt inp role i x s).2.seen = s.seen ++ [s.kinds] ∧ (oneV nt inp role i x s).2.deep = max s.deep (oneV nt inp role i x s).2.kinds.length := by
  have ht := oneV_there h0
  have hbl : x.1 = 20 ∨ x.1 = 21 → s.blocks ≠ [] := by
    intro e hb
    unfold thereV at ht
    rw [hb] at ht
    rcases e with e | e
    · rw [e] at ht
      revert ht
      simp [elseBad]
    · rw [e] at ht
      revert ht
      simp
  unfold oneV at h0 ⊢
  rw [if_neg (by rw [ht]; simp)] at h0 ⊢
  split at h0
  · rename_i hv; exact absurd h0 hv
  rename_i hv
  rw [if_neg hv]
  have hv0 : (valuesV s.kinds x).1 = 0 := by simpa using hv
  clear hv
  have hcn := @valuesV_none s.kinds x
  have hco : x.1 = 19 ∨ x.1 = 22 → _ := fun h => valuesV_one (k := s.kinds) h hv0
  obtain ⟨k', hk'⟩ : ∃ k', k' = (valuesV s.kinds x).2 := ⟨_, rfl⟩
  rw [← hk'] at hcn hco h0
  simp only [← hk']
  unfold turnsV at h0 ⊢
  by_cases h19 : x.1 = 19
  · simp only [h19, if_true] at h0 ⊢
    exact ⟨.push (.inl h19) k' (hco (.inl h19)) (by rw [h19]) rfl, (by first | trivial | rfl), (by first | trivial | rfl)⟩
  by_cases h22 : x.1 = 22
  · rw [if_neg h19, if_pos h22]
    exact ⟨.push (.inr h22) k' (hco (.inr h22)) (by rw [h22]) rfl, (by first | trivial | rfl), (by first | trivial | rfl)⟩
  rw [if_neg h19, if_neg h22] at h0 ⊢
  by_cases h20 : x.1 = 20
  · have hk2 := hcn (.inl h20)
    have hne := hbl (.inl h20)
    rw [if_pos h20] at h0 ⊢
    cases hb : s.blocks.getLast? with
    | none => exact absurd (List.getLast?_eq_none_iff.1 hb) hne
    | some b =>
      refine ⟨.turn h20 s.blocks.dropLast b (getLast_split hb) ?_ rfl, (by first | trivial | rfl), (by first | trivial | rfl)⟩
      simp only [hk2]
  rw [if_neg h20] at h0 ⊢
  by_cases h21 : x.1 = 21
  · have hk2 := hcn (.inr h21)
    have hne := hbl (.inr h21)
    rw [if_pos h21] at h0 ⊢
    cases hb : s.blocks.getLast? with
    | none => exact absurd (List.getLast?_eq_none_iff.1 hb) hne
    | some b =>
      simp only [hb] at h0 ⊢
      by_cases hw : k' = b.want
      · rw [if_pos hw]
        exact ⟨.pop h21 s.blocks.dropLast b (getLast_split hb) (by rw [← hk2]; exact hw) rfl rfl, (by first | trivial | rfl), (by first | trivial | rfl)⟩
      · rw [if_neg hw] at h0; cases h0
  rw [if_neg h21]
  refine ⟨.rest ⟨?_, h21⟩ rfl rfl, (by first | trivial | rfl), (by first | trivial | rfl)⟩
  unfold opensV
  simp [h19, h22, h20]
end Go.Proofs.YtahmacnmphjhgaaDoor
