/- Lemmas for CodeLines, part 4: walks of the functions that it reaches, and the plain laws behind them. -/
import Derived.Test.YtbcjfppdeapamaaDoorShelf
import Derived.Lib.QuietBelow
import Derived.Lib.ConvBytes
import Derived.Laws.AppendOwn
import Derived.Recover
import Derived.Test.YtbcjfppdeapamaaDoorCodeLinesK3
set_option linter.unusedSimpArgs false
set_option linter.unusedVariables false
namespace Go.Proofs.YtbcjfppdeapamaaDoor
open Go.RowKit Oct
attribute [local irreducible] wpG
theorem effs_g5 : ∀ k, k < 24 → (50 ∈ (effs.getD k ([], [])).2 → (effs.getD k ([], [])).1.length = 2) := by decide
theorem eff_two (x : VI) (hx : x.1.toNat < 24) (h : 50 ∈ (effV x).2) : (effV x).1.length = 2 := by
  have hl : ∀ s : List UInt8, (replV s (regV x.2)).length = s.length := fun s => by
    unfold replV
    split
    · rename_i h; rw [h]; rcases regV_two x.2 with e | e <;> rw [e] <;> rfl
    · rfl
  unfold effV at h ⊢
  rw [hl]
  rcases replV_mem h with h | ⟨_, h⟩
  · exact effs_g5 _ hx h
  · rcases regV_two x.2 with e | e <;> (rw [e] at h; simp at h)
theorem valuesV_A {k : List UInt8} {x : VI} (h : k.length < (effV x).1.length) : valuesV k x = (130, k) := by unfold valuesV; rw [if_pos h]
theorem valuesV_B {k : List UInt8} {x : VI} (h : ¬ k.length < (effV x).1.length) (hf : fitV (effV x).1 (k.drop (k.length - (effV x).1.length)) = false) : valuesV k x = (131, k) := by unfold valuesV; rw [if_neg h, if_pos hf]
theorem valuesV_C {k : List UInt8} {x : VI} (h : ¬ k.length < (effV x).1.length) (hf : fitV (effV x).1 (k.drop (k.length - (effV x).1.length)) = true) {r : List UInt8}
    (hr : r = k.take (k.length - (effV x).1.length) ++ givesV (k.drop (k.length - (effV x).1.length)) (effV x).2) (hm : (x.1 = 22 ∧ 16 ≤ r.length) ∨ 16 < r.length) : valuesV k x = (130, k) := by
  unfold valuesV; rw [if_neg h, if_neg (by rw [hf]; decide), ← hr, if_pos hm]
theorem valuesV_D {k : List UInt8} {x : VI} (h : ¬ k.length < (effV x).1.length) (hf : fitV (effV x).1 (k.drop (k.length - (effV x).1.length)) = true) {r : List UInt8}
    (hr : r = k.take (k.length - (effV x).1.length) ++ givesV (k.drop (k.length - (effV x).1.length)) (effV x).2) (hm : ¬ ((x.1 = 22 ∧ 16 ≤ r.length) ∨ 16 < r.length)) : valuesV k x = (0, r) := by
  unfold valuesV; rw [if_neg h, if_neg (by rw [hf]; decide), ← hr, if_neg hm]
section
variable {w : World} {base G : Nat} {tv cv bv sv ev : Value} {role : UInt8} {s : Vs}
end
end Go.Proofs.YtbcjfppdeapamaaDoor
namespace Go.Proofs.YtbcjfppdeapamaaDoor
open Go.RowKit Oct
attribute [local irreducible] wpG
section
variable {α : Type}
/-- the world grows behind 'base'; rows xs and xs ++ [p] that lie behind it stand, and so do single cells of p -/
def RelA (R : Rec α) (base : Nat) (xs : List α) (p : α) (w w' : World) : Prop :=
  Below base w w' ∧ (∀ v, R.Own w base v xs → R.Own w' base v xs) ∧ (∀ v, R.Own w base v (xs ++ [p]) → R.Own w' base v (xs ++ [p])) ∧
    ∀ b : Nat, w.heap[b]? = some (.cells (R.cell p).toArray R.e (0, 0)) → w'.heap[b]? = some (.cells (R.cell p).toArray R.e (0, 0))
variable {R : Rec α} {base : Nat} {xs : List α} {p : α}
theorem RelA.refl (w : World) : RelA R base xs p w w := ⟨Below.refl _ _, fun _ h => h, fun _ h => h, fun _ h => h⟩
theorem RelA.of_bel {w w' : World} (hb : base ≤ w.heap.size) (h : Bel w w') : RelA R base xs p w w' :=
  ⟨Below.mono h hb, fun _ ho => ownsRow_below ho h, fun _ ho => ownsRow_below ho h, fun b hh => (h.block b (Array.getElem?_eq_some_iff.1 hh).1).trans hh⟩
/-- xs, of the call's own -/
def kOwnA (R : Rec α) (base : Nat) (xs : List α) (p : α) : Known (RelA R base xs p) :=
  ⟨Option Addr × Nat, fun x => .slice x.1 xs.length x.2, fun x => some fun w => R.Own w base (.slice x.1 xs.length x.2) xs, fun _ _ h _ _ hφ hB => by cases h; exact hB.2.1 _ hφ⟩
@[go_sem] theorem kOwnA_val (a : Option Addr) (c : Nat) : (kOwnA R base xs p).val (a, c) = .slice a xs.length c := rfl
/-- xs ++ [p], of the call's own -/
def kOwnB (R : Rec α) (base : Nat) (xs : List α) (p : α) : Known (RelA R base xs p) :=
  ⟨Option Addr × Nat, fun x => .slice x.1 (xs.length + 1) x.2, fun x => some fun w => R.Own w base (.slice x.1 (xs.length + 1) x.2) (xs ++ [p]), fun _ _ h _ _ hφ hB => by cases h; exact hB.2.2.1 _ hφ⟩
@[go_sem] theorem kOwnB_val (a : Option Addr) (c : Nat) : (kOwnB R base xs p).val (a, c) = .slice a (xs.length + 1) c := rfl
/-- the row of p alone -/
def kOneA (R : Rec α) (base : Nat) (xs : List α) (p : α) : Known (RelA R base xs p) :=
  ⟨Nat, fun b => .slice (some ⟨b, 0, none⟩) 1 1, fun b => some fun w => w.heap[b]? = some (.cells (R.cell p).toArray R.e (0, 0)), fun _ _ h _ _ hφ hB => by cases h; exact hB.2.2.2 _ hφ⟩
@[go_sem] theorem kOneA_val (b : Nat) : (kOneA R base xs p).val b = .slice (some ⟨b, 0, none⟩) 1 1 := rfl
theorem own_sameA {w w' : World} {v : Value} {l : List α} (h : R.Own w base v l) (h4 : ∀ k, k < w.heap.size → w'.heap[k]? = w.heap[k]?) : R.Own w' base v l := own_same h h4
/-- append(s, x) as an operation of a region that is known -/
theorem Rec.grow_app1 (R : Rec α) {o : Oper} {a : Act} {w : World} {G : Value → World → Prop} (s x : Operand) (t : TypeId)
    (ho : o.op = .call { callee := .builtin .append, args := #[s, x], argTypes := #[t, t] }) (ht : Tryd.prog.underlying t = some (.slice R.e))
    (base : Nat) (v : Value) (xs : List α) (p : α) (hown : R.Own w base v xs) (hs : a.eval s = v) (b : Nat) (hx : a.eval x = .slice (some ⟨b, 0, none⟩) 1 1) (hb : w.heap[b]? = some (.cells (R.cell p).toArray R.e (0, 0)))
    (hbytes : (xs.length + 1) * R.bytes ≤ 140737488355328) (hbase : base ≤ w.heap.size)
    (h : ∀ A C w', R.Own w' base (.slice A (xs.length + 1) C) (xs ++ [p]) → RelA R base xs p w w' → G (.slice A (xs.length + 1) C) w') : growAt Tryd.prog o a w G := by
  obtain ⟨i, hi, hz, hi1, hi2⟩ := info_parts R.info
  have hle : xs.length + 1 ≤ 140737488355328 := by have := Nat.le_mul_of_pos_right (xs.length + 1) R.bpos; omega
  obtain ⟨v', w', h1, h2, h3, h4⟩ := run_append3 (P := Tryd.prog) w base t o.type R.e i R.z R.n R.bytes ht hi hz hi1 hi2 R.zs R.pos v xs.length (R.cells xs) hown ⟨b, 0, none⟩ 1 1 (R.cell p) (by rw [Nat.one_mul]; exact R.len p) (by
    intro j u hj
    rw [Addr.add_lit, Nat.zero_add]
    simp [World.cell?, hb, hj]) (R.one p) (by unfold maxLen; omega) hbytes hbase
  have h2' : R.Own w' base v' (xs ++ [p]) := by
    unfold Rec.Own
    rw [R.cells_append, List.length_append, Rec.cells, Rec.cells, List.append_nil]
    exact h2
  have key : ∀ (l : List α), (l = xs ∨ l = xs ++ [p]) → ∀ u, R.Own w base u l → R.Own w' base u l := by
    intro l hl u hu
    rcases h4 with h4 | ⟨g, cap', cur, cur', rfl, hg, hg', hsz, htk, hoth⟩
    · exact own_sameA hu h4
    · refine ⟨hu.1, ?_⟩
      rcases hu.2 with h5 | ⟨g2, c2, cur2, rfl, hb2, hh2, hn2, hm2, hs2, ht2⟩
      · exact .inl h5
      · by_cases hgg : g2 = g
        · subst hgg
          rw [hg] at hh2
          obtain rfl : cur = cur2 := by simp only [Option.some.injEq, Obj.cells.injEq] at hh2; exact hh2.1
          refine .inr ⟨g2, c2, cur', rfl, hb2, hg', hn2, hm2, by rw [hsz]; exact hs2, ?_⟩
          rcases hl with rfl | rfl
          · have h6 : cur'.toList.take (l.length * R.n) = (cur'.toList.take ((l.length + 1) * R.n)).take (l.length * R.n) := by
              rw [List.take_take, Nat.min_eq_left (Nat.mul_le_mul_right _ (by omega))]
            rw [h6, htk, ← R.cells_length l]
            exact List.take_left
          · rw [List.length_append, List.length_singleton, htk, R.cells_append, Rec.cells, Rec.cells, List.append_nil]
        · exact .inr ⟨g2, c2, cur2, rfl, hb2, by rw [hoth g2 hgg]; exact hh2, hn2, hm2, hs2, ht2⟩
  have hrel : RelA R base xs p w w' := by
    refine ⟨(Below.refl base w).grown h3 hbase (fun k hk => (Rec.Own.ltV hown k hk).1), key xs (.inl rfl), key _ (.inr rfl), ?_⟩
    intro b' hb'
    rcases h4 with h4 | ⟨g, cap', cur, cur', rfl, hg, hg', hsz, htk, hoth⟩
    · rw [h4 b' (Array.getElem?_eq_some_iff.1 hb').1]; exact hb'
    · by_cases hgg : b' = g
      · subst hgg
        rw [hg] at hb'
        obtain rfl : cur = (R.cell p).toArray := by simp only [Option.some.injEq, Obj.cells.injEq] at hb'; exact hb'.1
        rw [hg']
        have hl1 := congrArg List.length htk
        have hcl : cur'.toList.length = R.n := by rw [show cur'.toList.length = cur'.size from Array.length_toList, hsz, List.size_toArray, R.len]
        rw [List.length_take, List.length_append, R.cells_length, R.len, hcl] at hl1
        have hp := R.pos
        have hx0 : xs.length * R.n = 0 := by
          have := Nat.min_le_right ((xs.length + 1) * R.n) R.n
          omega
        have hx1 : xs.length = 0 := by
          rcases Nat.mul_eq_zero.1 hx0 with e | e
          · exact e
          · omega
        obtain rfl : xs = [] := List.eq_nil_of_length_eq_zero hx1
        rw [Rec.cells, List.nil_append, List.length_nil, Nat.zero_add, Nat.one_mul, List.take_of_length_le (by rw [hcl]; exact Nat.le_refl _)] at htk
        rw [← htk, Array.toArray_toList]
      · rw [hoth b' hgg]; exact hb'
  obtain ⟨A, C, rfl⟩ := owns_slice h2
  unfold growAt execOp
  simp only [ho, resolve, invoke, builtin, Sem.run_bind, Sem.run_pure, Result.andThen_ok, List.map_toArray, List.map_cons, List.map_nil, hs, hx, h1]
  exact h A C w' h2' hrel
theorem one_newA {w' : World} {G : Value → World → Prop} {cs : Array Value} (hG : ∀ x w'', RelA R base xs p w' w'' → (∀ φ, (kOneA R base xs p).fact x = some φ → φ w'') → G ((kOneA R base xs p).val x) w'') (hcs : cs = (R.cell p).toArray) (hb : base ≤ w'.heap.size) :
    G (.slice (some ⟨w'.heap.size, 0, none⟩) 1 1) (w'.alloc (.cells cs R.e)) := by
  subst hcs
  exact hG w'.heap.size _ (RelA.of_bel hb (b_alloc w' _)) (fun φ h => by cases h; exact heap_alloc_last w' _)
theorem region_relA {id : Nat} {Q : Exit → Act → World → Prop} {a : Act} {w : World} {l : List Oper} (R : Rec α) (xs : List α) (p : α) (n : Nat) (L : List (Nat × Known (RelA R w.heap.size xs p))) (hm : Tryd.prog.follows .mixedOrders = true) (hB : splitB l.toArray n = true)
    (h : wpG Tryd.prog l.toArray (Bel w) (RelA R w.heap.size xs p) (knownAt L) (fun S a' => ∀ w', Bel w w' → S.all w' → wpList Tryd.prog l.toArray Q (l.drop n) a' w') 0 (l.take n) Facts.none a) : (Code.region id l.toArray true).wp Tryd.prog Q a w :=
  wp_region_grown (knownAt L) n hm hB (fun _ _ h k => h.trans k.1) (b_drew w) h
end
theorem wpG_nilVT {P : Program} {ops : Array Oper} {C : World → Prop} {R : World → World → Prop} {F : Nat → Option (Known R)} {Q : Facts → Act → Prop} {k : Nat} {S : Facts} {a : Act} (h : Q S a) : wpG P ops C R F Q k [] S a := by unfold wpG; exact h
section
variable {w : World} {base G : Nat} {tv cv bv sv ev : Value} {role : UInt8} {s : Vs}
end
end Go.Proofs.YtbcjfppdeapamaaDoor
namespace Go.Proofs.YtbcjfppdeapamaaDoor
open Go.RowKit Oct
attribute [local irreducible] wpG
/-- the ops' names -/
def namesC : List (List UInt8) :=
  [[], [116, 101, 120, 116], [110, 117, 109], [105, 110], [99, 97, 116], [108, 101, 110], [112, 97, 114, 116], [112, 97, 114, 115, 101], [115, 104, 111, 119], [97, 100, 100], [109, 117, 108], [108, 101, 115, 115], [115, 97, 109, 101], [110, 111, 116],
   [100, 114, 111, 112], [100, 117, 112], [115, 119, 97, 112], [103, 101, 116], [115, 101, 116], [105, 102], [101, 108, 115, 101], [101, 110, 100], [101, 97, 99, 104], [101, 109, 105, 116]]
def nameC (op : UInt8) : List UInt8 := namesC.getD op.toNat []
def digC (a : UInt8) : List UInt8 := Lib.itoa (a.toNat : Int)
/-- an instruction's line -/
def lineC (x : VI) : List UInt8 := if hasArg x.1 = true then nameC x.1 ++ [32] ++ digC x.2 else nameC x.1
/-- what the package's variables hold -/
structure GlobC (w : World) : Prop where
  names : ∀ k, k < 24 → w.cell? ⟨0, k, none⟩ = some (.string (bs (namesC.getD k [])))
  tab : Lib.TabIs Tryd.prog w "internal/strconv.uint64pow10" .u64 Lib.pow10Tab
  syn : ∃ te pe, w.cell? ⟨2, 0, none⟩ = some (.iface te pe)
  rng : ∃ te pe, w.cell? ⟨3, 0, none⟩ = some (.iface te pe)
  mx : ∃ m, w.cell? ⟨1, 0, none⟩ = some (.int .i64 m)
theorem var_below {P : Program} {w w' : World} {name : String} {cs : Array Value} (h : w.var? P name = some cs) (hB : Below w.heap.size w w') : w'.var? P name = some cs := by
  unfold World.var? at h ⊢
  generalize P.globalNamed name = og at h ⊢
  cases og with
  | none => cases h
  | some g =>
    simp only [Option.bind_some] at h ⊢
    cases hh : w.heap[g]? with
    | none => rw [hh] at h; cases h
    | some o => rw [hB.block g (Array.getElem?_eq_some_iff.1 hh).1, hh]; rw [hh] at h; exact h
theorem GlobC.below {w w' : World} (h : GlobC w) (hB : Below w.heap.size w w') : GlobC w' := by
  obtain ⟨h1, h2, ⟨a, b, h3⟩, ⟨c, d, h4⟩, ⟨m, h5⟩⟩ := h
  exact ⟨fun k hk => Below.keeps hB (h1 k hk), var_below h2 hB, ⟨a, b, Below.keeps hB h3⟩, ⟨c, d, Below.keeps hB h4⟩, ⟨m, Below.keeps hB h5⟩⟩
theorem names_small : ∀ s ∈ namesC, s.length ≤ 5 := by decide
theorem nameC_len (op : UInt8) : (nameC op).length ≤ 5 := by
  unfold nameC
  rw [List.getD]
  cases h : namesC[op.toNat]? with
  | none => simp
  | some s => exact names_small s (List.mem_of_getElem? h)
theorem digC_all : ∀ n : Nat, n < 256 → (Lib.itoa (n : Int)).length ≤ 3 ∧ Lib.atoiAll (Lib.itoa (n : Int)) = .ok (n : Int) ∧ (∀ c ∈ Lib.itoa (n : Int), c ≠ 32) := by decide +kernel
theorem digC_len (a : UInt8) : (digC a).length ≤ 3 := (digC_all a.toNat a.toNat_lt).1
theorem itoa_bel {n : Int} (h0 : 0 ≤ n) (h1 : n ≤ 255) {w : World} (hg : GlobC w) : Calls Tryd.prog 31 #[.int .i64 n] w fun e w' => e = .returned (.string (bs (Lib.itoa n))) ∧ Below w.heap.size w w' := by
  refine (Tryd.strconv_Itoa n (by omega) (by omega) w hg.tab).mono ?_
  rintro e w' ⟨rfl, k, os, rfl⟩
  refine ⟨rfl, ?_⟩
  have hb : Below w.heap.size w (Sort.grow (w.drewN k) os) := ⟨rfl, rfl, rfl, by show w.heap.size ≤ (w.heap ++ os).size; rw [Array.size_append]; omega, fun j hj => by show (w.heap ++ os)[j]? = _; rw [Array.getElem?_append_left hj]⟩
  exact hb
def lineR (x : VI) : Value := if insOk x = true then .tuple #[.string (bs (lineC x)), .int .i64 0] else .tuple #[.string (bs []), .int .i64 2]
theorem insOk_24 {x : VI} (h : insOk x = true) : x.1.toNat < 24 := by
  unfold insOk at h
  simp only [Bool.and_eq_true, decide_eq_true_eq] at h
  omega
set_option maxRecDepth 100000 in
set_option maxHeartbeats 8000000 in
theorem Line_any (x : VI) (w : World) (hG : GlobC w) :
    Calls Tryd.prog 17 #[.agg #[.int .u8 (x.1.toNat : Int), .int .u8 (x.2.toNat : Int)]] w fun e w' => e = .returned (lineR x) ∧ Below w.heap.size w w' := by
  obtain ⟨W1, hW1⟩ : ∃ W1, W1 = w.alloc (.cells #[.int .u8 (x.1.toNat : Int), .int .u8 (x.2.toNat : Int)] 39) := ⟨_, rfl⟩
  have hb1 : Below w.heap.size w W1 := by rw [hW1]; exact b_alloc _ _
  have hx : Blk W1 w.heap.size 39 [.int .u8 (x.1.toNat : Int), .int .u8 (x.2.toNat : Int)] := by rw [hW1]; exact Blk.new w _ _
  have x0 := hx.cell (k := 0) rfl
  have x1 := hx.cell (k := 1) rfl
  have HX := Lib.hid hx
  have HB1 := Lib.hid hb1
  have HG := Lib.hid hG
  have HIN := Lib.hid (cins_any x W1)
  obtain ⟨q, hq⟩ : ∃ q, q = insOk x := ⟨_, rfl⟩
  rw [← hq] at HIN
  have HQ := Lib.hid hq
  clear hb1 hx hG hq
  cases q with
  | false =>
    have HR := Lib.hid (show lineR x = .tuple #[.string (bs []), .int .i64 2] by unfold lineR; rw [← HQ.out]; rfl)
    go_enter Tryd.func17, Tryd.ntmps17
    go_upto_region 1 with fail
    rw [← hW1]
    clear hW1
    go_wp2_with (go_at_call 24; refine HIN.out.mono ?_; rintro e w2 ⟨rfl, hB2⟩; have HB2 := Lib.hid (bt HB1.out hB2); clear hB2)
    go_ret2
    exact ⟨by rw [HR.out]; rfl, HB2.out⟩
  | true =>
    have hx24 := insOk_24 HQ.out.symm
    obtain ⟨h, hh⟩ : ∃ h, h = hasArg x.1 := ⟨_, rfl⟩
    have HHA := Lib.hid (chas_any x.1)
    rw [← hh] at HHA
    have HH := Lib.hid hh
    have nk0 : (0 : Int) ≤ (x.1.toNat : Int) := by omega
    have nk1 : (x.1.toNat : Int) < 24 := by omega
    have a0 : (0 : Int) ≤ (x.2.toNat : Int) := by omega
    have a1 : (x.2.toNat : Int) ≤ 255 := by have := x.2.toNat_lt; omega
    have nl := nameC_len x.1
    have nl1 : ((nameC x.1).length : Int) ≤ 5 := by omega
    clear hh
    cases h with
    | false =>
      have HR := Lib.hid (show lineR x = .tuple #[.string (bs (nameC x.1)), .int .i64 0] by unfold lineR lineC; rw [← HQ.out, ← HH.out]; rfl)
      go_enter Tryd.func17, Tryd.ntmps17
      go_upto_region 1 with fail
      rw [← hW1]
      clear hW1
      go_upto_region 5 with (first | (go_at_call 24; refine HIN.out.mono ?_; rintro e w2 ⟨rfl, hB2⟩; have HB2 := Lib.hid hB2; have x0 := (HX.out.below hB2).cell (k := 0) rfl; have x1 := (HX.out.below hB2).cell (k := 1) rfl; have n0 := (HG.out.below (bt HB1.out hB2)).names x.1.toNat hx24; clear hB2) | (go_at_call 30; refine (HHA.out _).mono ?_; rintro e w3 ⟨rfl, rfl⟩))
      go_wp2_with fail
      go_ret2
      exact ⟨by rw [HR.out]; rfl, bt HB1.out HB2.out⟩
    | true =>
      have HR := Lib.hid (show lineR x = .tuple #[.string (bs (nameC x.1 ++ [32] ++ digC x.2)), .int .i64 0] by unfold lineR lineC; rw [← HQ.out, ← HH.out]; rfl)
      go_enter Tryd.func17, Tryd.ntmps17
      go_upto_region 1 with fail
      rw [← hW1]
      clear hW1
      go_upto_region 4 with (first | (go_at_call 24; refine HIN.out.mono ?_; rintro e w2 ⟨rfl, hB2⟩; have HB2 := Lib.hid hB2; have x0 := (HX.out.below hB2).cell (k := 0) rfl; have x1 := (HX.out.below hB2).cell (k := 1) rfl; have HG2 := Lib.hid (HG.out.below (bt HB1.out hB2)); have n0 := HG2.out.names x.1.toNat hx24; clear hB2) | (go_at_call 30; refine (HHA.out _).mono ?_; rintro e w3 ⟨rfl, rfl⟩))
      have HIT := Lib.hid (fun w' (hB : Below w3.heap.size w3 w') => itoa_bel a0 a1 (HG2.out.below hB))
      have aw : IntKind.i64.wrap (x.2.toNat : Int) = (x.2.toNat : Int) := by simp [IntKind.wrap, IntKind.bits, IntKind.signed]; omega
      have dl := digC_len x.2
      have dl1 : ((Lib.itoa (x.2.toNat : Int)).length : Int) ≤ 3 := by unfold digC at dl; omega
      obtain ⟨dg, hdg⟩ : ∃ dg, dg = Lib.itoa (x.2.toNat : Int) := ⟨_, rfl⟩
      rw [← hdg] at dl1 HIT
      have HDG := Lib.hid (show digC x.2 = dg from hdg.symm)
      obtain ⟨nm, hnm⟩ : ∃ nm, nm = nameC x.1 := ⟨_, rfl⟩
      have n1 : w3.cell? ⟨0, x.1.toNat, none⟩ = some (.string (bs nm)) := by rw [hnm]; exact n0
      rw [← hnm] at nl1 nl HR
      rw [HDG.out] at HR
      clear n0 hdg hnm dl
      refine region_known [(1, .exact _ (.int .u8 (x.1.toNat : Int))), (3, .exact _ (.string (bs nm))), (6, .exact _ (.int .u8 (x.2.toNat : Int))), (8, .exact _ (.string (bs dg)))] (by kernel_rfl) (by kernel_rfl) ?_
      (repeat (first | (refine wpG_skip (by kernel_rfl) (fun K hK => ?_); go_big_quiet_skip; refine wpQuiet_nil (hK _ ?_); clear hK K) | (refine wpG_quiet (by rfl) (by rfl) (fun K hK => ?_); go_big_quiet_want; go_big_quiet_op; go_big_quiet_on; refine wpQuiet_nil (hK _ ?_); clear hK K) | (refine wpG_nilOk rfl rfl rfl (by kernel_rfl) (fun K hK => ?_); go_simp; refine hK _ ?_; clear hK K)))
      refine wpG_exact rfl (by kernel_rfl) (fun w' G hB hS hG => ?_) (fun K hK => ?_)
      · have y := Below.keeps hB x0
        go_simp; exact hG _ (Bel.refl _)
      go_simp; refine hK _ ?_; clear hK K; (repeat (first | (refine wpG_skip (by kernel_rfl) (fun K hK => ?_); go_big_quiet_skip; refine wpQuiet_nil (hK _ ?_); clear hK K) | (refine wpG_quiet (by rfl) (by rfl) (fun K hK => ?_); go_big_quiet_want; go_big_quiet_op; go_big_quiet_on; refine wpQuiet_nil (hK _ ?_); clear hK K) | (refine wpG_nilOk rfl rfl rfl (by kernel_rfl) (fun K hK => ?_); go_simp; refine hK _ ?_; clear hK K)))
      refine wpG_exact rfl (by kernel_rfl) (fun w' G hB hS hG => ?_) (fun K hK => ?_)
      · have y := Below.keeps hB n1
        go_simp; exact hG _ (Bel.refl _)
      go_simp; refine hK _ ?_; clear hK K; (repeat (first | (refine wpG_skip (by kernel_rfl) (fun K hK => ?_); go_big_quiet_skip; refine wpQuiet_nil (hK _ ?_); clear hK K) | (refine wpG_quiet (by rfl) (by rfl) (fun K hK => ?_); go_big_quiet_want; go_big_quiet_op; go_big_quiet_on; refine wpQuiet_nil (hK _ ?_); clear hK K) | (refine wpG_nilOk rfl rfl rfl (by kernel_rfl) (fun K hK => ?_); go_simp; refine hK _ ?_; clear hK K)))
      refine wpG_exact rfl (by kernel_rfl) (fun w' G hB hS hG => ?_) (fun K hK => ?_)
      · have y := Below.keeps hB x1
        go_simp; exact hG _ (Bel.refl _)
      go_simp; refine hK _ ?_; clear hK K; (repeat (first | (refine wpG_skip (by kernel_rfl) (fun K hK => ?_); go_big_quiet_skip; refine wpQuiet_nil (hK _ ?_); clear hK K) | (refine wpG_quiet (by rfl) (by rfl) (fun K hK => ?_); go_big_quiet_want; go_big_quiet_op; go_big_quiet_on; refine wpQuiet_nil (hK _ ?_); clear hK K) | (refine wpG_nilOk rfl rfl rfl (by kernel_rfl) (fun K hK => ?_); go_simp; refine hK _ ?_; clear hK K)))
      refine wpG_exact rfl (by kernel_rfl) (fun w' G hB hS hG => ?_) (fun K hK => ?_)
      · have hu := HIT.out w' hB
        go_simp
        exact calls_told hG hu
      go_simp; refine hK _ ?_; clear hK K; (repeat (first | (refine wpG_skip (by kernel_rfl) (fun K hK => ?_); go_big_quiet_skip; refine wpQuiet_nil (hK _ ?_); clear hK K) | (refine wpG_quiet (by rfl) (by rfl) (fun K hK => ?_); go_big_quiet_want; go_big_quiet_op; go_big_quiet_on; refine wpQuiet_nil (hK _ ?_); clear hK K) | (refine wpG_nilOk rfl rfl rfl (by kernel_rfl) (fun K hK => ?_); go_simp; refine hK _ ?_; clear hK K)))
      refine wpG_nilVT ?_
      intro w5 hB5 hA5
      go_wp2_with fail
      go_ret2
      exact ⟨by rw [HR.out]; rfl, bt HB1.out (bt HB2.out hB5)⟩
end Go.Proofs.YtbcjfppdeapamaaDoor
namespace Go.Proofs.YtbcjfppdeapamaaDoor
open Go.RowKit Oct

/-- bytes of the call's own; the row may bear a mark behind its cells -/
def OwnE (w : World) (base : Nat) (e : TypeId) (v : Value) (l : List UInt8) : Prop :=
  ∃ g cap cur fz, v = .slice (some ⟨g, 0, none⟩) l.length cap ∧ base ≤ g ∧ w.heap[g]? = some (.cells cur e fz) ∧ (fz.2 = 0 ∨ cur.size ≤ fz.1) ∧ l.length ≤ cap ∧ cap ≤ maxLen ∧ cur.size = cap ∧ cur.toList.take l.length = bcells l
section
variable {P : Program}
theorem OwnE.slice {w : World} {base : Nat} {e : TypeId} {v : Value} {l : List UInt8} (h : OwnE w base e v l) : ∃ g cap, v = .slice (some ⟨g, 0, none⟩) l.length cap := by
  obtain ⟨g, cap, _, _, hv, _⟩ := h
  exact ⟨g, cap, hv⟩
theorem OwnE.below {w w' : World} {base : Nat} {e : TypeId} {v : Value} {l : List UInt8} (h : OwnE w base e v l) (hB : Below w.heap.size w w') : OwnE w' base e v l := by
  obtain ⟨g, cap, cur, fz, h1, h2, h3, h4⟩ := h
  exact ⟨g, cap, cur, fz, h1, h2, (hB.block g (Array.getElem?_eq_some_iff.1 h3).1).trans h3, h4⟩
theorem OwnE.cell {w : World} {base g n cap : Nat} {e : TypeId} {l : List UInt8} (h : OwnE w base e (.slice (some ⟨g, 0, none⟩) n cap) l) (j : Nat) (hj : j < l.length) : w.cell? ⟨g, j, none⟩ = some (.int .u8 (l[j].toNat : Int)) := by
  obtain ⟨g', cap', cur, fz, h1, h2, h3, _, _, _, _, h5⟩ := h
  injection h1 with e1 _ _
  cases e1
  rw [cell_of_row w g j cur e fz h3]
  have : (cur.toList.take l.length)[j]? = some (.int .u8 (l[j].toNat : Int)) := by rw [h5]; simp [bcells, hj]
  rw [List.getElem?_take, if_pos hj] at this
  simpa using this
theorem OwnE.new (w : World) (e : TypeId) (l : List UInt8) (hl : l.length ≤ maxLen) : OwnE (Lib.bytesWorld w e (bs l)) w.heap.size e (.slice (some ⟨w.heap.size, 0, none⟩) l.length (grownCap w (bs l).size 0 e)) l := by
  have hge := grownCap_ge w (bs l).size 0 e
  have hle := grownCap_le_maxLen w (bs l).size 0 e (by rw [bs_size]; exact hl)
  have hsz : (Lib.bytesCells w e (bs l)).size = grownCap w (bs l).size 0 e := by
    simp only [Lib.bytesCells, Array.size_append, Array.size_map, Array.size_replicate]
    have : (bs l).data.size = (bs l).size := rfl
    omega
  refine ⟨w.heap.size, _, _, _, rfl, Nat.le_refl _, Lib.bytesWorld_at_new w e (bs l), .inr (Nat.le_refl _), by rw [bs_size] at hge; exact hge, hle, hsz, ?_⟩
  have h1 : (Lib.bytesCells w e (bs l)).toList = bcells l ++ List.replicate (grownCap w (bs l).size 0 e - (bs l).size) (.int .u8 0) := by
    simp only [Lib.bytesCells, Array.toList_append, Array.toList_map, bs_data, bcells, Array.toList_replicate]
  rw [h1, List.take_append_of_le_length (by rw [bcells_length]; exact Nat.le_refl _), List.take_of_length_le (by rw [bcells_length]; exact Nat.le_refl _)]
theorem below_bytes (w : World) (e : TypeId) (s : ByteArray) : Below w.heap.size w (Lib.bytesWorld w e s) :=
  ⟨rfl, rfl, rfl, by rw [Lib.bytesWorld_size]; omega, fun k hk => Lib.bytesWorld_at_old w e s k hk⟩
/-- append(s, x): one byte -/
theorem append1E {ops : Array Oper} {rest : List Oper} {o : Oper} {a : Act} {Q : Exit → Act → World → Prop} (wr : World) (c : UInt8) (e : TypeId) (hgd : o.guard = none) (s x : Operand) (t : TypeId)
    (ho : o.op = .call { callee := .builtin .append, args := #[s, x], argTypes := #[t, t] })
    (base : Nat) (ht : P.underlying t = some (.slice e)) (hinfo : (P.info? e).map (fun i => (i.zero, i.size, i.bytes)) = some (some (.int .u8 0), 1, 1))
    (v : Value) (l : List UInt8) (n : Nat) (hn : l.length = n) (u : Value) (hu : u = .int .u8 (c.toNat : Int)) (hown : OwnE wr base e v l) (hs : a.eval s = v)
    (cx : Nat) (hx : a.eval x = .slice (some ⟨wr.heap.size, 0, none⟩) 1 cx) (hbytes : n + 1 ≤ 140737488355328) (hbase : base ≤ wr.heap.size)
    (h : ∀ g cap w', OwnE w' base e (.slice (some ⟨g, 0, none⟩) (n + 1) cap) (l ++ [c]) → Below base wr w' → wpList P ops Q rest (a.put o.dst (.slice (some ⟨g, 0, none⟩) (n + 1) cap)) w') :
    wpList P ops Q (o :: rest) a (wr.alloc (.cells #[u] e)) := by
  subst hn hu
  obtain ⟨i, hi, hz, hi1, hi2⟩ := info_parts hinfo
  refine wpList_plain hgd fun K hK => ?_
  obtain ⟨w, hw⟩ : ∃ w, w = wr.alloc (.cells #[.int .u8 (c.toNat : Int)] e) := ⟨_, rfl⟩
  rw [← hw]
  have hown' : OwnE w base e v l := by rw [hw]; exact hown.below (b_alloc _ _)
  have hB1 : Below base wr w := by rw [hw]; exact (Below.refl base wr).alloc hbase _
  have hnew : ∀ j u, [Value.int .u8 (c.toNat : Int)][j]? = some u → w.cell? ((⟨wr.heap.size, 0, none⟩ : Addr).add j) = some u := by
    intro j u hj
    have hj0 : j < 1 := by
      rcases Nat.lt_or_ge j 1 with h | h
      · exact h
      · simp [List.getElem?_eq_none (show [Value.int .u8 (c.toNat : Int)].length ≤ j from h)] at hj
    rw [hw, Addr.add_lit, Nat.zero_add, World.cell?_alloc_new]
    simpa using hj
  obtain ⟨g, cap, cur, fz, hv, hbg, hg, hfz, hle, hcm, hcs, htk⟩ := id hown'
  have main : ∃ g' cap' w', (Builtin.append_ #[t, t] o.type #[v, .slice (some ⟨wr.heap.size, 0, none⟩) 1 cx]).run P w = .ok (.slice (some ⟨g', 0, none⟩) (l.length + 1) cap') w' ∧ OwnE w' base e (.slice (some ⟨g', 0, none⟩) (l.length + 1) cap') (l ++ [c]) ∧ Below base w w' := by
    subst hv
    by_cases hroom : l.length + 1 ≤ cap
    · have hlt : l.length < cur.size := by omega
      have hcell : w.cell? ⟨g, l.length, none⟩ = some cur[l.length] := by rw [cell_of_row w g _ cur e fz hg]; simp [hlt]
      have hfro : w.frozen? ⟨g, l.length, none⟩ = false := by
        obtain ⟨lo, hh⟩ := fz
        simp only at hfz
        simp only [World.frozen?, hg, Bool.and_eq_false_iff, decide_eq_false_iff_not]
        omega
      have hst : (storeCells ⟨g, l.length, none⟩ [Value.int .u8 (c.toNat : Int)] 0).run P w = .ok () (w.setCell ⟨g, l.length, none⟩ (.int .u8 (c.toNat : Int))) := by
        have hadd : (⟨g, l.length, none⟩ : Addr).add 0 = ⟨g, l.length, none⟩ := Addr.add_lit ..
        simp only [storeCells, Sem.run_bind, hadd]
        rw [run_store P w _ _ _ rfl, hcell]
        simp [hfro]
      have hf := run_firstCells_some (P := P) w i.size 1 ⟨wr.heap.size, 0, none⟩ 1 cx [.int .u8 (c.toNat : Int)] (by simp [hi1]) hnew
      refine ⟨g, cap, w.setCell ⟨g, l.length, none⟩ (.int .u8 (c.toNat : Int)), ?_, ?_, ?_⟩
      · rw [hi1] at hf
        simp [Builtin.append_, run_underlying ht, sizeOf, typeInfo, hi, hi1, Builtin.lenOf, hroom, hf, Addr.add_lit, hst]
      · refine ⟨g, cap, cur.setIfInBounds l.length (.int .u8 (c.toNat : Int)), fz, by simp, hbg, ?_, by simpa using hfz, by simpa using hroom, hcm, by simpa using hcs, ?_⟩
        · rw [setCell_eq_setRow w g _ cur e fz _ hg]
          exact setRow_heap w g cur _ e fz hg
        · rw [Array.toList_setIfInBounds, List.length_append, List.length_singleton, List.take_set, List.take_succ_eq_append_getElem (by simpa using hlt), htk]
          rw [List.set_append_right _ _ (by rw [bcells_length]; exact Nat.le_refl _), bcells_length, Nat.sub_self, ← bcells_snoc]
          rfl
      · exact (Below.refl base w).setCell (p := ⟨g, l.length, none⟩) hbg _
    · have holds : ∀ j u, (bcells l)[j]? = some u → w.cell? ((⟨g, 0, none⟩ : Addr).add j) = some u := by
        intro j u hj
        have hjl : j < l.length := by
          rcases Nat.lt_or_ge j l.length with h | h
          · exact h
          · simp [List.getElem?_eq_none (show (bcells l).length ≤ j by rw [bcells_length]; exact h)] at hj
        have := hown'.cell j hjl
        rw [Addr.add_lit, Nat.zero_add, this]
        simp [bcells, hjl] at hj
        rw [hj]
      have hr := run_append_grow (P := P) w t o.type e i (.int .u8 0) ht hi hz ⟨g, 0, none⟩ l.length cap (bcells l) (by rw [bcells_length, hi1, Nat.mul_one]) holds ⟨wr.heap.size, 0, none⟩ 1 cx [.int .u8 (c.toNat : Int)] (by simp [hi1]) hnew (by omega) (by omega)
        (growslice_fits (by omega) (by rw [hi2]; omega))
      have hge := grownCap_ge w (l.length + 1) cap e
      have hlm := grownCap_le_maxLen w (l.length + 1) cap e (by unfold maxLen; omega)
      refine ⟨_, _, _, hr, ?_, (Below.refl base w).drew.alloc (by simp; have := hB1.size; omega) _⟩
      refine ⟨w.heap.size, _, _, _, by simp, by have := hB1.size; omega, World.alloc_heap_new w.drew _, .inl rfl, by simpa using hge, hlm, ?_, ?_⟩
      · simp only [Array.size_append, List.size_toArray, bcells_length, List.length_singleton, size_zeroCells]
        simp [Value.cells]
        omega
      · have e1 : (bcells l ++ [Value.int .u8 (c.toNat : Int)]).length = (l ++ [c]).length := by simp [bcells_length]
        simp only [Array.toList_append, List.append_assoc]
        rw [← List.append_assoc, ← e1, List.take_left, bcells_snoc]
  obtain ⟨g', cap', w', hr, h2, h3⟩ := main
  unfold Oper.wp execOp
  simp only [ho, resolve, invoke, builtin, Sem.run_bind, Sem.run_pure, Result.andThen_ok, List.map_toArray, List.map_cons, List.map_nil, hs, hx, hr]
  exact hK _ _ (h g' cap' w' h2 (hB1.trans h3))
/-- string(b) -/
theorem conv_ownE (src dst e : TypeId) (hs : P.underlying src = some (.slice e)) (he : P.underlying e = some (.int .u8)) (hd : P.underlying dst = some .string) (w : World) (base : Nat) (v : Value) (l : List UInt8)
    (h : OwnE w base e v l) : (convert src dst v).run P w = .ok (.string (bs l)) w := by
  obtain ⟨g, cap, rfl⟩ := h.slice
  exact run_convert_bytes_back w src dst e ⟨g, 0, none⟩ cap l hs he hd (fun j hj => by rw [Addr.add_lit, Nat.zero_add]; exact h.cell j hj)
end
end Go.Proofs.YtbcjfppdeapamaaDoor
namespace Go.Proofs.YtbcjfppdeapamaaDoor
open Go.RowKit Oct
attribute [local irreducible] wpG
theorem bs_list (l : List UInt8) : (bs l).data.toList = l := by simp [bs]
theorem cut_bel (l : List UInt8) {w : World} (hg : GlobC w) (hl : l.length ≤ 1000) : Calls Tryd.prog 32 #[.string (bs l), .string ⟨#[32]⟩] w fun e w' => e = .returned (.tuple #[.string (bs (Lib.cut l [32]).1), .string (bs (Lib.cut l [32]).2.1), .bool (Lib.cut l [32]).2.2]) ∧ Below w.heap.size w w' := by
  obtain ⟨m, hm⟩ := hg.mx
  have h := Tryd.strings_Cut (bs l) ⟨#[32]⟩ m w (by rw [bs_size]; omega) hm
  rw [bs_list] at h
  refine h.mono ?_
  rintro e w' ⟨rfl, n, rfl⟩
  exact ⟨rfl, Below.drewN' _ _⟩
/-- what Atoi's number is -/
def atoiN (r : List UInt8) : Int := match Lib.atoiAll r with | .ok v => v | .range => Lib.atoiSat r | _ => 0
theorem atoi_bel (r : List UInt8) {w : World} (hg : GlobC w) (hl : r.length ≤ 1000) : Calls Tryd.prog 33 #[.string (bs r)] w fun e w' => (∃ v, e = .returned (.tuple #[.int .i64 (atoiN r), v])) ∧ Below w.heap.size w w' := by
  obtain ⟨te, pe, hs⟩ := hg.syn
  obtain ⟨te2, pe2, hr⟩ := hg.rng
  unfold atoiN
  cases h : Lib.atoiAll r with
  | ok v =>
    refine (Tryd.strconv_Atoi_ok (bs r) (by rw [bs_size]; omega) v (by rw [bs_list]; exact h) w).mono ?_
    rintro e w' ⟨rfl, rfl | ⟨t, rfl⟩⟩
    · exact ⟨⟨_, rfl⟩, Below.refl _ _⟩
    · exact ⟨⟨_, rfl⟩, below_bytes _ _ _⟩
  | range =>
    refine (Tryd.strconv_Atoi_range (bs r) (by rw [bs_size]; omega) (by rw [bs_list]; exact h) _ w hr (.inr ⟨te2, pe2, rfl⟩)).mono ?_
    rintro e w' ⟨N, rfl, -, -, hB⟩
    rw [bs_list]
    exact ⟨⟨_, rfl⟩, hB⟩
  | _ =>
    refine (Tryd.strconv_Atoi_syntax (bs r) (by rw [bs_size]; omega) (by rw [bs_list, h]; exact fun v e => by cases e) (by rw [bs_list, h]; exact fun e => by cases e) _ w hs (.inr ⟨te, pe, rfl⟩)).mono ?_
    rintro e w' ⟨N, rfl, -, -, hB⟩
    exact ⟨⟨_, rfl⟩, hB⟩
theorem idx_bel (nm : List UInt8) {w : World} (hg : GlobC w) : Calls Tryd.prog 34 #[.slice (some ⟨0, 0, none⟩) 24 24, .string (bs nm)] w fun e w' => e = .returned (.int .i64 (Lib.idxOfS (namesC.map bs) (bs nm))) ∧ w' = w := by
  have h := Tryd.slices_Index_string 0 0 24 24 (namesC.map bs) (bs nm) w (by decide) (by decide) (fun j hj => by
    have hj' : j < 24 := by simpa [namesC] using hj
    have := hg.names j hj'
    rw [Nat.zero_add, this]
    rw [List.getD, List.getD, List.getElem?_map]
    rw [List.getElem?_eq_getElem (by show j < 24; exact hj')]
    rfl)
  rw [List.take_of_length_le (by decide)] at h
  exact h
theorem idxFrom_lt (x : ByteArray) : ∀ (zs : List ByteArray) (i : Nat), Lib.idxFromS zs x i < ((i + zs.length : Nat) : Int) ∨ Lib.idxFromS zs x i = -1
  | [], i => .inr rfl
  | z :: zs, i => by
    unfold Lib.idxFromS
    split
    · left; simp; omega
    · rcases idxFrom_lt x zs (i + 1) with h | h
      · left; simp at h ⊢; omega
      · exact .inr h
def opC (nm : List UInt8) : Nat := (max (Lib.idxOfS (namesC.map bs) (bs nm)) 0).toNat
theorem opC_lt (nm : List UInt8) : opC nm < 24 ∧ max (Lib.idxOfS (namesC.map bs) (bs nm)) 0 = (opC nm : Int) := by
  unfold opC
  rcases idxFrom_lt (bs nm) (namesC.map bs) 0 with h | h
  · have h' : Lib.idxOfS (namesC.map bs) (bs nm) < 24 := h
    omega
  · have h' : Lib.idxOfS (namesC.map bs) (bs nm) = -1 := h
    rw [h']; decide
theorem load_ins {w : World} {b : Nat} {v0 v1 : Value} (h0 : w.cell? ⟨b, 0, none⟩ = some v0) (h1 : w.cell? ⟨b, 1, none⟩ = some v1) : (loadVar 39 ⟨b, 0, none⟩).run Tryd.prog w = .ok (.agg #[v0, v1]) w := by
  go_simp
theorem cut_lens (l sep : List UInt8) : (Lib.cut l sep).1.length ≤ l.length ∧ (Lib.cut l sep).2.1.length ≤ l.length := by
  unfold Lib.cut
  split
  · exact ⟨by rw [List.length_take]; omega, by rw [List.length_drop]; omega⟩
  · exact ⟨Nat.le_refl _, Nat.zero_le _⟩
/-- the instruction that Read tries -/
def tryC (s : List UInt8) : VI := (UInt8.ofNat (opC (Lib.cut s [32]).1), UInt8.ofNat (bits BinOp.and IntKind.i64 (atoiN (Lib.cut s [32]).2.1) 255 % 256).toNat)
/-- which instruction a text is the line of -/
def readC (s : List UInt8) : Option VI := if insOk (tryC s) = true ∧ lineC (tryC s) = s then some (tryC s) else none
def readV (s : List UInt8) : Value := match readC s with
  | some x => .tuple #[.agg #[.int .u8 (x.1.toNat : Int), .int .u8 (x.2.toNat : Int)], .int .i64 0]
  | none => .tuple #[.agg #[.int .u8 0, .int .u8 0], .int .i64 7]
set_option maxRecDepth 100000 in
set_option maxHeartbeats 8000000 in
theorem Read_any (s : List UInt8) (w : World) (hG : GlobC w) (hs : s.length ≤ 1000) :
    Calls Tryd.prog 18 #[.string (bs s)] w fun e w' => e = .returned (readV s) ∧ Below w.heap.size w w' := by
  obtain ⟨W1, hW1⟩ : ∃ W1, W1 = w.alloc (.cells #[.int .u8 0, .int .u8 0] 39) := ⟨_, rfl⟩
  have hb1 : Below w.heap.size w W1 := by rw [hW1]; exact b_alloc _ _
  have hx : Blk W1 w.heap.size 39 [.int .u8 0, .int .u8 0] := by rw [hW1]; exact Blk.new w _ _
  have HX := Lib.hid hx
  have HB1 := Lib.hid hb1
  have HG := Lib.hid hG
  obtain ⟨k1, k2⟩ := cut_lens s [32]
  have HCU := Lib.hid (fun w' (hB : Below w.heap.size w w') => cut_bel s (hG.below hB) hs)
  have HTR := Lib.hid (show tryC s = (UInt8.ofNat (opC (Lib.cut s [32]).1), UInt8.ofNat (bits BinOp.and IntKind.i64 (atoiN (Lib.cut s [32]).2.1) 255 % 256).toNat) from rfl)
  obtain ⟨nm, hnm⟩ : ∃ nm, nm = (Lib.cut s [32]).1 := ⟨_, rfl⟩
  obtain ⟨rs, hrs⟩ : ∃ rs, rs = (Lib.cut s [32]).2.1 := ⟨_, rfl⟩
  obtain ⟨fd, hfd⟩ : ∃ fd, fd = (Lib.cut s [32]).2.2 := ⟨_, rfl⟩
  rw [← hnm, ← hrs, ← hfd] at HCU
  rw [← hnm, ← hrs] at HTR
  rw [← hnm] at k1
  rw [← hrs] at k2
  have HAT := Lib.hid (fun w' (hB : Below w.heap.size w w') => atoi_bel rs (hG.below hB) (by omega))
  have HID := Lib.hid (fun w' (hB : Below w.heap.size w w') => idx_bel nm (hG.below hB))
  obtain ⟨o1, o2⟩ := opC_lt nm
  obtain ⟨ix, hix⟩ : ∃ ix, ix = Lib.idxOfS (namesC.map bs) (bs nm) := ⟨_, rfl⟩
  rw [← hix] at HID o2
  obtain ⟨o, ho⟩ : ∃ o, o = opC nm := ⟨_, rfl⟩
  rw [← ho] at o1 o2 HTR
  obtain ⟨n, hn⟩ : ∃ n, n = atoiN rs := ⟨_, rfl⟩
  rw [← hn] at HAT HTR
  have m1 : max ix 0 = (o : Int) := o2
  have ow : IntKind.u8.wrap (o : Int) = (o : Int) := by simp [IntKind.wrap, IntKind.bits, IntKind.signed]; omega
  have ow2 : (o : Int) % 256 = (o : Int) := by omega
  clear hG hx hb1 hnm hrs hfd hix ho hn o2
  go_enter Tryd.func18, Tryd.ntmps18
  go_upto_region 1 with fail
  rw [← hW1]
  clear hW1
  go_upto_region 3 with (first | (go_at_call 32; refine (HCU.out _ HB1.out).mono ?_; rintro e w2 ⟨rfl, hB2⟩; have HB2 := Lib.hid hB2; clear hB2) | (go_at_call 33; refine (HAT.out _ (bt HB1.out HB2.out)).mono ?_; rintro e w3 ⟨⟨ve, rfl⟩, hB3⟩; have HB3 := Lib.hid (bt HB2.out hB3); clear hB3))
  go_upto_region 4 with (go_at_call 34; refine (HID.out _ (bt HB1.out HB3.out)).mono ?_; rintro e w4 ⟨rfl, rfl⟩)
  obtain ⟨av, hav⟩ : ∃ av, av = bits BinOp.and IntKind.i64 n 255 % 256 := ⟨_, rfl⟩
  have hav0 : 0 ≤ av ∧ av < 256 := by rw [hav]; omega
  rw [← hav] at HTR ⊢
  obtain ⟨z, hz⟩ : ∃ z, z = tryC s := ⟨_, rfl⟩
  have hz1 : (o : Int) = (z.1.toNat : Int) := by rw [hz, HTR.out]; show _ = ((UInt8.ofNat o).toNat : Int); rw [UInt8.toNat_ofNat']; omega
  have hz2 : av = (z.2.toNat : Int) := by rw [hz, HTR.out]; show _ = ((UInt8.ofNat av.toNat).toNat : Int); rw [UInt8.toNat_ofNat']; omega
  rw [hz1, hz2]
  obtain ⟨w5, hw5⟩ : ∃ w5, w5 = w4.alloc (.cells #[.int .u8 (z.1.toNat : Int), .int .u8 (z.2.toNat : Int)] 39) := ⟨_, rfl⟩
  have hb5 : Below w4.heap.size w4 w5 := by rw [hw5]; exact b_alloc _ _
  have hy : Blk w5 w4.heap.size 39 [.int .u8 (z.1.toNat : Int), .int .u8 (z.2.toNat : Int)] := by rw [hw5]; exact Blk.new w4 _ _
  rw [← hw5]
  obtain ⟨D, hD⟩ : ∃ D, D = w4.heap.size := ⟨_, rfl⟩
  rw [← hD] at hy ⊢
  have HBW := Lib.hid (bt HB3.out hb5)
  have HLN := Lib.hid (fun w' (hB : Below w5.heap.size w5 w') => Line_any z w' (HG.out.below (bt HB1.out (bt HBW.out hB))))
  have y0 := hy.cell (k := 0) rfl
  have y1 := hy.cell (k := 1) rfl
  have HY := Lib.hid hy
  have HZ := Lib.hid hz
  have hzl := nameC_len z.1
  clear hav hav0 hz hz1 hz2 hw5 hb5 hy hD m1 ow ow2 HTR HID HAT HCU o1
  by_cases hin : insOk z = true
  · have hR : lineR z = .tuple #[.string (bs (lineC z)), .int .i64 0] := by unfold lineR; rw [if_pos hin]
    rw [hR] at HLN
    obtain ⟨ln, hln⟩ : ∃ ln, ln = lineC z := ⟨_, rfl⟩
    rw [← hln] at HLN
    by_cases he : ln = s
    · have t1 : (ln != s) = false := by rw [he]; simp
      have t2 : (ln == s) = true := by rw [he]; simp
      have HV := Lib.hid (show readV s = .tuple #[.agg #[.int .u8 (z.1.toNat : Int), .int .u8 (z.2.toNat : Int)], .int .i64 0] by unfold readV readC; rw [← HZ.out, if_pos ⟨hin, by rw [← hln]; exact he⟩])
      clear hR hln he hin
      go_upto_region 5 with (go_at_call 17; refine (HLN.out _ (Below.refl _ _)).mono ?_; rintro e w6 ⟨rfl, hB6⟩; have HB6 := Lib.hid (bt HBW.out hB6); have y0 := (HY.out.below hB6).cell (k := 0) rfl; have y1 := (HY.out.below hB6).cell (k := 1) rfl; clear hB6)
      have hx6 := HX.out.below HB6.out
      have x0 := hx6.cell (k := 0) rfl
      have x1 := hx6.cell (k := 1) rfl
      have f0 := hx6.free (k := 0) (by decide)
      have f1 := hx6.free (k := 1) (by decide)
      have HX6 := Lib.hid hx6
      clear hx6
      go_wp2_with fail
      have hx7 := (HX6.out.set 0 (.int .u8 (z.1.toNat : Int))).set 1 (.int .u8 (z.2.toNat : Int))
      have hc7 := (Chg.set1R (w := w6) (b := w.heap.size) (k := 0) (v := .int .u8 (z.1.toNat : Int))).trans (Chg.set1R (k := 1) (v := .int .u8 (z.2.toNat : Int)))
      refine bodyPost_ret (results_cell_tmpR rfl rfl (load_ins (hx7.cell (k := 0) rfl) (hx7.cell (k := 1) rfl))) rfl ?_
      exact ⟨by rw [HV.out]; rfl, (bt HB1.out HB6.out).trans (hc7.below (fun j (hj : j = w.heap.size) => by omega) (bt HB1.out HB6.out).size)⟩
    · have t1 : (ln != s) = true := by simpa using he
      have t2 : (ln == s) = false := by simpa using he
      have HV := Lib.hid (show readV s = .tuple #[.agg #[.int .u8 0, .int .u8 0], .int .i64 7] by unfold readV readC; rw [← HZ.out, if_neg (fun h => he (by rw [hln]; exact h.2))])
      clear hR hln he hin
      go_upto_region 5 with (go_at_call 17; refine (HLN.out _ (Below.refl _ _)).mono ?_; rintro e w6 ⟨rfl, hB6⟩; have HB6 := Lib.hid (bt HBW.out hB6); clear hB6)
      have hx6 := HX.out.below HB6.out
      have x0 := hx6.cell (k := 0) rfl
      have x1 := hx6.cell (k := 1) rfl
      have f0 := hx6.free (k := 0) (by decide)
      have f1 := hx6.free (k := 1) (by decide)
      have HX6 := Lib.hid hx6
      clear hx6 y0 y1
      go_wp2_with fail
      have hx7 := (HX6.out.set 0 (.int .u8 0)).set 1 (.int .u8 0)
      have hc7 := (Chg.set1R (w := w6) (b := w.heap.size) (k := 0) (v := .int .u8 0)).trans (Chg.set1R (k := 1) (v := .int .u8 0))
      refine bodyPost_ret (results_cell_tmpR rfl rfl (load_ins (hx7.cell (k := 0) rfl) (hx7.cell (k := 1) rfl))) rfl ?_
      exact ⟨by rw [HV.out]; rfl, (bt HB1.out HB6.out).trans (hc7.below (fun j (hj : j = w.heap.size) => by omega) (bt HB1.out HB6.out).size)⟩
  · have hR : lineR z = .tuple #[.string (bs []), .int .i64 2] := by unfold lineR; rw [if_neg hin]
    rw [hR] at HLN
    have HV := Lib.hid (show readV s = .tuple #[.agg #[.int .u8 0, .int .u8 0], .int .i64 7] by unfold readV readC; rw [← HZ.out, if_neg (fun h => hin h.1)])
    clear hR hin
    go_upto_region 5 with (go_at_call 17; refine (HLN.out _ (Below.refl _ _)).mono ?_; rintro e w6 ⟨rfl, hB6⟩; have HB6 := Lib.hid (bt HBW.out hB6); clear hB6)
    have hx6 := HX.out.below HB6.out
    have x0 := hx6.cell (k := 0) rfl
    have x1 := hx6.cell (k := 1) rfl
    have f0 := hx6.free (k := 0) (by decide)
    have f1 := hx6.free (k := 1) (by decide)
    have HX6 := Lib.hid hx6
    clear hx6 y0 y1
    go_wp2_with fail
    have hx7 := (HX6.out.set 0 (.int .u8 0)).set 1 (.int .u8 0)
    have hc7 := (Chg.set1R (w := w6) (b := w.heap.size) (k := 0) (v := .int .u8 0)).trans (Chg.set1R (k := 1) (v := .int .u8 0))
    refine bodyPost_ret (results_cell_tmpR rfl rfl (load_ins (hx7.cell (k := 0) rfl) (hx7.cell (k := 1) rfl))) rfl ?_
    exact ⟨by rw [HV.out]; rfl, (bt HB1.out HB6.out).trans (hc7.below (fun j (hj : j = w.heap.size) => by omega) (bt HB1.out HB6.out).size)⟩
end Go.Proofs.YtbcjfppdeapamaaDoor
namespace Go.Proofs.YtbcjfppdeapamaaDoor
open Go.RowKit Oct
attribute [local irreducible] wpG
/-- what a reader that wants more panics with -/
def endV : Value := .iface 55 (.agg #[])
def endP : List PanicEntry := [{ v := endV, recovered := false }]
set_option maxRecDepth 100000 in
theorem take_ok (R : Nat) (s : List UInt8) (n : Nat) (w : World) (h : Blk w R 59 [.string (bs s)]) (hn : n ≤ s.length) (hs : s.length ≤ 100000) :
    Calls Tryd.prog 29 #[.pointer (some ⟨R, 0, none⟩), .int .i64 (n : Int)] w fun e w' => e = .returned (.string (bs (s.take n))) ∧ Blk w' R 59 [.string (bs (s.drop n))] ∧ Chg (fun x => x = R) w w' := by
  have c0 := h.cell (k := 0) rfl
  have f0 := h.free (k := 0) (by simp)
  have t1 : ¬ (s.length : Int) < (n : Int) := by omega
  have t2 : (n : Int) ≤ (s.length : Int) := by omega
  have t3 : (0 : Int) ≤ (n : Int) := by omega
  have t4 : (s.length : Int) ≤ 100000 := by omega
  have H := Lib.hid h
  clear h
  go_enter Tryd.func29, Tryd.ntmps29
  go_wp2
  go_ret
  exact ⟨rfl, H.out.set 0 _, Chg.set1R⟩
set_option maxRecDepth 100000 in
theorem take_bad (R : Nat) (s : List UInt8) (n : Nat) (w : World) (h : Blk w R 59 [.string (bs s)]) (hn : s.length < n) (hs : n ≤ 100000) :
    Calls Tryd.prog 29 #[.pointer (some ⟨R, 0, none⟩), .int .i64 (n : Int)] w fun e w' => e = .panicked endP ∧ w' = w := by
  have c0 := h.cell (k := 0) rfl
  have f0 := h.free (k := 0) (by simp)
  have t1 : (s.length : Int) < (n : Int) := by omega
  have t4 : (n : Int) ≤ 100000 := by omega
  clear h
  go_enter Tryd.func29, Tryd.ntmps29
  go_wp2
  exact ⟨rfl, rfl, rfl⟩
set_option maxRecDepth 100000 in
theorem num_ok (R : Nat) (c : UInt8) (s : List UInt8) (w : World) (h : Blk w R 59 [.string (bs (c :: s))]) (hs : s.length ≤ 90000) :
    Calls Tryd.prog 28 #[.pointer (some ⟨R, 0, none⟩)] w fun e w' => e = .returned (.int .i64 (c.toNat : Int)) ∧ Blk w' R 59 [.string (bs s)] ∧ Chg (fun x => x = R) w w' := by
  have HT := Lib.hid (take_ok R (c :: s) 1 w h (by simp) (by simp; omega))
  have cw : IntKind.i64.wrap (c.toNat : Int) = (c.toNat : Int) := by have := c.toNat_lt; simp [IntKind.wrap, IntKind.bits, IntKind.signed]; omega
  clear h
  go_enter Tryd.func28, Tryd.ntmps28
  go_wp2_with fail
  refine HT.out.mono ?_
  rintro e w2 ⟨rfl, hb, hc⟩
  have HB := Lib.hid hb
  have HC := Lib.hid hc
  clear hb hc
  go_wp2_with fail
  go_ret
  exact ⟨rfl, HB.out, HC.out⟩
set_option maxRecDepth 100000 in
theorem num_bad (R : Nat) (w : World) (h : Blk w R 59 [.string (bs [])]) :
    Calls Tryd.prog 28 #[.pointer (some ⟨R, 0, none⟩)] w fun e w' => e = .panicked endP ∧ w' = w := by
  have HT := Lib.hid (take_bad R [] 1 w h (by simp) (by omega))
  clear h
  go_enter Tryd.func28, Tryd.ntmps28
  go_wp2_with fail
  refine HT.out.mono ?_
  rintro e w2 ⟨rfl, rfl⟩
  go_wp2_with fail
  exact ⟨rfl, rfl, rfl⟩
set_option maxRecDepth 100000 in
/-- the deferred closure, behind a panic of the reader's -/
theorem catch_end (P E : Nat) (w : World) (v0 v1 x : Value) (hP : Blk w P 25 [v0, v1]) (hE : Blk w E 29 [x]) (hne : P ≠ E) :
    CallsD Tryd.prog 27 #[.pointer (some ⟨P, 0, none⟩), .pointer (some ⟨E, 0, none⟩)] (.panicking endP) w fun e u' w' =>
      e = .returned (.tuple #[]) ∧ u' = .panicking [{ v := endV, recovered := true }] ∧ Blk w' P 25 [.slice none 0 0, .slice none 0 0] ∧ Blk w' E 29 [.int .i64 7] ∧ Chg (fun j => j = P ∨ j = E) w w' := by
  unfold endP endV
  have c0 := hP.cell (k := 0) rfl
  have c1 := hP.cell (k := 1) rfl
  have c2 := hE.cell (k := 0) rfl
  have f0 := hP.free (k := 0) (by simp)
  have f1 := hP.free (k := 1) (by simp)
  have f2 := hE.free (k := 0) (by simp)
  have lP : P < w.heap.size := hP.lt
  have lE : E < w.heap.size := hE.lt
  have hne2 : E ≠ P := fun e => hne e.symm
  have HP := Lib.hid hP
  have HE := Lib.hid hE
  refine callsD_of_wpS Tryd.func27 rfl fun c₀ cs hu => ?_
  apply wpS_seq
  apply wpS_region
  simp [wpOpsS, go_sem, recoverD, hu, Tryd.ntmps27, Exit.thenS]
  have ht : (#[Value.pointer (some ⟨P, 0, none⟩), Value.pointer (some ⟨E, 0, none⟩)] ++ ((Array.replicate 15 undef).setIfInBounds 3 (Value.iface 55 (.agg #[]))).setIfInBounds 0 (Value.iface 55 (.agg #[]))) =
      #[.pointer (some ⟨P, 0, none⟩), .pointer (some ⟨E, 0, none⟩), .iface 55 (.agg #[]), undef, undef, .iface 55 (.agg #[]), undef, undef, undef, undef, undef, undef, undef, undef, undef, undef, undef] := by kernel_rfl
  rw [ht]
  clear ht
  have hta : ∀ w, (Instr.typeAssert (.iface 55 (.agg #[])) 20 55 true).run Tryd.prog w = .ok (.tuple #[.agg #[], .bool true]) w := by intro w; kernel_rfl
  refine wpS_of_wp ?_
  go_wp2
  have k1 := (HP.out.set 0 (.slice none 0 0)).set 1 (.slice none 0 0)
  have g1 : Chg (fun j => j = P ∨ j = E) w ((w.setCell ⟨P, 0, none⟩ (.slice none 0 0)).setCell ⟨P, 1, none⟩ (.slice none 0 0)) := (Chg.setCell _ _ _ (.inl rfl)).trans (Chg.setCell _ _ _ (.inl rfl))
  have k2 := HE.out.chg (X := fun j => j = P) ((Chg.set1R (w := w) (b := P) (k := 0) (v := .slice none 0 0)).trans (Chg.set1R (k := 1) (v := .slice none 0 0))) hne2
  have k3 := k2.set 0 (.int .i64 7)
  have k4 := k1.chg (X := fun j => j = E) (Chg.set1R (b := E) (k := 0) (v := .int .i64 7)) hne
  have g2 := g1.trans (Chg.setCell (X := fun j => j = P ∨ j = E) _ ⟨E, 0, none⟩ (.int .i64 7) (.inr rfl))
  exact ⟨rfl, _, rfl, _, results_none rfl _ _ _, rfl, rfl, k4.below (b_alloc _ _), k3.below (b_alloc _ _), g2.trans (Chg.alloc _ _ _)⟩
set_option maxRecDepth 100000 in
/-- the deferred closure, behind a return -/
theorem idle_end (P E : Nat) (w : World) :
    CallsD Tryd.prog 27 #[.pointer (some ⟨P, 0, none⟩), .pointer (some ⟨E, 0, none⟩)] .returning w fun e u' w' => e = .returned (.tuple #[]) ∧ u' = .returning ∧ w' = w := by
  refine callsD_of_wpS Tryd.func27 rfl fun c₀ cs hu => ?_
  apply wpS_seq
  apply wpS_region
  simp [wpOpsS, go_sem, recoverD, hu, Tryd.ntmps27, Exit.thenS]
  have ht : (#[Value.pointer (some ⟨P, 0, none⟩), Value.pointer (some ⟨E, 0, none⟩)] ++ ((Array.replicate 15 undef).setIfInBounds 3 Value.nilIface).setIfInBounds 0 Value.nilIface) =
      #[.pointer (some ⟨P, 0, none⟩), .pointer (some ⟨E, 0, none⟩), .nilIface, undef, undef, .nilIface, undef, undef, undef, undef, undef, undef, undef, undef, undef, undef, undef] := by kernel_rfl
  rw [ht]
  clear ht
  refine wpS_of_wp ?_
  go_wp2
  exact ⟨rfl, _, by cases c₀; simp_all, _, results_none rfl _ _ _, rfl, rfl, rfl⟩
end Go.Proofs.YtbcjfppdeapamaaDoor
namespace Go.Proofs.YtbcjfppdeapamaaDoor
open Go.RowKit Oct
attribute [local irreducible] wpG
/-- what Get tells -/
def GetR (w w' : World) (s : List UInt8) (e : Ending) : Prop :=
  match getC s with
  | some (t, c) => ∃ tv cv, e = .returned (.tuple #[.agg #[tv, cv], .int .i64 0]) ∧ recS.Own w' w.heap.size tv t ∧ recIns.Own w' w.heap.size cv c
  | none => e = .returned (.tuple #[.agg #[.slice none 0 0, .slice none 0 0], .int .i64 7])
theorem results_cell_cellC {P : Program} {fn : Func} {p q : Tmp} {ty tq : TypeId} {tmps : Array Value} {w : World} {v u : Value} {b c : Nat} (hr : fn.results = #[.cell p ty, .cell q tq]) (hp : tmps.getD p undef = .pointer (some ⟨b, 0, none⟩))
    (hq : tmps.getD q undef = .pointer (some ⟨c, 0, none⟩)) (hl : (loadVar ty ⟨b, 0, none⟩).run P w = .ok v w) (hl2 : (loadVar tq ⟨c, 0, none⟩).run P w = .ok u w) : (results fn tmps).run P w = .ok (.tuple #[v, u]) w := by
  simp only [Array.getD_eq_getD_getElem?] at hp hq ⊢
  simp [results, hr, Sem.run_bind, Result.andThen, hp, hq, asAddr, hl, hl2]
theorem load_err {w : World} {b : Nat} {v0 : Value} (h0 : w.cell? ⟨b, 0, none⟩ = some v0) : (loadVar 29 ⟨b, 0, none⟩).run Tryd.prog w = .ok v0 w := by
  go_simp
/-- the door, behind a panic of the reader's -/
theorem get_caught {w w4 : World} {P E : Nat} {tmps : Array Value} {v0 v1 x : Value} {s : List UInt8} (hg : getC s = none) (hP : Blk w4 P 25 [v0, v1]) (hE : Blk w4 E 29 [x]) (hne : P ≠ E) (hPw : w.heap.size ≤ P) (hEw : w.heap.size ≤ E)
    (hB : Below w.heap.size w w4) (h2 : tmps.getD 2 undef = .pointer (some ⟨P, 0, none⟩)) (h3 : tmps.getD 3 undef = .pointer (some ⟨E, 0, none⟩)) :
    Leaves Tryd.prog Tryd.f12 tmps (fun e w' => GetR w w' s e ∧ Below w.heap.size w w') [{ target := Target.fn (Fn.func 27) #[.pointer (some ⟨P, 0, none⟩), .pointer (some ⟨E, 0, none⟩)], args := #[] }] (.panicking endP) w4 := by
  refine leaves_cons (f := 27) (args := #[.pointer (some ⟨P, 0, none⟩), .pointer (some ⟨E, 0, none⟩)]) (by simp) (by simp [go_sem]) ?_
  refine (catch_end P E w4 _ _ _ hP hE hne).mono ?_
  rintro e u' w5 ⟨rfl, rfl, hp5, he5, hc5⟩
  refine ⟨_, results_cell_cellC rfl h2 h3 (load_prog (hp5.cell (k := 0) rfl) (hp5.cell (k := 1) rfl)) (load_err (he5.cell (k := 0) rfl)), ?_, hB.trans (hc5.below (fun j hj => by rcases hj with rfl | rfl <;> assumption) hB.size)⟩
  unfold GetR
  rw [hg]
/-- the door, behind a return -/
theorem get_done {w w4 : World} {P E : Nat} {tmps : Array Value} {v0 v1 x : Value} {s : List UInt8} (hP : Blk w4 P 25 [v0, v1]) (hE : Blk w4 E 29 [x])
    (hB : Below w.heap.size w w4) (h2 : tmps.getD 2 undef = .pointer (some ⟨P, 0, none⟩)) (h3 : tmps.getD 3 undef = .pointer (some ⟨E, 0, none⟩)) (hR : GetR w w4 s (.returned (.tuple #[.agg #[v0, v1], x]))) :
    Leaves Tryd.prog Tryd.f12 tmps (fun e w' => GetR w w' s e ∧ Below w.heap.size w w') [{ target := Target.fn (Fn.func 27) #[.pointer (some ⟨P, 0, none⟩), .pointer (some ⟨E, 0, none⟩)], args := #[] }] .returning w4 := by
  refine leaves_cons (f := 27) (args := #[.pointer (some ⟨P, 0, none⟩), .pointer (some ⟨E, 0, none⟩)]) (by simp) (by simp [go_sem]) ?_
  refine (idle_end P E w4).mono ?_
  rintro e u' w5 ⟨rfl, rfl, rfl⟩
  exact ⟨_, results_cell_cellC rfl h2 h3 (load_prog (hP.cell (k := 0) rfl) (hP.cell (k := 1) rfl)) (load_err (hE.cell (k := 0) rfl)), hR, hB⟩
/-- a call of a Go function as a step of a region that draws -/
theorem step_call {P : Program} {ops : Array Oper} {o : Oper} {a : Act} {w : World} {K : Act → World → Prop} {Q : Exit → Act → World → Prop} {E : Prop} {R : Ending → World → Prop} (hg : o.guard = none) (f : FuncId) (vals : Array Value)
    (hrun : (execOp a.eval o).run P w = .ok (.enter f vals) w) (hc : Calls P f vals w R)
    (h : ∀ e w', R e w' → match e with | .returned v => K (a.put o.dst v) w' | .panicked ch => Q (.panic ch) a w' | .outgrown => LetsOut Q) : if Region.wanted o (yielded ops a.tmps) = true then Oper.wp P o a w K Q else E := by
  have hw : Region.wanted o (yielded ops a.tmps) = true := by simp [Region.wanted, hg]
  rw [if_pos hw]
  unfold Oper.wp
  rw [hrun]
  refine Calls.mono hc ?_
  intro e w' hR
  have := h e w' hR
  cases e <;> exact this
/-- what is left of a region's walk behind a panic: nothing -/
theorem panic_out {P : Program} {G : Prop} {a : Act} {w : World} (hp : G) (_ : wpAny P .any #[] (fun _ _ _ => True) 0 #[] a w) : G := hp
def goneC (r : List UInt8) (k : Nat) (acc : List (List UInt8)) : Option (List (List UInt8) × List UInt8) := (takeT k r).map fun p => (acc ++ p.1, p.2)
theorem goneC_zero (r : List UInt8) (acc : List (List UInt8)) : goneC r 0 acc = some (acc, r) := by unfold goneC; rw [takeT]; simp
theorem goneC_nil (k : Nat) (acc : List (List UInt8)) : goneC [] (k + 1) acc = none := rfl
theorem goneC_bad {c : UInt8} {r : List UInt8} {k : Nat} {acc : List (List UInt8)} (h : ¬ c.toNat ≤ r.length) : goneC (c :: r) (k + 1) acc = none := by unfold goneC; rw [takeT, if_neg h]; rfl
theorem goneC_ok {c : UInt8} {r : List UInt8} {k : Nat} {acc : List (List UInt8)} (h : c.toNat ≤ r.length) : goneC (c :: r) (k + 1) acc = goneC (r.drop c.toNat) k (acc ++ [r.take c.toNat]) := by
  unfold goneC
  rw [takeT, if_pos h]
  cases takeT k (r.drop c.toNat) with
  | none => rfl
  | some p => simp
theorem getC_bad {n : UInt8} {s : List UInt8} (h : takeT n.toNat s = none) : getC (n :: s) = none := by
  unfold getC; rw [parseC, h]
theorem getC_short {n : UInt8} {s r : List UInt8} {t : List (List UInt8)} (h : takeT n.toNat s = some (t, r)) (hr : r.length < 2) : getC (n :: s) = none := by
  unfold getC; rw [parseC, h]
  match r, hr with
  | [], _ => rfl
  | [a], _ => rfl
set_option maxRecDepth 100000 in
set_option maxHeartbeats 16000000 in
theorem Get_nil (w : World) :
    Calls Tryd.prog 12 #[.string (bs [])] w fun e w' => GetR w w' [] e ∧ Below w.heap.size w w' := by
  have hmf : ∀ (fn : Fn) (first cap : Array Value) (w : World), (Instr.makeFunc fn first cap).run Tryd.prog w = .ok (.func fn first cap) w := fun _ _ _ _ => rfl
  obtain ⟨W3, hW3⟩ : ∃ W3, W3 = ((w.alloc (.cells #[.slice none 0 0, .slice none 0 0] 25)).alloc (.cells #[.int .i64 0] 29)).alloc (.cells #[.string (bs [])] 59) := ⟨_, rfl⟩
  have hp : Blk W3 w.heap.size 25 [.slice none 0 0, .slice none 0 0] := by rw [hW3]; exact ((Blk.new w _ _).below (b_alloc _ _)).below (b_alloc _ _)
  have he : Blk W3 (w.heap.size + 1) 29 [.int .i64 0] := by
    rw [hW3]
    have := (Blk.new (w.alloc (.cells #[.slice none 0 0, .slice none 0 0] 25)) [.int .i64 0] 29)
    rw [size_alV] at this
    exact this.below (b_alloc _ _)
  have hr : Blk W3 (w.heap.size + 2) 59 [.string (bs [])] := by
    rw [hW3]
    have := Blk.new ((w.alloc (.cells #[.slice none 0 0, .slice none 0 0] 25)).alloc (.cells #[.int .i64 0] 29)) [.string (bs [])] 59
    rw [size_alV, size_alV] at this
    exact this
  have hb3 : Below w.heap.size w W3 := by rw [hW3]; exact bt (b_alloc _ _) (bt (b_alloc _ _) (b_alloc _ _))
  have HP := Lib.hid hp
  have HE := Lib.hid he
  have HR := Lib.hid hr
  have HB3 := Lib.hid hb3
  clear hp he hr hb3
  have HG := Lib.hid (show getC [] = none from rfl)
  have HN := Lib.hid (num_bad _ W3 HR.out)
  go_enter_defers Tryd.func12, Tryd.ntmps12
  go_upto_region 3 with fail
  rw [← hW3]
  clear hW3
  go_wp2_with fail
  refine HN.out.mono ?_
  rintro e w4 ⟨rfl, rfl⟩
  go_wp2_with fail
  exact get_caught HG.out HP.out HE.out (by omega) (Nat.le_refl _) (by omega) HB3.out rfl rfl
end Go.Proofs.YtbcjfppdeapamaaDoor
namespace Go.Proofs.YtbcjfppdeapamaaDoor
open Go.RowKit Oct
attribute [local irreducible] wpG
theorem litC {α : Type} (R : Rec α) (w : World) (l : List α) (cs : Array Value) (hcs : cs = (R.cells l).toArray) (n : Nat) (hn : n = l.length) (hm : n ≤ 1000) : R.Row (w.alloc (.cells cs R.e)) (.slice (some ⟨w.heap.size, 0, none⟩) n n) l := by
  subst hn hcs
  refine Rec.Own.row (base := w.heap.size) ⟨by rw [Rec.cells_length], .inr ⟨w.heap.size, l.length, (R.cells l).toArray, rfl, Nat.le_refl _, ?_, Nat.le_refl _, Nat.le_trans hm (by decide), ?_, ?_⟩⟩
  · show (w.heap.push _)[w.heap.size]? = _
    rw [Array.getElem?_push_size]
  · rw [List.size_toArray, Rec.cells_length]
  · show (R.cells l).take (l.length * R.n) = _
    rw [List.take_of_length_le (by rw [Rec.cells_length]; exact Nat.le_refl _)]
theorem al1C : putR [[97]] [(1, 0)] = .tuple #[.string (bs [1, 1, 97, 1, 0, 1, 0]), .int .i64 0] := by unfold putR; rw [if_pos (by decide)]; rfl
theorem al2C : lineR (2, 7) = .tuple #[.string (bs [110, 117, 109, 32, 55]), .int .i64 0] := by
  have h : lineC (2, 7) = [110, 117, 109, 32, 55] := by decide +kernel
  unfold lineR; rw [if_pos (by decide), h]
theorem al3C : lineR (4, 0) = .tuple #[.string (bs [99, 97, 116]), .int .i64 0] := by
  have h : lineC (4, 0) = [99, 97, 116] := by decide +kernel
  unfold lineR; rw [if_pos (by decide), h]
theorem al4C : readV [99, 97, 116, 32, 48] = .tuple #[.agg #[.int .u8 0, .int .u8 0], .int .i64 7] := by
  have h : readC [99, 97, 116, 32, 48] = none := by decide +kernel
  unfold readV; rw [h]
set_option maxRecDepth 100000 in
set_option maxHeartbeats 8000000 in
theorem alive12_any (w : World) (hG : GlobC w) : Calls Tryd.prog 8 #[] w fun e w' => e = .returned (.bool true) ∧ Below w.heap.size w w' := by
  have HG := Lib.hid (fun w' (hB : Below w.heap.size w w') => hG.below hB)
  have HPU := Lib.hid (fun (w' : World) => show Calls Tryd.prog 11 #[.agg #[.slice (some ⟨w'.heap.size, 0, none⟩) 1 1, .slice (some ⟨w'.heap.size + 1, 0, none⟩) 1 1]] ((w'.alloc (.cells #[.string ⟨#[97]⟩] 9)).alloc (.cells #[.int .u8 1, .int .u8 0] 39)) fun e w'' => e = .returned (.tuple #[.string (bs [1, 1, 97, 1, 0, 1, 0]), .int .i64 0]) ∧ Below w'.heap.size w' w'' by
    have h1 := litC recS w' [[97]] #[.string ⟨#[97]⟩] rfl 1 rfl (by omega)
    have h2 := litC recIns (w'.alloc (.cells #[.string ⟨#[97]⟩] 9)) [(1, 0)] #[.int .u8 1, .int .u8 0] rfl 1 rfl (by omega)
    rw [size_alV] at h2
    have h := Put_any _ _ [[97]] [(1, 0)] _ (h1.below (b_alloc _ _)) h2 (by decide) (by decide) (by decide)
    rw [al1C] at h
    exact h.mono (fun e w'' h => ⟨h.1, bt (bt (b_alloc _ _) (b_alloc _ _)) h.2⟩))
  have HL1 := Lib.hid (fun w' (hB : Below w.heap.size w w') => show Calls Tryd.prog 17 #[.agg #[.int .u8 2, .int .u8 7]] w' fun e w'' => e = .returned (.tuple #[.string (bs [110, 117, 109, 32, 55]), .int .i64 0]) ∧ Below w'.heap.size w' w'' by
    have h := Line_any (2, 7) w' (hG.below hB)
    rw [al2C] at h
    exact h)
  have HL2 := Lib.hid (fun w' (hB : Below w.heap.size w w') => show Calls Tryd.prog 17 #[.agg #[.int .u8 4, .int .u8 0]] w' fun e w'' => e = .returned (.tuple #[.string (bs [99, 97, 116]), .int .i64 0]) ∧ Below w'.heap.size w' w'' by
    have h := Line_any (4, 0) w' (hG.below hB)
    rw [al3C] at h
    exact h)
  have HRD := Lib.hid (fun w' (hB : Below w.heap.size w w') => show Calls Tryd.prog 18 #[.string ⟨#[99, 97, 116, 32, 48]⟩] w' fun e w'' => e = .returned (.tuple #[.agg #[.int .u8 0, .int .u8 0], .int .i64 7]) ∧ Below w'.heap.size w' w'' by
    have h := Read_any [99, 97, 116, 32, 48] w' (hG.below hB) (by decide)
    rw [al4C] at h
    exact h)
  have HGN := Lib.hid (fun w' => show Calls Tryd.prog 12 #[.string ⟨#[]⟩] w' fun e w'' => e = .returned (.tuple #[.agg #[.slice none 0 0, .slice none 0 0], .int .i64 7]) ∧ Below w'.heap.size w' w'' from
    (Get_nil w').mono (fun e w'' h => ⟨by have := h.1; unfold GetR at this; rw [show getC [] = none from rfl] at this; exact this, h.2⟩))
  have HCK := Lib.hid (fun w' => show Calls Tryd.prog 10 #[.agg #[.slice none 0 0, .slice (some ⟨w'.heap.size, 0, none⟩) 1 1]] (w'.alloc (.cells #[.int .u8 0, .int .u8 0] 39)) fun e w'' => e = .returned (.int .i64 2) ∧ Below w'.heap.size w' w'' by
    have h := CCheck_any (.slice none 0 0) _ [] [(0, 0)] _ (Rec.Own.nil _ 0).row (litC recIns w' [(0, 0)] #[.int .u8 0, .int .u8 0] rfl 1 rfl (by omega)) (by decide) (by decide) (by intro s hs; cases hs)
    rw [if_neg (by decide)] at h
    exact h.mono (fun e w'' h => ⟨h.1, bt (b_alloc _ _) h.2⟩))
  clear hG
  go_enter Tryd.func8, Tryd.ntmps8
  go_wp2_with fail
  refine (HPU.out w).mono ?_
  rintro e w1 ⟨rfl, hB⟩
  have HB1 := Lib.hid hB
  clear hB HPU
  go_wp2_with fail
  refine (HL1.out _ HB1.out).mono ?_
  rintro e w2 ⟨rfl, hB⟩
  have HB2 := Lib.hid (bt HB1.out hB)
  clear hB
  go_wp2_with fail
  refine (HL2.out _ HB2.out).mono ?_
  rintro e w3 ⟨rfl, hB⟩
  have HB3 := Lib.hid (bt HB2.out hB)
  clear hB
  go_wp2_with fail
  refine (HRD.out _ HB3.out).mono ?_
  rintro e w4 ⟨rfl, hB⟩
  have HB4 := Lib.hid (bt HB3.out hB)
  clear hB
  go_wp2_with fail
  refine (HGN.out _).mono ?_
  rintro e w5 ⟨rfl, hB⟩
  have HB5 := Lib.hid (bt (bt HB4.out (b_alloc _ _)) hB)
  clear hB
  go_wp2_with fail
  have hck := HCK.out (w5.alloc (.cells #[.slice none 0 0, .slice none 0 0] 25))
  rw [size_alV] at hck
  refine hck.mono ?_
  rintro e w6 ⟨rfl, hB⟩
  have HB6 := Lib.hid ((bt HB5.out (b_alloc w5 _)).trans (hB.mono (Nat.le_trans HB5.out.size (Nat.le_succ _))))
  clear hB
  go_wp2_with fail
  go_ret
  exact ⟨rfl, HB6.out⟩
end Go.Proofs.YtbcjfppdeapamaaDoor
namespace Go.Proofs.YtbcjfppdeapamaaDoor
open Go.RowKit Oct
attribute [local irreducible] wpG
theorem readC_1 : ∀ a : Nat, a < 256 → readC (lineC (1, UInt8.ofNat a)) = some (1, UInt8.ofNat a) := by decide +kernel
theorem readC_2 : ∀ a : Nat, a < 256 → readC (lineC (2, UInt8.ofNat a)) = some (2, UInt8.ofNat a) := by decide +kernel
theorem readC_3 : ∀ a : Nat, a < 256 → readC (lineC (3, UInt8.ofNat a)) = some (3, UInt8.ofNat a) := by decide +kernel
theorem readC_17 : ∀ a : Nat, a < 256 → readC (lineC (17, UInt8.ofNat a)) = some (17, UInt8.ofNat a) := by decide +kernel
theorem readC_18 : ∀ a : Nat, a < 256 → readC (lineC (18, UInt8.ofNat a)) = some (18, UInt8.ofNat a) := by decide +kernel
theorem readC_22 : ∀ a : Nat, a < 256 → readC (lineC (22, UInt8.ofNat a)) = some (22, UInt8.ofNat a) := by decide +kernel
theorem readC_no : ∀ o : Nat, o < 24 → 1 ≤ o → hasArg (UInt8.ofNat o) = false → readC (lineC (UInt8.ofNat o, 0)) = some (UInt8.ofNat o, 0) := by decide +kernel
theorem hasArg_six {p : UInt8} (h : hasArg p = true) : p = 1 ∨ p = 2 ∨ p = 3 ∨ p = 17 ∨ p = 18 ∨ p = 22 := by
  unfold hasArg at h
  simp only [Bool.or_eq_true, beq_iff_eq] at h
  rcases h with ((((h | h) | h) | h) | h) | h <;> simp [h]
theorem readC_line {x : VI} (h : insOk x = true) : readC (lineC x) = some x := by
  obtain ⟨p, a⟩ := x
  have hp := insOk_24 h
  have ha : UInt8.ofNat a.toNat = a := UInt8.ofNat_toNat
  have hpp : UInt8.ofNat p.toNat = p := UInt8.ofNat_toNat
  have hlt := a.toNat_lt
  unfold insOk at h
  simp only [Bool.and_eq_true, decide_eq_true_eq, Bool.or_eq_true, beq_iff_eq] at h
  obtain ⟨⟨h1, h2⟩, h3⟩ := h
  cases hh : hasArg p with
  | true =>
    rcases hasArg_six hh with rfl | rfl | rfl | rfl | rfl | rfl
    · have := readC_1 a.toNat hlt; rw [ha] at this; exact this
    · have := readC_2 a.toNat hlt; rw [ha] at this; exact this
    · have := readC_3 a.toNat hlt; rw [ha] at this; exact this
    · have := readC_17 a.toNat hlt; rw [ha] at this; exact this
    · have := readC_18 a.toNat hlt; rw [ha] at this; exact this
    · have := readC_22 a.toNat hlt; rw [ha] at this; exact this
  | false =>
    have h0 : a = 0 := by
      rcases h3 with h3 | h3
      · exact h3
      · have h3' : hasArg p = true := h3
        rw [hh] at h3'; cases h3'
    subst h0
    have := readC_no p.toNat hp h1 (by rw [hpp]; exact hh)
    rw [hpp] at this
    exact this
theorem readC_sound {s : List UInt8} {x : VI} (h : readC s = some x) : insOk x = true ∧ lineC x = s := by
  unfold readC at h
  split at h
  · rename_i hc
    injection h with h
    subst h
    exact hc
  · cases h
set_option maxRecDepth 100000 in
set_option maxHeartbeats 4000000 in
theorem rName_any (op : UInt8) (w : World) : Calls Tryd.prog 36 #[.int .u8 (op.toNat : Int)] w fun e w' => e = .returned (.string (bs (nameC op))) ∧ Below w.heap.size w w' := by
  obtain ⟨W1, hW1⟩ : ∃ W1, W1 = w.alloc (.cells #[.string ⟨#[]⟩, .string ⟨#[116, 101, 120, 116]⟩, .string ⟨#[110, 117, 109]⟩, .string ⟨#[105, 110]⟩, .string ⟨#[99, 97, 116]⟩, .string ⟨#[108, 101, 110]⟩, .string ⟨#[112, 97, 114, 116]⟩, .string ⟨#[112, 97, 114, 115, 101]⟩, .string ⟨#[115, 104, 111, 119]⟩, .string ⟨#[97, 100, 100]⟩, .string ⟨#[109, 117, 108]⟩, .string ⟨#[108, 101, 115, 115]⟩, .string ⟨#[115, 97, 109, 101]⟩, .string ⟨#[110, 111, 116]⟩, .string ⟨#[100, 114, 111, 112]⟩, .string ⟨#[100, 117, 112]⟩, .string ⟨#[115, 119, 97, 112]⟩, .string ⟨#[103, 101, 116]⟩, .string ⟨#[115, 101, 116]⟩, .string ⟨#[105, 102]⟩, .string ⟨#[101, 108, 115, 101]⟩, .string ⟨#[101, 110, 100]⟩, .string ⟨#[101, 97, 99, 104]⟩, .string ⟨#[101, 109, 105, 116]⟩] 9) := ⟨_, rfl⟩
  have hb1 : Below w.heap.size w W1 := by rw [hW1]; exact b_alloc _ _
  have hr : recS.Row W1 (.slice (some ⟨w.heap.size, 0, none⟩) 24 24) namesC := by rw [hW1]; exact litC recS w namesC _ rfl 24 rfl (by omega)
  have ow : IntKind.i64.wrap (op.toNat : Int) = (op.toNat : Int) := by have := op.toNat_lt; simp [IntKind.wrap, IntKind.bits, IntKind.signed]; omega
  have o0 : (0 : Int) ≤ (op.toNat : Int) := by omega
  have HB1 := Lib.hid hb1
  by_cases h24 : op.toNat < 24
  · have t1 : ¬ (24 : Int) ≤ (op.toNat : Int) := by omega
    have t2 : (op.toNat : Int) < 24 := by omega
    obtain ⟨a', cap, hv, e6, hc⟩ := recS_open hr
    obtain ⟨b, off, ha, hu⟩ := hc op.toNat h24
    injection hv with e1 e4 e5
    rw [← e1] at ha
    injection ha with ha
    injection ha with e2 e3 _
    subst e2 e3
    have c0 : W1.cell? ⟨w.heap.size, op.toNat, none⟩ = some (.string (bs (nameC op))) := by
      rw [Nat.zero_add] at hu
      rw [hu]; unfold nameC; rw [List.getD, List.getElem?_eq_getElem h24]; rfl
    clear hb1 hr hc hu e1 e4 e5 e6
    go_enter Tryd.func36, Tryd.ntmps36
    go_upto_region 2 with fail
    rw [← hW1]
    clear hW1
    go_wp2_with fail
    go_ret
    exact ⟨rfl, HB1.out⟩
  · have t1 : (24 : Int) ≤ (op.toNat : Int) := by omega
    have HN := Lib.hid (show nameC op = [] by unfold nameC; rw [List.getD, List.getElem?_eq_none (by show 24 ≤ op.toNat; omega)]; rfl)
    clear hb1 hr
    go_enter Tryd.func36, Tryd.ntmps36
    go_upto_region 2 with fail
    rw [← hW1]
    clear hW1
    go_wp2_with fail
    go_ret
    exact ⟨by rw [HN.out]; rfl, HB1.out⟩
set_option maxRecDepth 100000 in
set_option maxHeartbeats 4000000 in
theorem rLine_any (x : VI) (w : World) (hG : GlobC w) : Calls Tryd.prog 21 #[.agg #[.int .u8 (x.1.toNat : Int), .int .u8 (x.2.toNat : Int)]] w fun e w' => e = .returned (.string (bs (lineC x))) ∧ Below w.heap.size w w' := by
  obtain ⟨W1, hW1⟩ : ∃ W1, W1 = w.alloc (.cells #[.int .u8 (x.1.toNat : Int), .int .u8 (x.2.toNat : Int)] 39) := ⟨_, rfl⟩
  have hb1 : Below w.heap.size w W1 := by rw [hW1]; exact b_alloc _ _
  have hx : Blk W1 w.heap.size 39 [.int .u8 (x.1.toNat : Int), .int .u8 (x.2.toNat : Int)] := by rw [hW1]; exact Blk.new w _ _
  have x0 := hx.cell (k := 0) rfl
  have x1 := hx.cell (k := 1) rfl
  have HB1 := Lib.hid hb1
  have HG1 := Lib.hid (hG.below hb1)
  have HHA := Lib.hid (rHas_any x.1)
  obtain ⟨h, hh⟩ : ∃ h, h = hasArg x.1 := ⟨_, rfl⟩
  rw [← hh] at HHA
  have HH := Lib.hid hh
  have nl := nameC_len x.1
  have nl1 : ((nameC x.1).length : Int) ≤ 5 := by omega
  have HNM := Lib.hid (rName_any x.1)
  clear hh hb1 hx
  cases h with
  | false =>
    have HR := Lib.hid (show lineC x = nameC x.1 by unfold lineC; rw [← HH.out]; rfl)
    go_enter Tryd.func21, Tryd.ntmps21
    go_upto_region 1 with fail
    rw [← hW1]
    clear hW1
    go_wp2_with (first | (go_at_call 35; refine (HHA.out _).mono ?_; rintro e w3 ⟨rfl, rfl⟩) | (go_at_call 36; refine (HNM.out _).mono ?_; rintro e w4 ⟨rfl, hB4⟩; have HB4 := Lib.hid (bt HB1.out hB4); clear hB4))
    go_ret
    exact ⟨by rw [HR.out]; rfl, HB4.out⟩
  | true =>
    have HR := Lib.hid (show lineC x = nameC x.1 ++ [32] ++ digC x.2 by unfold lineC; rw [← HH.out]; rfl)
    have a0 : (0 : Int) ≤ (x.2.toNat : Int) := by omega
    have a1 : (x.2.toNat : Int) ≤ 255 := by have := x.2.toNat_lt; omega
    have aw : IntKind.i64.wrap (x.2.toNat : Int) = (x.2.toNat : Int) := by simp [IntKind.wrap, IntKind.bits, IntKind.signed]; omega
    have dl := digC_len x.2
    have dl1 : ((Lib.itoa (x.2.toNat : Int)).length : Int) ≤ 3 := by unfold digC at dl; omega
    have HIT := Lib.hid (fun w' (hB : Below W1.heap.size W1 w') => itoa_bel a0 a1 (HG1.out.below hB))
    obtain ⟨dg, hdg⟩ : ∃ dg, dg = Lib.itoa (x.2.toNat : Int) := ⟨_, rfl⟩
    rw [← hdg] at dl1 HIT
    have HDG := Lib.hid (show digC x.2 = dg from hdg.symm)
    obtain ⟨nm, hnm⟩ : ∃ nm, nm = nameC x.1 := ⟨_, rfl⟩
    rw [← hnm] at nl1 nl HR HNM
    rw [HDG.out] at HR
    clear hdg hnm dl
    go_enter Tryd.func21, Tryd.ntmps21
    go_upto_region 1 with fail
    rw [← hW1]
    clear hW1
    go_upto_region 2 with (go_at_call 35; refine (HHA.out _).mono ?_; rintro e w3 ⟨rfl, rfl⟩)
    refine region_known [(1, .exact _ (.int .u8 (x.1.toNat : Int))), (2, .exact _ (.string (bs nm))), (5, .exact _ (.int .u8 (x.2.toNat : Int))), (7, .exact _ (.string (bs dg)))] (by kernel_rfl) (by kernel_rfl) ?_
    (repeat (first | (refine wpG_skip (by kernel_rfl) (fun K hK => ?_); go_big_quiet_skip; refine wpQuiet_nil (hK _ ?_); clear hK K) | (refine wpG_quiet (by rfl) (by rfl) (fun K hK => ?_); go_big_quiet_want; go_big_quiet_op; go_big_quiet_on; refine wpQuiet_nil (hK _ ?_); clear hK K) | (refine wpG_nilOk rfl rfl rfl (by kernel_rfl) (fun K hK => ?_); go_simp; refine hK _ ?_; clear hK K)))
    refine wpG_exact rfl (by kernel_rfl) (fun w' G hB hS hG => ?_) (fun K hK => ?_)
    · have y := Below.keeps hB x0
      go_simp; exact hG _ (Bel.refl _)
    go_simp; refine hK _ ?_; clear hK K; (repeat (first | (refine wpG_skip (by kernel_rfl) (fun K hK => ?_); go_big_quiet_skip; refine wpQuiet_nil (hK _ ?_); clear hK K) | (refine wpG_quiet (by rfl) (by rfl) (fun K hK => ?_); go_big_quiet_want; go_big_quiet_op; go_big_quiet_on; refine wpQuiet_nil (hK _ ?_); clear hK K) | (refine wpG_nilOk rfl rfl rfl (by kernel_rfl) (fun K hK => ?_); go_simp; refine hK _ ?_; clear hK K)))
    refine wpG_exact rfl (by kernel_rfl) (fun w' G hB hS hG => ?_) (fun K hK => ?_)
    · have hu := HNM.out w'
      go_simp
      exact calls_told hG hu
    go_simp; refine hK _ ?_; clear hK K; (repeat (first | (refine wpG_skip (by kernel_rfl) (fun K hK => ?_); go_big_quiet_skip; refine wpQuiet_nil (hK _ ?_); clear hK K) | (refine wpG_quiet (by rfl) (by rfl) (fun K hK => ?_); go_big_quiet_want; go_big_quiet_op; go_big_quiet_on; refine wpQuiet_nil (hK _ ?_); clear hK K) | (refine wpG_nilOk rfl rfl rfl (by kernel_rfl) (fun K hK => ?_); go_simp; refine hK _ ?_; clear hK K)))
    refine wpG_exact rfl (by kernel_rfl) (fun w' G hB hS hG => ?_) (fun K hK => ?_)
    · have y := Below.keeps hB x1
      go_simp; exact hG _ (Bel.refl _)
    go_simp; refine hK _ ?_; clear hK K; (repeat (first | (refine wpG_skip (by kernel_rfl) (fun K hK => ?_); go_big_quiet_skip; refine wpQuiet_nil (hK _ ?_); clear hK K) | (refine wpG_quiet (by rfl) (by rfl) (fun K hK => ?_); go_big_quiet_want; go_big_quiet_op; go_big_quiet_on; refine wpQuiet_nil (hK _ ?_); clear hK K) | (refine wpG_nilOk rfl rfl rfl (by kernel_rfl) (fun K hK => ?_); go_simp; refine hK _ ?_; clear hK K)))
    refine wpG_exact rfl (by kernel_rfl) (fun w' G hB hS hG => ?_) (fun K hK => ?_)
    · have hu := HIT.out w' hB
      go_simp
      exact calls_told hG hu
    go_simp; refine hK _ ?_; clear hK K; (repeat (first | (refine wpG_skip (by kernel_rfl) (fun K hK => ?_); go_big_quiet_skip; refine wpQuiet_nil (hK _ ?_); clear hK K) | (refine wpG_quiet (by rfl) (by rfl) (fun K hK => ?_); go_big_quiet_want; go_big_quiet_op; go_big_quiet_on; refine wpQuiet_nil (hK _ ?_); clear hK K) | (refine wpG_nilOk rfl rfl rfl (by kernel_rfl) (fun K hK => ?_); go_simp; refine hK _ ?_; clear hK K)))
    refine wpG_nilVT ?_
    intro w5 hB5 hA5
    go_wp2_with fail
    go_ret
    exact ⟨by rw [HR.out]; rfl, bt HB1.out hB5⟩
end Go.Proofs.YtbcjfppdeapamaaDoor
namespace Go.Proofs.YtbcjfppdeapamaaDoor
open Go.RowKit Oct
attribute [local irreducible] wpG
theorem no_zero (s : List UInt8) : ∀ x : VI, x.1.toNat < 1 → insOk x = true → lineC x ≠ s := by
  intro x hx h
  unfold insOk at h
  simp only [Bool.and_eq_true, decide_eq_true_eq] at h
  omega
theorem readC_nothing {s : List UInt8} (h : ∀ x : VI, x.1.toNat < 24 → insOk x = true → lineC x ≠ s) : readC s = none := by
  cases hr : readC s with
  | none => rfl
  | some x =>
    obtain ⟨h1, h2⟩ := readC_sound hr
    exact absurd h2 (h x (insOk_24 h1) h1)
theorem no_more {s : List UInt8} {o : Nat} (h : ∀ x : VI, x.1.toNat < o → insOk x = true → lineC x ≠ s) (h' : ∀ x : VI, x.1.toNat = o → x.2.toNat < 256 → insOk x = true → lineC x ≠ s) :
    ∀ x : VI, x.1.toNat < o + 1 → insOk x = true → lineC x ≠ s := by
  intro x hx
  by_cases hq : x.1.toNat < o
  · exact h x hq
  · exact h' x (by omega) x.2.toNat_lt
theorem no_next {s : List UInt8} {y : VI} (h : ∀ x : VI, x.1.toNat = y.1.toNat → x.2.toNat < y.2.toNat → insOk x = true → lineC x ≠ s) (h' : ¬ (insOk y = true ∧ lineC y = s)) :
    ∀ x : VI, x.1.toNat = y.1.toNat → x.2.toNat < y.2.toNat + 1 → insOk x = true → lineC x ≠ s := by
  intro x hx hx2 hok
  by_cases hq : x.2.toNat < y.2.toNat
  · exact h x hx hq hok
  · have : x = y := Prod.ext (UInt8.toNat_inj.1 hx) (UInt8.toNat_inj.1 (by omega))
    subst this
    exact fun he => h' ⟨hok, he⟩
theorem lineC_len (x : VI) : (lineC x).length ≤ 9 := by
  have h1 := nameC_len x.1
  have h2 := digC_len x.2
  unfold lineC
  split <;> simp <;> omega
set_option maxRecDepth 100000 in
set_option maxHeartbeats 8000000 in
theorem rRead_any (s : List UInt8) (w : World) (hG : GlobC w) (hs : s.length ≤ 1000) :
    Calls Tryd.prog 19 #[.string (bs s)] w fun e w' => e = .returned (readV s) ∧ Below w.heap.size w w' := by
  obtain ⟨W1, hW1⟩ : ∃ W1, W1 = w.alloc (.cells #[.int .u8 0, .int .u8 0] 39) := ⟨_, rfl⟩
  have hb1 : Below w.heap.size w W1 := by rw [hW1]; exact b_alloc _ _
  have hx : Blk W1 w.heap.size 39 [.int .u8 0, .int .u8 0] := by rw [hW1]; exact Blk.new w _ _
  have HX := Lib.hid hx
  have HB1 := Lib.hid hb1
  have HG := Lib.hid hG
  clear hG hx hb1
  go_enter Tryd.func19, Tryd.ntmps19
  go_upto_region 1 with fail
  rw [← hW1]
  clear hW1
  go_wp2
  go_loopw [4] (fun vo wr => ∃ o : Nat, vo = .int .u8 (o : Int) ∧ 1 ≤ o ∧ o ≤ 24 ∧ Hid (∀ x : VI, x.1.toNat < o → insOk x = true → lineC x ≠ s) ∧ Hid (Below W1.heap.size W1 wr)) (fun vo _ => 24 - (intOf vo).toNat)
  case atStart => exact ⟨1, rfl, Nat.le_refl _, by omega, no_zero s, Below.refl _ _⟩
  case round =>
    obtain ⟨o, rfl, ho1, ho2, HN, HBW⟩ := hrel
    by_cases h0 : o < 24
    · have c0 : (o : Int) ≤ 23 := by omega
      obtain ⟨W0, hW0⟩ : ∃ W, W = wr := ⟨_, rfl⟩
      subst hW0
      go_wp2
      go_loopw [5] (fun va wx => ∃ a : Nat, va = .int .i64 (a : Int) ∧ a ≤ 256 ∧ Hid (∀ x : VI, x.1.toNat = o → x.2.toNat < a → insOk x = true → lineC x ≠ s) ∧ Hid (Below W1.heap.size W1 wx)) (fun va _ => 256 - (intOf va).toNat)
      case atStart => exact ⟨0, rfl, by omega, fun x _ h => absurd h (Nat.not_lt_zero _), HBW.out⟩
      case round =>
        obtain ⟨a, rfl, ha, HA, HBX⟩ := hrel
        by_cases h1 : a < 256
        · obtain ⟨x, hxx⟩ : ∃ x : VI, x = (UInt8.ofNat o, UInt8.ofNat a) := ⟨_, rfl⟩
          have e1 : x.1.toNat = o := by rw [hxx]; show (UInt8.ofNat o).toNat = o; rw [UInt8.toNat_ofNat']; omega
          have e2 : x.2.toNat = a := by rw [hxx]; show (UInt8.ofNat a).toNat = a; rw [UInt8.toNat_ofNat']; omega
          clear hxx
          subst e1 e2
          have c1 : (x.2.toNat : Int) < 256 := by omega
          have ow : IntKind.u8.wrap (x.2.toNat : Int) = (x.2.toNat : Int) := by simp [IntKind.wrap, IntKind.bits, IntKind.signed]; omega
          have ow2 : (x.2.toNat : Int) % 256 = (x.2.toNat : Int) := by omega
          obtain ⟨W2, hW2⟩ : ∃ W2, W2 = wr.alloc (.cells #[.int .u8 (x.1.toNat : Int), .int .u8 (x.2.toNat : Int)] 39) := ⟨_, rfl⟩
          have hb2 : Below wr.heap.size wr W2 := by rw [hW2]; exact b_alloc _ _
          have hy : Blk W2 wr.heap.size 39 [.int .u8 (x.1.toNat : Int), .int .u8 (x.2.toNat : Int)] := by rw [hW2]; exact Blk.new wr _ _
          have y0 := hy.cell (k := 0) rfl
          have y1 := hy.cell (k := 1) rfl
          have HY := Lib.hid hy
          have HB2 := Lib.hid (bt HBX.out hb2)
          have HIN := Lib.hid (fun w' => rIns_any x w')
          have HLN := Lib.hid (fun w' (hB : Below W1.heap.size W1 w') => rLine_any x w' (HG.out.below (bt HB1.out hB)))
          obtain ⟨q, hq⟩ : ∃ q, q = insOk x := ⟨_, rfl⟩
          rw [← hq] at HIN
          have HQ := Lib.hid hq
          clear hb2 hy hq
          go_upto_region 8 with fail
          rw [← hW2]
          clear hW2
          cases q with
          | false =>
            have HNX := Lib.hid (no_next HA.out (fun h => by have := HQ.out; rw [h.1] at this; cases this))
            go_wp2_with (go_at_call 20; refine (HIN.out _).mono ?_; rintro e w3 ⟨rfl, hB3⟩; have HB3 := Lib.hid (bt HB2.out hB3); clear hB3)
            refine ⟨⟨x.2.toNat + 1, by go_num, by omega, HNX.out, HB3.out⟩, by simp [intOf]; omega⟩
          | true =>
            have ll := lineC_len x
            obtain ⟨ln, hln⟩ : ∃ ln, ln = lineC x := ⟨_, rfl⟩
            rw [← hln] at HLN ll
            by_cases he : ln = s
            · have t2 : (ln == s) = true := by rw [he]; simp
              have t1 : (ln != s) = false := by rw [he]; simp
              have HV := Lib.hid (show readV s = .tuple #[.agg #[.int .u8 (x.1.toNat : Int), .int .u8 (x.2.toNat : Int)], .int .i64 0] by unfold readV; rw [← he, hln, readC_line HQ.out.symm])
              clear hln he
              go_upto_region 9 with (first | (go_at_call 20; refine (HIN.out _).mono ?_; rintro e w3 ⟨rfl, hB3⟩; have HB3 := Lib.hid (bt HB2.out hB3); have HY3 := Lib.hid (HY.out.below hB3); have z0 := HY3.out.cell (k := 0) rfl; have z1 := HY3.out.cell (k := 1) rfl; clear hB3) | (go_at_call 21; refine (HLN.out _ HB3.out).mono ?_; rintro e w4 ⟨rfl, hB4⟩; have HB4 := Lib.hid (bt HB3.out hB4); have HY4 := Lib.hid (HY3.out.below hB4); clear hB4))
              have u0 := HY4.out.cell (k := 0) rfl
              have u1 := HY4.out.cell (k := 1) rfl
              have hx6 := HX.out.below HB4.out
              have x0 := hx6.cell (k := 0) rfl
              have x1 := hx6.cell (k := 1) rfl
              have f0 := hx6.free (k := 0) (by decide)
              have f1 := hx6.free (k := 1) (by decide)
              have HX6 := Lib.hid hx6
              clear hx6 y0 y1 z0 z1
              go_wp2_with fail
              have hx7 := (HX6.out.set 0 (.int .u8 (x.1.toNat : Int))).set 1 (.int .u8 (x.2.toNat : Int))
              have hc7 := (Chg.set1R (w := w4) (b := w.heap.size) (k := 0) (v := .int .u8 (x.1.toNat : Int))).trans (Chg.set1R (k := 1) (v := .int .u8 (x.2.toNat : Int)))
              refine bodyPost_ret (results_cell_tmpR rfl rfl (load_ins (hx7.cell (k := 0) rfl) (hx7.cell (k := 1) rfl))) rfl ?_
              exact ⟨by rw [HV.out]; rfl, (bt HB1.out HB4.out).trans (hc7.below (fun j (hj : j = w.heap.size) => by omega) (bt HB1.out HB4.out).size)⟩
            · have t2 : (ln == s) = false := by simpa using he
              have t1 : (ln != s) = true := by simpa using he
              have HNX := Lib.hid (no_next HA.out (fun h => he (by rw [hln]; exact h.2)))
              clear hln he
              go_wp2_with (first | (go_at_call 20; refine (HIN.out _).mono ?_; rintro e w3 ⟨rfl, hB3⟩; have HB3 := Lib.hid (bt HB2.out hB3); have HY3 := Lib.hid (HY.out.below hB3); have z0 := HY3.out.cell (k := 0) rfl; have z1 := HY3.out.cell (k := 1) rfl; clear hB3) | (go_at_call 21; refine (HLN.out _ HB3.out).mono ?_; rintro e w4 ⟨rfl, hB4⟩; have HB4 := Lib.hid (bt HB3.out hB4); clear hB4))
              refine ⟨⟨x.2.toNat + 1, by go_num, by omega, HNX.out, HB4.out⟩, by simp [intOf]; omega⟩
        · have c1 : ¬ (a : Int) < 256 := by omega
          obtain rfl : a = 256 := by omega
          have HNX := Lib.hid (no_more HN.out HA.out)
          go_wp2_with fail
          refine ⟨⟨o + 1, by go_num, by omega, by omega, HNX.out, HBX.out⟩, by simp [intOf]; omega⟩
    · have c0 : ¬ (o : Int) ≤ 23 := by omega
      obtain rfl : o = 24 := by omega
      have HV := Lib.hid (show readV s = .tuple #[.agg #[.int .u8 0, .int .u8 0], .int .i64 7] by unfold readV; rw [readC_nothing HN.out])
      have hx6 := HX.out.below HBW.out
      have x0 := hx6.cell (k := 0) rfl
      have x1 := hx6.cell (k := 1) rfl
      have f0 := hx6.free (k := 0) (by decide)
      have f1 := hx6.free (k := 1) (by decide)
      have HX6 := Lib.hid hx6
      clear hx6
      go_wp2_with fail
      have hx7 := (HX6.out.set 0 (.int .u8 0)).set 1 (.int .u8 0)
      have hc7 := (Chg.set1R (w := wr) (b := w.heap.size) (k := 0) (v := .int .u8 0)).trans (Chg.set1R (k := 1) (v := .int .u8 0))
      refine bodyPost_ret (results_cell_tmpR rfl rfl (load_ins (hx7.cell (k := 0) rfl) (hx7.cell (k := 1) rfl))) rfl ?_
      exact ⟨by rw [HV.out]; rfl, (bt HB1.out HBW.out).trans (hc7.below (fun j (hj : j = w.heap.size) => by omega) (bt HB1.out HBW.out).size)⟩
end Go.Proofs.YtbcjfppdeapamaaDoor
namespace Go.Proofs.YtbcjfppdeapamaaDoor
open Go.RowKit Oct
attribute [local irreducible] wpG
theorem readV_parts (s : List UInt8) : ∃ y1 y2 er : Int, readV s = .tuple #[.agg #[.int .u8 y1, .int .u8 y2], .int .i64 er] := by
  unfold readV
  cases readC s with
  | none => exact ⟨_, _, _, rfl⟩
  | some x => exact ⟨_, _, _, rfl⟩
theorem lineR_parts (x : VI) : ∃ (lx : List UInt8) (ex : Int), lineR x = .tuple #[.string (bs lx), .int .i64 ex] ∧ (insOk x = true → lx = lineC x ∧ ex = 0) ∧ (insOk x = false → lx = [] ∧ ex = 2) := by
  by_cases h : insOk x = true
  · exact ⟨lineC x, 0, by rw [lineR, if_pos h], fun _ => ⟨rfl, rfl⟩, fun h' => by rw [h] at h'; cases h'⟩
  · exact ⟨[], 2, by rw [lineR, if_neg h], fun h' => absurd h' h, fun _ => ⟨rfl, rfl⟩⟩
set_option maxRecDepth 100000 in
set_option maxHeartbeats 8000000 in
theorem CodeLines_any (x : VI) (s : List UInt8) (w : World) (hs0 : s.length ≤ 140737488355328) (hG : GlobC w) :
    Calls Tryd.prog 4 #[.agg #[.int .u8 (x.1.toNat : Int), .int .u8 (x.2.toNat : Int)], .string (bs s)] w fun e w' => e = .returned (.bool true) ∧ Below w.heap.size w w' := by
  obtain ⟨W1, hW1⟩ : ∃ W1, W1 = w.alloc (.cells #[.int .u8 (x.1.toNat : Int), .int .u8 (x.2.toNat : Int)] 39) := ⟨_, rfl⟩
  have hb1 : Below w.heap.size w W1 := by rw [hW1]; exact b_alloc _ _
  have hx : Blk W1 w.heap.size 39 [.int .u8 (x.1.toNat : Int), .int .u8 (x.2.toNat : Int)] := by rw [hW1]; exact Blk.new w _ _
  have HX := Lib.hid hx
  have HB1 := Lib.hid hb1
  have HG1 := Lib.hid (hG.below hb1)
  have HAL := Lib.hid (fun w' (hB : Below W1.heap.size W1 w') => alive12_any w' (HG1.out.below hB))
  clear hx hb1 hG
  by_cases h100 : s.length ≤ 100
  · have c0 : ¬ (100 : Int) < (s.length : Int) := by omega
    have HLN := Lib.hid (fun w' (hB : Below W1.heap.size W1 w') => Line_any x w' (HG1.out.below hB))
    have HRD := Lib.hid (fun w' (hB : Below W1.heap.size W1 w') => Read_any s w' (HG1.out.below hB) (by omega))
    have HRR := Lib.hid (fun w' (hB : Below W1.heap.size W1 w') => rRead_any s w' (HG1.out.below hB) (by omega))
    have HRL := Lib.hid (fun w' (hB : Below W1.heap.size W1 w') => rLine_any x w' (HG1.out.below hB))
    have HIN := Lib.hid (fun w' => rIns_any x w')
    obtain ⟨y1, y2, er, hv⟩ := readV_parts s
    obtain ⟨lx, ex, hl1, hl2, hl3⟩ := lineR_parts x
    rw [hv] at HRD HRR
    rw [hl1] at HLN
    have HL2 := Lib.hid hl2
    have HL3 := Lib.hid hl3
    have ll := lineC_len x
    obtain ⟨ln, hln⟩ : ∃ ln, ln = lineC x := ⟨_, rfl⟩
    rw [← hln] at HRL ll HL2
    obtain ⟨q, hq⟩ : ∃ q, q = insOk x := ⟨_, rfl⟩
    rw [← hq] at HIN HL2 HL3
    clear hv hl1 hl2 hl3 hln hq h100
    go_enter Tryd.func4, Tryd.ntmps4
    go_upto_region 1 with fail
    rw [← hW1]
    clear hW1
    have x0 := HX.out.cell (k := 0) rfl
    have x1 := HX.out.cell (k := 1) rfl
    go_upto_region 4 with (go_at_call 17; refine (HLN.out _ (Below.refl _ _)).mono ?_; rintro e w2 ⟨rfl, hB2⟩; have HB2 := Lib.hid hB2; clear hB2)
    clear x0 x1
    go_upto_region 5 with (go_at_call 18; refine (HRD.out _ HB2.out).mono ?_; rintro e w3 ⟨rfl, hB3⟩; have HB3 := Lib.hid (bt HB2.out hB3); clear hB3)
    obtain ⟨W4, hW4⟩ : ∃ W, W = w3.alloc (.cells #[.int .u8 y1, .int .u8 y2] 39) := ⟨_, rfl⟩
    have hb4 : Below w3.heap.size w3 W4 := by rw [hW4]; exact b_alloc _ _
    have hy : Blk W4 w3.heap.size 39 [.int .u8 y1, .int .u8 y2] := by rw [hW4]; exact Blk.new w3 _ _
    rw [← hW4]
    obtain ⟨D, hD⟩ : ∃ D, D = w3.heap.size := ⟨_, rfl⟩
    rw [← hD] at hy ⊢
    have HY := Lib.hid hy
    have HB4 := Lib.hid (bt HB3.out hb4)
    clear hy hb4 hW4 hD
    go_upto_region 6 with (go_at_call 19; refine (HRR.out _ HB4.out).mono ?_; rintro e w5 ⟨rfl, hB5⟩; have HB5 := Lib.hid (bt HB4.out hB5); have HY5 := Lib.hid (HY.out.below hB5); clear hB5)
    obtain ⟨W6, hW6⟩ : ∃ W, W = w5.alloc (.cells #[.int .u8 y1, .int .u8 y2] 39) := ⟨_, rfl⟩
    have hb6 : Below w5.heap.size w5 W6 := by rw [hW6]; exact b_alloc _ _
    have hz : Blk W6 w5.heap.size 39 [.int .u8 y1, .int .u8 y2] := by rw [hW6]; exact Blk.new w5 _ _
    rw [← hW6]
    obtain ⟨E, hE⟩ : ∃ E, E = w5.heap.size := ⟨_, rfl⟩
    rw [← hE] at hz ⊢
    have HB6 := Lib.hid (bt HB5.out hb6)
    have y0 := (HY5.out.below hb6).cell (k := 0) rfl
    have y1' := (HY5.out.below hb6).cell (k := 1) rfl
    have z0 := hz.cell (k := 0) rfl
    have z1 := hz.cell (k := 1) rfl
    have hx6 := HX.out.below HB6.out
    have x0 := hx6.cell (k := 0) rfl
    have x1 := hx6.cell (k := 1) rfl
    have HX6 := Lib.hid hx6
    clear hz hb6 hW6 hE hx6
    cases q with
    | false =>
      obtain ⟨rfl, rfl⟩ := HL3.out rfl
      rw [show Value.string (bs ([] : List UInt8)) = .string ⟨#[]⟩ from rfl]
      go_wp2_with (first | (go_at_call 20; refine (HIN.out _).mono ?_; rintro e w7 ⟨rfl, hB7⟩; have HB7 := Lib.hid (bt HB6.out hB7); clear hB7) | (go_at_call 8; refine (HAL.out _ HB7.out).mono ?_; rintro e w8 ⟨rfl, hB8⟩; have HB8 := Lib.hid (bt HB7.out hB8); clear hB8))
      go_ret
      exact ⟨rfl, bt HB1.out HB8.out⟩
    | true =>
      obtain ⟨rfl, rfl⟩ := HL2.out rfl
      have t0 : (lx == lx) = true := by simp
      go_wp2_with (first | (go_at_call 20; refine (HIN.out _).mono ?_; rintro e w7 ⟨rfl, hB7⟩; have HB7 := Lib.hid (bt HB6.out hB7); have x0 := (HX6.out.below hB7).cell (k := 0) rfl; have x1 := (HX6.out.below hB7).cell (k := 1) rfl; clear hB7) | (go_at_call 21; refine (HRL.out _ HB7.out).mono ?_; rintro e w8 ⟨rfl, hB8⟩; have HB8 := Lib.hid (bt HB7.out hB8); clear hB8) | (go_at_call 8; refine (HAL.out _ HB8.out).mono ?_; rintro e w9 ⟨rfl, hB9⟩; have HB9 := Lib.hid (bt HB8.out hB9); clear hB9))
      go_ret
      exact ⟨rfl, bt HB1.out HB9.out⟩
  · have c0 : (100 : Int) < (s.length : Int) := by omega
    clear h100
    go_enter Tryd.func4, Tryd.ntmps4
    go_upto_region 1 with fail
    rw [← hW1]
    clear hW1
    go_wp2_with (go_at_call 8; refine (HAL.out _ (Below.refl _ _)).mono ?_; rintro e w2 ⟨rfl, hB2⟩; have HB2 := Lib.hid hB2; clear hB2)
    go_ret
    exact ⟨rfl, bt HB1.out HB2.out⟩
end Go.Proofs.YtbcjfppdeapamaaDoor
