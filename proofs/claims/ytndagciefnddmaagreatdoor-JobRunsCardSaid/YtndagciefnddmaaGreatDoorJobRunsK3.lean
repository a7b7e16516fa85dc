/- Lemmas for JobRuns, part 3: walks of the functions that it reaches, and the plain laws behind them. -/
import Derived.Lib.AtoiAll
import Derived.Lib.ItoaLen
import Derived.Lib.ParseIntBTie
import Derived.RowKit
import Derived.Laws.RangeString
import Derived.Deep.DeepCutAuto
import Derived.Test.YtndagciefnddmaaGreatDoorJobRunsK2
set_option linter.unusedSimpArgs false
set_option linter.unusedVariables false
namespace Go.Proofs.YtndagciefnddmaaGreatDoor
open Go.RowKit
abbrev MV := Int × List UInt8
structure Mc where
  pc : Nat
  st : List MV
  rg : List MV
  op : List (Nat × List (List UInt8))
  pr : List (List UInt8 × List UInt8)
structure Me where
  tx : List (List UInt8)
  code : List VI
  ins : List (List UInt8)
  ends : List Int
def splitM (c : UInt8) : List UInt8 → List (List UInt8)
  | [] => [[]]
  | x :: r => if x = c then [] :: splitM c r else
    match splitM c r with
    | [] => [[x]]
    | h :: t => (x :: h) :: t
def piecesM (s : List UInt8) (c : UInt8) : List (List UInt8) := if s = [] then [] else splitM c s
def clampM (x : Int) (n : Nat) : Nat := (min (max x 0) (n : Int)).toNat
def partM (s : List UInt8) (at_ n : Int) : List UInt8 := (s.drop (clampM at_ s.length)).take (clampM n (s.drop (clampM at_ s.length)).length)
def parseM (s : List UInt8) : Int := match Lib.atoiAll s with
  | .ok v => if Lib.itoa v = s then v else 0
  | _ => 0
def bitM (b : Bool) : MV := (if b = true then 1 else 0, [])
def loopEnd (E : Me) (i : Nat) : Bool := (List.range E.code.length).any fun j => (E.code.getD j (0, 0)).1 == 22 && E.ends.getD j 0 == (i : Int)
def doN (E : Me) (n : Nat) (y : UInt8) (pc : Nat) (st rg : List MV) (op : List (Nat × List (List UInt8))) (pr : List (List UInt8 × List UInt8)) : Nat × Mc :=
  match n, st with
  | 1, s => (0, ⟨pc + 1, (0, E.tx.getD y.toNat []) :: s, rg, op, pr⟩)
  | 2, s => (0, ⟨pc + 1, ((y.toNat : Int), []) :: s, rg, op, pr⟩)
  | 3, s => (0, ⟨pc + 1, (0, E.ins.getD y.toNat []) :: s, rg, op, pr⟩)
  | 4, b :: a :: s => if 1024 < a.2.length + b.2.length then (5, ⟨pc, st, rg, op, pr⟩) else (0, ⟨pc + 1, (0, a.2 ++ b.2) :: s, rg, op, pr⟩)
  | 5, a :: s => (0, ⟨pc + 1, ((a.2.length : Int), []) :: s, rg, op, pr⟩)
  | 6, n :: a :: t :: s => (0, ⟨pc + 1, (0, partM t.2 a.1 n.1) :: s, rg, op, pr⟩)
  | 7, a :: s => (0, ⟨pc + 1, (parseM a.2, []) :: s, rg, op, pr⟩)
  | 8, a :: s => (0, ⟨pc + 1, (0, Lib.itoa a.1) :: s, rg, op, pr⟩)
  | 9, b :: a :: s => (0, ⟨pc + 1, (wrap64 (a.1 + b.1), []) :: s, rg, op, pr⟩)
  | 10, b :: a :: s => (0, ⟨pc + 1, (wrap64 (a.1 * b.1), []) :: s, rg, op, pr⟩)
  | 11, b :: a :: s => (0, ⟨pc + 1, bitM (decide (a.1 < b.1)) :: s, rg, op, pr⟩)
  | 12, b :: a :: s => (0, ⟨pc + 1, bitM (a.2 == b.2) :: s, rg, op, pr⟩)
  | 13, a :: s => (0, ⟨pc + 1, bitM (a.1 == 0) :: s, rg, op, pr⟩)
  | 14, _ :: s => (0, ⟨pc + 1, s, rg, op, pr⟩)
  | 15, a :: s => (0, ⟨pc + 1, a :: a :: s, rg, op, pr⟩)
  | 16, b :: a :: s => (0, ⟨pc + 1, a :: b :: s, rg, op, pr⟩)
  | 17, s => (0, ⟨pc + 1, rg.getD y.toNat (0, []) :: s, rg, op, pr⟩)
  | 18, a :: s => (0, ⟨pc + 1, s, rg.set y.toNat a, op, pr⟩)
  | 19, a :: s => (0, ⟨if a.1 = 0 then (E.ends.getD pc 0).toNat + 1 else pc + 1, s, rg, op, pr⟩)
  | 20, s => (0, ⟨(E.ends.getD pc 0).toNat, s, rg, op, pr⟩)
  | 21, s => if loopEnd E pc = true then
      match op with
      | (a, p :: ps) :: o => (0, ⟨a + 1, (0, p) :: s, rg, (a, ps) :: o, pr⟩)
      | (_, []) :: o => (0, ⟨pc + 1, s, rg, o, pr⟩)
      | [] => (99, ⟨pc, s, rg, op, pr⟩)
    else (0, ⟨pc + 1, s, rg, op, pr⟩)
  | 22, a :: s =>
    match piecesM a.2 y with
    | [] => (0, ⟨(E.ends.getD pc 0).toNat + 1, s, rg, op, pr⟩)
    | p :: ps => (0, ⟨pc + 1, (0, p) :: s, rg, (pc, ps) :: op, pr⟩)
  | 23, v :: k :: s => if 256 ≤ pr.length then (4, ⟨pc, st, rg, op, pr⟩) else (0, ⟨pc + 1, s, rg, op, pr ++ [(k.2, v.2)]⟩)
  | _, _ => (99, ⟨pc, st, rg, op, pr⟩)
def doM (E : Me) (x : VI) (m : Mc) : Nat × Mc := doN E x.1.toNat x.2 m.pc m.st m.rg m.op m.pr
def xM (E : Me) (m : Mc) : VI := E.code.getD m.pc (0, 0)
def runM (E : Me) : Nat → Mc → Nat × Mc
  | 0, m => if m.pc < E.code.length then (140, m) else (0, m)
  | f + 1, m => if m.pc < E.code.length then (if (doM E (xM E m) m).1 = 0 then runM E f (doM E (xM E m) m).2 else (doM E (xM E m) m)) else (0, m)
def startM : Mc := ⟨0, [], List.replicate 8 (0, []), [], []⟩
/-! ## what is let be can be done -/
def loopsB (s : Vs) : List Nat := ((s.blocks.filter fun b => b.op == 22).map Vb.at_).reverse
def vOk (v : MV) : Prop := -9223372036854775808 ≤ v.1 ∧ v.1 ≤ 9223372036854775807 ∧ v.2.length ≤ 1024
structure OkM (S : Nat → Vs) (E : Me) (m : Mc) : Prop where
  pc : m.pc ≤ E.code.length
  st : m.st.length = (S m.pc).kinds.length
  op : m.op.map (·.1) = loopsB (S m.pc)
  rg : m.rg.length = 8
  sv : ∀ v ∈ m.st, vOk v
  rv : ∀ v ∈ m.rg, vOk v
  ov : ∀ o ∈ m.op, o.2.length ≤ 1024 ∧ ∀ p ∈ o.2, p.length ≤ 1024
  pr : m.pr.length ≤ 256
  pv : ∀ p ∈ m.pr, p.1.length ≤ 1024 ∧ p.2.length ≤ 1024
structure GoodM (nt inp : Nat) (role : UInt8) (E : Me) : Prop where
  may : ∀ x ∈ E.code, insOk x = true
  ok : ∀ j, j < E.code.length → (oneV nt inp role j (E.code.getD j (0, 0)) (stV nt inp role E.code j)).1 = 0
  done : (stV nt inp role E.code E.code.length).blocks = []
  ends : E.ends = (stV nt inp role E.code E.code.length).ends
  txl : E.tx.length = nt
  txv : ∀ s ∈ E.tx, s.length ≤ 1024
  inl : E.ins.length = inp
  inv : ∀ s ∈ E.ins, s.length ≤ 1024
theorem parse_syntax {s : List UInt8} (h : Lib.atoiAll s = Lib.NumEnd.syntax) : Lib.itoa 0 ≠ s := by
  rintro rfl
  rw [show Lib.atoiAll (Lib.itoa 0) = .ok 0 by decide +kernel] at h
  cases h
theorem parse_range {s : List UInt8} (h : Lib.atoiAll s = .range) : Lib.itoa (Lib.atoiSat s) ≠ s := by
  intro e
  unfold Lib.atoiSat at e
  split at e
  · rw [← e, show Lib.atoiAll (Lib.itoa (-9223372036854775808)) = .ok (-9223372036854775808) by decide +kernel] at h
    cases h
  · rw [← e, show Lib.atoiAll (Lib.itoa 9223372036854775807) = .ok 9223372036854775807 by decide +kernel] at h
    cases h
theorem parseM_in (s : List UInt8) : -9223372036854775808 ≤ parseM s ∧ parseM s ≤ 9223372036854775807 := by
  unfold parseM
  cases h : Lib.atoiAll s with
  | ok v =>
    rw [← Lib.parseIntB_64] at h
    have := Lib.parseIntB_bounds h
    simp only
    split
    · simp at this; omega
    · omega
  | _ => simp
theorem splitM_len (c : UInt8) : ∀ s : List UInt8, (splitM c s).length ≤ s.length + 1 ∧ 1 ≤ (splitM c s).length ∧ ∀ p ∈ splitM c s, p.length ≤ s.length
  | [] => by simp [splitM]
  | x :: r => by
    obtain ⟨h1, h2, h3⟩ := splitM_len c r
    unfold splitM
    split
    · refine ⟨by simp; omega, by simp, fun p hp => ?_⟩
      rcases List.mem_cons.1 hp with rfl | hp
      · simp
      · have := h3 p hp; simp; omega
    · cases h : splitM c r with
      | nil => rw [h] at h2; simp at h2
      | cons a t =>
        rw [h] at h1 h3
        refine ⟨by simp at h1 ⊢; omega, by simp, fun p hp => ?_⟩
        rcases List.mem_cons.1 hp with rfl | hp
        · have := h3 a (List.mem_cons_self ..); simp; omega
        · have := h3 p (List.mem_cons_of_mem _ hp); simp; omega
end Go.Proofs.YtndagciefnddmaaGreatDoor
namespace Go.Proofs.YtndagciefnddmaaGreatDoor
theorem splitM_none {c : UInt8} : ∀ {s : List UInt8}, c ∉ s → splitM c s = [s]
  | [], _ => rfl
  | x :: s, h => by
    have h1 : ¬ x = c := fun e => h (by rw [e]; exact List.mem_cons_self ..)
    rw [splitM, if_neg h1, splitM_none (fun hm => h (List.mem_cons_of_mem _ hm))]
theorem splitM_at {c : UInt8} : ∀ {a b : List UInt8}, c ∉ a → splitM c (a ++ c :: b) = a :: splitM c b
  | [], b, _ => by rw [List.nil_append, splitM, if_pos rfl]
  | x :: a, b, h => by
    have h1 : ¬ x = c := fun e => h (by rw [e]; exact List.mem_cons_self ..)
    rw [List.cons_append, splitM, if_neg h1, splitM_at (fun hm => h (List.mem_cons_of_mem _ hm))]
structure PInv (s : List UInt8) (c : UInt8) (out : List (List UInt8)) (fr i : Nat) : Prop where
  le : fr ≤ i
  lt : i ≤ s.length
  no : c ∉ (s.drop fr).take (i - fr)
  eq : splitM c s = out ++ splitM c (s.drop fr)
theorem PInv.start (s : List UInt8) (c : UInt8) : PInv s c [] 0 0 := ⟨Nat.le_refl _, Nat.zero_le _, by simp, by simp⟩
theorem PInv.drop {s : List UInt8} {c : UInt8} {out : List (List UInt8)} {fr i : Nat} (h : PInv s c out fr i) (hi : i < s.length) : s.drop fr = (s.drop fr).take (i - fr) ++ s[i] :: s.drop (i + 1) := by
  have h1 := h.le
  have e : (s.drop fr).drop (i - fr) = s[i] :: s.drop (i + 1) := by
    rw [List.drop_drop, show fr + (i - fr) = i by omega]
    exact List.drop_eq_getElem_cons hi
  rw [← e, List.take_append_drop]
theorem PInv.cut {s : List UInt8} {c : UInt8} {out : List (List UInt8)} {fr i : Nat} (h : PInv s c out fr i) (hi : i < s.length) (hc : s[i] = c) : PInv s c (out ++ [(s.drop fr).take (i - fr)]) (i + 1) (i + 1) := by
  refine ⟨Nat.le_refl _, hi, by simp, ?_⟩
  have := h.eq
  rw [h.drop hi, hc, splitM_at h.no] at this
  rw [this, List.append_assoc]; rfl
theorem PInv.on {s : List UInt8} {c : UInt8} {out : List (List UInt8)} {fr i : Nat} (h : PInv s c out fr i) (hi : i < s.length) (hc : s[i] ≠ c) : PInv s c out fr (i + 1) := by
  have h1 := h.le
  refine ⟨by omega, hi, ?_, h.eq⟩
  rw [show i + 1 - fr = (i - fr) + 1 by omega, List.take_add_one, List.mem_append]
  rintro (hm | hm)
  · exact h.no hm
  · rw [List.getElem?_drop, show fr + (i - fr) = i by omega, List.getElem?_eq_getElem hi] at hm
    simp at hm
    exact hc hm.symm
theorem PInv.end {s : List UInt8} {c : UInt8} {out : List (List UInt8)} {fr i : Nat} (h : PInv s c out fr i) (hi : ¬ i < s.length) : splitM c s = out ++ [s.drop fr] := by
  have h1 := h.lt
  have h2 := h.no
  rw [List.take_of_length_le (by rw [List.length_drop]; omega)] at h2
  rw [h.eq, splitM_none h2]
theorem PInv.len {s : List UInt8} {c : UInt8} {out : List (List UInt8)} {fr i : Nat} (h : PInv s c out fr i) : out.length ≤ s.length + 1 := by
  have := (splitM_len c s).1
  rw [h.eq, List.length_append] at this
  omega
end Go.Proofs.YtndagciefnddmaaGreatDoor
namespace Go.Proofs.YtndagciefnddmaaGreatDoor
open Go.RowKit Oct
attribute [local irreducible] wpG
section
variable {nt inp : Nat} {role : UInt8} {bl : List Vb} {a : UInt8}
theorem th1 : thereV nt inp role bl (1, a) = if nt ≤ a.toNat then 3 else 0 := by unfold thereV; simp
theorem th3 : thereV nt inp role bl (3, a) = if inp ≤ a.toNat then 3 else 0 := by unfold thereV; simp
theorem th17 : thereV nt inp role bl (17, a) = if 8 ≤ a.toNat then 3 else 0 := by unfold thereV; simp
theorem th18 : thereV nt inp role bl (18, a) = if 8 ≤ a.toNat then 3 else 0 := by unfold thereV; simp
theorem th23 : thereV nt inp role bl (23, a) = if role = 1 then 0 else 133 := by unfold thereV; by_cases h : role = 1 <;> simp [h]
theorem th20 : thereV nt inp role bl (20, a) = if elseBad bl.getLast? = true then 132 else 0 := by unfold thereV; simp
theorem th21 : thereV nt inp role bl (21, a) = if bl = [] then 132 else 0 := by unfold thereV; simp
theorem th19 : thereV nt inp role bl (19, a) = if 8 ≤ bl.length then 132 else 0 := by unfold thereV; simp
theorem th22 : thereV nt inp role bl (22, a) = if 8 ≤ bl.length then 132 else 0 := by unfold thereV; simp
theorem thN {p : UInt8} (h1 : p ≠ 1) (h3 : p ≠ 3) (h17 : p ≠ 17) (h18 : p ≠ 18) (h23 : p ≠ 23) (h20 : p ≠ 20) (h21 : p ≠ 21) (h19 : p ≠ 19) (h22 : p ≠ 22) : thereV nt inp role bl (p, a) = 0 := by unfold thereV; simp [h1, h3, h17, h18, h23, h20, h21, h19, h22]
end
theorem u8_ne {p : UInt8} {k : Nat} (hk : k < 256) (h : p ≠ UInt8.ofNat k) : ((p.toNat : Int) == (k : Int)) = false := by
  rw [beq_eq_false_iff_ne]
  intro e
  have e2 : p.toNat = k := by omega
  exact h (UInt8.toNat_inj.1 (by rw [e2]; show k = k % 256; omega))
section
variable {w : World} {base G : Nat} {tv cv bv sv ev : Value} {inp : Nat} {role : UInt8} {s : Vs}
theorem VG.last (h : VG w base G tv cv inp role s bv sv ev) {g c m : Nat} (hv : bv = .slice (some ⟨g, 0, none⟩) s.blocks.length c) (hm : s.blocks.length = m + 1) : ∃ b, s.blocks.getLast? = some b ∧ s.blocks[m]? = some b ∧ w.cell? ⟨g, m * 5, none⟩ = some (.int .u8 (b.op.toNat : Int)) ∧ w.cell? ⟨g, m * 5 + 1, none⟩ = some (.string (bs b.want)) ∧
    w.cell? ⟨g, m * 5 + 2, none⟩ = some (.string (bs b.opn)) ∧ w.cell? ⟨g, m * 5 + 3, none⟩ = some (.int .i64 (b.at_ : Int)) ∧ w.cell? ⟨g, m * 5 + 4, none⟩ = some (.bool b.did) := by
  have hml : m < s.blocks.length := by omega
  obtain ⟨a, c', hv', _, hc⟩ := h.ob.row.open
  rw [hv] at hv'
  injection hv' with e1 _ _
  obtain ⟨b', off, ha, hu⟩ := hc m hml
  rw [← e1] at ha
  injection ha with ha
  injection ha with e2 e3 _
  subst e2 e3
  have u0 := hu 0 _ rfl
  have u1 := hu 1 _ rfl
  have u2 := hu 2 _ rfl
  have u3 := hu 3 _ rfl
  have u4 := hu 4 _ rfl
  rw [Nat.zero_add] at u0 u1 u2 u3 u4
  exact ⟨s.blocks[m], by rw [List.getLast?_eq_getElem?, hm]; simp [hml], List.getElem?_eq_getElem hml, u0, u1, u2, u3, u4⟩
end
section
variable {w : World} {base G : Nat} {cv bv sv ev : Value} {inp : Nat} {role : UInt8} {s : Vs} {nt ct : Nat} {at_ : Option Addr}
set_option maxRecDepth 100000 in
set_option maxHeartbeats 8000000 in
theorem there_any (h : VG w base G (.slice at_ nt ct) cv inp role s bv sv ev) (p a : UInt8) (hl : s.blocks.length ≤ 1000) (hn : nt ≤ 1000) (hi : inp ≤ 1000) :
    Calls Tryz.prog 122 #[.pointer (some ⟨G, 0, none⟩), .agg #[.int .u8 (p.toNat : Int), .int .u8 (a.toNat : Int)]] w fun e w' => e = .returned (.int .i64 ((thereV nt inp role s.blocks (p, a) : Nat) : Int)) ∧ Below w.heap.size w w' := by
  have HH := Lib.hid h
  have hgw : G < w.heap.size := h.blk.lt
  obtain ⟨W1, hW1⟩ : ∃ W1, W1 = w.alloc (.cells #[.int .u8 (p.toNat : Int), .int .u8 (a.toNat : Int)] 92) := ⟨_, rfl⟩
  have hb1 : Below w.heap.size w W1 := by rw [hW1]; exact b_alloc _ _
  have hx : Blk W1 w.heap.size 92 [.int .u8 (p.toNat : Int), .int .u8 (a.toNat : Int)] := by rw [hW1]; exact Blk.new w _ _
  have h1 := h.below hb1
  have x0 := hx.cell (k := 0) rfl
  have x1 := hx.cell (k := 1) rfl
  have g0 := h1.cell (k := 0) rfl
  have g2 := h1.cell (k := 2) rfl
  have g3 := h1.cell (k := 3) rfl
  have HB1 := Lib.hid hb1
  have HT := Lib.hid (fun w' (hB : Below W1.heap.size W1 w') => stop_any (h1.below hB) hl)
  have HLN := Lib.hid (fun w' (hB : Below W1.heap.size W1 w') => slen_any (h1.below hB))
  have HLA := Lib.hid (fun w' (hB : Below W1.heap.size W1 w') {g c m : Nat} (hv : bv = .slice (some ⟨g, 0, none⟩) s.blocks.length c) (hm : s.blocks.length = m + 1) => (h1.below hB).last hv hm)
  have a1 : (a.toNat : Int) < 256 := by have := a.toNat_lt; omega
  have a0 : (0 : Int) ≤ (a.toNat : Int) := by omega
  have n1 : (nt : Int) ≤ 1000 := by omega
  have n2 : (inp : Int) ≤ 1000 := by omega
  have n3 : (s.blocks.length : Int) ≤ 1000 := by omega
  clear h h1 hx hb1
  by_cases h1 : p = 1
  · subst h1
    rw [show (((1 : UInt8).toNat : Nat) : Int) = 1 from rfl] at hW1 x0 ⊢
    by_cases hq : nt ≤ a.toNat
    · have q1 : (nt : Int) ≤ (a.toNat : Int) := by omega
      have HE := Lib.hid (show thereV nt inp role s.blocks (1, a) = 3 by rw [th1, if_pos hq])
      clear hq
      go_enter Tryz.func122, Tryz.ntmps122
      go_upto_region 1 with fail
      rw [← hW1]
      clear hW1
      refine region_known [(1, .exact _ (.int .u8 1)), (5, .exact _ (.int .u8 (a.toNat : Int))), (11, .exact _ (.slice at_ nt ct)), (17, .exact _ (.int .u8 1)), (21, .exact _ (.int .u8 (a.toNat : Int))), (26, .exact _ (.int .i64 (inp : Int))), (32, .exact _ (.int .u8 1)), (36, .exact _ (.int .u8 1)), (41, .exact _ (.int .u8 (a.toNat : Int)))] (by kernel_rfl) (by kernel_rfl) ?_
      (repeat (first | (refine wpG_skip (by kernel_rfl) (fun K hK => ?_); go_big_quiet_skip; refine wpQuiet_nil (hK _ ?_); clear hK K) | (refine wpG_quiet (by rfl) (by rfl) (fun K hK => ?_); go_big_quiet_want; go_big_quiet_op; go_big_quiet_on; refine wpQuiet_nil (hK _ ?_); clear hK K) | (refine wpG_nilOk rfl rfl rfl (by kernel_rfl) (fun K hK => ?_); go_simp; refine hK _ ?_; clear hK K)))
      repeat (refine wpG_exact rfl (by kernel_rfl) (fun w' G hB hS hG => ?_) (fun K hK => ?_); (have y0 := Below.keeps hB x0; have y1 := Below.keeps hB x1; have y2 := Below.keeps hB g0; have y3 := Below.keeps hB g2; go_simp; exact hG _ (Bel.refl _)); go_simp; refine hK _ ?_; clear hK K; (repeat (first | (refine wpG_skip (by kernel_rfl) (fun K hK => ?_); go_big_quiet_skip; refine wpQuiet_nil (hK _ ?_); clear hK K) | (refine wpG_quiet (by rfl) (by rfl) (fun K hK => ?_); go_big_quiet_want; go_big_quiet_op; go_big_quiet_on; refine wpQuiet_nil (hK _ ?_); clear hK K) | (refine wpG_nilOk rfl rfl rfl (by kernel_rfl) (fun K hK => ?_); go_simp; refine hK _ ?_; clear hK K))))
      refine wpG_nilV3 ?_
      intro w2 hB2 hA2
      have z0 := Below.keeps hB2 x0
      have z1 := Below.keeps hB2 x1
      have z3 := Below.keeps hB2 g3
      have HB2 := Lib.hid hB2
      clear hB2 hA2 x0 x1 g0 g2 g3
      go_wp2_with fail
      refine (HT.out _ HB2.out).mono ?_
      rintro e w3 ⟨htop, hB3⟩
      have HTOP := Lib.hid htop
      have HB3 := Lib.hid (bt HB2.out hB3)
      have u0 := Below.keeps hB3 z0
      have u1 := Below.keeps hB3 z1
      have u3 := Below.keeps hB3 z3
      clear htop hB3 z0 z1 z3
      obtain ⟨tp, rfl⟩ : ∃ tp, e = .returned tp := by rcases HTOP.out with ⟨_, rfl⟩ | ⟨_, _, _, _, _, rfl⟩ <;> exact ⟨_, rfl⟩
      clear HTOP
      go_wp2_with fail
      go_ret
      exact ⟨by rw [HE.out]; rfl, bt HB1.out HB3.out⟩
    · have q1 : ¬ (nt : Int) ≤ (a.toNat : Int) := by omega
      have HE := Lib.hid (show thereV nt inp role s.blocks (1, a) = 0 by rw [th1, if_neg hq])
      clear hq
      go_enter Tryz.func122, Tryz.ntmps122
      go_upto_region 1 with fail
      rw [← hW1]
      clear hW1
      refine region_known [(1, .exact _ (.int .u8 1)), (5, .exact _ (.int .u8 (a.toNat : Int))), (11, .exact _ (.slice at_ nt ct)), (17, .exact _ (.int .u8 1)), (21, .exact _ (.int .u8 (a.toNat : Int))), (26, .exact _ (.int .i64 (inp : Int))), (32, .exact _ (.int .u8 1)), (36, .exact _ (.int .u8 1)), (41, .exact _ (.int .u8 (a.toNat : Int)))] (by kernel_rfl) (by kernel_rfl) ?_
      (repeat (first | (refine wpG_skip (by kernel_rfl) (fun K hK => ?_); go_big_quiet_skip; refine wpQuiet_nil (hK _ ?_); clear hK K) | (refine wpG_quiet (by rfl) (by rfl) (fun K hK => ?_); go_big_quiet_want; go_big_quiet_op; go_big_quiet_on; refine wpQuiet_nil (hK _ ?_); clear hK K) | (refine wpG_nilOk rfl rfl rfl (by kernel_rfl) (fun K hK => ?_); go_simp; refine hK _ ?_; clear hK K)))
      repeat (refine wpG_exact rfl (by kernel_rfl) (fun w' G hB hS hG => ?_) (fun K hK => ?_); (have y0 := Below.keeps hB x0; have y1 := Below.keeps hB x1; have y2 := Below.keeps hB g0; have y3 := Below.keeps hB g2; go_simp; exact hG _ (Bel.refl _)); go_simp; refine hK _ ?_; clear hK K; (repeat (first | (refine wpG_skip (by kernel_rfl) (fun K hK => ?_); go_big_quiet_skip; refine wpQuiet_nil (hK _ ?_); clear hK K) | (refine wpG_quiet (by rfl) (by rfl) (fun K hK => ?_); go_big_quiet_want; go_big_quiet_op; go_big_quiet_on; refine wpQuiet_nil (hK _ ?_); clear hK K) | (refine wpG_nilOk rfl rfl rfl (by kernel_rfl) (fun K hK => ?_); go_simp; refine hK _ ?_; clear hK K))))
      refine wpG_nilV3 ?_
      intro w2 hB2 hA2
      have z0 := Below.keeps hB2 x0
      have z1 := Below.keeps hB2 x1
      have z3 := Below.keeps hB2 g3
      have HB2 := Lib.hid hB2
      clear hB2 hA2 x0 x1 g0 g2 g3
      go_wp2_with fail
      refine (HT.out _ HB2.out).mono ?_
      rintro e w3 ⟨htop, hB3⟩
      have HTOP := Lib.hid htop
      have HB3 := Lib.hid (bt HB2.out hB3)
      have u0 := Below.keeps hB3 z0
      have u1 := Below.keeps hB3 z1
      have u3 := Below.keeps hB3 z3
      clear htop hB3 z0 z1 z3
      obtain ⟨tp, rfl⟩ : ∃ tp, e = .returned tp := by rcases HTOP.out with ⟨_, rfl⟩ | ⟨_, _, _, _, _, rfl⟩ <;> exact ⟨_, rfl⟩
      clear HTOP
      go_wp2_with fail
      go_ret
      exact ⟨by rw [HE.out]; rfl, bt HB1.out HB3.out⟩
  by_cases h3 : p = 3
  · subst h3
    rw [show (((3 : UInt8).toNat : Nat) : Int) = 3 from rfl] at hW1 x0 ⊢
    by_cases hq : inp ≤ a.toNat
    · have q1 : (inp : Int) ≤ (a.toNat : Int) := by omega
      have HE := Lib.hid (show thereV nt inp role s.blocks (3, a) = 3 by rw [th3, if_pos hq])
      clear hq
      go_enter Tryz.func122, Tryz.ntmps122
      go_upto_region 1 with fail
      rw [← hW1]
      clear hW1
      refine region_known [(1, .exact _ (.int .u8 3)), (5, .exact _ (.int .u8 (a.toNat : Int))), (11, .exact _ (.slice at_ nt ct)), (17, .exact _ (.int .u8 3)), (21, .exact _ (.int .u8 (a.toNat : Int))), (26, .exact _ (.int .i64 (inp : Int))), (32, .exact _ (.int .u8 3)), (36, .exact _ (.int .u8 3)), (41, .exact _ (.int .u8 (a.toNat : Int)))] (by kernel_rfl) (by kernel_rfl) ?_
      (repeat (first | (refine wpG_skip (by kernel_rfl) (fun K hK => ?_); go_big_quiet_skip; refine wpQuiet_nil (hK _ ?_); clear hK K) | (refine wpG_quiet (by rfl) (by rfl) (fun K hK => ?_); go_big_quiet_want; go_big_quiet_op; go_big_quiet_on; refine wpQuiet_nil (hK _ ?_); clear hK K) | (refine wpG_nilOk rfl rfl rfl (by kernel_rfl) (fun K hK => ?_); go_simp; refine hK _ ?_; clear hK K)))
      repeat (refine wpG_exact rfl (by kernel_rfl) (fun w' G hB hS hG => ?_) (fun K hK => ?_); (have y0 := Below.keeps hB x0; have y1 := Below.keeps hB x1; have y2 := Below.keeps hB g0; have y3 := Below.keeps hB g2; go_simp; exact hG _ (Bel.refl _)); go_simp; refine hK _ ?_; clear hK K; (repeat (first | (refine wpG_skip (by kernel_rfl) (fun K hK => ?_); go_big_quiet_skip; refine wpQuiet_nil (hK _ ?_); clear hK K) | (refine wpG_quiet (by rfl) (by rfl) (fun K hK => ?_); go_big_quiet_want; go_big_quiet_op; go_big_quiet_on; refine wpQuiet_nil (hK _ ?_); clear hK K) | (refine wpG_nilOk rfl rfl rfl (by kernel_rfl) (fun K hK => ?_); go_simp; refine hK _ ?_; clear hK K))))
      refine wpG_nilV3 ?_
      intro w2 hB2 hA2
      have z0 := Below.keeps hB2 x0
      have z1 := Below.keeps hB2 x1
      have z3 := Below.keeps hB2 g3
      have HB2 := Lib.hid hB2
      clear hB2 hA2 x0 x1 g0 g2 g3
      go_wp2_with fail
      refine (HT.out _ HB2.out).mono ?_
      rintro e w3 ⟨htop, hB3⟩
      have HTOP := Lib.hid htop
      have HB3 := Lib.hid (bt HB2.out hB3)
      have u0 := Below.keeps hB3 z0
      have u1 := Below.keeps hB3 z1
      have u3 := Below.keeps hB3 z3
      clear htop hB3 z0 z1 z3
      obtain ⟨tp, rfl⟩ : ∃ tp, e = .returned tp := by rcases HTOP.out with ⟨_, rfl⟩ | ⟨_, _, _, _, _, rfl⟩ <;> exact ⟨_, rfl⟩
      clear HTOP
      go_wp2_with fail
      go_ret
      exact ⟨by rw [HE.out]; rfl, bt HB1.out HB3.out⟩
    · have q1 : ¬ (inp : Int) ≤ (a.toNat : Int) := by omega
      have HE := Lib.hid (show thereV nt inp role s.blocks (3, a) = 0 by rw [th3, if_neg hq])
      clear hq
      go_enter Tryz.func122, Tryz.ntmps122
      go_upto_region 1 with fail
      rw [← hW1]
      clear hW1
      refine region_known [(1, .exact _ (.int .u8 3)), (5, .exact _ (.int .u8 (a.toNat : Int))), (11, .exact _ (.slice at_ nt ct)), (17, .exact _ (.int .u8 3)), (21, .exact _ (.int .u8 (a.toNat : Int))), (26, .exact _ (.int .i64 (inp : Int))), (32, .exact _ (.int .u8 3)), (36, .exact _ (.int .u8 3)), (41, .exact _ (.int .u8 (a.toNat : Int)))] (by kernel_rfl) (by kernel_rfl) ?_
      (repeat (first | (refine wpG_skip (by kernel_rfl) (fun K hK => ?_); go_big_quiet_skip; refine wpQuiet_nil (hK _ ?_); clear hK K) | (refine wpG_quiet (by rfl) (by rfl) (fun K hK => ?_); go_big_quiet_want; go_big_quiet_op; go_big_quiet_on; refine wpQuiet_nil (hK _ ?_); clear hK K) | (refine wpG_nilOk rfl rfl rfl (by kernel_rfl) (fun K hK => ?_); go_simp; refine hK _ ?_; clear hK K)))
      repeat (refine wpG_exact rfl (by kernel_rfl) (fun w' G hB hS hG => ?_) (fun K hK => ?_); (have y0 := Below.keeps hB x0; have y1 := Below.keeps hB x1; have y2 := Below.keeps hB g0; have y3 := Below.keeps hB g2; go_simp; exact hG _ (Bel.refl _)); go_simp; refine hK _ ?_; clear hK K; (repeat (first | (refine wpG_skip (by kernel_rfl) (fun K hK => ?_); go_big_quiet_skip; refine wpQuiet_nil (hK _ ?_); clear hK K) | (refine wpG_quiet (by rfl) (by rfl) (fun K hK => ?_); go_big_quiet_want; go_big_quiet_op; go_big_quiet_on; refine wpQuiet_nil (hK _ ?_); clear hK K) | (refine wpG_nilOk rfl rfl rfl (by kernel_rfl) (fun K hK => ?_); go_simp; refine hK _ ?_; clear hK K))))
      refine wpG_nilV3 ?_
      intro w2 hB2 hA2
      have z0 := Below.keeps hB2 x0
      have z1 := Below.keeps hB2 x1
      have z3 := Below.keeps hB2 g3
      have HB2 := Lib.hid hB2
      clear hB2 hA2 x0 x1 g0 g2 g3
      go_wp2_with fail
      refine (HT.out _ HB2.out).mono ?_
      rintro e w3 ⟨htop, hB3⟩
      have HTOP := Lib.hid htop
      have HB3 := Lib.hid (bt HB2.out hB3)
      have u0 := Below.keeps hB3 z0
      have u1 := Below.keeps hB3 z1
      have u3 := Below.keeps hB3 z3
      clear htop hB3 z0 z1 z3
      obtain ⟨tp, rfl⟩ : ∃ tp, e = .returned tp := by rcases HTOP.out with ⟨_, rfl⟩ | ⟨_, _, _, _, _, rfl⟩ <;> exact ⟨_, rfl⟩
      clear HTOP
      go_wp2_with fail
      go_ret
      exact ⟨by rw [HE.out]; rfl, bt HB1.out HB3.out⟩
  by_cases h17 : p = 17
  · subst h17
    rw [show (((17 : UInt8).toNat : Nat) : Int) = 17 from rfl] at hW1 x0 ⊢
    by_cases hq : 8 ≤ a.toNat
    · have q1 : (8 : Int) ≤ (a.toNat : Int) := by omega
      have HE := Lib.hid (show thereV nt inp role s.blocks (17, a) = 3 by rw [th17, if_pos hq])
      clear hq
      go_enter Tryz.func122, Tryz.ntmps122
      go_upto_region 1 with fail
      rw [← hW1]
      clear hW1
      refine region_known [(1, .exact _ (.int .u8 17)), (5, .exact _ (.int .u8 (a.toNat : Int))), (11, .exact _ (.slice at_ nt ct)), (17, .exact _ (.int .u8 17)), (21, .exact _ (.int .u8 (a.toNat : Int))), (26, .exact _ (.int .i64 (inp : Int))), (32, .exact _ (.int .u8 17)), (36, .exact _ (.int .u8 17)), (41, .exact _ (.int .u8 (a.toNat : Int)))] (by kernel_rfl) (by kernel_rfl) ?_
      (repeat (first | (refine wpG_skip (by kernel_rfl) (fun K hK => ?_); go_big_quiet_skip; refine wpQuiet_nil (hK _ ?_); clear hK K) | (refine wpG_quiet (by rfl) (by rfl) (fun K hK => ?_); go_big_quiet_want; go_big_quiet_op; go_big_quiet_on; refine wpQuiet_nil (hK _ ?_); clear hK K) | (refine wpG_nilOk rfl rfl rfl (by kernel_rfl) (fun K hK => ?_); go_simp; refine hK _ ?_; clear hK K)))
      repeat (refine wpG_exact rfl (by kernel_rfl) (fun w' G hB hS hG => ?_) (fun K hK => ?_); (have y0 := Below.keeps hB x0; have y1 := Below.keeps hB x1; have y2 := Below.keeps hB g0; have y3 := Below.keeps hB g2; go_simp; exact hG _ (Bel.refl _)); go_simp; refine hK _ ?_; clear hK K; (repeat (first | (refine wpG_skip (by kernel_rfl) (fun K hK => ?_); go_big_quiet_skip; refine wpQuiet_nil (hK _ ?_); clear hK K) | (refine wpG_quiet (by rfl) (by rfl) (fun K hK => ?_); go_big_quiet_want; go_big_quiet_op; go_big_quiet_on; refine wpQuiet_nil (hK _ ?_); clear hK K) | (refine wpG_nilOk rfl rfl rfl (by kernel_rfl) (fun K hK => ?_); go_simp; refine hK _ ?_; clear hK K))))
      refine wpG_nilV3 ?_
      intro w2 hB2 hA2
      have z0 := Below.keeps hB2 x0
      have z1 := Below.keeps hB2 x1
      have z3 := Below.keeps hB2 g3
      have HB2 := Lib.hid hB2
      clear hB2 hA2 x0 x1 g0 g2 g3
      go_wp2_with fail
      refine (HT.out _ HB2.out).mono ?_
      rintro e w3 ⟨htop, hB3⟩
      have HTOP := Lib.hid htop
      have HB3 := Lib.hid (bt HB2.out hB3)
      have u0 := Below.keeps hB3 z0
      have u1 := Below.keeps hB3 z1
      have u3 := Below.keeps hB3 z3
      clear htop hB3 z0 z1 z3
      obtain ⟨tp, rfl⟩ : ∃ tp, e = .returned tp := by rcases HTOP.out with ⟨_, rfl⟩ | ⟨_, _, _, _, _, rfl⟩ <;> exact ⟨_, rfl⟩
      clear HTOP
      go_wp2_with fail
      go_ret
      exact ⟨by rw [HE.out]; rfl, bt HB1.out HB3.out⟩
    · have q1 : ¬ (8 : Int) ≤ (a.toNat : Int) := by omega
      have HE := Lib.hid (show thereV nt inp role s.blocks (17, a) = 0 by rw [th17, if_neg hq])
      clear hq
      go_enter Tryz.func122, Tryz.ntmps122
      go_upto_region 1 with fail
      rw [← hW1]
      clear hW1
      refine region_known [(1, .exact _ (.int .u8 17)), (5, .exact _ (.int .u8 (a.toNat : Int))), (11, .exact _ (.slice at_ nt ct)), (17, .exact _ (.int .u8 17)), (21, .exact _ (.int .u8 (a.toNat : Int))), (26, .exact _ (.int .i64 (inp : Int))), (32, .exact _ (.int .u8 17)), (36, .exact _ (.int .u8 17)), (41, .exact _ (.int .u8 (a.toNat : Int)))] (by kernel_rfl) (by kernel_rfl) ?_
      (repeat (first | (refine wpG_skip (by kernel_rfl) (fun K hK => ?_); go_big_quiet_skip; refine wpQuiet_nil (hK _ ?_); clear hK K) | (refine wpG_quiet (by rfl) (by rfl) (fun K hK => ?_); go_big_quiet_want; go_big_quiet_op; go_big_quiet_on; refine wpQuiet_nil (hK _ ?_); clear hK K) | (refine wpG_nilOk rfl rfl rfl (by kernel_rfl) (fun K hK => ?_); go_simp; refine hK _ ?_; clear hK K)))
      repeat (refine wpG_exact rfl (by kernel_rfl) (fun w' G hB hS hG => ?_) (fun K hK => ?_); (have y0 := Below.keeps hB x0; have y1 := Below.keeps hB x1; have y2 := Below.keeps hB g0; have y3 := Below.keeps hB g2; go_simp; exact hG _ (Bel.refl _)); go_simp; refine hK _ ?_; clear hK K; (repeat (first | (refine wpG_skip (by kernel_rfl) (fun K hK => ?_); go_big_quiet_skip; refine wpQuiet_nil (hK _ ?_); clear hK K) | (refine wpG_quiet (by rfl) (by rfl) (fun K hK => ?_); go_big_quiet_want; go_big_quiet_op; go_big_quiet_on; refine wpQuiet_nil (hK _ ?_); clear hK K) | (refine wpG_nilOk rfl rfl rfl (by kernel_rfl) (fun K hK => ?_); go_simp; refine hK _ ?_; clear hK K))))
      refine wpG_nilV3 ?_
      intro w2 hB2 hA2
      have z0 := Below.keeps hB2 x0
      have z1 := Below.keeps hB2 x1
      have z3 := Below.keeps hB2 g3
      have HB2 := Lib.hid hB2
      clear hB2 hA2 x0 x1 g0 g2 g3
      go_wp2_with fail
      refine (HT.out _ HB2.out).mono ?_
      rintro e w3 ⟨htop, hB3⟩
      have HTOP := Lib.hid htop
      have HB3 := Lib.hid (bt HB2.out hB3)
      have u0 := Below.keeps hB3 z0
      have u1 := Below.keeps hB3 z1
      have u3 := Below.keeps hB3 z3
      clear htop hB3 z0 z1 z3
      obtain ⟨tp, rfl⟩ : ∃ tp, e = .returned tp := by rcases HTOP.out with ⟨_, rfl⟩ | ⟨_, _, _, _, _, rfl⟩ <;> exact ⟨_, rfl⟩
      clear HTOP
      go_wp2_with fail
      go_ret
      exact ⟨by rw [HE.out]; rfl, bt HB1.out HB3.out⟩
  by_cases h18 : p = 18
  · subst h18
    rw [show (((18 : UInt8).toNat : Nat) : Int) = 18 from rfl] at hW1 x0 ⊢
    by_cases hq : 8 ≤ a.toNat
    · have q1 : (8 : Int) ≤ (a.toNat : Int) := by omega
      have HE := Lib.hid (show thereV nt inp role s.blocks (18, a) = 3 by rw [th18, if_pos hq])
      clear hq
      go_enter Tryz.func122, Tryz.ntmps122
      go_upto_region 1 with fail
      rw [← hW1]
      clear hW1
      refine region_known [(1, .exact _ (.int .u8 18)), (5, .exact _ (.int .u8 (a.toNat : Int))), (11, .exact _ (.slice at_ nt ct)), (17, .exact _ (.int .u8 18)), (21, .exact _ (.int .u8 (a.toNat : Int))), (26, .exact _ (.int .i64 (inp : Int))), (32, .exact _ (.int .u8 18)), (36, .exact _ (.int .u8 18)), (41, .exact _ (.int .u8 (a.toNat : Int)))] (by kernel_rfl) (by kernel_rfl) ?_
      (repeat (first | (refine wpG_skip (by kernel_rfl) (fun K hK => ?_); go_big_quiet_skip; refine wpQuiet_nil (hK _ ?_); clear hK K) | (refine wpG_quiet (by rfl) (by rfl) (fun K hK => ?_); go_big_quiet_want; go_big_quiet_op; go_big_quiet_on; refine wpQuiet_nil (hK _ ?_); clear hK K) | (refine wpG_nilOk rfl rfl rfl (by kernel_rfl) (fun K hK => ?_); go_simp; refine hK _ ?_; clear hK K)))
      repeat (refine wpG_exact rfl (by kernel_rfl) (fun w' G hB hS hG => ?_) (fun K hK => ?_); (have y0 := Below.keeps hB x0; have y1 := Below.keeps hB x1; have y2 := Below.keeps hB g0; have y3 := Below.keeps hB g2; go_simp; exact hG _ (Bel.refl _)); go_simp; refine hK _ ?_; clear hK K; (repeat (first | (refine wpG_skip (by kernel_rfl) (fun K hK => ?_); go_big_quiet_skip; refine wpQuiet_nil (hK _ ?_); clear hK K) | (refine wpG_quiet (by rfl) (by rfl) (fun K hK => ?_); go_big_quiet_want; go_big_quiet_op; go_big_quiet_on; refine wpQuiet_nil (hK _ ?_); clear hK K) | (refine wpG_nilOk rfl rfl rfl (by kernel_rfl) (fun K hK => ?_); go_simp; refine hK _ ?_; clear hK K))))
      refine wpG_nilV3 ?_
      intro w2 hB2 hA2
      have z0 := Below.keeps hB2 x0
      have z1 := Below.keeps hB2 x1
      have z3 := Below.keeps hB2 g3
      have HB2 := Lib.hid hB2
      clear hB2 hA2 x0 x1 g0 g2 g3
      go_wp2_with fail
      refine (HT.out _ HB2.out).mono ?_
      rintro e w3 ⟨htop, hB3⟩
      have HTOP := Lib.hid htop
      have HB3 := Lib.hid (bt HB2.out hB3)
      have u0 := Below.keeps hB3 z0
      have u1 := Below.keeps hB3 z1
      have u3 := Below.keeps hB3 z3
      clear htop hB3 z0 z1 z3
      obtain ⟨tp, rfl⟩ : ∃ tp, e = .returned tp := by rcases HTOP.out with ⟨_, rfl⟩ | ⟨_, _, _, _, _, rfl⟩ <;> exact ⟨_, rfl⟩
      clear HTOP
      go_wp2_with fail
      go_ret
      exact ⟨by rw [HE.out]; rfl, bt HB1.out HB3.out⟩
    · have q1 : ¬ (8 : Int) ≤ (a.toNat : Int) := by omega
      have HE := Lib.hid (show thereV nt inp role s.blocks (18, a) = 0 by rw [th18, if_neg hq])
      clear hq
      go_enter Tryz.func122, Tryz.ntmps122
      go_upto_region 1 with fail
      rw [← hW1]
      clear hW1
      refine region_known [(1, .exact _ (.int .u8 18)), (5, .exact _ (.int .u8 (a.toNat : Int))), (11, .exact _ (.slice at_ nt ct)), (17, .exact _ (.int .u8 18)), (21, .exact _ (.int .u8 (a.toNat : Int))), (26, .exact _ (.int .i64 (inp : Int))), (32, .exact _ (.int .u8 18)), (36, .exact _ (.int .u8 18)), (41, .exact _ (.int .u8 (a.toNat : Int)))] (by kernel_rfl) (by kernel_rfl) ?_
      (repeat (first | (refine wpG_skip (by kernel_rfl) (fun K hK => ?_); go_big_quiet_skip; refine wpQuiet_nil (hK _ ?_); clear hK K) | (refine wpG_quiet (by rfl) (by rfl) (fun K hK => ?_); go_big_quiet_want; go_big_quiet_op; go_big_quiet_on; refine wpQuiet_nil (hK _ ?_); clear hK K) | (refine wpG_nilOk rfl rfl rfl (by kernel_rfl) (fun K hK => ?_); go_simp; refine hK _ ?_; clear hK K)))
      repeat (refine wpG_exact rfl (by kernel_rfl) (fun w' G hB hS hG => ?_) (fun K hK => ?_); (have y0 := Below.keeps hB x0; have y1 := Below.keeps hB x1; have y2 := Below.keeps hB g0; have y3 := Below.keeps hB g2; go_simp; exact hG _ (Bel.refl _)); go_simp; refine hK _ ?_; clear hK K; (repeat (first | (refine wpG_skip (by kernel_rfl) (fun K hK => ?_); go_big_quiet_skip; refine wpQuiet_nil (hK _ ?_); clear hK K) | (refine wpG_quiet (by rfl) (by rfl) (fun K hK => ?_); go_big_quiet_want; go_big_quiet_op; go_big_quiet_on; refine wpQuiet_nil (hK _ ?_); clear hK K) | (refine wpG_nilOk rfl rfl rfl (by kernel_rfl) (fun K hK => ?_); go_simp; refine hK _ ?_; clear hK K))))
      refine wpG_nilV3 ?_
      intro w2 hB2 hA2
      have z0 := Below.keeps hB2 x0
      have z1 := Below.keeps hB2 x1
      have z3 := Below.keeps hB2 g3
      have HB2 := Lib.hid hB2
      clear hB2 hA2 x0 x1 g0 g2 g3
      go_wp2_with fail
      refine (HT.out _ HB2.out).mono ?_
      rintro e w3 ⟨htop, hB3⟩
      have HTOP := Lib.hid htop
      have HB3 := Lib.hid (bt HB2.out hB3)
      have u0 := Below.keeps hB3 z0
      have u1 := Below.keeps hB3 z1
      have u3 := Below.keeps hB3 z3
      clear htop hB3 z0 z1 z3
      obtain ⟨tp, rfl⟩ : ∃ tp, e = .returned tp := by rcases HTOP.out with ⟨_, rfl⟩ | ⟨_, _, _, _, _, rfl⟩ <;> exact ⟨_, rfl⟩
      clear HTOP
      go_wp2_with fail
      go_ret
      exact ⟨by rw [HE.out]; rfl, bt HB1.out HB3.out⟩
  by_cases h23 : p = 23
  · subst h23
    rw [show (((23 : UInt8).toNat : Nat) : Int) = 23 from rfl] at hW1 x0 ⊢
    by_cases hq : role = 1
    · have q1 : ((role.toNat : Int) != 1) = false := by rw [hq]; rfl
      have HE := Lib.hid (show thereV nt inp role s.blocks (23, a) = 0 by rw [th23, if_pos hq])
      clear hq
      go_enter Tryz.func122, Tryz.ntmps122
      go_upto_region 1 with fail
      rw [← hW1]
      clear hW1
      refine region_known [(1, .exact _ (.int .u8 23)), (5, .exact _ (.int .u8 (a.toNat : Int))), (11, .exact _ (.slice at_ nt ct)), (17, .exact _ (.int .u8 23)), (21, .exact _ (.int .u8 (a.toNat : Int))), (26, .exact _ (.int .i64 (inp : Int))), (32, .exact _ (.int .u8 23)), (36, .exact _ (.int .u8 23)), (41, .exact _ (.int .u8 (a.toNat : Int)))] (by kernel_rfl) (by kernel_rfl) ?_
      (repeat (first | (refine wpG_skip (by kernel_rfl) (fun K hK => ?_); go_big_quiet_skip; refine wpQuiet_nil (hK _ ?_); clear hK K) | (refine wpG_quiet (by rfl) (by rfl) (fun K hK => ?_); go_big_quiet_want; go_big_quiet_op; go_big_quiet_on; refine wpQuiet_nil (hK _ ?_); clear hK K) | (refine wpG_nilOk rfl rfl rfl (by kernel_rfl) (fun K hK => ?_); go_simp; refine hK _ ?_; clear hK K)))
      repeat (refine wpG_exact rfl (by kernel_rfl) (fun w' G hB hS hG => ?_) (fun K hK => ?_); (have y0 := Below.keeps hB x0; have y1 := Below.keeps hB x1; have y2 := Below.keeps hB g0; have y3 := Below.keeps hB g2; go_simp; exact hG _ (Bel.refl _)); go_simp; refine hK _ ?_; clear hK K; (repeat (first | (refine wpG_skip (by kernel_rfl) (fun K hK => ?_); go_big_quiet_skip; refine wpQuiet_nil (hK _ ?_); clear hK K) | (refine wpG_quiet (by rfl) (by rfl) (fun K hK => ?_); go_big_quiet_want; go_big_quiet_op; go_big_quiet_on; refine wpQuiet_nil (hK _ ?_); clear hK K) | (refine wpG_nilOk rfl rfl rfl (by kernel_rfl) (fun K hK => ?_); go_simp; refine hK _ ?_; clear hK K))))
      refine wpG_nilV3 ?_
      intro w2 hB2 hA2
      have z0 := Below.keeps hB2 x0
      have z1 := Below.keeps hB2 x1
      have z3 := Below.keeps hB2 g3
      have HB2 := Lib.hid hB2
      clear hB2 hA2 x0 x1 g0 g2 g3
      go_wp2_with fail
      refine (HT.out _ HB2.out).mono ?_
      rintro e w3 ⟨htop, hB3⟩
      have HTOP := Lib.hid htop
      have HB3 := Lib.hid (bt HB2.out hB3)
      have u0 := Below.keeps hB3 z0
      have u1 := Below.keeps hB3 z1
      have u3 := Below.keeps hB3 z3
      clear htop hB3 z0 z1 z3
      obtain ⟨tp, rfl⟩ : ∃ tp, e = .returned tp := by rcases HTOP.out with ⟨_, rfl⟩ | ⟨_, _, _, _, _, rfl⟩ <;> exact ⟨_, rfl⟩
      clear HTOP
      go_wp2_with fail
      go_ret
      exact ⟨by rw [HE.out]; rfl, bt HB1.out HB3.out⟩
    · have q1 : ((role.toNat : Int) != 1) = true := by
        have := u8_ne (p := role) (k := 1) (by decide) hq
        simpa [bne] using this
      have HE := Lib.hid (show thereV nt inp role s.blocks (23, a) = 133 by rw [th23, if_neg hq])
      clear hq
      go_enter Tryz.func122, Tryz.ntmps122
      go_upto_region 1 with fail
      rw [← hW1]
      clear hW1
      refine region_known [(1, .exact _ (.int .u8 23)), (5, .exact _ (.int .u8 (a.toNat : Int))), (11, .exact _ (.slice at_ nt ct)), (17, .exact _ (.int .u8 23)), (21, .exact _ (.int .u8 (a.toNat : Int))), (26, .exact _ (.int .i64 (inp : Int))), (32, .exact _ (.int .u8 23)), (36, .exact _ (.int .u8 23)), (41, .exact _ (.int .u8 (a.toNat : Int)))] (by kernel_rfl) (by kernel_rfl) ?_
      (repeat (first | (refine wpG_skip (by kernel_rfl) (fun K hK => ?_); go_big_quiet_skip; refine wpQuiet_nil (hK _ ?_); clear hK K) | (refine wpG_quiet (by rfl) (by rfl) (fun K hK => ?_); go_big_quiet_want; go_big_quiet_op; go_big_quiet_on; refine wpQuiet_nil (hK _ ?_); clear hK K) | (refine wpG_nilOk rfl rfl rfl (by kernel_rfl) (fun K hK => ?_); go_simp; refine hK _ ?_; clear hK K)))
      repeat (refine wpG_exact rfl (by kernel_rfl) (fun w' G hB hS hG => ?_) (fun K hK => ?_); (have y0 := Below.keeps hB x0; have y1 := Below.keeps hB x1; have y2 := Below.keeps hB g0; have y3 := Below.keeps hB g2; go_simp; exact hG _ (Bel.refl _)); go_simp; refine hK _ ?_; clear hK K; (repeat (first | (refine wpG_skip (by kernel_rfl) (fun K hK => ?_); go_big_quiet_skip; refine wpQuiet_nil (hK _ ?_); clear hK K) | (refine wpG_quiet (by rfl) (by rfl) (fun K hK => ?_); go_big_quiet_want; go_big_quiet_op; go_big_quiet_on; refine wpQuiet_nil (hK _ ?_); clear hK K) | (refine wpG_nilOk rfl rfl rfl (by kernel_rfl) (fun K hK => ?_); go_simp; refine hK _ ?_; clear hK K))))
      refine wpG_nilV3 ?_
      intro w2 hB2 hA2
      have z0 := Below.keeps hB2 x0
      have z1 := Below.keeps hB2 x1
      have z3 := Below.keeps hB2 g3
      have HB2 := Lib.hid hB2
      clear hB2 hA2 x0 x1 g0 g2 g3
      go_wp2_with fail
      refine (HT.out _ HB2.out).mono ?_
      rintro e w3 ⟨htop, hB3⟩
      have HTOP := Lib.hid htop
      have HB3 := Lib.hid (bt HB2.out hB3)
      have u0 := Below.keeps hB3 z0
      have u1 := Below.keeps hB3 z1
      have u3 := Below.keeps hB3 z3
      clear htop hB3 z0 z1 z3
      obtain ⟨tp, rfl⟩ : ∃ tp, e = .returned tp := by rcases HTOP.out with ⟨_, rfl⟩ | ⟨_, _, _, _, _, rfl⟩ <;> exact ⟨_, rfl⟩
      clear HTOP
      go_wp2_with fail
      go_ret
      exact ⟨by rw [HE.out]; rfl, bt HB1.out HB3.out⟩
  by_cases h19 : p = 19
  · subst h19
    rw [show (((19 : UInt8).toNat : Nat) : Int) = 19 from rfl] at hW1 x0 ⊢
    by_cases hq : 8 ≤ s.blocks.length
    · have q1 : (8 : Int) ≤ (s.blocks.length : Int) := by omega
      have HE := Lib.hid (show thereV nt inp role s.blocks (19, a) = 132 by rw [th19, if_pos hq])
      clear hq
      go_enter Tryz.func122, Tryz.ntmps122
      go_upto_region 1 with fail
      rw [← hW1]
      clear hW1
      refine region_known [(1, .exact _ (.int .u8 19)), (5, .exact _ (.int .u8 (a.toNat : Int))), (11, .exact _ (.slice at_ nt ct)), (17, .exact _ (.int .u8 19)), (21, .exact _ (.int .u8 (a.toNat : Int))), (26, .exact _ (.int .i64 (inp : Int))), (32, .exact _ (.int .u8 19)), (36, .exact _ (.int .u8 19)), (41, .exact _ (.int .u8 (a.toNat : Int)))] (by kernel_rfl) (by kernel_rfl) ?_
      (repeat (first | (refine wpG_skip (by kernel_rfl) (fun K hK => ?_); go_big_quiet_skip; refine wpQuiet_nil (hK _ ?_); clear hK K) | (refine wpG_quiet (by rfl) (by rfl) (fun K hK => ?_); go_big_quiet_want; go_big_quiet_op; go_big_quiet_on; refine wpQuiet_nil (hK _ ?_); clear hK K) | (refine wpG_nilOk rfl rfl rfl (by kernel_rfl) (fun K hK => ?_); go_simp; refine hK _ ?_; clear hK K)))
      repeat (refine wpG_exact rfl (by kernel_rfl) (fun w' G hB hS hG => ?_) (fun K hK => ?_); (have y0 := Below.keeps hB x0; have y1 := Below.keeps hB x1; have y2 := Below.keeps hB g0; have y3 := Below.keeps hB g2; go_simp; exact hG _ (Bel.refl _)); go_simp; refine hK _ ?_; clear hK K; (repeat (first | (refine wpG_skip (by kernel_rfl) (fun K hK => ?_); go_big_quiet_skip; refine wpQuiet_nil (hK _ ?_); clear hK K) | (refine wpG_quiet (by rfl) (by rfl) (fun K hK => ?_); go_big_quiet_want; go_big_quiet_op; go_big_quiet_on; refine wpQuiet_nil (hK _ ?_); clear hK K) | (refine wpG_nilOk rfl rfl rfl (by kernel_rfl) (fun K hK => ?_); go_simp; refine hK _ ?_; clear hK K))))
      refine wpG_nilV3 ?_
      intro w2 hB2 hA2
      have z0 := Below.keeps hB2 x0
      have z1 := Below.keeps hB2 x1
      have z3 := Below.keeps hB2 g3
      have HB2 := Lib.hid hB2
      clear hB2 hA2 x0 x1 g0 g2 g3
      go_wp2_with fail
      refine (HT.out _ HB2.out).mono ?_
      rintro e w3 ⟨htop, hB3⟩
      have HTOP := Lib.hid htop
      have HB3 := Lib.hid (bt HB2.out hB3)
      have u0 := Below.keeps hB3 z0
      have u1 := Below.keeps hB3 z1
      have u3 := Below.keeps hB3 z3
      clear htop hB3 z0 z1 z3
      obtain ⟨tp, rfl⟩ : ∃ tp, e = .returned tp := by rcases HTOP.out with ⟨_, rfl⟩ | ⟨_, _, _, _, _, rfl⟩ <;> exact ⟨_, rfl⟩
      clear HTOP
      go_wp2_with fail
      refine (HLN.out _ HB3.out).mono ?_
      rintro e w4 ⟨rfl, rfl⟩
      go_wp2_with fail
      go_ret
      exact ⟨by rw [HE.out]; rfl, bt HB1.out HB3.out⟩
    · have q1 : ¬ (8 : Int) ≤ (s.blocks.length : Int) := by omega
      have HE := Lib.hid (show thereV nt inp role s.blocks (19, a) = 0 by rw [th19, if_neg hq])
      clear hq
      go_enter Tryz.func122, Tryz.ntmps122
      go_upto_region 1 with fail
      rw [← hW1]
      clear hW1
      refine region_known [(1, .exact _ (.int .u8 19)), (5, .exact _ (.int .u8 (a.toNat : Int))), (11, .exact _ (.slice at_ nt ct)), (17, .exact _ (.int .u8 19)), (21, .exact _ (.int .u8 (a.toNat : Int))), (26, .exact _ (.int .i64 (inp : Int))), (32, .exact _ (.int .u8 19)), (36, .exact _ (.int .u8 19)), (41, .exact _ (.int .u8 (a.toNat : Int)))] (by kernel_rfl) (by kernel_rfl) ?_
      (repeat (first | (refine wpG_skip (by kernel_rfl) (fun K hK => ?_); go_big_quiet_skip; refine wpQuiet_nil (hK _ ?_); clear hK K) | (refine wpG_quiet (by rfl) (by rfl) (fun K hK => ?_); go_big_quiet_want; go_big_quiet_op; go_big_quiet_on; refine wpQuiet_nil (hK _ ?_); clear hK K) | (refine wpG_nilOk rfl rfl rfl (by kernel_rfl) (fun K hK => ?_); go_simp; refine hK _ ?_; clear hK K)))
      repeat (refine wpG_exact rfl (by kernel_rfl) (fun w' G hB hS hG => ?_) (fun K hK => ?_); (have y0 := Below.keeps hB x0; have y1 := Below.keeps hB x1; have y2 := Below.keeps hB g0; have y3 := Below.keeps hB g2; go_simp; exact hG _ (Bel.refl _)); go_simp; refine hK _ ?_; clear hK K; (repeat (first | (refine wpG_skip (by kernel_rfl) (fun K hK => ?_); go_big_quiet_skip; refine wpQuiet_nil (hK _ ?_); clear hK K) | (refine wpG_quiet (by rfl) (by rfl) (fun K hK => ?_); go_big_quiet_want; go_big_quiet_op; go_big_quiet_on; refine wpQuiet_nil (hK _ ?_); clear hK K) | (refine wpG_nilOk rfl rfl rfl (by kernel_rfl) (fun K hK => ?_); go_simp; refine hK _ ?_; clear hK K))))
      refine wpG_nilV3 ?_
      intro w2 hB2 hA2
      have z0 := Below.keeps hB2 x0
      have z1 := Below.keeps hB2 x1
      have z3 := Below.keeps hB2 g3
      have HB2 := Lib.hid hB2
      clear hB2 hA2 x0 x1 g0 g2 g3
      go_wp2_with fail
      refine (HT.out _ HB2.out).mono ?_
      rintro e w3 ⟨htop, hB3⟩
      have HTOP := Lib.hid htop
      have HB3 := Lib.hid (bt HB2.out hB3)
      have u0 := Below.keeps hB3 z0
      have u1 := Below.keeps hB3 z1
      have u3 := Below.keeps hB3 z3
      clear htop hB3 z0 z1 z3
      obtain ⟨tp, rfl⟩ : ∃ tp, e = .returned tp := by rcases HTOP.out with ⟨_, rfl⟩ | ⟨_, _, _, _, _, rfl⟩ <;> exact ⟨_, rfl⟩
      clear HTOP
      go_wp2_with fail
      refine (HLN.out _ HB3.out).mono ?_
      rintro e w4 ⟨rfl, rfl⟩
      go_wp2_with fail
      go_ret
      exact ⟨by rw [HE.out]; rfl, bt HB1.out HB3.out⟩
  by_cases h22 : p = 22
  · subst h22
    rw [show (((22 : UInt8).toNat : Nat) : Int) = 22 from rfl] at hW1 x0 ⊢
    by_cases hq : 8 ≤ s.blocks.length
    · have q1 : (8 : Int) ≤ (s.blocks.length : Int) := by omega
      have HE := Lib.hid (show thereV nt inp role s.blocks (22, a) = 132 by rw [th22, if_pos hq])
      clear hq
      go_enter Tryz.func122, Tryz.ntmps122
      go_upto_region 1 with fail
      rw [← hW1]
      clear hW1
      refine region_known [(1, .exact _ (.int .u8 22)), (5, .exact _ (.int .u8 (a.toNat : Int))), (11, .exact _ (.slice at_ nt ct)), (17, .exact _ (.int .u8 22)), (21, .exact _ (.int .u8 (a.toNat : Int))), (26, .exact _ (.int .i64 (inp : Int))), (32, .exact _ (.int .u8 22)), (36, .exact _ (.int .u8 22)), (41, .exact _ (.int .u8 (a.toNat : Int)))] (by kernel_rfl) (by kernel_rfl) ?_
      (repeat (first | (refine wpG_skip (by kernel_rfl) (fun K hK => ?_); go_big_quiet_skip; refine wpQuiet_nil (hK _ ?_); clear hK K) | (refine wpG_quiet (by rfl) (by rfl) (fun K hK => ?_); go_big_quiet_want; go_big_quiet_op; go_big_quiet_on; refine wpQuiet_nil (hK _ ?_); clear hK K) | (refine wpG_nilOk rfl rfl rfl (by kernel_rfl) (fun K hK => ?_); go_simp; refine hK _ ?_; clear hK K)))
      repeat (refine wpG_exact rfl (by kernel_rfl) (fun w' G hB hS hG => ?_) (fun K hK => ?_); (have y0 := Below.keeps hB x0; have y1 := Below.keeps hB x1; have y2 := Below.keeps hB g0; have y3 := Below.keeps hB g2; go_simp; exact hG _ (Bel.refl _)); go_simp; refine hK _ ?_; clear hK K; (repeat (first | (refine wpG_skip (by kernel_rfl) (fun K hK => ?_); go_big_quiet_skip; refine wpQuiet_nil (hK _ ?_); clear hK K) | (refine wpG_quiet (by rfl) (by rfl) (fun K hK => ?_); go_big_quiet_want; go_big_quiet_op; go_big_quiet_on; refine wpQuiet_nil (hK _ ?_); clear hK K) | (refine wpG_nilOk rfl rfl rfl (by kernel_rfl) (fun K hK => ?_); go_simp; refine hK _ ?_; clear hK K))))
      refine wpG_nilV3 ?_
      intro w2 hB2 hA2
      have z0 := Below.keeps hB2 x0
      have z1 := Below.keeps hB2 x1
      have z3 := Below.keeps hB2 g3
      have HB2 := Lib.hid hB2
      clear hB2 hA2 x0 x1 g0 g2 g3
      go_wp2_with fail
      refine (HT.out _ HB2.out).mono ?_
      rintro e w3 ⟨htop, hB3⟩
      have HTOP := Lib.hid htop
      have HB3 := Lib.hid (bt HB2.out hB3)
      have u0 := Below.keeps hB3 z0
      have u1 := Below.keeps hB3 z1
      have u3 := Below.keeps hB3 z3
      clear htop hB3 z0 z1 z3
      obtain ⟨tp, rfl⟩ : ∃ tp, e = .returned tp := by rcases HTOP.out with ⟨_, rfl⟩ | ⟨_, _, _, _, _, rfl⟩ <;> exact ⟨_, rfl⟩
      clear HTOP
      go_wp2_with fail
      refine (HLN.out _ HB3.out).mono ?_
      rintro e w4 ⟨rfl, rfl⟩
      go_wp2_with fail
      go_ret
      exact ⟨by rw [HE.out]; rfl, bt HB1.out HB3.out⟩
    · have q1 : ¬ (8 : Int) ≤ (s.blocks.length : Int) := by omega
      have HE := Lib.hid (show thereV nt inp role s.blocks (22, a) = 0 by rw [th22, if_neg hq])
      clear hq
      go_enter Tryz.func122, Tryz.ntmps122
      go_upto_region 1 with fail
      rw [← hW1]
      clear hW1
      refine region_known [(1, .exact _ (.int .u8 22)), (5, .exact _ (.int .u8 (a.toNat : Int))), (11, .exact _ (.slice at_ nt ct)), (17, .exact _ (.int .u8 22)), (21, .exact _ (.int .u8 (a.toNat : Int))), (26, .exact _ (.int .i64 (inp : Int))), (32, .exact _ (.int .u8 22)), (36, .exact _ (.int .u8 22)), (41, .exact _ (.int .u8 (a.toNat : Int)))] (by kernel_rfl) (by kernel_rfl) ?_
      (repeat (first | (refine wpG_skip (by kernel_rfl) (fun K hK => ?_); go_big_quiet_skip; refine wpQuiet_nil (hK _ ?_); clear hK K) | (refine wpG_quiet (by rfl) (by rfl) (fun K hK => ?_); go_big_quiet_want; go_big_quiet_op; go_big_quiet_on; refine wpQuiet_nil (hK _ ?_); clear hK K) | (refine wpG_nilOk rfl rfl rfl (by kernel_rfl) (fun K hK => ?_); go_simp; refine hK _ ?_; clear hK K)))
      repeat (refine wpG_exact rfl (by kernel_rfl) (fun w' G hB hS hG => ?_) (fun K hK => ?_); (have y0 := Below.keeps hB x0; have y1 := Below.keeps hB x1; have y2 := Below.keeps hB g0; have y3 := Below.keeps hB g2; go_simp; exact hG _ (Bel.refl _)); go_simp; refine hK _ ?_; clear hK K; (repeat (first | (refine wpG_skip (by kernel_rfl) (fun K hK => ?_); go_big_quiet_skip; refine wpQuiet_nil (hK _ ?_); clear hK K) | (refine wpG_quiet (by rfl) (by rfl) (fun K hK => ?_); go_big_quiet_want; go_big_quiet_op; go_big_quiet_on; refine wpQuiet_nil (hK _ ?_); clear hK K) | (refine wpG_nilOk rfl rfl rfl (by kernel_rfl) (fun K hK => ?_); go_simp; refine hK _ ?_; clear hK K))))
      refine wpG_nilV3 ?_
      intro w2 hB2 hA2
      have z0 := Below.keeps hB2 x0
      have z1 := Below.keeps hB2 x1
      have z3 := Below.keeps hB2 g3
      have HB2 := Lib.hid hB2
      clear hB2 hA2 x0 x1 g0 g2 g3
      go_wp2_with fail
      refine (HT.out _ HB2.out).mono ?_
      rintro e w3 ⟨htop, hB3⟩
      have HTOP := Lib.hid htop
      have HB3 := Lib.hid (bt HB2.out hB3)
      have u0 := Below.keeps hB3 z0
      have u1 := Below.keeps hB3 z1
      have u3 := Below.keeps hB3 z3
      clear htop hB3 z0 z1 z3
      obtain ⟨tp, rfl⟩ : ∃ tp, e = .returned tp := by rcases HTOP.out with ⟨_, rfl⟩ | ⟨_, _, _, _, _, rfl⟩ <;> exact ⟨_, rfl⟩
      clear HTOP
      go_wp2_with fail
      refine (HLN.out _ HB3.out).mono ?_
      rintro e w4 ⟨rfl, rfl⟩
      go_wp2_with fail
      go_ret
      exact ⟨by rw [HE.out]; rfl, bt HB1.out HB3.out⟩
  by_cases h21 : p = 21
  · subst h21
    rw [show (((21 : UInt8).toNat : Nat) : Int) = 21 from rfl] at hW1 x0 ⊢
    go_enter Tryz.func122, Tryz.ntmps122
    go_upto_region 1 with fail
    rw [← hW1]
    clear hW1
    refine region_known [(1, .exact _ (.int .u8 21)), (5, .exact _ (.int .u8 (a.toNat : Int))), (11, .exact _ (.slice at_ nt ct)), (17, .exact _ (.int .u8 21)), (21, .exact _ (.int .u8 (a.toNat : Int))), (26, .exact _ (.int .i64 (inp : Int))), (32, .exact _ (.int .u8 21)), (36, .exact _ (.int .u8 21)), (41, .exact _ (.int .u8 (a.toNat : Int)))] (by kernel_rfl) (by kernel_rfl) ?_
    (repeat (first | (refine wpG_skip (by kernel_rfl) (fun K hK => ?_); go_big_quiet_skip; refine wpQuiet_nil (hK _ ?_); clear hK K) | (refine wpG_quiet (by rfl) (by rfl) (fun K hK => ?_); go_big_quiet_want; go_big_quiet_op; go_big_quiet_on; refine wpQuiet_nil (hK _ ?_); clear hK K) | (refine wpG_nilOk rfl rfl rfl (by kernel_rfl) (fun K hK => ?_); go_simp; refine hK _ ?_; clear hK K)))
    repeat (refine wpG_exact rfl (by kernel_rfl) (fun w' G hB hS hG => ?_) (fun K hK => ?_); (have y0 := Below.keeps hB x0; have y1 := Below.keeps hB x1; have y2 := Below.keeps hB g0; have y3 := Below.keeps hB g2; go_simp; exact hG _ (Bel.refl _)); go_simp; refine hK _ ?_; clear hK K; (repeat (first | (refine wpG_skip (by kernel_rfl) (fun K hK => ?_); go_big_quiet_skip; refine wpQuiet_nil (hK _ ?_); clear hK K) | (refine wpG_quiet (by rfl) (by rfl) (fun K hK => ?_); go_big_quiet_want; go_big_quiet_op; go_big_quiet_on; refine wpQuiet_nil (hK _ ?_); clear hK K) | (refine wpG_nilOk rfl rfl rfl (by kernel_rfl) (fun K hK => ?_); go_simp; refine hK _ ?_; clear hK K))))
    refine wpG_nilV3 ?_
    intro w2 hB2 hA2
    have z0 := Below.keeps hB2 x0
    have z1 := Below.keeps hB2 x1
    have z3 := Below.keeps hB2 g3
    have HB2 := Lib.hid hB2
    clear hB2 hA2 x0 x1 g0 g2 g3
    go_wp2_with fail
    refine (HT.out _ HB2.out).mono ?_
    rintro e w3 ⟨htop, hB3⟩
    have HTOP := Lib.hid htop
    have HB3 := Lib.hid (bt HB2.out hB3)
    have u0 := Below.keeps hB3 z0
    have u1 := Below.keeps hB3 z1
    have u3 := Below.keeps hB3 z3
    clear htop hB3 z0 z1 z3
    rcases HTOP.out with ⟨hb, rfl⟩ | ⟨g, c, m, hv, hm, rfl⟩
    · have HE := Lib.hid (show thereV nt inp role s.blocks (21, a) = 132 by rw [th21, if_pos hb])
      clear HTOP hb
      go_wp2_with fail
      go_ret
      exact ⟨by rw [HE.out]; rfl, bt HB1.out HB3.out⟩
    · have HE := Lib.hid (show thereV nt inp role s.blocks (21, a) = 0 by rw [th21, if_neg (fun e => by rw [e] at hm; simp at hm)])
      clear HTOP hv hm
      go_wp2_with fail
      go_ret
      exact ⟨by rw [HE.out]; rfl, bt HB1.out HB3.out⟩
  by_cases h20 : p = 20
  · subst h20
    rw [show (((20 : UInt8).toNat : Nat) : Int) = 20 from rfl] at hW1 x0 ⊢
    go_enter Tryz.func122, Tryz.ntmps122
    go_upto_region 1 with fail
    rw [← hW1]
    clear hW1
    refine region_known [(1, .exact _ (.int .u8 20)), (5, .exact _ (.int .u8 (a.toNat : Int))), (11, .exact _ (.slice at_ nt ct)), (17, .exact _ (.int .u8 20)), (21, .exact _ (.int .u8 (a.toNat : Int))), (26, .exact _ (.int .i64 (inp : Int))), (32, .exact _ (.int .u8 20)), (36, .exact _ (.int .u8 20)), (41, .exact _ (.int .u8 (a.toNat : Int)))] (by kernel_rfl) (by kernel_rfl) ?_
    (repeat (first | (refine wpG_skip (by kernel_rfl) (fun K hK => ?_); go_big_quiet_skip; refine wpQuiet_nil (hK _ ?_); clear hK K) | (refine wpG_quiet (by rfl) (by rfl) (fun K hK => ?_); go_big_quiet_want; go_big_quiet_op; go_big_quiet_on; refine wpQuiet_nil (hK _ ?_); clear hK K) | (refine wpG_nilOk rfl rfl rfl (by kernel_rfl) (fun K hK => ?_); go_simp; refine hK _ ?_; clear hK K)))
    repeat (refine wpG_exact rfl (by kernel_rfl) (fun w' G hB hS hG => ?_) (fun K hK => ?_); (have y0 := Below.keeps hB x0; have y1 := Below.keeps hB x1; have y2 := Below.keeps hB g0; have y3 := Below.keeps hB g2; go_simp; exact hG _ (Bel.refl _)); go_simp; refine hK _ ?_; clear hK K; (repeat (first | (refine wpG_skip (by kernel_rfl) (fun K hK => ?_); go_big_quiet_skip; refine wpQuiet_nil (hK _ ?_); clear hK K) | (refine wpG_quiet (by rfl) (by rfl) (fun K hK => ?_); go_big_quiet_want; go_big_quiet_op; go_big_quiet_on; refine wpQuiet_nil (hK _ ?_); clear hK K) | (refine wpG_nilOk rfl rfl rfl (by kernel_rfl) (fun K hK => ?_); go_simp; refine hK _ ?_; clear hK K))))
    refine wpG_nilV3 ?_
    intro w2 hB2 hA2
    have z0 := Below.keeps hB2 x0
    have z1 := Below.keeps hB2 x1
    have z3 := Below.keeps hB2 g3
    have HB2 := Lib.hid hB2
    clear hB2 hA2 x0 x1 g0 g2 g3
    go_wp2_with fail
    refine (HT.out _ HB2.out).mono ?_
    rintro e w3 ⟨htop, hB3⟩
    have HTOP := Lib.hid htop
    have HB3 := Lib.hid (bt HB2.out hB3)
    have u0 := Below.keeps hB3 z0
    have u1 := Below.keeps hB3 z1
    have u3 := Below.keeps hB3 z3
    clear htop hB3 z0 z1 z3
    rcases HTOP.out with ⟨hb, rfl⟩ | ⟨g, c, m, hv, hm, rfl⟩
    · have HE := Lib.hid (show thereV nt inp role s.blocks (20, a) = 132 by rw [th20, hb]; rfl)
      clear HTOP hb
      go_wp2_with fail
      go_ret
      exact ⟨by rw [HE.out]; rfl, bt HB1.out HB3.out⟩
    · obtain ⟨b, hb, _, l0, _, _, _, l4⟩ := HLA.out _ HB3.out hv hm
      clear HTOP hv hm
      by_cases h1 : b.op = 19
      · have q1 : ((b.op.toNat : Int) != 19) = false := by rw [h1]; rfl
        cases hd : b.did with
        | true =>
          rw [hd] at l4
          have HE := Lib.hid (show thereV nt inp role s.blocks (20, a) = 132 by rw [th20, hb]; simp [elseBad, hd])
          clear hb hd h1
          go_wp2_with fail
          go_ret
          exact ⟨by rw [HE.out]; rfl, bt HB1.out HB3.out⟩
        | false =>
          rw [hd] at l4
          have HE := Lib.hid (show thereV nt inp role s.blocks (20, a) = 0 by rw [th20, hb]; simp [elseBad, hd, h1])
          clear hb hd h1
          go_wp2_with fail
          go_ret
          exact ⟨by rw [HE.out]; rfl, bt HB1.out HB3.out⟩
      · have q1 : ((b.op.toNat : Int) != 19) = true := by
          have := u8_ne (p := b.op) (k := 19) (by decide) h1
          simpa [bne] using this
        have HE := Lib.hid (show thereV nt inp role s.blocks (20, a) = 132 by rw [th20, hb]; simp [elseBad, h1])
        clear hb h1
        go_wp2_with fail
        go_ret
        exact ⟨by rw [HE.out]; rfl, bt HB1.out HB3.out⟩
  have HE := Lib.hid (thN (nt := nt) (inp := inp) (role := role) (bl := s.blocks) (a := a) h1 h3 h17 h18 h23 h20 h21 h19 h22)
  have e1 : ((p.toNat : Int) == 1) = false := u8_ne (k := 1) (by decide) h1
  have e3 : ((p.toNat : Int) == 3) = false := u8_ne (k := 3) (by decide) h3
  have e17 : ((p.toNat : Int) == 17) = false := u8_ne (k := 17) (by decide) h17
  have e18 : ((p.toNat : Int) == 18) = false := u8_ne (k := 18) (by decide) h18
  have e23 : ((p.toNat : Int) == 23) = false := u8_ne (k := 23) (by decide) h23
  have e20 : ((p.toNat : Int) == 20) = false := u8_ne (k := 20) (by decide) h20
  have e21 : ((p.toNat : Int) == 21) = false := u8_ne (k := 21) (by decide) h21
  have e19 : ((p.toNat : Int) == 19) = false := u8_ne (k := 19) (by decide) h19
  have e22 : ((p.toNat : Int) == 22) = false := u8_ne (k := 22) (by decide) h22
  clear h1 h3 h17 h18 h23 h20 h21 h19 h22
  go_enter Tryz.func122, Tryz.ntmps122
  go_upto_region 1 with fail
  rw [← hW1]
  clear hW1
  refine region_known [(1, .exact _ (.int .u8 (p.toNat : Int))), (5, .exact _ (.int .u8 (a.toNat : Int))), (11, .exact _ (.slice at_ nt ct)), (17, .exact _ (.int .u8 (p.toNat : Int))), (21, .exact _ (.int .u8 (a.toNat : Int))), (26, .exact _ (.int .i64 (inp : Int))), (32, .exact _ (.int .u8 (p.toNat : Int))), (36, .exact _ (.int .u8 (p.toNat : Int))), (41, .exact _ (.int .u8 (a.toNat : Int)))] (by kernel_rfl) (by kernel_rfl) ?_
  (repeat (first | (refine wpG_skip (by kernel_rfl) (fun K hK => ?_); go_big_quiet_skip; refine wpQuiet_nil (hK _ ?_); clear hK K) | (refine wpG_quiet (by rfl) (by rfl) (fun K hK => ?_); go_big_quiet_want; go_big_quiet_op; go_big_quiet_on; refine wpQuiet_nil (hK _ ?_); clear hK K) | (refine wpG_nilOk rfl rfl rfl (by kernel_rfl) (fun K hK => ?_); go_simp; refine hK _ ?_; clear hK K)))
  repeat (refine wpG_exact rfl (by kernel_rfl) (fun w' G hB hS hG => ?_) (fun K hK => ?_); (have y0 := Below.keeps hB x0; have y1 := Below.keeps hB x1; have y2 := Below.keeps hB g0; have y3 := Below.keeps hB g2; go_simp; exact hG _ (Bel.refl _)); go_simp; refine hK _ ?_; clear hK K; (repeat (first | (refine wpG_skip (by kernel_rfl) (fun K hK => ?_); go_big_quiet_skip; refine wpQuiet_nil (hK _ ?_); clear hK K) | (refine wpG_quiet (by rfl) (by rfl) (fun K hK => ?_); go_big_quiet_want; go_big_quiet_op; go_big_quiet_on; refine wpQuiet_nil (hK _ ?_); clear hK K) | (refine wpG_nilOk rfl rfl rfl (by kernel_rfl) (fun K hK => ?_); go_simp; refine hK _ ?_; clear hK K))))
  refine wpG_nilV3 ?_
  intro w2 hB2 hA2
  have z0 := Below.keeps hB2 x0
  have z1 := Below.keeps hB2 x1
  have z3 := Below.keeps hB2 g3
  have HB2 := Lib.hid hB2
  clear hB2 hA2 x0 x1 g0 g2 g3
  go_wp2_with fail
  refine (HT.out _ HB2.out).mono ?_
  rintro e w3 ⟨htop, hB3⟩
  have HTOP := Lib.hid htop
  have HB3 := Lib.hid (bt HB2.out hB3)
  have u0 := Below.keeps hB3 z0
  have u1 := Below.keeps hB3 z1
  have u3 := Below.keeps hB3 z3
  clear htop hB3 z0 z1 z3
  obtain ⟨tp, rfl⟩ : ∃ tp, e = .returned tp := by rcases HTOP.out with ⟨_, rfl⟩ | ⟨_, _, _, _, _, rfl⟩ <;> exact ⟨_, rfl⟩
  clear HTOP
  go_wp2_with fail
  go_ret
  exact ⟨by rw [HE.out]; rfl, bt HB1.out HB3.out⟩
end
end Go.Proofs.YtndagciefnddmaaGreatDoor
namespace Go.Proofs.YtndagciefnddmaaGreatDoor
open Go.RowKit Oct
attribute [local irreducible] wpG
theorem run_next_at {P : Program} (w : World) (I : Nat) (s : ByteArray) (pos : Nat) (ty : TypeId) (hI : w.heap[I]? = some (.stringIter s pos)) (h : pos < s.size) (ha : (s[pos]'h).toNat < 128) :
    (Instr.next (.pointer (some ⟨I, 0, none⟩)) true ty).run P w = .ok (.tuple #[.bool true, .int .i64 pos, .int .i32 (s[pos]'h).toNat]) (w.putObj I (.stringIter s (pos + 1))) := by
  simp only [Instr.next, getObj, setObj, Sem.run_bind, Sem.run, hI, Result.andThen, h, if_true, decode_ascii s pos h ha]
  simp [goInt, Sem.run, hI, World.putObj]
theorem run_next_out {P : Program} (w : World) (I : Nat) (s : ByteArray) (pos : Nat) (ty : TypeId) (hI : w.heap[I]? = some (.stringIter s pos)) (h : ¬ pos < s.size) :
    (Instr.next (.pointer (some ⟨I, 0, none⟩)) true ty).run P w = .ok (.tuple #[.bool false]) w := by
  simp [Instr.next, getObj, Sem.run, hI, h]
theorem iterPos_at {w : World} {I : Nat} {s : ByteArray} {pos : Nat} (hI : w.heap[I]? = some (.stringIter s pos)) : w.iterPos I = pos := by
  simp [World.iterPos, hI]
theorem next_bs {P : Program} (w : World) (I : Nat) (l : List UInt8) (pos : Nat) (ty : TypeId) (hI : w.heap[I]? = some (.stringIter (bs l) pos)) (h : pos < l.length) (ha : l[pos].toNat < 128) :
    (Instr.next (.pointer (some ⟨I, 0, none⟩)) true ty).run P w = .ok (.tuple #[.bool true, .int .i64 (pos : Int), .int .i32 (l[pos].toNat : Int)]) (w.putObj I (.stringIter (bs l) (pos + 1))) := by
  have hs : pos < (bs l).size := by rw [bs_size]; exact h
  have := run_next_at (P := P) w I (bs l) pos ty hI hs (by rw [bs_get]; exact ha)
  rw [bs_get] at this
  exact this
theorem next_bs_out {P : Program} (w : World) (I : Nat) (l : List UInt8) (pos : Nat) (ty : TypeId) (hI : w.heap[I]? = some (.stringIter (bs l) pos)) (h : ¬ pos < l.length) :
    (Instr.next (.pointer (some ⟨I, 0, none⟩)) true ty).run P w = .ok (.tuple #[.bool false]) w := run_next_out w I (bs l) pos ty hI (by rw [bs_size]; exact h)
def EffM (w : World) : Prop := ∀ k, k < 24 → w.cell? ⟨1, k * 2, none⟩ = some (.string (bs (effs.getD k ([], [])).1)) ∧ w.cell? ⟨1, k * 2 + 1, none⟩ = some (.string (bs (effs.getD k ([], [])).2))
theorem EffM.below {w w' : World} {base : Nat} (h : EffM w) (hB : Below base w w') (hg : 1 < base) : EffM w' := fun k hk => by
  obtain ⟨h1, h2⟩ := h k hk
  exact ⟨(World.cell?_of_block (hB.block _ hg)).trans h1, (World.cell?_of_block (hB.block _ hg)).trans h2⟩
theorem effs_repl : ∀ k, k < 24 → (Lib.countByte (effs.getD k ([], [])).1 82 = 0 ∨ (effs.getD k ([], [])).1 = [82]) ∧ (Lib.countByte (effs.getD k ([], [])).2 82 = 0 ∨ (effs.getD k ([], [])).2 = [82]) := by decide
theorem regV_two (a : UInt8) : regV a = [84] ∨ regV a = [78] := by unfold regV; split <;> simp
theorem replV_mem {s r : List UInt8} {c : UInt8} (h : c ∈ replV s r) : c ∈ s ∨ (s = [82] ∧ c ∈ r) := by
  unfold replV at h
  split at h
  · rename_i e; exact .inr ⟨e, h⟩
  · exact .inl h
theorem effs_f1 : ∀ k, k < 24 → (∀ c ∈ (effs.getD k ([], [])).1, c.toNat < 128) := by decide
theorem effs_f2 : ∀ k, k < 24 → (∀ c ∈ (effs.getD k ([], [])).2, c = 49 ∨ c = 50 ∨ c = 84 ∨ c = 78 ∨ c = 82) := by decide
theorem effs_f3 : ∀ k, k < 24 → (82 ∈ (effs.getD k ([], [])).2 → (effs.getD k ([], [])).2 = [82]) := by decide
theorem effs_f4 : ∀ k, k < 24 → (49 ∈ (effs.getD k ([], [])).2 → 1 ≤ (effs.getD k ([], [])).1.length) := by decide
theorem effs_f5 : ∀ k, k < 24 → (50 ∈ (effs.getD k ([], [])).2 → 2 ≤ (effs.getD k ([], [])).1.length) := by decide
theorem effs_f6 : ∀ k, k < 24 → ((effs.getD k ([], [])).1.length ≤ 3) := by decide
theorem effs_f7 : ∀ k, k < 24 → ((effs.getD k ([], [])).2.length ≤ 2) := by decide
theorem eff_facts (x : VI) (hx : x.1.toNat < 24) : (∀ c ∈ (effV x).1, c.toNat < 128) ∧ (∀ c ∈ (effV x).2, c = 49 ∨ c = 50 ∨ c = 84 ∨ c = 78) ∧ (49 ∈ (effV x).2 → 1 ≤ (effV x).1.length) ∧ (50 ∈ (effV x).2 → 2 ≤ (effV x).1.length) ∧ (effV x).1.length ≤ 3 ∧ (effV x).2.length ≤ 2 := by
  have f1 := effs_f1 x.1.toNat hx
  have f2 := effs_f2 x.1.toNat hx
  have f3 := effs_f3 x.1.toNat hx
  have f4 := effs_f4 x.1.toNat hx
  have f5 := effs_f5 x.1.toNat hx
  have f6 := effs_f6 x.1.toNat hx
  have f7 := effs_f7 x.1.toNat hx
  have hl : ∀ s : List UInt8, (replV s (regV x.2)).length = s.length := fun s => by
    unfold replV
    split
    · rename_i h; rw [h]; rcases regV_two x.2 with e | e <;> rw [e] <;> rfl
    · rfl
  unfold effV
  refine ⟨fun c hc => ?_, fun c hc => ?_, fun hc => ?_, fun hc => ?_, by rw [hl]; exact f6, by rw [hl]; exact f7⟩
  · rcases replV_mem hc with h | ⟨_, h⟩
    · exact f1 c h
    · rcases regV_two x.2 with e | e <;> (rw [e, List.mem_singleton] at h; subst h; decide)
  · rcases replV_mem hc with h | ⟨_, h⟩
    · rcases f2 c h with h1 | h1 | h1 | h1 | h1
      · exact .inl h1
      · exact .inr (.inl h1)
      · exact .inr (.inr (.inl h1))
      · exact .inr (.inr (.inr h1))
      · exfalso
        subst h1
        have := f3 h
        unfold replV at hc
        rw [if_pos this] at hc
        rcases regV_two x.2 with e | e <;> (rw [e] at hc; simp at hc)
    · rcases regV_two x.2 with e | e <;> (rw [e, List.mem_singleton] at h; subst h; simp)
  · rw [hl]
    rcases replV_mem hc with h | ⟨_, h⟩
    · exact f4 h
    · rcases regV_two x.2 with e | e <;> (rw [e] at h; simp at h)
  · rw [hl]
    rcases replV_mem hc with h | ⟨_, h⟩
    · exact f5 h
    · rcases regV_two x.2 with e | e <;> (rw [e] at h; simp at h)
theorem fitV_iff : ∀ (t u : List UInt8), t.length ≤ u.length → (fitV t u = true ↔ ∀ j (h : j < t.length) (h' : j < u.length), t[j] = 63 ∨ t[j] = u[j])
  | [], u, _ => by simp [fitV]
  | a :: t, [], h => by simp at h
  | a :: t, b :: u, h => by
    rw [fitV, Bool.and_eq_true, fitV_iff t u (by simpa using h)]
    constructor
    · rintro ⟨h1, h2⟩ j hj hj'
      cases j with
      | zero => simpa using h1
      | succ j => exact h2 j (by simpa using hj) (by simpa using hj')
    · intro h3
      have h4 : a = 63 ∨ a = b := h3 0 (by simp) (by simp)
      refine ⟨by simpa using h4, fun j hj hj' => ?_⟩
      exact h3 (j + 1) (by simpa using hj) (by simpa using hj')
theorem givesV_succ {top g : List UInt8} {k : Nat} (h : k < g.length) : givesV top (g.take (k + 1)) = givesV top (g.take k) ++ (if g[k] = 49 then top.take 1 else if g[k] = 50 then (top.drop 1).take 1 else [g[k]]) := by
  unfold givesV
  rw [List.take_succ_eq_append_getElem h, List.flatMap_append]
  simp
theorem givesV_len (top : List UInt8) : ∀ g : List UInt8, (givesV top g).length ≤ g.length
  | [] => by simp [givesV]
  | c :: g => by
    have ih := givesV_len top g
    unfold givesV at ih ⊢
    rw [List.flatMap_cons, List.length_append, List.length_cons]
    have : (if c = 49 then top.take 1 else if c = 50 then (top.drop 1).take 1 else [c]).length ≤ 1 := by
      split
      · rw [List.length_take]; omega
      · split
        · rw [List.length_take]; omega
        · simp
    omega
end Go.Proofs.YtndagciefnddmaaGreatDoor
