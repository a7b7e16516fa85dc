/- Words of 32 bits as values. -/
import Derived.Test.YtdebgkjekcppmaaP0
import Derived.Test.YtdebgkjekcppmaaR0
import Derived.Laws.BitsAllLaws
import Derived.Deep.WholeRow
import Derived.Deep.MidRow
namespace Go.Proofs.Ytdebgkjekcppmaa
open Go.RowKit

/-- a word, as a value holds it -/
def U (x : UInt32) : Int := (x.toNat : Int)
theorem U_nat (x : UInt32) : U x = (x.toNat : Int) := rfl
theorem U_lt (x : UInt32) : x.toNat < 4294967296 := x.toNat_lt
@[go_sem] theorem U_xor (a b : UInt32) : bits .xor .u32 (U a) (U b) = U (a ^^^ b) := by
  rw [U_nat, U_nat, u32_xor_nat _ _ (U_lt a) (U_lt b), U_nat, UInt32.toNat_xor]
@[go_sem] theorem U_and (a b : UInt32) : bits .and .u32 (U a) (U b) = U (a &&& b) := by
  rw [U_nat, U_nat, u32_and_nat _ _ (U_lt a) (U_lt b), U_nat, UInt32.toNat_and]
@[go_sem] theorem U_or (a b : UInt32) : bits .or .u32 (U a) (U b) = U (a ||| b) := by
  rw [U_nat, U_nat, u32_or_nat _ _ (U_lt a) (U_lt b), U_nat, UInt32.toNat_or]
theorem wrap_u32 (z : Int) : IntKind.u32.wrap z = z % (4294967296 : Int) := by
  simp [IntKind.wrap, IntKind.bits, IntKind.signed]
@[go_sem] theorem U_add (a b : UInt32) : IntKind.u32.wrap (U a + U b) = U (a + b) := by
  rw [wrap_u32, U_nat, U_nat, U_nat, UInt32.toNat_add]; omega
theorem U_shr (x : UInt32) (n : Nat) (h : n ≤ 31) : U x / 2 ^ n = U (x >>> UInt32.ofNat n) := by
  rw [U_nat, U_nat, UInt32.toNat_shiftRight, UInt32.toNat_ofNat_of_lt' (by show n < 4294967296; omega), Nat.mod_eq_of_lt (by omega), Nat.shiftRight_eq_div_pow]
  norm_cast
theorem U_shl (x : UInt32) (n : Nat) (h : n ≤ 31) : U x * 2 ^ n % 4294967296 = U (x <<< UInt32.ofNat n) := by
  rw [U_nat, U_nat, UInt32.toNat_shiftLeft, UInt32.toNat_ofNat_of_lt' (by show n < 4294967296; omega), Nat.mod_eq_of_lt (show n < 32 by omega), Nat.shiftLeft_eq]
  have e : (4294967296 : Int) = ((2 ^ 32 : Nat) : Int) := rfl
  have e2 : (2 : Int) ^ n = ((2 ^ n : Nat) : Int) := by norm_cast
  rw [e, e2, ← Int.natCast_mul, ← Int.natCast_emod]
@[go_sem] theorem U_shl24 (x : UInt32) : U x * (16777216 : Int) % (4294967296 : Int) = U (x <<< 24) := U_shl x 24 (by omega)
@[go_sem] theorem U_shl16 (x : UInt32) : U x * (65536 : Int) % (4294967296 : Int) = U (x <<< 16) := U_shl x 16 (by omega)
@[go_sem] theorem U_shl8 (x : UInt32) : U x * (256 : Int) % (4294967296 : Int) = U (x <<< 8) := U_shl x 8 (by omega)
@[go_sem] theorem U_shr3 (x : UInt32) : U x / (8 : Int) = U (x >>> 3) := U_shr x 3 (by omega)
@[go_sem] theorem U_shr10 (x : UInt32) : U x / (1024 : Int) = U (x >>> 10) := U_shr x 10 (by omega)
@[go_sem] theorem U_add' (a b : UInt32) : (U a + U b) % (4294967296 : Int) = U (a + b) := by rw [← wrap_u32, U_add]
@[go_sem] theorem U_add3 (a b c : UInt32) : (U a + U b + U c) % (4294967296 : Int) = U (a + b + c) := by
  simp only [U_nat, UInt32.toNat_add]; omega
@[go_sem] theorem U_add4 (a b c d : UInt32) : (U a + U b + U c + U d) % (4294967296 : Int) = U (a + b + c + d) := by
  simp only [U_nat, UInt32.toNat_add]; omega
@[go_sem] theorem U_add5 (a b c d e : UInt32) : (U a + U b + U c + U d + U e) % (4294967296 : Int) = U (a + b + c + d + e) := by
  simp only [U_nat, UInt32.toNat_add]; omega
@[go_sem] theorem U_byte (c : UInt8) : (c.toNat : Int) % (4294967296 : Int) = U c.toUInt32 := by
  have := c.toNat_lt
  rw [U_nat, UInt8.toNat_toUInt32]; omega
theorem wf_U (x : UInt32) : IntKind.u32.wrap (U x) = U x := by
  have := U_lt x
  rw [wrap_u32, U_nat]; omega
/-- the cells of a row of words -/
def ucells (l : List UInt32) : List Value := l.map fun x => .int .u32 (U x)
theorem ucells_length (l : List UInt32) : (ucells l).length = l.length := by simp [ucells]
theorem ucells_at (l : List UInt32) (k : Nat) (h : k < l.length) : (ucells l)[k]? = some (.int .u32 (U l[k])) := by simp [ucells, h]
theorem ucells_set (l : List UInt32) (k : Nat) (x : UInt32) : (ucells l).set k (.int .u32 (U x)) = ucells (l.set k x) := by simp [ucells, List.map_set]
theorem ucells_one (l : List UInt32) : (ucells l).toArray.all (·.oneCell') = true := by
  rw [List.all_toArray, List.all_eq_true]; intro v hv
  simp only [ucells, List.mem_map] at hv
  obtain ⟨x, _, rfl⟩ := hv; rfl

/-- block b is this row of cells, that may be written -/
def Blk (w : World) (b : Nat) (t : TypeId) (cs : List Value) : Prop := w.heap[b]? = some (.cells cs.toArray t (0, 0))
theorem Blk.lt {w : World} {b : Nat} {t : TypeId} {cs : List Value} (h : Blk w b t cs) : b < w.heap.size := by
  rcases Nat.lt_or_ge b w.heap.size with hn | hn
  · exact hn
  · simp [Blk, Array.getElem?_eq_none hn] at h
theorem Blk.cell {w : World} {b : Nat} {t : TypeId} {cs : List Value} (h : Blk w b t cs) {k : Nat} {v : Value} (hv : cs[k]? = some v) : w.cell? ⟨b, k, none⟩ = some v := by
  rw [cell_of_row w b k _ t _ h]; simpa using hv
theorem Blk.free {w : World} {b : Nat} {t : TypeId} {cs : List Value} (h : Blk w b t cs) {k : Nat} (hk : k < cs.length) : w.frozen? ⟨b, k, none⟩ = false := by
  unfold Blk at h
  simp [World.frozen?, h]
theorem Blk.set {w : World} {b : Nat} {t : TypeId} {cs : List Value} (h : Blk w b t cs) (k : Nat) (v : Value) : Blk (w.setCell ⟨b, k, none⟩ v) b t (cs.set k v) := by
  unfold Blk at h ⊢
  simp [World.setCell, Array.getElem?_modify, h]
theorem Blk.row {w : World} {b : Nat} {t : TypeId} {cs : List Value} (h : Blk w b t cs) (cs' : List Value) : Blk (w.setRow b cs'.toArray) b t cs' := by
  unfold Blk at h ⊢
  simp [World.setRow, Array.getElem?_modify, h]
theorem Blk.below {w w' : World} {b : Nat} {t : TypeId} {cs : List Value} (h : Blk w b t cs) (hB : Below w.heap.size w w') : Blk w' b t cs := by
  unfold Blk; rw [hB.block b h.lt]; exact h
theorem Blk.chg {X : Nat → Prop} {w w' : World} {b : Nat} {t : TypeId} {cs : List Value} (h : Blk w b t cs) (hB : Chg X w w') (hX : ¬ X b) : Blk w' b t cs := hB.at h hX
theorem Blk.new (w : World) (cs : List Value) (t : TypeId) : Blk (w.alloc (.cells cs.toArray t)) w.heap.size t cs := by
  exact heap_alloc_last w _
theorem Blk.range {w : World} {b : Nat} {t : TypeId} {cs : List Value} (h : Blk w b t cs) : w.rangeAt b 0 cs := fun j v hv => by rw [Nat.zero_add]; exact h.cell hv
theorem heap_setRow_ne (w : World) (b : Nat) (cs : Array Value) (k : Nat) (h : k ≠ b) : (w.setRow b cs).heap[k]? = w.heap[k]? := by
  unfold World.setRow
  rw [Array.getElem?_modify, if_neg (fun e => h e.symm)]
theorem setRow_size (w : World) (b : Nat) (cs : Array Value) : (w.setRow b cs).heap.size = w.heap.size := by simp [World.setRow]
theorem below_setRow {B : Nat} {a w : World} (h : Below B a w) {b : Nat} (hb : B ≤ b) (cs : Array Value) : Below B a (w.setRow b cs) :=
  ⟨h.os, h.tape, h.output, by rw [setRow_size]; exact h.size, fun k hk => by rw [heap_setRow_ne w b cs k (by omega)]; exact h.block k hk⟩
theorem chg_setRow {X : Nat → Prop} (w : World) (b : Nat) (cs : Array Value) (hX : X b) : Chg X w (w.setRow b cs) :=
  ⟨rfl, rfl, rfl, by rw [setRow_size]; exact Nat.le_refl _, fun k _ hn => heap_setRow_ne w b cs k fun e => hn (e ▸ hX)⟩

section
variable {P : Program} {ops : Array Oper} {rest : List Oper} {op : Oper} {a : Act} {w : World} {Q : Exit → Act → World → Prop}
/-- a whole block is read -/
theorem blk_load (b : Nat) (cs : List Value) {t : TypeId} (h : Blk w b t cs) (d : TypeDesc) (hgd : op.guard = none) (ty : TypeId) (x : Operand) (ho : op.op = .load ty x) (hx : a.eval x = .pointer (some ⟨b, 0, none⟩))
    (hu : P.underlying ty = some d) (hd : (match d with | .struct _ | .array _ _ => true | _ => false) = true) (hi : (P.info? ty).map (·.size) = some cs.length)
    (k : wpList P ops Q rest (a.put op.dst (.agg cs.toArray)) w) : wpList P ops Q (op :: rest) a w :=
  wpList_plain hgd fun _ hK => wp_load_row ty x ho b hx t cs.toArray (0, 0) d h hu hd (by simpa using hi) (hK _ _ k)
/-- a whole block is written -/
theorem blk_store (b : Nat) (cs cs' : List Value) {t : TypeId} (h : Blk w b t cs) (hgd : op.guard = none) (ty : TypeId) (x y : Operand) (ho : op.op = .store ty x y) (hx : a.eval x = .pointer (some ⟨b, 0, none⟩))
    (hy : a.eval y = .agg cs'.toArray) (hi : (P.info? ty).map (·.size) = some cs'.length) (hl : cs.length = cs'.length) (h1 : cs'.toArray.all (·.oneCell') = true)
    (k : wpList P ops Q rest (a.put op.dst undef) (w.setRow b cs'.toArray)) : wpList P ops Q (op :: rest) a w :=
  wpList_plain hgd fun _ hK => wp_store_row ty x y ho b cs'.toArray hx hy t cs.toArray h (by simpa using hi) (by simpa using hl) h1 (hK _ _ k)
/-- a literal, as it is built -/
theorem blk_build (cs' : List Value) (hgd : op.guard = none) (t : TypeId) (parts : Array (Nat × Operand)) (ho : op.op = .build t parts)
    (hb : P.built t (parts.map fun (i, x) => (i, a.eval x)).toList = some cs'.toArray)
    (k : wpList P ops Q rest (a.put op.dst (.agg cs'.toArray)) w) : wpList P ops Q (op :: rest) a w :=
  wpList_build hgd t parts ho (by rw [hb]; rfl) (by rw [hb]; exact k)
/-- a result that lies in a block -/
theorem blk_result {fn : Func} {p : Tmp} {ty t : TypeId} {tmps : Array Value} {cs : List Value} {b : Nat} (hr : fn.results = #[.cell p ty]) (hp : tmps.getD p undef = .pointer (some ⟨b, 0, none⟩)) (h : Blk w b t cs) (d : TypeDesc)
    (hu : P.underlying ty = some d) (hd : (match d with | .struct _ | .array _ _ => true | _ => false) = true) (hi : (P.info? ty).map (·.size) = some cs.length) : (results fn tmps).run P w = .ok (.agg cs.toArray) w := by
  have := run_loadVar_row w b t ty cs.toArray (0, 0) d h hu hd (by simpa using hi)
  simp only [Array.getD_eq_getD_getElem?] at hp
  simp [results, hr, Sem.run_bind, Result.andThen, hp, asAddr, this]
end
end Go.Proofs.Ytdebgkjekcppmaa
