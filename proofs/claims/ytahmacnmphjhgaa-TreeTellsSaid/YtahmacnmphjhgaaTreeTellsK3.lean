/- Lemmas for TreeTells, part 3: walks of the functions that it reaches, and the plain laws behind them. -/
import Derived.Laws.BitsAllLaws
import Derived.Deep.WholeRow
import Derived.Deep.MidRow
import Derived.Test.YtahmacnmphjhgaaTreeTellsK2
set_option linter.unusedSimpArgs false
set_option linter.unusedVariables false
namespace Go.Proofs.Ytahmacnmphjhgaa
open Go.RowKit Oct

set_option maxRecDepth 100000 in
set_option maxHeartbeats 1000000 in
theorem rRow_any (v : Value) (r : List (List UInt8)) (w : World) (hr : Reads w v r.length (tcells r)) (hs : (texts r).length ≤ 1000000000) (hl : r.length ≤ 1000000000) :
    Calls Try.prog 61 #[v] w fun e w' => e = .returned (txV (row r)) ∧ Below w.heap.size w w' := by
  obtain ⟨a, cap, rfl, _, hc⟩ := hr
  by_cases h : r.length ≤ 65535
  · go_enter Try.func61, Try.ntmps61
    go_wp2_with (go_at_call 72; refine (num_any _ _ _ (by omega) (by omega) (by omega) (by omega)).mono ?_; rintro e w1 ⟨rfl, hB1⟩)
    go_loopw [4, 5] (fun s i wr => ∃ k : Nat, ∃ l : List UInt8, k ≤ r.length ∧ i = .int .i64 k ∧ s = .string (bs l) ∧ l.length ≤ 1000000002 ∧ Hid (l = num r.length 2 ++ texts (r.take k) ∧ fits (r.take k) = true) ∧ Below w.heap.size w wr) (fun _ i _ => r.length - (intOf i).toNat)
    case atStart => exact ⟨0, _, by omega, rfl, rfl, by simp, ⟨by simp [texts], rfl⟩, hB1⟩
    case round =>
      obtain ⟨k, l, hk, rfl, rfl, hl2, hH, hB⟩ := hrel
      by_cases h0 : k < r.length
      · obtain ⟨b, off, rfl, hcell⟩ := hc k _ (tcells_at r k h0)
        have hcell2 := Below.keeps hB hcell
        have hm := texts_mem_le r k h0
        clear hc
        by_cases h1 : r[k].length ≤ 65535
        · have ht := Lib.hid (text_le r[k] h1)
          go_wp2_with (go_at_call 73; refine (rText_any _ _ (by omega)).mono ?_; rw [ht.out, txV_mk]; rintro e w2 ⟨rfl, hB2⟩)
          go_roundw
          case rel =>
            obtain ⟨rfl, hf⟩ := hH.out
            refine ⟨k + 1, _, by omega, by go_num, rfl, ?_, ⟨?_, fits_take r k h0 hf h1⟩, hB.trans (hB2.mono hB.size)⟩
            · have := texts_take_le r (k + 1)
              rw [texts_take r k h0] at this
              simp at this ⊢; omega
            · rw [texts_take r k h0]; simp
          case measure => simp [intOf]; omega
        · have ht := Lib.hid (text_gt r[k] h1)
          go_wp2_with (go_at_call 73; refine (rText_any _ _ (by omega)).mono ?_; rw [ht.out, txV_mk]; rintro e w2 ⟨rfl, hB2⟩)
          go_ret2
          exact ⟨by rw [row_no r h (fits_not r k h0 h1)]; rfl, hB.trans (hB2.mono hB.size)⟩
      · obtain rfl : k = r.length := by omega
        go_wp2
        go_ret2
        obtain ⟨rfl, hf⟩ := hH.out
        rw [List.take_length] at hf
        exact ⟨by rw [row_ok r h hf, List.take_length]; rfl, hB⟩
  · rw [row_long r h, txV_mk]
    go_enter Try.func61, Try.ntmps61
    go_wp2
    go_ret2
    exact ⟨rfl, Below.refl _ _⟩

set_option maxRecDepth 100000 in
set_option maxHeartbeats 1000000 in
theorem Row_any (v : Value) (r : List (List UInt8)) (w : World) (hr : Reads w v r.length (tcells r)) (hs : (texts r).length ≤ 1000000000) (hl : r.length ≤ 1000000000) :
    Calls Try.prog 70 #[v] w fun e w' => e = .returned (txV (row r)) ∧ Below w.heap.size w w' := by
  obtain ⟨a, cap, rfl, _, hc⟩ := hr
  by_cases h : r.length ≤ 65535
  · have hb := Bld.fresh w
    go_enter Try.func70, Try.ntmps70
    go_wp2_with (first | (go_at_call 80; refine (bytes_any _ _ _ (by omega) (by omega) (by omega) (by omega)).mono ?_; rintro e w1 ⟨rfl, hB1⟩; have hb1 := Bld.below hb hB1) | (go_at_call 79; refine (WriteString_any _ _ _ _ _ hb1 (by simp)).mono ?_; rintro e w2 ⟨rfl, hb2, hB2⟩))
    have hB0 : Below w.heap.size w w2 := ((Below.refl w.heap.size w).alloc (Nat.le_refl _) _).trans ((hB1.mono (by simp)).trans hB2)
    rw [List.nil_append] at hb2
    clear hb hb1 hB1 hB2
    go_loopw [19] (fun i wr => ∃ k : Nat, k ≤ r.length ∧ i = .int .i64 k ∧ Bld w.heap.size w.heap.size (num r.length 2 ++ texts (r.take k)) wr ∧ Hid (fits (r.take k) = true) ∧ Below w.heap.size w wr) (fun i _ => r.length - (intOf i).toNat)
    case atStart => exact ⟨0, by omega, rfl, by simpa [texts] using hb2, rfl, hB0⟩
    case round =>
      obtain ⟨k, hk, rfl, hb, hH, hB⟩ := hrel
      by_cases h0 : k < r.length
      · obtain ⟨b, off, rfl, hcell⟩ := hc k _ (tcells_at r k h0)
        have hcell2 := Below.keeps hB hcell
        have hm := texts_mem_le r k h0
        have ht2 := texts_take_le r k
        clear hc
        by_cases h1 : r[k].length ≤ 65535
        · have ht := Lib.hid (text_le r[k] h1)
          go_wp2_with (first | (go_at_call 81; refine (Text_any _ _ (by omega)).mono ?_; rw [ht.out, txV_mk]; rintro e w3 ⟨rfl, hB3⟩; have hb3 := Bld.below hb hB3) | (go_at_call 79; refine (WriteString_any _ _ _ _ _ hb3 (by simp; omega)).mono ?_; rintro e w4 ⟨rfl, hb4, hB4⟩))
          go_roundw
          case rel =>
            refine ⟨k + 1, by omega, by go_num, ?_, fits_take r k h0 hH.out h1, hB.trans ((hB3.mono hB.size).trans hB4)⟩
            rw [texts_take r k h0]; simpa using hb4
          case measure => simp [intOf]; omega
        · have ht := Lib.hid (text_gt r[k] h1)
          go_wp2_with (go_at_call 81; refine (Text_any _ _ (by omega)).mono ?_; rw [ht.out, txV_mk]; rintro e w3 ⟨rfl, hB3⟩)
          go_ret2
          exact ⟨by rw [row_no r h (fits_not r k h0 h1)]; rfl, hB.trans (hB3.mono hB.size)⟩
      · obtain rfl : k = r.length := by omega
        go_wp2_with (go_at_call 82; refine (BString_any _ _ _ _ hb).mono ?_; rintro e w3 ⟨rfl, hB3⟩)
        go_ret2
        have hf := hH.out
        rw [List.take_length] at hf
        exact ⟨by rw [row_ok r h hf]; rfl, hB.trans hB3⟩
  · rw [row_long r h, txV_mk]
    go_enter Try.func70, Try.ntmps70
    go_wp2
    go_ret2
    exact ⟨rfl, Below.refl _ _⟩
end Go.Proofs.Ytahmacnmphjhgaa
namespace Go.Proofs.Ytahmacnmphjhgaa
open Go.RowKit

/-- a word, as a value holds it -/
def U (x : UInt32) : Int := (x.toNat : Int)
theorem U_nat (x : UInt32) : U x = (x.toNat : Int) := rfl
theorem U_lt (x : UInt32) : x.toNat < 4294967296 := x.toNat_lt
@[go_sem] theorem U_xor (a b : UInt32) : bits .xor .u32 (U a) (U b) = U (a ^^^ b) := by
  rw [U_nat, U_nat, u32_xor_nat _ _ (U_lt a) (U_lt b), U_nat, UInt32.toNat_xor]
@[go_sem] theorem U_and (a b : UInt32) : bits .and .u32 (U a) (U b) = U (a &&& b) := by
  rw [U_nat, U_nat, u32_and_nat _ _ (U_lt a) (U_lt b), U_nat, UInt32.toNat_and]
@[go_sem] theorem U_or (a b : UInt32) : bits .or .u32 (U a) (U b) = U (a ||| b) := by
  rw [U_nat, U_nat, u32_or_nat _ _ (U_lt a) (U_lt b), U_nat, UInt32.toNat_or]
theorem wrap_u32 (z : Int) : IntKind.u32.wrap z = z % (4294967296 : Int) := by
  simp [IntKind.wrap, IntKind.bits, IntKind.signed]
@[go_sem] theorem U_add (a b : UInt32) : IntKind.u32.wrap (U a + U b) = U (a + b) := by
  rw [wrap_u32, U_nat, U_nat, U_nat, UInt32.toNat_add]; omega
theorem U_shr (x : UInt32) (n : Nat) (h : n ≤ 31) : U x / 2 ^ n = U (x >>> UInt32.ofNat n) := by
  rw [U_nat, U_nat, UInt32.toNat_shiftRight, UInt32.toNat_ofNat_of_lt' (by show n < 4294967296; omega), Nat.mod_eq_of_lt (by omega), Nat.shiftRight_eq_div_pow]
  norm_cast
theorem U_shl (x : UInt32) (n : Nat) (h : n ≤ 31) : U x * 2 ^ n % 4294967296 = U (x <<< UInt32.ofNat n) := by
  rw [U_nat, U_nat, UInt32.toNat_shiftLeft, UInt32.toNat_ofNat_of_lt' (by show n < 4294967296; omega), Nat.mod_eq_of_lt (show n < 32 by omega), Nat.shiftLeft_eq]
  have e : (4294967296 : Int) = ((2 ^ 32 : Nat) : Int) := rfl
  have e2 : (2 : Int) ^ n = ((2 ^ n : Nat) : Int) := by norm_cast
  rw [e, e2, ← Int.natCast_mul, ← Int.natCast_emod]
@[go_sem] theorem U_shl24 (x : UInt32) : U x * (16777216 : Int) % (4294967296 : Int) = U (x <<< 24) := U_shl x 24 (by omega)
@[go_sem] theorem U_shl16 (x : UInt32) : U x * (65536 : Int) % (4294967296 : Int) = U (x <<< 16) := U_shl x 16 (by omega)
@[go_sem] theorem U_shl8 (x : UInt32) : U x * (256 : Int) % (4294967296 : Int) = U (x <<< 8) := U_shl x 8 (by omega)
@[go_sem] theorem U_shr3 (x : UInt32) : U x / (8 : Int) = U (x >>> 3) := U_shr x 3 (by omega)
@[go_sem] theorem U_shr10 (x : UInt32) : U x / (1024 : Int) = U (x >>> 10) := U_shr x 10 (by omega)
@[go_sem] theorem U_add' (a b : UInt32) : (U a + U b) % (4294967296 : Int) = U (a + b) := by rw [← wrap_u32, U_add]
@[go_sem] theorem U_add3 (a b c : UInt32) : (U a + U b + U c) % (4294967296 : Int) = U (a + b + c) := by
  simp only [U_nat, UInt32.toNat_add]; omega
@[go_sem] theorem U_add4 (a b c d : UInt32) : (U a + U b + U c + U d) % (4294967296 : Int) = U (a + b + c + d) := by
  simp only [U_nat, UInt32.toNat_add]; omega
@[go_sem] theorem U_add5 (a b c d e : UInt32) : (U a + U b + U c + U d + U e) % (4294967296 : Int) = U (a + b + c + d + e) := by
  simp only [U_nat, UInt32.toNat_add]; omega
@[go_sem] theorem U_byte (c : UInt8) : (c.toNat : Int) % (4294967296 : Int) = U c.toUInt32 := by
  have := c.toNat_lt
  rw [U_nat, UInt8.toNat_toUInt32]; omega
theorem wf_U (x : UInt32) : IntKind.u32.wrap (U x) = U x := by
  have := U_lt x
  rw [wrap_u32, U_nat]; omega
/-- the cells of a row of words -/
def ucells (l : List UInt32) : List Value := l.map fun x => .int .u32 (U x)
theorem ucells_length (l : List UInt32) : (ucells l).length = l.length := by simp [ucells]
theorem ucells_at (l : List UInt32) (k : Nat) (h : k < l.length) : (ucells l)[k]? = some (.int .u32 (U l[k])) := by simp [ucells, h]
theorem ucells_set (l : List UInt32) (k : Nat) (x : UInt32) : (ucells l).set k (.int .u32 (U x)) = ucells (l.set k x) := by simp [ucells, List.map_set]
theorem ucells_one (l : List UInt32) : (ucells l).toArray.all (·.oneCell') = true := by
  rw [List.all_toArray, List.all_eq_true]; intro v hv
  simp only [ucells, List.mem_map] at hv
  obtain ⟨x, _, rfl⟩ := hv; rfl

/-- block b is this row of cells, that may be written -/
def Blk (w : World) (b : Nat) (t : TypeId) (cs : List Value) : Prop := w.heap[b]? = some (.cells cs.toArray t (0, 0))
theorem Blk.lt {w : World} {b : Nat} {t : TypeId} {cs : List Value} (h : Blk w b t cs) : b < w.heap.size := by
  rcases Nat.lt_or_ge b w.heap.size with hn | hn
  · exact hn
  · simp [Blk, Array.getElem?_eq_none hn] at h
theorem Blk.cell {w : World} {b : Nat} {t : TypeId} {cs : List Value} (h : Blk w b t cs) {k : Nat} {v : Value} (hv : cs[k]? = some v) : w.cell? ⟨b, k, none⟩ = some v := by
  rw [cell_of_row w b k _ t _ h]; simpa using hv
theorem Blk.free {w : World} {b : Nat} {t : TypeId} {cs : List Value} (h : Blk w b t cs) {k : Nat} (hk : k < cs.length) : w.frozen? ⟨b, k, none⟩ = false := by
  unfold Blk at h
  simp [World.frozen?, h]
theorem Blk.set {w : World} {b : Nat} {t : TypeId} {cs : List Value} (h : Blk w b t cs) (k : Nat) (v : Value) : Blk (w.setCell ⟨b, k, none⟩ v) b t (cs.set k v) := by
  unfold Blk at h ⊢
  simp [World.setCell, Array.getElem?_modify, h]
theorem Blk.row {w : World} {b : Nat} {t : TypeId} {cs : List Value} (h : Blk w b t cs) (cs' : List Value) : Blk (w.setRow b cs'.toArray) b t cs' := by
  unfold Blk at h ⊢
  simp [World.setRow, Array.getElem?_modify, h]
theorem Blk.below {w w' : World} {b : Nat} {t : TypeId} {cs : List Value} (h : Blk w b t cs) (hB : Below w.heap.size w w') : Blk w' b t cs := by
  unfold Blk; rw [hB.block b h.lt]; exact h
theorem Blk.chg {X : Nat → Prop} {w w' : World} {b : Nat} {t : TypeId} {cs : List Value} (h : Blk w b t cs) (hB : Chg X w w') (hX : ¬ X b) : Blk w' b t cs := hB.at h hX
theorem Blk.new (w : World) (cs : List Value) (t : TypeId) : Blk (w.alloc (.cells cs.toArray t)) w.heap.size t cs := by
  exact heap_alloc_last w _
theorem Blk.range {w : World} {b : Nat} {t : TypeId} {cs : List Value} (h : Blk w b t cs) : w.rangeAt b 0 cs := fun j v hv => by rw [Nat.zero_add]; exact h.cell hv
theorem heap_setRow_ne (w : World) (b : Nat) (cs : Array Value) (k : Nat) (h : k ≠ b) : (w.setRow b cs).heap[k]? = w.heap[k]? := by
  unfold World.setRow
  rw [Array.getElem?_modify, if_neg (fun e => h e.symm)]
theorem setRow_size (w : World) (b : Nat) (cs : Array Value) : (w.setRow b cs).heap.size = w.heap.size := by simp [World.setRow]
theorem below_setRow {B : Nat} {a w : World} (h : Below B a w) {b : Nat} (hb : B ≤ b) (cs : Array Value) : Below B a (w.setRow b cs) :=
  ⟨h.os, h.tape, h.output, by rw [setRow_size]; exact h.size, fun k hk => by rw [heap_setRow_ne w b cs k (by omega)]; exact h.block k hk⟩
theorem chg_setRow {X : Nat → Prop} (w : World) (b : Nat) (cs : Array Value) (hX : X b) : Chg X w (w.setRow b cs) :=
  ⟨rfl, rfl, rfl, by rw [setRow_size]; exact Nat.le_refl _, fun k _ hn => heap_setRow_ne w b cs k fun e => hn (e ▸ hX)⟩

section
variable {P : Program} {ops : Array Oper} {rest : List Oper} {op : Oper} {a : Act} {w : World} {Q : Exit → Act → World → Prop}
/-- a whole block is read -/
theorem blk_load (b : Nat) (cs : List Value) {t : TypeId} (h : Blk w b t cs) (d : TypeDesc) (hgd : op.guard = none) (ty : TypeId) (x : Operand) (ho : op.op = .load ty x) (hx : a.eval x = .pointer (some ⟨b, 0, none⟩))
    (hu : P.underlying ty = some d) (hd : (match d with | .struct _ | .array _ _ => true | _ => false) = true) (hi : (P.info? ty).map (·.size) = some cs.length)
    (k : wpList P ops Q rest (a.put op.dst (.agg cs.toArray)) w) : wpList P ops Q (op :: rest) a w :=
  wpList_plain hgd fun _ hK => wp_load_row ty x ho b hx t cs.toArray (0, 0) d h hu hd (by simpa using hi) (hK _ _ k)
/-- a whole block is written -/
theorem blk_store (b : Nat) (cs cs' : List Value) {t : TypeId} (h : Blk w b t cs) (hgd : op.guard = none) (ty : TypeId) (x y : Operand) (ho : op.op = .store ty x y) (hx : a.eval x = .pointer (some ⟨b, 0, none⟩))
    (hy : a.eval y = .agg cs'.toArray) (hi : (P.info? ty).map (·.size) = some cs'.length) (hl : cs.length = cs'.length) (h1 : cs'.toArray.all (·.oneCell') = true)
    (k : wpList P ops Q rest (a.put op.dst undef) (w.setRow b cs'.toArray)) : wpList P ops Q (op :: rest) a w :=
  wpList_plain hgd fun _ hK => wp_store_row ty x y ho b cs'.toArray hx hy t cs.toArray h (by simpa using hi) (by simpa using hl) h1 (hK _ _ k)
/-- a literal, as it is built -/
theorem blk_build (cs' : List Value) (hgd : op.guard = none) (t : TypeId) (parts : Array (Nat × Operand)) (ho : op.op = .build t parts)
    (hb : P.built t (parts.map fun (i, x) => (i, a.eval x)).toList = some cs'.toArray)
    (k : wpList P ops Q rest (a.put op.dst (.agg cs'.toArray)) w) : wpList P ops Q (op :: rest) a w :=
  wpList_build hgd t parts ho (by rw [hb]; rfl) (by rw [hb]; exact k)
/-- a result that lies in a block -/
theorem blk_result {fn : Func} {p : Tmp} {ty t : TypeId} {tmps : Array Value} {cs : List Value} {b : Nat} (hr : fn.results = #[.cell p ty]) (hp : tmps.getD p undef = .pointer (some ⟨b, 0, none⟩)) (h : Blk w b t cs) (d : TypeDesc)
    (hu : P.underlying ty = some d) (hd : (match d with | .struct _ | .array _ _ => true | _ => false) = true) (hi : (P.info? ty).map (·.size) = some cs.length) : (results fn tmps).run P w = .ok (.agg cs.toArray) w := by
  have := run_loadVar_row w b t ty cs.toArray (0, 0) d h hu hd (by simpa using hi)
  simp only [Array.getD_eq_getD_getElem?] at hp
  simp [results, hr, Sem.run_bind, Result.andThen, hp, asAddr, this]
end
end Go.Proofs.Ytahmacnmphjhgaa
namespace Go.Proofs.Ytahmacnmphjhgaa
open Go.RowKit

def rotr (x : UInt32) (n : Nat) : UInt32 := (x >>> UInt32.ofNat n) ||| (x <<< UInt32.ofNat (32 - n))
def byteAt (b : List UInt8) (k : Nat) : UInt32 := (b.getD k 0).toUInt32
def be32 (b : List UInt8) (k : Nat) : UInt32 := ((byteAt b k <<< 24 ||| byteAt b (k + 1) <<< 16) ||| byteAt b (k + 2) <<< 8) ||| byteAt b (k + 3)
def sg0 (x : UInt32) : UInt32 := rotr x 7 ^^^ rotr x 18 ^^^ (x >>> 3)
def sg1 (x : UInt32) : UInt32 := rotr x 17 ^^^ rotr x 19 ^^^ (x >>> 10)
def wnext (b : List UInt8) (l : List UInt32) : UInt32 :=
  if l.length < 16 then be32 b (4 * l.length)
  else l.getD (l.length - 16) 0 + sg0 (l.getD (l.length - 15) 0) + l.getD (l.length - 7) 0 + sg1 (l.getD (l.length - 2) 0)
def wl (b : List UInt8) : Nat → List UInt32
  | 0 => []
  | t + 1 => wl b t ++ [wnext b (wl b t)]
theorem wl_length (b : List UInt8) (t : Nat) : (wl b t).length = t := by induction t with | zero => rfl | succ t ih => simp [wl, ih]
/-- .. the row while it is filled -/
def wrow (b : List UInt8) (t : Nat) : List UInt32 := wl b t ++ List.replicate (64 - t) 0
theorem wrow_length (b : List UInt8) (t : Nat) (h : t ≤ 64) : (wrow b t).length = 64 := by simp [wrow, wl_length]; omega
theorem wrow_set (b : List UInt8) (t : Nat) (h : t < 64) : (wrow b t).set t (wnext b (wl b t)) = wrow b (t + 1) := by
  have e : 64 - t = (64 - (t + 1)) + 1 := by omega
  have e2 : wl b (t + 1) = wl b t ++ [wnext b (wl b t)] := rfl
  unfold wrow
  rw [e2, List.set_append_right _ _ (by rw [wl_length]; exact Nat.le_refl _), wl_length, Nat.sub_self, e, List.replicate_succ, List.set_cons_zero]
  simp only [List.append_assoc, List.singleton_append]
theorem wrow_end (b : List UInt8) : wrow b 64 = wl b 64 := by simp [wrow]
theorem wrow_at (b : List UInt8) (t k : Nat) (h : k < t) (h' : t ≤ 64) : (ucells (wrow b t))[k]? = some (.int .u32 (U ((wl b t).getD k 0))) := by
  have hl : k < (wl b t).length := by rw [wl_length]; exact h
  have hx : k < (wrow b t).length := by rw [wrow_length b t h']; omega
  rw [ucells_at _ _ hx]
  have : (wrow b t)[k] = (wl b t).getD k 0 := by
    simp only [wrow, List.getElem_append_left hl, List.getD_eq_getElem?_getD, List.getElem?_eq_getElem hl, Option.getD_some]
  rw [this]
theorem wnext_low (b : List UInt8) (t : Nat) (h : t < 16) : wnext b (wl b t) = be32 b (4 * t) := by rw [wnext, wl_length, if_pos h]
theorem wnext_high (b : List UInt8) (t : Nat) (h : 16 ≤ t) : wnext b (wl b t) = (wl b t).getD (t - 16) 0 + sg0 ((wl b t).getD (t - 15) 0) + (wl b t).getD (t - 7) 0 + sg1 ((wl b t).getD (t - 2) 0) := by rw [wnext, wl_length, if_neg (by omega)]
theorem byteAt_get (b : List UInt8) (k : Nat) (h : k < b.length) : b[k].toUInt32 = byteAt b k := by
  simp [byteAt, List.getD_eq_getElem?_getD, h]
theorem be32_get (b : List UInt8) (k : Nat) (h0 : k < b.length) (h1 : k + 1 < b.length) (h2 : k + 2 < b.length) (h3 : k + 3 < b.length) :
    ((b[k].toUInt32 <<< 24 ||| b[k + 1].toUInt32 <<< 16) ||| b[k + 2].toUInt32 <<< 8) ||| b[k + 3].toUInt32 = be32 b k := by
  rw [byteAt_get, byteAt_get, byteAt_get, byteAt_get]; rfl
theorem Blk.ex {w : World} {b : Nat} {t : TypeId} {cs : List Value} (h : Blk w b t cs) {k : Nat} (hk : k < cs.length) : ∃ u, w.cell? ⟨b, k, none⟩ = some u := ⟨_, h.cell (List.getElem?_eq_getElem hk)⟩
/-- a load out of a block that is known -/
theorem Blk.got {w w' : World} {b : Nat} {t : TypeId} {cs : List Value} (h : Blk w b t cs) (hB : Below w.heap.size w w') {k : Nat} {v : Value} (hv : cs[k]? = some v) : w'.cell? ⟨b, k, none⟩ = some v := (h.below hB).cell hv
end Go.Proofs.Ytahmacnmphjhgaa
namespace Go.Proofs.Ytahmacnmphjhgaa
open Go.RowKit Oct

set_option maxRecDepth 100000 in
set_option maxHeartbeats 1000000 in
theorem rot_any (x : UInt32) (n : Nat) (w : World) (h1 : 1 ≤ n) (h2 : n ≤ 31) :
    Calls Try.prog 98 #[.int .u32 (U x), .int .i64 n] w fun e w' => e = .returned (.int .u32 (U (rotr x n))) ∧ Below w.heap.size w w' := by
  have n1 : (1 : Int) ≤ (n : Int) := by omega
  have n2 : (n : Int) ≤ 31 := by omega
  go_enter Try.func98, Try.ntmps98
  go_wp2
  go_quiet (fail)
  rw [U_shr x n (by omega), U_shl x (32 - n) (by omega), U_or]
  go_wp2
  go_ret
  exact ⟨rfl, Below.drewN' _ _⟩
end Go.Proofs.Ytahmacnmphjhgaa
namespace Go.Proofs.Ytahmacnmphjhgaa
open Go.RowKit Oct

set_option maxRecDepth 100000 in
set_option maxHeartbeats 1000000 in
theorem words_any (l : List UInt8) (w : World) (hl : 64 ≤ l.length) :
    Calls Try.prog 96 #[.string (bs l)] w fun e w' => e = .returned (.agg (ucells (wl l 64)).toArray) ∧ Below w.heap.size w w' := by
  have hz := (zero_of_info (P := Try.prog) (t := 148) (v := .agg (ucells (wrow l 0)).toArray) (n := 64) (by kernel_rfl)).1
  go_enter Try.func96, Try.ntmps96
  go_wp2
  clear hz
  go_loopw [7] (fun t wx => ∃ k : Nat, k ≤ 16 ∧ t = .int .i64 k ∧ Hid (Blk wx w.heap.size 148 (ucells (wrow l k))) ∧ Hid (Below w.heap.size w wx)) (fun t _ => 16 - (intOf t).toNat)
  case atStart => exact ⟨0, by omega, rfl, Blk.new w _ _, b_alloc w _⟩
  case round =>
    obtain ⟨k, hk, rfl, HB, HW⟩ := hrel
    by_cases hk16 : k < 16
    · have k1 : (k : Int) < 16 := by omega
      have k0 : (0 : Int) ≤ (k : Int) := by omega
      have k64 : (k : Int) < 64 := by omega
      have x0 : (0 : Int) ≤ 4 * (k : Int) := by omega
      have x1 : 4 * (k : Int) < (l.length : Int) := by omega
      have x2 : 4 * (k : Int) + 1 < (l.length : Int) := by omega
      have x3 : 4 * (k : Int) + 2 < (l.length : Int) := by omega
      have y2 : 0 ≤ 4 * (k : Int) + 1 := by omega
      have y3 : 0 ≤ 4 * (k : Int) + 2 := by omega
      have y4 : 0 ≤ 4 * (k : Int) + 3 := by omega
      have x4 : 4 * (k : Int) + 3 < (l.length : Int) := by omega
      go_wp2
      refine region_tail 31 [] (by kernel_rfl) (by kernel_rfl) ?_
      simp only [List.take_succ_cons, List.take_zero, List.drop_succ_cons, List.drop_zero]
      (repeat (first | (refine wpG_skip (by kernel_rfl) (fun K hK => ?_); go_big_quiet_skip; refine wpQuiet_nil (hK _ ?_); clear hK K) | (refine wpG_quiet (by rfl) (by rfl) (fun K hK => ?_); go_big_quiet_want; go_big_quiet_op; go_big_quiet_on; refine wpQuiet_nil (hK _ ?_); clear hK K)))
      (try simp only [U_byte, U_shl24, U_shl16, U_shl8, U_shr3, U_shr10, U_or, U_xor, U_and, U_add, U_add', U_add3, U_add4, U_add5])
      (intro w' hB hA; simp only [Facts.all_some, Facts.all_none, and_true] at hA)
      have B' := HB.out.below hB
      have hc := wrow_set l k (by omega)
      rw [wnext_low l k hk16] at hc
      have hlen : k < (ucells (wrow l k)).length := by rw [ucells_length, wrow_length l k (by omega)]; omega
      have HE := Lib.hid (be32_get l (4 * k) (by omega) (by omega) (by omega) (by omega))
      obtain ⟨cu, c1⟩ := B'.ex hlen
      have f1 := B'.free hlen
      have HS := Lib.hid (B'.set k (.int .u32 (U (be32 l (4 * k)))))
      have HC := Lib.hid hc
      have HB1 := Lib.hid hB
      clear B' hc hB hlen
      go_wp2
      rw [HE.out]
      refine ⟨⟨k + 1, by omega, by go_num, ?_, (bt HW.out HB1.out).setCell (Nat.le_refl _) _⟩, by simp [intOf]; omega⟩
      have := HS.out
      rw [ucells_set, HC.out] at this
      exact this
    · have hk : k = 16 := by omega
      subst hk
      go_wp2
      go_loopw [4] (fun t wx => ∃ k : Nat, 16 ≤ k ∧ k ≤ 64 ∧ t = .int .i64 k ∧ Hid (Blk wx w.heap.size 148 (ucells (wrow l k))) ∧ Hid (Below w.heap.size w wx)) (fun t _ => 64 - (intOf t).toNat)
      case atStart => exact ⟨16, by omega, by omega, rfl, HB, HW⟩
      case round =>
        obtain ⟨k, hk, hk', rfl, HB, HW⟩ := hrel
        by_cases hk16 : k < 64
        · have k1 : (k : Int) < 64 := by omega
          have k0 : (0 : Int) ≤ (k : Int) := by omega
          have x0 : (0 : Int) ≤ (k : Int) - 15 := by omega
          have x1 : (k : Int) - 15 < 64 := by omega
          have y0 : (0 : Int) ≤ (k : Int) - 2 := by omega
          have y1 : (k : Int) - 2 < 64 := by omega
          have z0 : (0 : Int) ≤ (k : Int) - 16 := by omega
          have z1 : (k : Int) - 16 < 64 := by omega
          have v0 : (0 : Int) ≤ (k : Int) - 7 := by omega
          have v1 : (k : Int) - 7 < 64 := by omega
          have c15 := HB.out.cell (wrow_at l k (k - 15) (by omega) (by omega))
          have c2 := HB.out.cell (wrow_at l k (k - 2) (by omega) (by omega))
          have c16 := HB.out.cell (wrow_at l k (k - 16) (by omega) (by omega))
          have c7 := HB.out.cell (wrow_at l k (k - 7) (by omega) (by omega))
          have hc := wrow_set l k (by omega)
          rw [wnext_high l k hk] at hc
          generalize (wl l k).getD (k - 15) 0 = a at *
          generalize (wl l k).getD (k - 2) 0 = b at *
          generalize (wl l k).getD (k - 16) 0 = c at *
          generalize (wl l k).getD (k - 7) 0 = d at *
          have HC := Lib.hid hc
          clear hc
          go_wp2
          go_quiet (fail)
          go_wp2
          refine region_tail 29 [(4, .exact Bel (.int .u32 (U c))), (6, .exact Bel (.int .u32 (U (rotr a 7)))), (8, .exact Bel (.int .u32 (U (rotr a 18)))), (17, .exact Bel (.int .u32 (U d))), (20, .exact Bel (.int .u32 (U (rotr b 17)))), (22, .exact Bel (.int .u32 (U (rotr b 19))))] (by kernel_rfl) (by kernel_rfl) ?_
          simp only [List.take_succ_cons, List.take_zero, List.drop_succ_cons, List.drop_zero]
          (repeat (first | (refine wpG_skip (by kernel_rfl) (fun K hK => ?_); go_big_quiet_skip; refine wpQuiet_nil (hK _ ?_); clear hK K) | (refine wpG_quiet (by rfl) (by rfl) (fun K hK => ?_); go_big_quiet_want; go_big_quiet_op; go_big_quiet_on; refine wpQuiet_nil (hK _ ?_); clear hK K)))
          refine wpG_exact rfl (by kernel_rfl) (fun w' G hB hS hG => ?_) (fun K hK => ?_)
          · have cc := Below.keeps (bt (Below.drewN' wr nq) hB) c16
            go_simp
            exact hG _ (Bel.refl _)
          go_simp; refine hK _ ?_; clear hK K; (repeat (first | (refine wpG_skip (by kernel_rfl) (fun K hK => ?_); go_big_quiet_skip; refine wpQuiet_nil (hK _ ?_); clear hK K) | (refine wpG_quiet (by rfl) (by rfl) (fun K hK => ?_); go_big_quiet_want; go_big_quiet_op; go_big_quiet_on; refine wpQuiet_nil (hK _ ?_); clear hK K)))
          refine wpG_exact rfl (by kernel_rfl) (fun w' G hB hS hG => ?_) (fun K hK => ?_)
          · go_simp
            exact calls_told hG (rot_any a 7 _ (by omega) (by omega))
          go_simp; refine hK _ ?_; clear hK K; (repeat (first | (refine wpG_skip (by kernel_rfl) (fun K hK => ?_); go_big_quiet_skip; refine wpQuiet_nil (hK _ ?_); clear hK K) | (refine wpG_quiet (by rfl) (by rfl) (fun K hK => ?_); go_big_quiet_want; go_big_quiet_op; go_big_quiet_on; refine wpQuiet_nil (hK _ ?_); clear hK K)))
          refine wpG_exact rfl (by kernel_rfl) (fun w' G hB hS hG => ?_) (fun K hK => ?_)
          · go_simp
            exact calls_told hG (rot_any a 18 _ (by omega) (by omega))
          go_simp; refine hK _ ?_; clear hK K; (repeat (first | (refine wpG_skip (by kernel_rfl) (fun K hK => ?_); go_big_quiet_skip; refine wpQuiet_nil (hK _ ?_); clear hK K) | (refine wpG_quiet (by rfl) (by rfl) (fun K hK => ?_); go_big_quiet_want; go_big_quiet_op; go_big_quiet_on; refine wpQuiet_nil (hK _ ?_); clear hK K)))
          refine wpG_exact rfl (by kernel_rfl) (fun w' G hB hS hG => ?_) (fun K hK => ?_)
          · have cc := Below.keeps (bt (Below.drewN' wr nq) hB) c7
            go_simp
            exact hG _ (Bel.refl _)
          go_simp; refine hK _ ?_; clear hK K; (repeat (first | (refine wpG_skip (by kernel_rfl) (fun K hK => ?_); go_big_quiet_skip; refine wpQuiet_nil (hK _ ?_); clear hK K) | (refine wpG_quiet (by rfl) (by rfl) (fun K hK => ?_); go_big_quiet_want; go_big_quiet_op; go_big_quiet_on; refine wpQuiet_nil (hK _ ?_); clear hK K)))
          refine wpG_exact rfl (by kernel_rfl) (fun w' G hB hS hG => ?_) (fun K hK => ?_)
          · go_simp
            exact calls_told hG (rot_any b 17 _ (by omega) (by omega))
          go_simp; refine hK _ ?_; clear hK K; (repeat (first | (refine wpG_skip (by kernel_rfl) (fun K hK => ?_); go_big_quiet_skip; refine wpQuiet_nil (hK _ ?_); clear hK K) | (refine wpG_quiet (by rfl) (by rfl) (fun K hK => ?_); go_big_quiet_want; go_big_quiet_op; go_big_quiet_on; refine wpQuiet_nil (hK _ ?_); clear hK K)))
          refine wpG_exact rfl (by kernel_rfl) (fun w' G hB hS hG => ?_) (fun K hK => ?_)
          · go_simp
            exact calls_told hG (rot_any b 19 _ (by omega) (by omega))
          go_simp; refine hK _ ?_; clear hK K; (repeat (first | (refine wpG_skip (by kernel_rfl) (fun K hK => ?_); go_big_quiet_skip; refine wpQuiet_nil (hK _ ?_); clear hK K) | (refine wpG_quiet (by rfl) (by rfl) (fun K hK => ?_); go_big_quiet_want; go_big_quiet_op; go_big_quiet_on; refine wpQuiet_nil (hK _ ?_); clear hK K)))
          (try simp only [U_byte, U_shl24, U_shl16, U_shl8, U_shr3, U_shr10, U_or, U_xor, U_and, U_add, U_add', U_add3, U_add4, U_add5])
          (intro w' hB hA; simp only [Facts.all_some, Facts.all_none, and_true] at hA)
          replace hB := bt (Below.drewN' wr nq) hB
          have B' := HB.out.below hB
          have hlen : k < (ucells (wrow l k)).length := by rw [ucells_length, wrow_length l k (by omega)]; omega
          obtain ⟨cu, c1⟩ := B'.ex hlen
          have f1 := B'.free hlen
          have HS := Lib.hid (B'.set k (.int .u32 (U (c + sg0 a + d + sg1 b))))
          have HB1 := Lib.hid hB
          clear B' hB hlen
          go_wp2
          refine ⟨?_, ?measure⟩
          · (repeat apply Exists.intro)
            refine ⟨⟨k + 1, by omega, by omega, by go_num, ?_, (bt HW.out HB1.out).setCell (Nat.le_refl _) _⟩, rfl⟩
            have := HS.out
            rw [ucells_set, HC.out] at this
            exact this
          case measure => simp [intOf]; omega
        · have hk : k = 64 := by omega
          subst hk
          rw [wrow_end] at HB
          have HI := Lib.hid (show (Try.prog.info? 148).map (·.size) = some (ucells (wl l 64)).length by rw [ucells_length, wl_length]; kernel_rfl)
          go_wp2_with first | (refine blk_load w.heap.size (ucells (wl l 64)) HB.out (.array 64 131) rfl _ _ rfl rfl (by kernel_rfl) rfl HI.out ?_) | (refine blk_store w.heap.size (ucells (wl l 64)) (ucells (wl l 64)) HB.out rfl _ _ _ rfl rfl rfl HI.out rfl (ucells_one _) ?_)
          refine bodyPost_ret (blk_result rfl rfl (HB.out.row _) (.array 64 131) (by kernel_rfl) rfl HI.out) rfl ⟨rfl, below_setRow HW.out (Nat.le_refl _) _⟩
end Go.Proofs.Ytahmacnmphjhgaa
namespace Go.Proofs.Ytahmacnmphjhgaa
open Go.RowKit Oct

theorem not_xor (x : UInt32) : (0xFFFFFFFF : UInt32) ^^^ x = ~~~x := by
  apply UInt32.toBitVec_inj.1
  simp only [UInt32.toBitVec_xor, UInt32.toBitVec_not]
  exact BitVec.allOnes_xor
theorem U_not (x : UInt32) : bits .xor .u32 (if IntKind.u32.signed = true then -1 else IntKind.u32.max) (U x) = U (~~~x) := by
  have e : (if IntKind.u32.signed = true then -1 else IntKind.u32.max : Int) = U 0xFFFFFFFF := rfl
  rw [e, U_xor, not_xor]

def ktab : List UInt32 := [
    0x428a2f98, 0x71374491, 0xb5c0fbcf, 0xe9b5dba5, 0x3956c25b, 0x59f111f1, 0x923f82a4, 0xab1c5ed5,
    0xd807aa98, 0x12835b01, 0x243185be, 0x550c7dc3, 0x72be5d74, 0x80deb1fe, 0x9bdc06a7, 0xc19bf174,
    0xe49b69c1, 0xefbe4786, 0x0fc19dc6, 0x240ca1cc, 0x2de92c6f, 0x4a7484aa, 0x5cb0a9dc, 0x76f988da,
    0x983e5152, 0xa831c66d, 0xb00327c8, 0xbf597fc7, 0xc6e00bf3, 0xd5a79147, 0x06ca6351, 0x14292967,
    0x27b70a85, 0x2e1b2138, 0x4d2c6dfc, 0x53380d13, 0x650a7354, 0x766a0abb, 0x81c2c92e, 0x92722c85,
    0xa2bfe8a1, 0xa81a664b, 0xc24b8b70, 0xc76c51a3, 0xd192e819, 0xd6990624, 0xf40e3585, 0x106aa070,
    0x19a4c116, 0x1e376c08, 0x2748774c, 0x34b0bcb5, 0x391c0cb3, 0x4ed8aa4a, 0x5b9cca4f, 0x682e6ff3,
    0x748f82ee, 0x78a5636f, 0x84c87814, 0x8cc70208, 0x90befffa, 0xa4506ceb, 0xbef9a3f7, 0xc67178f2]
theorem ktab_length : ktab.length = 64 := rfl
def h0 : List UInt32 := [0x6a09e667, 0xbb67ae85, 0x3c6ef372, 0xa54ff53a, 0x510e527f, 0x9b05688c, 0x1f83d9ab, 0x5be0cd19]
def zrow (n : Nat) : List UInt32 := List.replicate n 0

def tmp1 (e f g h k w : UInt32) : UInt32 := h + (rotr e 6 ^^^ rotr e 11 ^^^ rotr e 25) + ((e &&& f) ^^^ (~~~e &&& g)) + k + w
def tmp2 (a b c : UInt32) : UInt32 := (rotr a 2 ^^^ rotr a 13 ^^^ rotr a 22) + ((a &&& b) ^^^ (a &&& c) ^^^ (b &&& c))
def step (k w : UInt32) : List UInt32 → List UInt32
  | [a, b, c, d, e, f, g, h] => [tmp1 e f g h k w + tmp2 a b c, a, b, c, d + tmp1 e f g h k w, e, f, g]
  | v => v
def rounds (w h : List UInt32) : Nat → List UInt32
  | 0 => h
  | t + 1 => step (ktab.getD t 0) (w.getD t 0) (rounds w h t)
def blockF (h : List UInt32) (b : List UInt8) : List UInt32 := List.zipWith (· + ·) h (rounds (wl b 64) h 64)
theorem step_length (k w : UInt32) (v : List UInt32) (h : v.length = 8) : (step k w v).length = 8 := by
  match v, h with
  | [a, b, c, d, e, f, g, h], _ => rfl
theorem rounds_length (w h : List UInt32) (hl : h.length = 8) (t : Nat) : (rounds w h t).length = 8 := by
  induction t with
  | zero => exact hl
  | succ t ih => exact step_length _ _ _ ih
theorem blockF_length (h : List UInt32) (b : List UInt8) (hl : h.length = 8) : (blockF h b).length = 8 := by simp [blockF, rounds_length _ h hl, hl]
theorem eight (v : List UInt32) (h : v.length = 8) : ∃ a b c d e f g k, v = [a, b, c, d, e, f, g, k] := by
  match v, h with
  | [a, b, c, d, e, f, g, h], _ => exact ⟨a, b, c, d, e, f, g, h, rfl⟩
theorem u_at (l : List UInt32) (k n : Nat) (hn : l.length = n) (h : k < n) : (ucells l)[k]? = some (.int .u32 (U (l.getD k 0))) := by
  subst hn
  rw [ucells_at l k h, List.getD_eq_getElem?_getD, List.getElem?_eq_getElem h, Option.getD_some]
/-- the cells of a Hash -/
def hcells (h : List UInt32) (rest : List UInt8) (n : Int) : List Value := ucells h ++ [.string (bs rest), .int .u64 n]
theorem hcells_at (h : List UInt32) (rest : List UInt8) (n : Int) (k : Nat) (hl : h.length = 8) (hk : k < 8) : (hcells h rest n)[k]? = some (.int .u32 (U (h.getD k 0))) := by
  rw [hcells, List.getElem?_append_left (by rw [ucells_length]; omega)]
  exact u_at h k 8 hl hk
theorem hcells_length (h : List UInt32) (rest : List UInt8) (n : Int) (hl : h.length = 8) : (hcells h rest n).length = 10 := by simp [hcells, ucells_length, hl]
theorem hcells_rest (h : List UInt32) (rest : List UInt8) (n : Int) (hl : h.length = 8) : (hcells h rest n)[8]? = some (.string (bs rest)) := by
  rw [hcells, List.getElem?_append_right (by rw [ucells_length]; omega), ucells_length, hl]; rfl
theorem hcells_n (h : List UInt32) (rest : List UInt8) (n : Int) (hl : h.length = 8) : (hcells h rest n)[9]? = some (.int .u64 n) := by
  rw [hcells, List.getElem?_append_right (by rw [ucells_length]; omega), ucells_length, hl]; rfl
theorem hcells_set (h : List UInt32) (rest : List UInt8) (n : Int) (k : Nat) (x : UInt32) (hl : h.length = 8) (hk : k < 8) : (hcells h rest n).set k (.int .u32 (U x)) = hcells (h.set k x) rest n := by
  rw [hcells, List.set_append_left _ _ (by rw [ucells_length]; omega), ucells_set]; rfl
theorem hcells_set8 (h : List UInt32) (rest r' : List UInt8) (n : Int) (hl : h.length = 8) : (hcells h rest n).set 8 (.string (bs r')) = hcells h r' n := by
  rw [hcells, List.set_append_right _ _ (by rw [ucells_length]; omega), ucells_length, hl]; rfl
theorem hcells_set9 (h : List UInt32) (rest : List UInt8) (n n' : Int) (hl : h.length = 8) : (hcells h rest n).set 9 (.int .u64 n') = hcells h rest n' := by
  rw [hcells, List.set_append_right _ _ (by rw [ucells_length]; omega), ucells_length, hl]; rfl
/-- the first k words added -/
def added (h v : List UInt32) (k : Nat) : List UInt32 := List.zipWith (· + ·) (h.take k) (v.take k) ++ h.drop k
theorem added_zero (h v : List UInt32) : added h v 0 = h := by simp [added]
theorem added_all (h v : List UInt32) (hl : h.length = 8) (hv : v.length = 8) : added h v 8 = List.zipWith (· + ·) h v := by
  simp [added, List.take_of_length_le (Nat.le_of_eq hl), List.take_of_length_le (Nat.le_of_eq hv), List.drop_of_length_le (Nat.le_of_eq hl)]
theorem added_length (h v : List UInt32) (hl : h.length = 8) (hv : v.length = 8) (k : Nat) (hk : k ≤ 8) : (added h v k).length = 8 := by
  simp [added, hl, hv]; omega
theorem added_step (h v : List UInt32) (hl : h.length = 8) (hv : v.length = 8) (k : Nat) (hk : k < 8) :
    (added h v k).getD k 0 = h.getD k 0 ∧ (added h v k).set k (h.getD k 0 + v.getD k 0) = added h v (k + 1) := by
  obtain ⟨a, b, c, d, e, f, g, i, rfl⟩ := eight h hl
  obtain ⟨a', b', c', d', e', f', g', i', rfl⟩ := eight v hv
  match k, hk with
  | 0, _ | 1, _ | 2, _ | 3, _ | 4, _ | 5, _ | 6, _ | 7, _ => exact ⟨rfl, rfl⟩
end Go.Proofs.Ytahmacnmphjhgaa
namespace Go.Proofs.Ytahmacnmphjhgaa
open Go.RowKit Oct

set_option maxRecDepth 100000 in
set_option maxHeartbeats 1000000 in
theorem table_any (w : World) :
    Calls Try.prog 97 #[] w fun e w' => e = .returned (.agg (ucells ktab).toArray) ∧ Below w.heap.size w w' := by
  have hz := (zero_of_info (P := Try.prog) (t := 148) (v := .agg (ucells (zrow 64)).toArray) (n := 64) (by kernel_rfl)).1
  go_enter Try.func97, Try.ntmps97
  have HN := Lib.hid (Blk.new w (ucells (zrow 64)) 148)
  have HI := Lib.hid (show (Try.prog.info? 148).map (·.size) = some (ucells ktab).length by kernel_rfl)
  go_wp2_with first | (refine blk_build (ucells ktab) rfl _ _ rfl (by kernel_rfl) ?_) | (refine blk_store w.heap.size (ucells (zrow 64)) (ucells ktab) HN.out rfl _ _ _ rfl rfl rfl HI.out rfl (ucells_one _) ?_)
  refine bodyPost_ret (blk_result rfl rfl (HN.out.row _) (.array 64 131) (by kernel_rfl) rfl HI.out) rfl ⟨rfl, below_setRow (b_alloc w _) (Nat.le_refl _) _⟩
set_option maxRecDepth 100000 in
theorem index8 (V : List UInt32) (hV : V.length = 8) (k : Nat) (hk : k < 8) (w : World) :
    (Instr.index 136 (.agg (ucells V).toArray) (.int .i64 (k : Int))).run Try.prog w = .ok (.int .u32 (U (V.getD k 0))) w := by
  obtain ⟨a, b, c, d, e, f, g, i, rfl⟩ := eight V hV
  rcases (by omega : k = 0 ∨ k = 1 ∨ k = 2 ∨ k = 3 ∨ k = 4 ∨ k = 5 ∨ k = 6 ∨ k = 7) with rfl | rfl | rfl | rfl | rfl | rfl | rfl | rfl
  all_goals clear hk hV
  all_goals kernel_rfl
end Go.Proofs.Ytahmacnmphjhgaa
namespace Go.Proofs.Ytahmacnmphjhgaa
open Go.RowKit

/-- each operation waits for earlier ones alone -/
def lexDeps (md : Region.Mode) (ops : Array Oper) : Bool :=
  (List.range ops.size).all fun i => match ops[i]? with
    | some o => o.after.all fun e => !Region.binds md e || decide (e.on < i)
    | none => true
def invSteps (P : Program) (md : Region.Mode) (ops : Array Oper) (I : Array Bool → Act → World → Prop) (Q : Exit → Act → World → Prop) : Nat → List Oper → Prop
  | _, [] => True
  | k, o :: rest => (∀ listed a w, I listed a w → listed.getD k true = false → (∀ e ∈ o.after, Region.binds md e = true → listed.getD e.on false = true) →
      (if Region.wanted o (yielded ops a.tmps) = true then o.wp P a w (fun a' w' => I (listed.setIfInBounds k true) a' w') Q else I (listed.setIfInBounds k true) (a.put o.dst undef) w)) ∧ invSteps P md ops I Q (k + 1) rest

section
variable {P : Program} {md : Region.Mode} {ops : Array Oper} {I : Array Bool → Act → World → Prop} {Q : Exit → Act → World → Prop}
theorem invSteps_at : ∀ (l : List Oper) (k i : Nat) (o : Oper), invSteps P md ops I Q k l → l[i]? = some o →
    ∀ listed a w, I listed a w → listed.getD (k + i) true = false → (∀ e ∈ o.after, Region.binds md e = true → listed.getD e.on false = true) →
      (if Region.wanted o (yielded ops a.tmps) = true then o.wp P a w (fun a' w' => I (listed.setIfInBounds (k + i) true) a' w') Q else I (listed.setIfInBounds (k + i) true) (a.put o.dst undef) w)
  | [], _, _, _, _, h => by simp at h
  | o :: l, k, 0, o', hs, h => by
    simp only [List.getElem?_cons_zero, Option.some.injEq] at h
    subst h
    exact hs.1
  | o :: l, k, i + 1, o', hs, h => by
    have := invSteps_at l (k + 1) i o' hs.2 (by simpa using h)
    rw [show k + (i + 1) = k + 1 + i by omega]
    exact this
theorem all_listed (hl : lexDeps md ops = true) {listed : Array Bool} (hs : listed.size = ops.size) (hr : Region.ready md ops listed = []) : ∀ n i, i < n → i < ops.size → listed.getD i false = true := by
  intro n
  induction n with
  | zero => intro i h; omega
  | succ n ih =>
    intro i hi his
    have ho : ops[i]? = some ops[i] := Array.getElem?_eq_getElem his
    have h1 := List.all_eq_true.1 hl i (List.mem_range.2 his)
    simp only [ho, Array.all_eq_true_iff_forall_mem] at h1
    cases hb : listed.getD i true with
    | true =>
      have hx : i < listed.size := by omega
      simp only [Array.getD_eq_getD_getElem?, Array.getElem?_eq_getElem hx, Option.getD_some] at hb ⊢
      exact hb
    | false =>
      have : i ∈ Region.ready md ops listed := mem_ready.2 ⟨hb, _, ho, fun e he hbi => by
        have h2 := h1 e he
        rw [hbi] at h2
        have h3 : e.on < i := by simpa using h2
        exact ih e.on (by omega) (by omega)⟩
      rw [hr] at this
      cases this
theorem count_set_true : ∀ (l : List Bool) (i : Nat), l[i]? = some false → (l.set i true).count false + 1 = l.count false
  | [], _, h => by simp at h
  | b :: l, 0, h => by simp at h; subst h; simp
  | b :: l, i + 1, h => by
    have := count_set_true l i (by simpa using h)
    cases b <;> simp [List.set_cons_succ, List.count_cons] <;> omega
theorem wpAny_inv (hlex : lexDeps md ops = true)
    (hend : ∀ listed a w, I listed a w → listed.size = ops.size → (∀ i, i < ops.size → listed.getD i false = true) → Q .normal a w) (hstep : invSteps P md ops I Q 0 ops.toList) :
    ∀ (fuel : Nat) (listed : Array Bool) (a : Act) (w : World), listed.size = ops.size → listed.toList.count false ≤ fuel → I listed a w → wpAny P md ops Q fuel listed a w := by
  intro fuel
  induction fuel with
  | zero =>
    intro listed a w hs hc hI
    have hr : Region.ready md ops listed = [] := by
      rw [List.eq_nil_iff_forall_not_mem]
      intro j hj
      obtain ⟨h1, o, h2, _⟩ := mem_ready.1 hj
      have hjs : j < listed.size := by rw [hs]; exact (Array.getElem?_eq_some_iff.1 h2).1
      have : false ∈ listed.toList := by
        simp only [Array.getD_eq_getD_getElem?, Array.getElem?_eq_getElem hjs, Option.getD_some] at h1
        rw [← h1]; simp
      have := List.count_pos_iff.2 this
      omega
    exact ⟨hr, hend listed a w hI hs fun i hi => all_listed hlex hs hr (i + 1) i (by omega) hi⟩
  | succ fuel ih =>
    intro listed a w hs hc hI
    refine ⟨fun hr => hend listed a w hI hs fun i hi => all_listed hlex hs hr (i + 1) i (by omega) hi, fun i hi => ?_⟩
    obtain ⟨h1, o, h2, h3⟩ := mem_ready.1 hi
    have his : i < listed.size := by rw [hs]; exact (Array.getElem?_eq_some_iff.1 h2).1
    have hget : listed.toList[i]? = some false := by
      simp only [Array.getD_eq_getD_getElem?, Array.getElem?_eq_getElem his, Option.getD_some] at h1
      rw [Array.getElem?_toList, Array.getElem?_eq_getElem his, h1]
    have hcc := count_set_true _ _ hget
    have hnext : ∀ a' w', I (listed.setIfInBounds i true) a' w' → wpAny P md ops Q fuel (listed.setIfInBounds i true) a' w' := fun a' w' hI' =>
      ih _ a' w' (by simpa using hs) (by rw [Array.toList_setIfInBounds]; omega) hI'
    have hk := invSteps_at ops.toList 0 i o hstep (by simpa using h2) listed a w hI (by simpa using h1) h3
    rw [Nat.zero_add] at hk
    unfold wpOp
    simp only [h2]
    split
    · rename_i hw
      rw [if_pos hw] at hk
      exact .inl (Oper.wp_mono hnext hk)
    · rename_i hw
      rw [if_neg hw] at hk
      exact hnext _ _ hk
/-- a drawn region by an invariant -/
theorem region_inv {id : Nat} {a : Act} {w : World} {l : List Oper} (I : Array Bool → Act → World → Prop) (hm : P.follows .mixedOrders = true) (hlex : lexDeps .any l.toArray = true)
    (h0 : I (Array.replicate l.length false) a w.drew) (hend : ∀ listed a w, I listed a w → listed.size = l.length → (∀ i, i < l.length → listed.getD i false = true) → Q .normal a w)
    (hstep : invSteps P .any l.toArray I Q 0 l) : (Code.region id l.toArray true).wp P Q a w :=
  wp_region_any hm (wpAny_inv hlex (fun listed a w h hs hall => hend listed a w h (by simpa using hs) (fun i hi => hall i (by simpa using hi))) (by simpa using hstep) _ _ _ _ (by simp) (by simp) (by simpa using h0))
end
end Go.Proofs.Ytahmacnmphjhgaa
namespace Go.Proofs.Ytahmacnmphjhgaa
open Go.RowKit Oct

def sc (d : Bool) (v : Value) : Value := bif d then v else undef
@[go_sem] theorem sc_true (v : Value) : sc true v = v := rfl
@[go_sem] theorem sc_false (v : Value) : sc false v = undef := rfl

/-- what is known of the three blocks on the way -/
def BI (w0 w : World) (t64 t8 : TypeId) (W H : List UInt32) (d7 d8 d9 d10 d11 d12 : Bool) (b4 b5 b6 : Nat) : Prop :=
  Below w0.heap.size w0 w ∧ (d7 = true → w0.heap.size ≤ b4 ∧ Blk w b4 t64 (ucells (bif d10 then W else zrow 64))) ∧ (d8 = true → w0.heap.size ≤ b5 ∧ Blk w b5 t64 (ucells (bif d11 then ktab else zrow 64))) ∧
    (d9 = true → w0.heap.size ≤ b6 ∧ Blk w b6 t8 (ucells (bif d12 then H else zrow 8))) ∧ (d7 = true → d8 = true → b4 ≠ b5) ∧ (d7 = true → d9 = true → b4 ≠ b6) ∧ (d8 = true → d9 = true → b5 ≠ b6) ∧
    (d10 = true → d7 = true) ∧ (d11 = true → d8 = true) ∧ (d12 = true → d9 = true)
section
variable {w0 w : World} {t64 t8 : TypeId} {W H : List UInt32} {d7 d8 d9 d10 d11 d12 : Bool} {b4 b5 b6 : Nat}
theorem BI.below {w' : World} (h : BI w0 w t64 t8 W H d7 d8 d9 d10 d11 d12 b4 b5 b6) (hB : Below w.heap.size w w') : BI w0 w' t64 t8 W H d7 d8 d9 d10 d11 d12 b4 b5 b6 := by
  obtain ⟨h0, h1, h2, h3, h4⟩ := h
  exact ⟨bt h0 hB, fun e => ⟨(h1 e).1, (h1 e).2.below hB⟩, fun e => ⟨(h2 e).1, (h2 e).2.below hB⟩, fun e => ⟨(h3 e).1, (h3 e).2.below hB⟩, h4⟩
theorem ff {d : Bool} (h : d = true → false = true) : d = false := by cases d <;> simp_all
theorem BI.alloc4 (h : BI w0 w t64 t8 W H false d8 d9 d10 d11 d12 b4 b5 b6) : BI w0 (w.alloc (.cells (ucells (zrow 64)).toArray t64)) t64 t8 W H true d8 d9 d10 d11 d12 w.heap.size b5 b6 := by
  have hb := BI.below h (b_alloc w (.cells (ucells (zrow 64)).toArray t64))
  obtain ⟨h0, h1, h2, h3, h4, h5, h6, h7, h8, h9⟩ := h
  obtain rfl := ff h7
  exact ⟨hb.1, fun _ => ⟨h0.size, Blk.new _ _ _⟩, hb.2.2.1, hb.2.2.2.1, fun _ e => Nat.ne_of_gt (h2 e).2.lt, fun _ e => Nat.ne_of_gt (h3 e).2.lt, h6, fun e => (by cases e), h8, h9⟩
theorem BI.alloc5 (h : BI w0 w t64 t8 W H d7 false d9 d10 d11 d12 b4 b5 b6) : BI w0 (w.alloc (.cells (ucells (zrow 64)).toArray t64)) t64 t8 W H d7 true d9 d10 d11 d12 b4 w.heap.size b6 := by
  have hb := BI.below h (b_alloc w (.cells (ucells (zrow 64)).toArray t64))
  obtain ⟨h0, h1, h2, h3, h4, h5, h6, h7, h8, h9⟩ := h
  obtain rfl := ff h8
  exact ⟨hb.1, hb.2.1, fun _ => ⟨h0.size, Blk.new _ _ _⟩, hb.2.2.2.1, fun e _ => Nat.ne_of_lt (h1 e).2.lt, h5, fun _ e => Nat.ne_of_gt (h3 e).2.lt, h7, fun e => (by cases e), h9⟩
theorem BI.alloc6 (h : BI w0 w t64 t8 W H d7 d8 false d10 d11 d12 b4 b5 b6) : BI w0 (w.alloc (.cells (ucells (zrow 8)).toArray t8)) t64 t8 W H d7 d8 true d10 d11 d12 b4 b5 w.heap.size := by
  have hb := BI.below h (b_alloc w (.cells (ucells (zrow 8)).toArray t8))
  obtain ⟨h0, h1, h2, h3, h4, h5, h6, h7, h8, h9⟩ := h
  obtain rfl := ff h9
  exact ⟨hb.1, hb.2.1, hb.2.2.1, fun _ => ⟨h0.size, Blk.new _ _ _⟩, h4, fun e _ => Nat.ne_of_lt (h1 e).2.lt, fun e _ => Nat.ne_of_lt (h2 e).2.lt, h7, h8, fun e => (by cases e)⟩
theorem Blk.other {w : World} {b b' : Nat} {t : TypeId} {cs : List Value} (h : Blk w b t cs) (hne : b' ≠ b) (cs' : Array Value) : Blk (w.setRow b' cs') b t cs := by
  unfold Blk; rw [heap_setRow_ne w b' cs' b (Ne.symm hne)]; exact h
theorem BI.store4 (h : BI w0 w t64 t8 W H true d8 d9 d10 d11 d12 b4 b5 b6) : BI w0 (w.setRow b4 (ucells W).toArray) t64 t8 W H true d8 d9 true d11 d12 b4 b5 b6 := by
  obtain ⟨h0, h1, h2, h3, h4, h5, h6, h7, h8, h9⟩ := h
  exact ⟨below_setRow h0 (h1 rfl).1 _, fun _ => ⟨(h1 rfl).1, (h1 rfl).2.row _⟩, fun e => ⟨(h2 e).1, (h2 e).2.other (h4 rfl e) _⟩, fun e => ⟨(h3 e).1, (h3 e).2.other (h5 rfl e) _⟩, h4, h5, h6, fun _ => rfl, h8, h9⟩
theorem BI.store5 (h : BI w0 w t64 t8 W H d7 true d9 d10 d11 d12 b4 b5 b6) : BI w0 (w.setRow b5 (ucells ktab).toArray) t64 t8 W H d7 true d9 d10 true d12 b4 b5 b6 := by
  obtain ⟨h0, h1, h2, h3, h4, h5, h6, h7, h8, h9⟩ := h
  exact ⟨below_setRow h0 (h2 rfl).1 _, fun e => ⟨(h1 e).1, (h1 e).2.other (Ne.symm (h4 e rfl)) _⟩, fun _ => ⟨(h2 rfl).1, (h2 rfl).2.row _⟩, fun e => ⟨(h3 e).1, (h3 e).2.other (h6 rfl e) _⟩, h4, h5, h6, h7, fun _ => rfl, h9⟩
theorem BI.store6 (h : BI w0 w t64 t8 W H d7 d8 true d10 d11 d12 b4 b5 b6) : BI w0 (w.setRow b6 (ucells H).toArray) t64 t8 W H d7 d8 true d10 d11 true b4 b5 b6 := by
  obtain ⟨h0, h1, h2, h3, h4, h5, h6, h7, h8, h9⟩ := h
  exact ⟨below_setRow h0 (h3 rfl).1 _, fun e => ⟨(h1 e).1, (h1 e).2.other (Ne.symm (h5 e rfl)) _⟩, fun e => ⟨(h2 e).1, (h2 e).2.other (Ne.symm (h6 e rfl)) _⟩, fun _ => ⟨(h3 rfl).1, (h3 rfl).2.row _⟩, h4, h5, h6, h7, h8, fun _ => rfl⟩
end
def BInv (w0 : World) (p : Nat) (l : List UInt8) (h : List UInt32) (listed : Array Bool) (a : Act) (w : World) : Prop :=
  ∃ d0 d1 d2 d3 d4 d5 d6 d7 d8 d9 d10 d11 d12 : Bool, ∃ b4 b5 b6 : Nat, listed = #[d0, d1, d2, d3, d4, d5, d6, d7, d8, d9, d10, d11, d12] ∧
    a = { tmps := List.toArray ((.pointer (some ⟨p, 0, none⟩)) :: (.string (bs l)) :: undef :: undef :: (sc d7 (.pointer (some ⟨b4, 0, none⟩))) :: (sc d8 (.pointer (some ⟨b5, 0, none⟩))) :: (sc d9 (.pointer (some ⟨b6, 0, none⟩))) :: undef :: undef :: undef :: undef :: undef :: undef :: undef :: undef :: undef :: undef :: undef :: (sc d0 (.string (bs l))) :: (sc d1 (.agg (ucells (wl l 64)).toArray)) :: (sc d2 (.agg (ucells ktab).toArray)) :: (sc d3 (.pointer (some ⟨p, 0, none⟩))) :: (sc d4 (.pointer (some ⟨p, 0, none⟩))) :: (sc d5 (.pointer (some ⟨p, 0, none⟩))) :: (sc d6 (.agg (ucells h).toArray)) :: undef :: undef :: undef :: undef :: undef :: undef :: undef :: undef :: undef :: undef :: undef :: undef :: undef :: undef :: undef :: undef :: undef :: undef :: undef :: undef :: undef :: undef :: undef :: undef :: undef :: undef :: undef :: undef :: undef :: undef :: undef :: undef :: undef :: undef :: undef :: undef :: undef :: undef :: undef :: undef :: undef :: undef :: undef :: undef :: undef :: undef :: undef :: undef :: undef :: undef :: undef :: undef :: undef :: undef :: undef :: undef :: undef :: undef :: undef :: undef :: undef :: undef :: undef :: undef :: undef :: undef :: undef :: undef :: undef :: undef :: undef :: undef :: undef :: undef :: undef :: undef :: undef :: undef :: undef :: undef :: undef :: undef :: undef :: undef :: undef :: undef :: undef :: undef :: undef :: undef :: undef :: undef :: undef :: undef :: undef :: []), defers := [] } ∧ Hid (BI w0 w 148 136 (wl l 64) h d7 d8 d9 d10 d11 d12 b4 b5 b6)

set_option maxRecDepth 100000 in
set_option maxHeartbeats 8000000 in
theorem block_any (p : Nat) (h : List UInt32) (hl : h.length = 8) (rest : List UInt8) (n : Int) (l : List UInt8) (h64 : 64 ≤ l.length) (w : World) (hB : Blk w p 138 (hcells h rest n)) :
    Calls Try.prog 90 #[.pointer (some ⟨p, 0, none⟩), .string (bs l)] w fun e w' => e = .returned (.tuple #[]) ∧ Blk w' p 138 (hcells (blockF h l) rest n) ∧ Chg (· = p) w w' := by
  have hz1 := (zero_of_info (P := Try.prog) (t := 148) (v := .agg (ucells (zrow 64)).toArray) (n := 64) (by kernel_rfl)).1
  have hz2 := (zero_of_info (P := Try.prog) (t := 136) (v := .agg (ucells (zrow 8)).toArray) (n := 8) (by kernel_rfl)).1
  have HB := Lib.hid hB
  have H64 := Lib.hid h64
  have HL := Lib.hid hl
  have H8 := Lib.hid (show (Try.prog.info? 136).map (·.size) = some (ucells h).length by rw [ucells_length, hl]; kernel_rfl)
  have I64 := Lib.hid (show (Try.prog.info? 148).map (·.size) = some (ucells (wl l 64)).length by rw [ucells_length, wl_length]; kernel_rfl)
  have IK := Lib.hid (show (Try.prog.info? 148).map (·.size) = some (ucells ktab).length by kernel_rfl)
  clear hB
  go_enter Try.func90, Try.ntmps90
  go_wp2
  refine region_inv (BInv w p l h) (by kernel_rfl) (by kernel_rfl) ⟨false, false, false, false, false, false, false, false, false, false, false, false, false, 0, 0, 0, rfl, rfl, ?_⟩ ?_ ?_
  · exact ⟨b_drew w, fun e => (by cases e), fun e => (by cases e), fun e => (by cases e), fun e => (by cases e), fun e => (by cases e), fun e => (by cases e), fun e => (by cases e), fun e => (by cases e), fun e => (by cases e)⟩
  · intro listed a wx hI hs hall
    obtain ⟨d0, d1, d2, d3, d4, d5, d6, d7, d8, d9, d10, d11, d12, b4, b5, b6, rfl, rfl, hBI⟩ := hI
    have e0 : d0 = true := by simpa using hall 0 (by decide)
    have e1 : d1 = true := by simpa using hall 1 (by decide)
    have e2 : d2 = true := by simpa using hall 2 (by decide)
    have e3 : d3 = true := by simpa using hall 3 (by decide)
    have e4 : d4 = true := by simpa using hall 4 (by decide)
    have e5 : d5 = true := by simpa using hall 5 (by decide)
    have e6 : d6 = true := by simpa using hall 6 (by decide)
    have e7 : d7 = true := by simpa using hall 7 (by decide)
    have e8 : d8 = true := by simpa using hall 8 (by decide)
    have e9 : d9 = true := by simpa using hall 9 (by decide)
    have e10 : d10 = true := by simpa using hall 10 (by decide)
    have e11 : d11 = true := by simpa using hall 11 (by decide)
    have e12 : d12 = true := by simpa using hall 12 (by decide)
    simp only [e0, e1, e2, e3, e4, e5, e6, e7, e8, e9, e10, e11, e12, sc_true] at hBI ⊢
    clear e0 e1 e2 e3 e4 e5 e6 e7 e8 e9 e10 e11 e12 hall hs
    obtain ⟨hw, h4, h5, h6, n45, n46, n56, -⟩ := hBI.out
    have B4 : Hid (Blk wx b4 148 (ucells (wl l 64))) := (h4 rfl).2
    have B5 : Hid (Blk wx b5 148 (ucells ktab)) := (h5 rfl).2
    have B6 : Hid (Blk wx b6 136 (ucells h)) := (h6 rfl).2
    have BP := Lib.hid (HB.out.below hw)
    have N46 : Hid (b4 ≠ b6) := n46 rfl rfl
    have N56 : Hid (b5 ≠ b6) := n56 rfl rfl
    have NP : Hid (p ≠ b6) := (by have := HB.out.lt; have := (h6 rfl).1; show p ≠ b6; omega)
    have HW := Lib.hid hw
    have HG6 := Lib.hid (h6 rfl).1
    clear hw h4 h5 h6 n45 n46 n56 hBI hz1 hz2 d0 d1 d2 d3 d4 d5 d6 d7 d8 d9 d10 d11 d12
    go_wp2
    go_loopw [25] (fun t ux => ∃ k : Nat, k ≤ 64 ∧ t = .int .i64 k ∧ Hid (Blk ux b6 136 (ucells (rounds (wl l 64) h k))) ∧ Hid (Chg (· = b6) wx ux)) (fun t _ => 64 - (intOf t).toNat)
    case atStart => exact ⟨0, by omega, rfl, B6, Chg.refl _ _⟩
    case round =>
      obtain ⟨k, hk, rfl, HB6, HC6⟩ := hrel
      by_cases hk64 : k < 64
      · have k1 : (k : Int) < 64 := by omega
        have k0 : (0 : Int) ≤ (k : Int) := by omega
        have hst : rounds (wl l 64) h (k + 1) = step (ktab.getD k 0) ((wl l 64).getD k 0) (rounds (wl l 64) h k) := rfl
        obtain ⟨v0, v1, v2, v3, v4, v5, v6, v7, hv⟩ := eight _ (rounds_length (wl l 64) h HL.out k)
        rw [hv] at HB6 hst
        have c0 := HB6.out.cell (k := 0) rfl
        have c1 := HB6.out.cell (k := 1) rfl
        have c2 := HB6.out.cell (k := 2) rfl
        have c3 := HB6.out.cell (k := 3) rfl
        have c4 := HB6.out.cell (k := 4) rfl
        have c5 := HB6.out.cell (k := 5) rfl
        have c6 := HB6.out.cell (k := 6) rfl
        have c7 := HB6.out.cell (k := 7) rfl
        have cw := (B4.out.chg HC6.out N46.out).cell (u_at (wl l 64) k 64 (wl_length l 64) hk64)
        have ck := (B5.out.chg HC6.out N56.out).cell (u_at ktab k 64 rfl hk64)
        generalize (wl l 64).getD k 0 = ww at *
        generalize ktab.getD k 0 = kk at *
        have HST := Lib.hid hst
        clear hst hv
        go_wp2
        go_quiet (fail)
        go_wp2
        refine region_known [(1, .exact Bel (.int .u32 (U v7))), (3, .exact Bel (.int .u32 (U (rotr v4 6)))), (5, .exact Bel (.int .u32 (U (rotr v4 11)))), (8, .exact Bel (.int .u32 (U (rotr v4 25)))), (22, .exact Bel (.int .u32 (U kk))), (26, .exact Bel (.int .u32 (U ww)))] (by kernel_rfl) (by kernel_rfl) ?_
        (repeat (first | (refine wpG_skip (by kernel_rfl) (fun K hK => ?_); go_big_quiet_skip; refine wpQuiet_nil (hK _ ?_); clear hK K) | (refine wpG_quiet (by rfl) (by rfl) (fun K hK => ?_); go_big_quiet_want; go_big_quiet_op; go_big_quiet_on; refine wpQuiet_nil (hK _ ?_); clear hK K)))
        refine wpG_exact rfl (by kernel_rfl) (fun w' G hB hS hG => ?_) (fun K hK => ?_)
        · have cc := Below.keeps (bt (Below.drewN' wr nq) hB) c7
          go_simp
          exact hG _ (Bel.refl _)
        go_simp; refine hK _ ?_; clear hK K; (repeat (first | (refine wpG_skip (by kernel_rfl) (fun K hK => ?_); go_big_quiet_skip; refine wpQuiet_nil (hK _ ?_); clear hK K) | (refine wpG_quiet (by rfl) (by rfl) (fun K hK => ?_); go_big_quiet_want; go_big_quiet_op; go_big_quiet_on; refine wpQuiet_nil (hK _ ?_); clear hK K)))
        refine wpG_exact rfl (by kernel_rfl) (fun w' G hB hS hG => ?_) (fun K hK => ?_)
        · go_simp
          exact calls_told hG (rot_any v4 6 _ (by omega) (by omega))
        go_simp; refine hK _ ?_; clear hK K; (repeat (first | (refine wpG_skip (by kernel_rfl) (fun K hK => ?_); go_big_quiet_skip; refine wpQuiet_nil (hK _ ?_); clear hK K) | (refine wpG_quiet (by rfl) (by rfl) (fun K hK => ?_); go_big_quiet_want; go_big_quiet_op; go_big_quiet_on; refine wpQuiet_nil (hK _ ?_); clear hK K)))
        refine wpG_exact rfl (by kernel_rfl) (fun w' G hB hS hG => ?_) (fun K hK => ?_)
        · go_simp
          exact calls_told hG (rot_any v4 11 _ (by omega) (by omega))
        go_simp; refine hK _ ?_; clear hK K; (repeat (first | (refine wpG_skip (by kernel_rfl) (fun K hK => ?_); go_big_quiet_skip; refine wpQuiet_nil (hK _ ?_); clear hK K) | (refine wpG_quiet (by rfl) (by rfl) (fun K hK => ?_); go_big_quiet_want; go_big_quiet_op; go_big_quiet_on; refine wpQuiet_nil (hK _ ?_); clear hK K)))
        refine wpG_exact rfl (by kernel_rfl) (fun w' G hB hS hG => ?_) (fun K hK => ?_)
        · go_simp
          exact calls_told hG (rot_any v4 25 _ (by omega) (by omega))
        go_simp; refine hK _ ?_; clear hK K; (repeat (first | (refine wpG_skip (by kernel_rfl) (fun K hK => ?_); go_big_quiet_skip; refine wpQuiet_nil (hK _ ?_); clear hK K) | (refine wpG_quiet (by rfl) (by rfl) (fun K hK => ?_); go_big_quiet_want; go_big_quiet_op; go_big_quiet_on; refine wpQuiet_nil (hK _ ?_); clear hK K)))
        refine wpG_exact rfl (by kernel_rfl) (fun w' G hB hS hG => ?_) (fun K hK => ?_)
        · have cc := Below.keeps (bt (Below.drewN' wr nq) hB) ck
          go_simp
          exact hG _ (Bel.refl _)
        go_simp; refine hK _ ?_; clear hK K; (repeat (first | (refine wpG_skip (by kernel_rfl) (fun K hK => ?_); go_big_quiet_skip; refine wpQuiet_nil (hK _ ?_); clear hK K) | (refine wpG_quiet (by rfl) (by rfl) (fun K hK => ?_); go_big_quiet_want; go_big_quiet_op; go_big_quiet_on; refine wpQuiet_nil (hK _ ?_); clear hK K)))
        refine wpG_exact rfl (by kernel_rfl) (fun w' G hB hS hG => ?_) (fun K hK => ?_)
        · have cc := Below.keeps (bt (Below.drewN' wr nq) hB) cw
          go_simp
          exact hG _ (Bel.refl _)
        go_simp; refine hK _ ?_; clear hK K; (repeat (first | (refine wpG_skip (by kernel_rfl) (fun K hK => ?_); go_big_quiet_skip; refine wpQuiet_nil (hK _ ?_); clear hK K) | (refine wpG_quiet (by rfl) (by rfl) (fun K hK => ?_); go_big_quiet_want; go_big_quiet_op; go_big_quiet_on; refine wpQuiet_nil (hK _ ?_); clear hK K)))
        simp only [U_not]
        (try simp only [U_byte, U_shl24, U_shl16, U_shl8, U_shr3, U_shr10, U_or, U_xor, U_and, U_add, U_add', U_add3, U_add4, U_add5])
        have ht1 : v7 + (rotr v4 6 ^^^ rotr v4 11 ^^^ rotr v4 25) + (v4 &&& v5 ^^^ ~~~v4 &&& v6) + kk + ww = tmp1 v4 v5 v6 v7 kk ww := rfl
        rw [ht1]
        clear ht1
        (intro w' hB hA; simp only [Facts.all_some, Facts.all_none, and_true] at hA)
        have hBx := Lib.hid (bt (Below.drewN' wr nq) hB)
        clear hB c0 c1 c2 c4 c5 c6 c7 cw ck hA
        go_wp2_with fail
        refine (rot_any v0 2 _ (by omega) (by omega)).mono ?_
        rintro e w2 ⟨rfl, hB2⟩
        go_wp2_with fail
        refine (rot_any v0 13 _ (by omega) (by omega)).mono ?_
        rintro e w3 ⟨rfl, hB3⟩
        go_wp2_with fail
        refine (rot_any v0 22 _ (by omega) (by omega)).mono ?_
        rintro e w4 ⟨rfl, hB4⟩
        have hB0 := bt (bt (bt hBx.out hB2) hB3) hB4
        replace c3 := Below.keeps hB0 c3
        have B6' := Lib.hid (HB6.out.below hB0)
        have HC6' := Lib.hid (HC6.out.trans (Chg.of_below hB0))
        clear hB0 hBx hB2 hB3 hB4
        obtain ⟨NL, hNL⟩ : ∃ NL : List UInt32, NL = [tmp1 v4 v5 v6 v7 kk ww + tmp2 v0 v1 v2, v0, v1, v2, v3 + tmp1 v4 v5 v6 v7 kk ww, v4, v5, v6] := ⟨_, rfl⟩
        have I8 := Lib.hid (show (Try.prog.info? 136).map (·.size) = some (ucells NL).length by rw [hNL]; kernel_rfl)
        have L8 := Lib.hid (show (ucells [v0, v1, v2, v3, v4, v5, v6, v7]).length = (ucells NL).length by rw [hNL]; rfl)
        have HST' := Lib.hid (show rounds (wl l 64) h (k + 1) = NL by rw [HST.out, hNL]; rfl)
        have HNL := Lib.hid hNL
        clear hNL
        go_wp2_with first | (refine blk_build (ucells NL) rfl _ _ rfl (by rw [HNL.out]; kernel_rfl) ?_; refine blk_store b6 (ucells [v0, v1, v2, v3, v4, v5, v6, v7]) (ucells NL) B6'.out rfl 136 (.tmp 6) (.tmp 101) rfl rfl rfl I8.out L8.out (ucells_one _) ?_)
        refine ⟨⟨k + 1, by omega, by go_num, ?_, HC6'.out.trans (chg_setRow _ _ _ rfl)⟩, by simp [intOf]; omega⟩
        rw [HST'.out]
        exact B6'.out.row _
      · have hk : k = 64 := by omega
        subst hk
        have HI8 := Lib.hid (show (Try.prog.info? 136).map (·.size) = some (ucells (rounds (wl l 64) h 64)).length by rw [ucells_length, rounds_length _ _ HL.out]; kernel_rfl)
        have HBP : Hid (Blk wr p 138 (hcells h rest n)) := BP.out.chg HC6.out NP.out
        have HVL := Lib.hid (rounds_length (wl l 64) h HL.out 64)
        obtain ⟨V, hV⟩ : ∃ V, V = rounds (wl l 64) h 64 := ⟨_, rfl⟩
        rw [← hV] at HB6 HI8 HVL
        have HV := Lib.hid hV
        clear hV
        go_wp2_with (refine blk_load b6 (ucells V) HB6.out (.array 8 131) rfl _ _ rfl rfl (by kernel_rfl) rfl HI8.out ?_)
        go_loopw [104] (fun t ux => ∃ k : Nat, k ≤ 8 ∧ t = .int .i64 k ∧ Hid (Blk ux p 138 (hcells (added h V k) rest n)) ∧ Hid (Chg (· = p) wr ux)) (fun t _ => 8 - (intOf t).toNat)
        case atStart => exact ⟨0, by omega, rfl, (by rw [added_zero]; exact HBP), Chg.refl _ _⟩
        case round =>
          obtain ⟨k, hk, rfl, HBp, HCp⟩ := hrel
          by_cases hk8 : k < 8
          · have k1 : (k : Int) < 8 := by omega
            have k0 : (0 : Int) ≤ (k : Int) := by omega
            obtain ⟨ha1, ha2⟩ := added_step h V HL.out HVL.out k hk8
            have cp := HBp.out.cell (hcells_at (added h V k) rest n k (added_length h V HL.out HVL.out k hk) hk8)
            have fp := HBp.out.free (k := k) (by rw [hcells_length _ _ _ (added_length h V HL.out HVL.out k hk)]; omega)
            have hix := index8 V HVL.out k hk8
            rw [ha1] at cp
            generalize h.getD k 0 = hh at *
            generalize V.getD k 0 = vk at *
            have HA := Lib.hid ha2
            clear ha2 ha1
            go_wp2
            refine region_tail 11 [(2, .exact Bel (.pointer (some ⟨p, 0, none⟩))), (5, .exact Bel (.int .u32 (U hh))), (8, .exact Bel (.pointer (some ⟨p, 0, none⟩)))] (by kernel_rfl) (by kernel_rfl) ?_
            simp only [List.take_succ_cons, List.take_zero, List.drop_succ_cons, List.drop_zero]
            (repeat (first | (refine wpG_skip (by kernel_rfl) (fun K hK => ?_); go_big_quiet_skip; refine wpQuiet_nil (hK _ ?_); clear hK K) | (refine wpG_quiet (by rfl) (by rfl) (fun K hK => ?_); go_big_quiet_want; go_big_quiet_op; go_big_quiet_on; refine wpQuiet_nil (hK _ ?_); clear hK K)))
            refine wpG_exact rfl (by kernel_rfl) (fun w' G hB hS hG => ?_) (fun K hK => ?_)
            · go_simp
              exact hG _ (Bel.refl _)
            go_simp; refine hK _ ?_; clear hK K; (repeat (first | (refine wpG_skip (by kernel_rfl) (fun K hK => ?_); go_big_quiet_skip; refine wpQuiet_nil (hK _ ?_); clear hK K) | (refine wpG_quiet (by rfl) (by rfl) (fun K hK => ?_); go_big_quiet_want; go_big_quiet_op; go_big_quiet_on; refine wpQuiet_nil (hK _ ?_); clear hK K)))
            refine wpG_exact rfl (by kernel_rfl) (fun w' G hB hS hG => ?_) (fun K hK => ?_)
            · have cc := Below.keeps hB cp
              go_simp
              exact hG _ (Bel.refl _)
            go_simp; refine hK _ ?_; clear hK K; (repeat (first | (refine wpG_skip (by kernel_rfl) (fun K hK => ?_); go_big_quiet_skip; refine wpQuiet_nil (hK _ ?_); clear hK K) | (refine wpG_quiet (by rfl) (by rfl) (fun K hK => ?_); go_big_quiet_want; go_big_quiet_op; go_big_quiet_on; refine wpQuiet_nil (hK _ ?_); clear hK K)))
            refine wpG_exact rfl (by kernel_rfl) (fun w' G hB hS hG => ?_) (fun K hK => ?_)
            · go_simp
              exact hG _ (Bel.refl _)
            go_simp; refine hK _ ?_; clear hK K; (repeat (first | (refine wpG_skip (by kernel_rfl) (fun K hK => ?_); go_big_quiet_skip; refine wpQuiet_nil (hK _ ?_); clear hK K) | (refine wpG_quiet (by rfl) (by rfl) (fun K hK => ?_); go_big_quiet_want; go_big_quiet_op; go_big_quiet_on; refine wpQuiet_nil (hK _ ?_); clear hK K)))
            (try simp only [U_byte, U_shl24, U_shl16, U_shl8, U_shr3, U_shr10, U_or, U_xor, U_and, U_add, U_add', U_add3, U_add4, U_add5])
            (intro w' hB hA; simp only [Facts.all_some, Facts.all_none, and_true] at hA)
            have B' := HBp.out.below hB
            replace cp := B'.cell (hcells_at (added h V k) rest n k (added_length h V HL.out HVL.out k hk) hk8)
            replace fp := B'.free (k := k) (by rw [hcells_length _ _ _ (added_length h V HL.out HVL.out k hk)]; omega)
            have HS := Lib.hid (B'.set k (.int .u32 (U (hh + vk))))
            have HCn := Lib.hid (HCp.out.trans (Chg.of_below hB))
            clear B' hB hA hix
            go_wp2
            refine ⟨⟨k + 1, by omega, by go_num, ?_, HCn.out.trans (Chg.setCell _ _ _ rfl)⟩, by simp [intOf]; omega⟩
            have := HS.out
            rw [hcells_set _ _ _ _ _ (added_length h V HL.out HVL.out k hk) hk8, HA.out] at this
            exact this
          · have hk : k = 8 := by omega
            subst hk
            have HF : Hid (Blk wr p 138 (hcells (blockF h l) rest n)) := (by have := HBp.out; rw [added_all h V HL.out HVL.out, HV.out] at this; exact this)
            go_wp2
            refine bodyPost_end (results_none rfl _ _ _) rfl ?_
            exact ⟨rfl, HF.out, (Chg.of_below (HW.out.trans (HC6.out.below (fun k e => e ▸ HG6.out) HW.out.size))).trans HCp.out⟩
  refine ⟨fun listed a wx hI hd hdep => ?_, fun listed a wx hI hd hdep => ?_, fun listed a wx hI hd hdep => ?_, fun listed a wx hI hd hdep => ?_, fun listed a wx hI hd hdep => ?_, fun listed a wx hI hd hdep => ?_, fun listed a wx hI hd hdep => ?_, fun listed a wx hI hd hdep => ?_, fun listed a wx hI hd hdep => ?_, fun listed a wx hI hd hdep => ?_, fun listed a wx hI hd hdep => ?_, fun listed a wx hI hd hdep => ?_, fun listed a wx hI hd hdep => ?_, trivial⟩
  · obtain ⟨d0, d1, d2, d3, d4, d5, d6, d7, d8, d9, d10, d11, d12, b4, b5, b6, rfl, rfl, hBI⟩ := hI
    obtain rfl : d0 = false := by simpa using hd
    rw [if_pos (by rfl)]
    unfold Oper.wp
    go_simp
    exact ⟨true, d1, d2, d3, d4, d5, d6, d7, d8, d9, d10, d11, d12, b4, b5, b6, rfl, rfl, hBI⟩
  · obtain ⟨d0, d1, d2, d3, d4, d5, d6, d7, d8, d9, d10, d11, d12, b4, b5, b6, rfl, rfl, hBI⟩ := hI
    obtain rfl : d1 = false := by simpa using hd
    simp [Region.binds] at hdep
    have e0 : d0 = true := by simp [hdep]
    clear hdep
    simp only [e0] at hBI ⊢
    rw [if_pos (by rfl)]
    unfold Oper.wp
    go_simp
    refine (words_any l wx H64.out).mono ?_
    rintro e w2 ⟨rfl, hB2⟩
    exact ⟨true, true, d2, d3, d4, d5, d6, d7, d8, d9, d10, d11, d12, b4, b5, b6, rfl, rfl, hBI.out.below hB2⟩
  · obtain ⟨d0, d1, d2, d3, d4, d5, d6, d7, d8, d9, d10, d11, d12, b4, b5, b6, rfl, rfl, hBI⟩ := hI
    obtain rfl : d2 = false := by simpa using hd
    simp [Region.binds] at hdep
    have e1 : d1 = true := by simp [hdep]
    clear hdep
    simp only [e1] at hBI ⊢
    rw [if_pos (by rfl)]
    unfold Oper.wp
    go_simp
    refine (table_any wx).mono ?_
    rintro e w2 ⟨rfl, hB2⟩
    exact ⟨d0, true, true, d3, d4, d5, d6, d7, d8, d9, d10, d11, d12, b4, b5, b6, rfl, rfl, hBI.out.below hB2⟩
  · obtain ⟨d0, d1, d2, d3, d4, d5, d6, d7, d8, d9, d10, d11, d12, b4, b5, b6, rfl, rfl, hBI⟩ := hI
    obtain rfl : d3 = false := by simpa using hd
    rw [if_pos (by rfl)]
    unfold Oper.wp
    go_simp
    exact ⟨d0, d1, d2, true, d4, d5, d6, d7, d8, d9, d10, d11, d12, b4, b5, b6, rfl, rfl, hBI⟩
  · obtain ⟨d0, d1, d2, d3, d4, d5, d6, d7, d8, d9, d10, d11, d12, b4, b5, b6, rfl, rfl, hBI⟩ := hI
    obtain rfl : d4 = false := by simpa using hd
    simp [Region.binds] at hdep
    have e3 : d3 = true := by simp [hdep]
    clear hdep
    simp only [e3] at hBI ⊢
    rw [if_pos (by rfl)]
    unfold Oper.wp
    go_simp
    exact ⟨d0, d1, d2, true, true, d5, d6, d7, d8, d9, d10, d11, d12, b4, b5, b6, rfl, rfl, hBI⟩
  · obtain ⟨d0, d1, d2, d3, d4, d5, d6, d7, d8, d9, d10, d11, d12, b4, b5, b6, rfl, rfl, hBI⟩ := hI
    obtain rfl : d5 = false := by simpa using hd
    simp [Region.binds] at hdep
    have e4 : d4 = true := by simp [hdep]
    clear hdep
    simp only [e4] at hBI ⊢
    rw [if_pos (by rfl)]
    unfold Oper.wp
    go_simp
    exact ⟨d0, d1, d2, d3, true, true, d6, d7, d8, d9, d10, d11, d12, b4, b5, b6, rfl, rfl, hBI⟩
  · obtain ⟨d0, d1, d2, d3, d4, d5, d6, d7, d8, d9, d10, d11, d12, b4, b5, b6, rfl, rfl, hBI⟩ := hI
    obtain rfl : d6 = false := by simpa using hd
    simp [Region.binds] at hdep
    have e5 : d5 = true := by simp [hdep]
    clear hdep
    simp only [e5] at hBI ⊢
    rw [if_pos (by rfl)]
    have hr : wx.rangeAt p 0 (ucells h) := fun j v hv => by
      have hj : j < 8 := by have := (List.getElem?_eq_some_iff.1 hv).1; rwa [ucells_length, HL.out] at this
      rw [Nat.zero_add]
      refine (HB.out.below hBI.out.1).cell ?_
      rw [hcells, List.getElem?_append_left (by rw [ucells_length, HL.out]; exact hj)]
      exact hv
    refine wp_load_mid 136 _ rfl p 0 rfl (ucells h) (.array 8 131) hr (by kernel_rfl) rfl H8.out ?_
    exact ⟨d0, d1, d2, d3, d4, true, true, d7, d8, d9, d10, d11, d12, b4, b5, b6, rfl, rfl, hBI⟩
  · obtain ⟨d0, d1, d2, d3, d4, d5, d6, d7, d8, d9, d10, d11, d12, b4, b5, b6, rfl, rfl, hBI⟩ := hI
    obtain rfl : d7 = false := by simpa using hd
    rw [if_pos (by rfl)]
    unfold Oper.wp
    go_simp
    exact ⟨d0, d1, d2, d3, d4, d5, d6, true, d8, d9, d10, d11, d12, wx.heap.size, b5, b6, rfl, rfl, hBI.out.alloc4⟩
  · obtain ⟨d0, d1, d2, d3, d4, d5, d6, d7, d8, d9, d10, d11, d12, b4, b5, b6, rfl, rfl, hBI⟩ := hI
    obtain rfl : d8 = false := by simpa using hd
    rw [if_pos (by rfl)]
    unfold Oper.wp
    go_simp
    exact ⟨d0, d1, d2, d3, d4, d5, d6, d7, true, d9, d10, d11, d12, b4, wx.heap.size, b6, rfl, rfl, hBI.out.alloc5⟩
  · obtain ⟨d0, d1, d2, d3, d4, d5, d6, d7, d8, d9, d10, d11, d12, b4, b5, b6, rfl, rfl, hBI⟩ := hI
    obtain rfl : d9 = false := by simpa using hd
    rw [if_pos (by rfl)]
    unfold Oper.wp
    go_simp
    exact ⟨d0, d1, d2, d3, d4, d5, d6, d7, d8, true, d10, d11, d12, b4, b5, wx.heap.size, rfl, rfl, hBI.out.alloc6⟩
  · obtain ⟨d0, d1, d2, d3, d4, d5, d6, d7, d8, d9, d10, d11, d12, b4, b5, b6, rfl, rfl, hBI⟩ := hI
    obtain rfl : d10 = false := by simpa using hd
    simp [Region.binds] at hdep
    have e7 : d7 = true := by simp [hdep]
    have e1 : d1 = true := by simp [hdep]
    have e2 : d2 = true := by simp [hdep]
    have e0 : d0 = true := by simp [hdep]
    have e8 : d8 = true := by simp [hdep]
    have e9 : d9 = true := by simp [hdep]
    clear hdep
    simp only [e7, e1, e2, e0, e8, e9] at hBI ⊢
    rw [if_pos (by rfl)]
    have hz4 : Blk wx b4 148 (ucells (zrow 64)) := (hBI.out.2.1 rfl).2
    have hs4 : (ucells (zrow 64)).toArray.size = (ucells (wl l 64)).toArray.size := by rw [List.size_toArray, List.size_toArray, ucells_length, ucells_length, wl_length]; rfl
    have hi4 : (Try.prog.info? 148).map (·.size) = some (ucells (wl l 64)).toArray.size := by rw [List.size_toArray]; exact I64.out
    generalize hWL : wl l 64 = WL at *
    refine wp_store_row 148 (.tmp 4) (.tmp 19) rfl b4 (ucells WL).toArray rfl rfl 148 _ hz4 hi4 hs4 (ucells_one _) ?_
    subst hWL
    exact ⟨true, true, true, d3, d4, d5, d6, true, true, true, true, d11, d12, b4, b5, b6, rfl, rfl, hBI.out.store4⟩
  · obtain ⟨d0, d1, d2, d3, d4, d5, d6, d7, d8, d9, d10, d11, d12, b4, b5, b6, rfl, rfl, hBI⟩ := hI
    obtain rfl : d11 = false := by simpa using hd
    simp [Region.binds] at hdep
    have e8 : d8 = true := by simp [hdep]
    have e2 : d2 = true := by simp [hdep]
    have e10 : d10 = true := by simp [hdep]
    have e0 : d0 = true := by simp [hdep]
    have e1 : d1 = true := by simp [hdep]
    have e7 : d7 = true := by simp [hdep]
    have e9 : d9 = true := by simp [hdep]
    clear hdep
    simp only [e8, e2, e10, e0, e1, e7, e9] at hBI ⊢
    rw [if_pos (by rfl)]
    refine wp_store_row 148 _ _ rfl b5 (ucells ktab).toArray rfl rfl 148 _ (hBI.out.2.2.1 rfl).2 (by rw [List.size_toArray]; exact IK.out) rfl (ucells_one _) ?_
    exact ⟨true, true, true, d3, d4, d5, d6, true, true, true, true, true, d12, b4, b5, b6, rfl, rfl, hBI.out.store5⟩
  · obtain ⟨d0, d1, d2, d3, d4, d5, d6, d7, d8, d9, d10, d11, d12, b4, b5, b6, rfl, rfl, hBI⟩ := hI
    obtain rfl : d12 = false := by simpa using hd
    simp [Region.binds] at hdep
    have e0 : d0 = true := by simp [hdep]
    have e1 : d1 = true := by simp [hdep]
    have e2 : d2 = true := by simp [hdep]
    have e3 : d3 = true := by simp [hdep]
    have e4 : d4 = true := by simp [hdep]
    have e5 : d5 = true := by simp [hdep]
    have e6 : d6 = true := by simp [hdep]
    have e7 : d7 = true := by simp [hdep]
    have e8 : d8 = true := by simp [hdep]
    have e9 : d9 = true := by simp [hdep]
    have e10 : d10 = true := by simp [hdep]
    have e11 : d11 = true := by simp [hdep]
    clear hdep
    simp only [e0, e1, e2, e3, e4, e5, e6, e7, e8, e9, e10, e11] at hBI ⊢
    rw [if_pos (by rfl)]
    refine wp_store_row 136 _ _ rfl b6 (ucells h).toArray rfl rfl 136 _ (hBI.out.2.2.2.1 rfl).2 (by rw [List.size_toArray]; exact H8.out) (by rw [List.size_toArray, List.size_toArray, ucells_length, ucells_length, HL.out]; rfl) (ucells_one _) ?_
    exact ⟨true, true, true, true, true, true, true, true, true, true, true, true, true, b4, b5, b6, rfl, rfl, hBI.out.store6⟩
end Go.Proofs.Ytahmacnmphjhgaa
namespace Go.Proofs.Ytahmacnmphjhgaa
open Go.RowKit Oct

set_option maxRecDepth 100000 in
set_option maxHeartbeats 1000000 in
theorem New_any (w : World) :
    Calls Try.prog 83 #[] w fun e w' => ∃ b, e = .returned (.pointer (some ⟨b, 0, none⟩)) ∧ w.heap.size ≤ b ∧ Blk w' b 138 (hcells h0 [] 0) ∧ Below w.heap.size w w' := by
  go_enter Try.func83, Try.ntmps83
  go_wp2_with (refine blk_build (ucells h0) rfl _ _ rfl (by kernel_rfl) ?_; refine blk_build (hcells h0 [] 0) rfl _ _ rfl (by kernel_rfl) ?_)
  go_ret
  exact ⟨_, rfl, Nat.le_refl _, Blk.new _ _ _, b_alloc _ _⟩

/-- the worth of a digit -/
def dig (c : UInt8) : Option Nat := if 48 ≤ c.toNat ∧ c.toNat ≤ 57 then some (c.toNat - 48) else if 97 ≤ c.toNat ∧ c.toNat ≤ 102 then some (c.toNat - 87) else none
theorem dig_lt (c : UInt8) (d : Nat) (h : dig c = some d) : d < 16 := by
  unfold dig at h
  split at h
  · cases h; omega
  · split at h
    · cases h; omega
    · cases h
/-- .. as the reference tells it -/
def rdig (c : UInt8) : Int := match dig c with | some d => (d : Int) | none => -1
end Go.Proofs.Ytahmacnmphjhgaa
namespace Go.Proofs.Ytahmacnmphjhgaa
open Go.RowKit Oct

set_option maxRecDepth 100000 in
set_option maxHeartbeats 1000000 in
theorem blocks_any (p : Nat) (w : World) :
    Calls Try.prog 89 #[.pointer (some ⟨p, 0, none⟩)] w fun e w' => ∃ b, e = .returned (.func (.func 95) #[] #[.pointer (some ⟨b, 0, none⟩)]) ∧ w.heap.size ≤ b ∧ Blk w' b 128 [.pointer (some ⟨p, 0, none⟩)] ∧ Below w.heap.size w w' := by
  have hmf : ∀ (fn : Fn) (first cap : Array Value) (w : World), (Instr.makeFunc fn first cap).run Try.prog w = .ok (.func fn first cap) w := fun _ _ _ _ => rfl
  go_enter Try.func89, Try.ntmps89
  go_wp2
  go_ret
  exact ⟨_, rfl, Nat.le_refl _, Blk.new _ _ _, b_alloc _ _⟩
end Go.Proofs.Ytahmacnmphjhgaa
namespace Go.Proofs.Ytahmacnmphjhgaa
open Go.RowKit

section
variable {F : Fence} {n : Nat} {P : Program} {α : Type}

/-- an iterator, captured values lb: it hands out what 'out' says; between two yields it does what Xr says, and wants of a round that goes on what Yr says; when it ends by itself Fin holds -/
def IterG (F : Fence) (n : Nat) (P : Program) (gf : Nat) (lb : Array Value) (Xr Yr : World → World → Prop) (Fin : World → Prop) (El : α → Array Value → World → Prop) (out : List α) (W : World) : Prop :=
  ∀ (l : Nat) (J Jx : List α → World → Prop),
    (∀ pre U U', J pre U → Xr U U' → J pre U') → (∀ pre U U', Jx pre U → Xr U U' → Jx pre U') →
    (∀ pre x vs U, J pre U → El x vs U → pre ++ [x] <+: out → YieldAt F (n - 1) P l vs U fun e U' =>
      (e = .returned (.bool true) ∧ J (pre ++ [x]) U' ∧ Yr U U') ∨ (e = .returned (.bool false) ∧ Jx (pre ++ [x]) U')) →
    J [] W → CallsIn F n P gf (#[.func (.yield l) #[] #[]] ++ lb) W fun e W' => (∃ v, e = .returned v) ∧ ((J out W' ∧ Fin W') ∨ ∃ pre, pre <+: out ∧ Jx pre W')

/-- the loop's two blocks stand -/
def KeepD (D : Nat) (U U' : World) : Prop := ∀ k, k = D ∨ k = D + 1 → k < U.heap.size → U'.heap[k]? = U.heap[k]?
theorem KeepD.at {D : Nat} {U U' : World} (h : KeepD D U U') {k : Nat} {o : Obj} (hk : k = D ∨ k = D + 1) (ho : U.heap[k]? = some o) : U'.heap[k]? = some o :=
  (h k hk (Array.getElem?_eq_some_iff.1 ho).1).trans ho
theorem KeepD.of_chg {D : Nat} {X : Nat → Prop} {U U' : World} (h : Chg X U U') (hX : ∀ k, k = D ∨ k = D + 1 → ¬ X k) : KeepD D U U' := fun k hk hlt => h.block k hlt (hX k hk)
def rangeEndG (D : Nat) (Yr : World → World → Prop) (I : List α → World → Prop) (Ix : Code → List α → World → Prop) (pre : List α) (U : World) : Exit → Act → World → Prop
  | .normal, _, U' => KeepD D U U' ∧ Yr U U' ∧ I pre U'
  | .ret, _, U' => KeepD D U U' ∧ Ix .ret pre U'
  | .exit id, _, U' => KeepD D U U' ∧ Ix (.exit id) pre U'
  | .goto t, _, U' => KeepD D U U' ∧ Ix (.goto t) pre U'
  | .panic _, _, _ => False
  | .outgrown, _, _ => False

theorem wpIn_rangeG {g : Operand} {ps : Array Tmp} {assign body : Code} {Q : Exit → Act → World → Prop} {a : Act} {w : World}
    (hro : F.round = none) (h1 : 1 ≤ n) {gf : Nat} {lb : Array Value} (hg : a.eval g = .func (.func gf) #[] lb) (hFg : F.fn gf) (eg : ∀ args w, (callFunc gf args).run P w = .ok (.enter gf args) w)
    {Xr Yr : World → World → Prop} {Fin : World → Prop} {El : α → Array Value → World → Prop} {out : List α} (hX : ∀ U U', Xr U U' → KeepD w.heap.size U U')
    (hY : ∀ a b c d, Chg (fun k => k = w.heap.size ∨ k = w.heap.size + 1) a b → Yr b c → Chg (fun k => k = w.heap.size ∨ k = w.heap.size + 1) c d → Yr a d)
    (hFin : ∀ U U', Fin U → Chg (fun k => k = w.heap.size ∨ k = w.heap.size + 1) U U' → Fin U')
    (hseq : ∀ W, Below w.heap.size w W → IterG F (n - 1) P gf lb Xr Yr Fin El out W) (hps : ∀ x vs U, El x vs U → vs.size = ps.size)
    (hEl : ∀ x vs U U', El x vs U → Chg (fun k => k = w.heap.size ∨ k = w.heap.size + 1) U U' → El x vs U')
    (I : List α → World → Prop) (Ix : Code → List α → World → Prop)
    (hIX : ∀ pre U U', I pre U → Xr U U' → I pre U') (hI : ∀ pre U U', I pre U → Chg (fun k => k = w.heap.size ∨ k = w.heap.size + 1) U U' → I pre U')
    (hIxX : ∀ c pre U U', Ix c pre U → Xr U U' → Ix c pre U') (hIx : ∀ c pre U U', Ix c pre U → Chg (fun k => k = w.heap.size ∨ k = w.heap.size + 1) U U' → Ix c pre U') (h0 : I [] w)
    (hround : ∀ (l : Nat) (pre : List α) (x : α) (vs : Array Value) (U : World), I pre U → El x vs U → pre ++ [x] <+: out →
      assign.wpIn (F.inRound l) (n - 1 - 1) P (Exit.then (fun a' U1 => Below U.heap.size U U1 ∧ ∀ U2, w.heap.size + 2 ≤ U2.heap.size → I pre U2 → El x vs U2 → Chg (fun k => k = w.heap.size ∨ k = w.heap.size + 1) U1 U2 →
        body.wpIn (F.inRound l) (n - 1 - 1) P (rangeEndG w.heap.size Yr I Ix (pre ++ [x]) U2) a' U2) (fun _ _ _ => False)) { tmps := (ps.zip vs).foldl (fun t (p, v) => t.setIfInBounds p v) a.tmps, defers := [] } U)
    (hdone : ∀ W, w.heap.size + 2 ≤ W.heap.size → I out W → Fin W → W.heap[w.heap.size]? = some (.deferred (some [])) → Q .normal { a with defers := { target := .collected w.heap.size, args := #[] } :: a.defers } W)
    (hstop : ∀ c pre W, w.heap.size + 2 ≤ W.heap.size → pre <+: out → Ix c pre W → W.heap[w.heap.size]? = some (.deferred (some [])) → c.wpIn F n P Q { a with defers := { target := .collected w.heap.size, args := #[] } :: a.defers } W) :
    (Code.rangeFunc g ps assign body).wpIn F n P Q a w := by
  refine wpIn_rangeFunc fun fn hfn => ?_
  rw [hro]
  obtain ⟨rec, hrec⟩ : ∃ rec : LoopState → Option Code → Loop, rec = fun st pe => { state := st, pending := pe, fn, tmps := a.tmps, params := ps, assign, body, defers := w.heap.size } := ⟨_, rfl⟩
  obtain ⟨W1, hW1⟩ : ∃ W1, (w.alloc (.deferred (some []))).alloc (.loop (rec .ready none)) = W1 := ⟨_, rfl⟩
  obtain ⟨hK1, hL1, hb1⟩ := two_new w (.deferred (some [])) (.loop (rec .ready none))
  rw [hW1] at hK1 hL1 hb1
  have hsz1 : w.heap.size + 2 ≤ W1.heap.size := by have := (Array.getElem?_eq_some_iff.1 hL1).1; omega
  refine ⟨w.heap.size + 1, [{ target := .collected w.heap.size, args := #[] }], W1, { target := .fn (.func gf) lb, args := #[.func (.yield (w.heap.size + 1)) #[] #[]] }, W1, gf,
    #[.func (.yield (w.heap.size + 1)) #[] #[]] ++ lb, W1, ?_, ?_, ?_, ?_, fun _ => h1, ?_⟩
  · rw [← hW1, hrec]; exact run_enterLoop_outer _ _ _ _ _
  · simp only [resolve, hg]
    simp [go_sem]
  · intro f' hf'; simp [Target.leads] at hf'; subst hf'; exact hFg
  · simp [invoke, go_sem, eg]
  have keep : ∀ {U U' : World} {o o' : Obj}, Xr U U' → U.heap[w.heap.size + 1]? = some o → U.heap[w.heap.size]? = some o' → U'.heap[w.heap.size + 1]? = some o ∧ U'.heap[w.heap.size]? = some o' :=
    fun hc h h' => ⟨(hX _ _ hc).at (.inr rfl) h, (hX _ _ hc).at (.inl rfl) h'⟩
  refine (hseq W1 hb1 (w.heap.size + 1)
    (fun pre U => I pre U ∧ U.heap[w.heap.size + 1]? = some (.loop (rec .ready none)) ∧ U.heap[w.heap.size]? = some (.deferred (some [])))
    (fun pre U => ∃ c, Ix c pre U ∧ U.heap[w.heap.size + 1]? = some (.loop (rec .done (some c))) ∧ U.heap[w.heap.size]? = some (.deferred (some [])))
    (fun pre U U' hs hc => ⟨hIX _ _ _ hs.1 hc, keep hc hs.2.1 hs.2.2⟩)
    (fun pre U U' ⟨c, hs, hl, hk⟩ hc => ⟨c, hIxX _ _ _ _ hs hc, keep hc hl hk⟩)
    ?_ ⟨hI _ _ _ h0 (Chg.of_below hb1), hL1, hK1⟩).mono ?_
  · rintro pre x vs U ⟨hi, hl, hk⟩ hel hpre
    have hy := run_yield (P := P) (args := vs) hl (by rw [hrec]; exact hps x vs U hel)
    rw [hrec] at hy
    refine ⟨fn, _, assign, body, hy, roundIn_of_wpIn hfn (wpIn_mono (hround _ pre x vs U hi hel hpre) ?_)⟩
    clear hy
    intro ea a' U1 hea
    cases ea with
    | normal => ?_
    | _ => exact hea
    obtain ⟨hbel, hbody⟩ := hea
    have c1 : ∀ {Z : Nat → Prop}, Chg Z U U1 := fun {Z} => Chg.of_below hbel
    replace hl := c1.at (X := fun _ => False) hl (fun h => h)
    replace hk := c1.at (X := fun _ => False) hk (fun h => h)
    replace hi := hI _ _ _ hi c1
    replace hel := hEl _ _ _ _ hel c1
    have hlt := (Array.getElem?_eq_some_iff.1 hl).1
    refine ⟨_, run_beginRound hl (by rw [hrec]), ?_⟩
    obtain ⟨U2, hU2⟩ : ∃ U2, U1.putObj (w.heap.size + 1) (.loop { rec .ready none with state := .busy }) = U2 := ⟨_, rfl⟩
    have hl2 : U2.heap[w.heap.size + 1]? = some (.loop { rec .ready none with state := .busy }) := by rw [← hU2]; exact World.putObj_heap_same hlt
    have hk2 : U2.heap[w.heap.size]? = some (.deferred (some [])) := by rw [← hU2]; exact (World.putObj_heap_other (by omega)).trans hk
    have c2 : ∀ {Z : Nat → Prop}, Z (w.heap.size + 1) → Chg Z U1 U2 := fun {Z} hz => by rw [← hU2]; exact Chg.putObj _ _ _ hz
    rw [hU2]
    refine wpIn_mono (hbody U2 (by have := (Array.getElem?_eq_some_iff.1 hl2).1; omega) (hI _ _ _ hi (c2 (.inr rfl))) (hEl _ _ _ _ hel (c2 (.inr rfl))) (c2 (.inr rfl))) ?_
    have fin : ∀ (jump : Option Code) (U3 : World), U3.heap[w.heap.size + 1]? = some (.loop { rec .ready none with state := .busy }) → U3.heap[w.heap.size]? = some (.deferred (some [])) →
        (Instr.endRound (w.heap.size + 1) jump).run P U3 = .ok (.bool jump.isNone) (U3.putObj (w.heap.size + 1) (.loop (rec (if jump.isNone then .ready else .done) jump))) ∧
        (U3.putObj (w.heap.size + 1) (.loop (rec (if jump.isNone then .ready else .done) jump))).heap[w.heap.size + 1]? = some (.loop (rec (if jump.isNone then .ready else .done) jump)) ∧
        (U3.putObj (w.heap.size + 1) (.loop (rec (if jump.isNone then .ready else .done) jump))).heap[w.heap.size]? = some (.deferred (some [])) := fun jump U3 hl3 hk3 => by
      have := run_endRound (P := P) jump hl3
      rw [hrec] at this ⊢
      exact ⟨this, World.putObj_heap_same (Array.getElem?_eq_some_iff.1 hl3).1, (World.putObj_heap_other (by omega)).trans hk3⟩
    have stop : ∀ (c : Code) (U3 : World), KeepD w.heap.size U2 U3 → Ix c (pre ++ [x]) U3 → ∃ v U4, (Instr.endRound (w.heap.size + 1) (some c)).run P U3 = .ok v U4 ∧
        ((Ending.returned v = .returned (.bool true) ∧ (I (pre ++ [x]) U4 ∧ U4.heap[w.heap.size + 1]? = some (.loop (rec .ready none)) ∧ U4.heap[w.heap.size]? = some (.deferred (some []))) ∧ Yr U U4) ∨
         (Ending.returned v = .returned (.bool false) ∧ ∃ c, Ix c (pre ++ [x]) U4 ∧ U4.heap[w.heap.size + 1]? = some (.loop (rec .done (some c))) ∧ U4.heap[w.heap.size]? = some (.deferred (some [])))) := fun c U3 hc hx => by
      obtain ⟨hr, hl4, hk4⟩ := fin (some c) U3 (hc.at (.inr rfl) hl2) (hc.at (.inl rfl) hk2)
      exact ⟨_, _, hr, .inr ⟨rfl, c, hIx _ _ _ _ hx (Chg.putObj _ _ _ (.inr rfl)), hl4, hk4⟩⟩
    rintro e a3 U3 hp
    cases e with
    | normal =>
      obtain ⟨hc, hy3, hi3⟩ := hp
      obtain ⟨hr, hl4, hk4⟩ := fin none U3 (hc.at (.inr rfl) hl2) (hc.at (.inl rfl) hk2)
      exact ⟨_, _, hr, .inl ⟨rfl, ⟨hI _ _ _ hi3 (Chg.putObj _ _ _ (.inr rfl)), hl4, hk4⟩,
        hY _ _ _ _ (c1.trans (c2 (.inr rfl))) hy3 (Chg.putObj _ _ _ (.inr rfl))⟩⟩
    | ret => exact stop .ret U3 hp.1 hp.2
    | exit id => exact stop (.exit id) U3 hp.1 hp.2
    | goto t => exact stop (.goto t) U3 hp.1 hp.2
    | panic ch => exact hp.elim
    | outgrown => exact hp.elim
  · rintro e W2 ⟨⟨v, rfl⟩, (⟨⟨hi, hl, hk⟩, hf⟩ | ⟨pre, hpre, c, hi, hl, hk⟩)⟩
    · have hlt := (Array.getElem?_eq_some_iff.1 hl).1
      exact ⟨none, _, by have := run_endLoop (P := P) hl (by rw [hrec]; simp); rw [hrec] at this; exact this, hdone _ (by simp; omega) (hI _ _ _ hi (Chg.putObj _ _ _ (.inr rfl))) (hFin _ _ hf (Chg.putObj _ _ _ (.inr rfl))) ((World.putObj_heap_other (by omega)).trans hk)⟩
    · have hlt := (Array.getElem?_eq_some_iff.1 hl).1
      exact ⟨some c, _, by have := run_endLoop (P := P) hl (by rw [hrec]; simp); rw [hrec] at this; exact this, hstop c pre _ (by simp; omega) hpre (hIx _ _ _ _ hi (Chg.putObj _ _ _ (.inr rfl))) ((World.putObj_heap_other (by omega)).trans hk)⟩

/-- .. a function that is walked with no fence -/
theorem wp_rangeG {g : Operand} {ps : Array Tmp} {assign body : Code} {Q : Exit → Act → World → Prop} {a : Act} {w : World} {D : Nat} (hD : w.heap.size = D)
    {gf : Nat} {lb : Array Value} (hg : a.eval g = .func (.func gf) #[] lb) (eg : ∀ args w, (callFunc gf args).run P w = .ok (.enter gf args) w)
    {Xr Yr : World → World → Prop} {Fin : World → Prop} {El : α → Array Value → World → Prop} {out : List α} (hX : ∀ U U', Xr U U' → KeepD D U U')
    (hY : ∀ a b c d, Chg (fun k => k = D ∨ k = D + 1) a b → Yr b c → Chg (fun k => k = D ∨ k = D + 1) c d → Yr a d)
    (hFin : ∀ U U', Fin U → Chg (fun k => k = D ∨ k = D + 1) U U' → Fin U')
    (hseq : ∀ W, Below D w W → IterG Fence.wide 2 P gf lb Xr Yr Fin El out W) (hps : ∀ x vs U, El x vs U → vs.size = ps.size)
    (hEl : ∀ x vs U U', El x vs U → Chg (fun k => k = D ∨ k = D + 1) U U' → El x vs U')
    (I : List α → World → Prop) (Ix : Code → List α → World → Prop)
    (hIX : ∀ pre U U', I pre U → Xr U U' → I pre U') (hI : ∀ pre U U', I pre U → Chg (fun k => k = D ∨ k = D + 1) U U' → I pre U')
    (hIxX : ∀ c pre U U', Ix c pre U → Xr U U' → Ix c pre U') (hIx : ∀ c pre U U', Ix c pre U → Chg (fun k => k = D ∨ k = D + 1) U U' → Ix c pre U') (h0 : I [] w)
    (hround : ∀ (l : Nat) (pre : List α) (x : α) (vs : Array Value) (U : World), I pre U → El x vs U → pre ++ [x] <+: out →
      assign.wpIn (Fence.wide.inRound l) 1 P (Exit.then (fun a' U1 => Below U.heap.size U U1 ∧ ∀ U2, D + 2 ≤ U2.heap.size → I pre U2 → El x vs U2 → Chg (fun k => k = D ∨ k = D + 1) U1 U2 →
        body.wpIn (Fence.wide.inRound l) 1 P (rangeEndG D Yr I Ix (pre ++ [x]) U2) a' U2) (fun _ _ _ => False)) { tmps := (ps.zip vs).foldl (fun t (p, v) => t.setIfInBounds p v) a.tmps, defers := [] } U)
    (hdone : ∀ W, D + 2 ≤ W.heap.size → I out W → Fin W → W.heap[D]? = some (.deferred (some [])) → Q .normal { a with defers := { target := .collected D, args := #[] } :: a.defers } W)
    (hstop : ∀ c pre W, D + 2 ≤ W.heap.size → pre <+: out → Ix c pre W → W.heap[D]? = some (.deferred (some [])) → c.wp P Q { a with defers := { target := .collected D, args := #[] } :: a.defers } W) :
    (Code.rangeFunc g ps assign body).wp P Q a w := by
  subst hD
  exact (wpIn_wide (n := 3)).1 (wpIn_rangeG rfl (by decide) hg trivial eg hX hY hFin hseq hps hEl I Ix hIX hI hIxX hIx h0 hround hdone fun c pre W h1 h2 h3 h4 => wpIn_wide.2 (hstop c pre W h1 h2 h3 h4))
end
end Go.Proofs.Ytahmacnmphjhgaa
