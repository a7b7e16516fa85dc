/- Lemmas for TreeTells, part 1: walks of the functions that it reaches, and the plain laws behind them. -/
import Derived.WalkKit
import Derived.WalkSpells
import Derived.WalkLawsBesides
import Derived.Lib.Strings
import Derived.Lib.Hide
import Derived.Deep.QuietTactic
import Derived.BigQuiet
import Derived.Deep.AppendLies
import Derived.Laws.AppendOwnNone
import Derived.Deep.RegionLaw
import Derived.Test.YtahmacnmphjhgaaRows
import Derived.RangeFuncBox
import Derived.RangeFuncNested
import Derived.RangeFuncBound
import Derived.RangeFuncCalls
import Derived.RangeFuncLeaves
import Derived.Shelf.Abstract
set_option linter.unusedSimpArgs false
set_option linter.unusedVariables false
namespace Go.Proofs.Ytahmacnmphjhgaa.Oct

/-- a text of these bytes -/
def bs (l : List UInt8) : ByteArray := ⟨l.toArray⟩
@[simp] theorem bs_data (l : List UInt8) : (bs l).data.toList = l := by simp [bs]
@[go_sem, simp] theorem bs_size (l : List UInt8) : (bs l).size = l.length := by simp [bs, ByteArray.size]
theorem bs_of (s : ByteArray) : bs s.data.toList = s := by simp [bs]
theorem bs_append (a b : List UInt8) : bs a ++ bs b = bs (a ++ b) := by
  apply ByteArray.ext; simp [bs]
theorem bs_inj {a b : List UInt8} : bs a = bs b ↔ a = b := by
  constructor
  · intro h; have := congrArg (fun s : ByteArray => s.data.toList) h; simpa using this
  · rintro rfl; rfl

/-- the number of bytes, the lowest first -/
def val : List UInt8 → Nat
  | [] => 0
  | c :: l => c.toNat + 256 * val l

theorem val_lt : ∀ l : List UInt8, val l < 256 ^ l.length
  | [] => by simp [val]
  | c :: l => by
    have := val_lt l
    have hc := c.toNat_lt
    simp only [val, List.length_cons, Nat.pow_succ]
    omega

theorem pow256_le {n m : Nat} (h : n ≤ m) : 256 ^ n ≤ 256 ^ m := Nat.pow_le_pow_right (by decide) h
theorem val_lt8 (l : List UInt8) (h : l.length ≤ 8) : val l < 18446744073709551616 :=
  Nat.lt_of_lt_of_le (val_lt l) (by have := pow256_le h; simpa using this)

theorem val_drop (l : List UInt8) (k : Nat) (h : k < l.length) : val (l.drop k) = l[k].toNat + 256 * val (l.drop (k + 1)) := by
  rw [List.drop_eq_getElem_cons h]; rfl

/-- n bytes of a number, the lowest first -/
def num : Nat → Nat → List UInt8
  | _, 0 => []
  | v, n + 1 => UInt8.ofNat (v % 256) :: num (v / 256) n
@[go_sem, simp] theorem num_length : ∀ (n v : Nat), (num v n).length = n
  | 0, _ => rfl
  | n + 1, v => by simp [num, num_length n]
theorem num_snoc : ∀ (n v : Nat), num v (n + 1) = num v n ++ [UInt8.ofNat (v / 256 ^ n % 256)]
  | 0, v => by simp [num]
  | n + 1, v => by
    rw [num, num_snoc n (v / 256), num]
    simp [Nat.pow_succ, Nat.div_div_eq_div_mul, Nat.mul_comm]
theorem val_num : ∀ (n v : Nat), val (num v n) = v % 256 ^ n
  | 0, v => by simp [num, val, Nat.mod_one]
  | n + 1, v => by
    rw [num, val, val_num n]
    have h : (UInt8.ofNat (v % 256)).toNat = v % 256 := by simp
    rw [h, Nat.pow_succ, Nat.mul_comm (256 ^ n) 256, Nat.mod_mul]
theorem num_val : ∀ l : List UInt8, num (val l) l.length = l
  | [] => rfl
  | c :: l => by
    have hc := c.toNat_lt
    have h1 : (c.toNat + 256 * val l) % 256 = c.toNat := by omega
    have h2 : (c.toNat + 256 * val l) / 256 = val l := by omega
    simp [num, val, h1, h2, num_val l]
theorem num_zero (n : Nat) : num 0 n = List.replicate n 0 := by
  induction n with
  | zero => rfl
  | succ n ih => simp [num, ih, List.replicate_succ]

/-- Put -/
def putOk (v n : Int) : Bool := decide (1 ≤ n ∧ n ≤ 8 ∧ v.toNat < 256 ^ n.toNat)
def putS (v n : Int) : List UInt8 × Int := if putOk v n then (num v.toNat n.toNat, 0) else ([], 2)
/-- Get -/
def getS (l : List UInt8) : Int × Int := if 1 ≤ l.length ∧ l.length ≤ 8 then ((val l : Int), 0) else (0, 2)
theorem val_append : ∀ a b : List UInt8, val (a ++ b) = val a + 256 ^ a.length * val b
  | [], b => by simp [val]
  | c :: a, b => by
    simp only [List.cons_append, val, val_append a b, List.length_cons, Nat.pow_succ]
    rw [Nat.mul_add, Nat.mul_comm (256 ^ a.length) 256, Nat.mul_assoc, Nat.add_assoc]
theorem val_take (l : List UInt8) (k : Nat) (h : k < l.length) : val (l.take (k + 1)) = val (l.take k) + l[k].toNat * 256 ^ k := by
  rw [List.take_succ_eq_append_getElem h, val_append]
  simp [val, Nat.min_eq_left (Nat.le_of_lt h), Nat.mul_comm]
theorem wrap_u64_nat (n : Nat) (h : n < 18446744073709551616) : IntKind.u64.wrap (n : Int) = n := IntWalk.u64_in _ (by omega)
/-- low or high -/
theorem or_hi (x c j : Nat) (hj : j < 64) (hx : x < 2 ^ j) (h : c * 2 ^ j < 18446744073709551616) :
    bits .or .u64 (x : Int) (IntKind.u64.wrap (IntKind.u64.wrap (c : Int) * 2 ^ j)) = ((x + c * 2 ^ j : Nat) : Int) := by
  have hp : 0 < 2 ^ j := Nat.two_pow_pos j
  have hc : c ≤ c * 2 ^ j := Nat.le_mul_of_pos_right c hp
  rw [wrap_u64_nat c (by omega)]
  have e : ((c : Int) * 2 ^ j) = ((c * 2 ^ j : Nat) : Int) := by simp
  have hx' : x < 18446744073709551616 := Nat.lt_trans hx (by have := Nat.pow_lt_pow_right (a := 2) (by decide) hj; simpa using this)
  rw [e, wrap_u64_nat _ h, bits_or_u64_nat x (c * 2 ^ j) hx' h, Nat.or_comm, Nat.mul_comm c, ← Nat.two_pow_add_eq_or_of_lt hx, Nat.add_comm]
/-- the short number's bytes, with fuel -/
def shortF : Nat → Nat → List UInt8
  | 0, _ => []
  | f + 1, v => if v < 128 then [UInt8.ofNat v] else (UInt8.ofNat (v % 128) + 128) :: shortF f (v / 128)
def short (v : Nat) : List UInt8 := shortF 10 v
theorem shortF_lt (f v : Nat) (h : v < 128) : shortF (f + 1) v = [UInt8.ofNat v] := by simp [shortF, h]
theorem shortF_ge (f v : Nat) (h : 128 ≤ v) : shortF (f + 1) v = (UInt8.ofNat (v % 128) + 128) :: shortF f (v / 128) := by
  simp [shortF, Nat.not_lt.2 h]
end Go.Proofs.Ytahmacnmphjhgaa.Oct
namespace Go.Proofs.Ytahmacnmphjhgaa
open Go.RowKit Oct
variable {P : Program}

theorem ret_int {k : IntKind} {a b : Int} (h : a = b) : Ending.returned (.int k a) = .returned (.int k b) := by rw [h]
theorem ret_str {a b : ByteArray} (h : a = b) : Ending.returned (.string a) = .returned (.string b) := by rw [h]
theorem v_int {k : IntKind} {a b : Int} (h : a = b) : Value.int k a = .int k b := by rw [h]
theorem v_str {a b : ByteArray} (h : a = b) : Value.string a = .string b := by rw [h]

/-- string([]byte{x}) -/
theorem conv_one (src dst e : TypeId) (hs : P.underlying src = some (.slice e)) (he : P.underlying e = some (.int .u8)) (hd : P.underlying dst = some .string) (w : World) (x : Int) :
    (convert src dst (.slice (some ⟨w.heap.size, 0, none⟩) 1 1)).run P (w.alloc (.cells #[.int .u8 x] e)) = .ok (.string (bs [UInt8.ofNat x.toNat])) (w.alloc (.cells #[.int .u8 x] e)) := by
  have := run_convert_bytes_arg (P := P) (w.alloc (.cells #[.int .u8 x] e)) src e hs he w.heap.size 0 1 1 [x] rfl (fun i hi => by
    obtain rfl : i = 0 := by omega
    simp [World.cell?_alloc_new]) dst hd
  exact this
@[go_sem] theorem bs_get (l : List UInt8) (k : Nat) (h : k < (bs l).size) : (bs l)[k]'h = l[k]'(by simpa using h) := by
  have e : (bs l)[k]'h = (bs l).data.toList[k]'(by simpa using h) := by simp; rfl
  rw [e]; simp
@[go_sem] theorem bs_extract (l : List UInt8) (a b : Nat) : (bs l).extract a b = bs ((l.drop a).take (b - a)) := by
  rw [Lib.extract_eq, bs_data]; rfl
@[go_sem] theorem take_drop_len (l : List UInt8) (n : Nat) : (l.drop n).take (l.length - n) = l.drop n := List.take_of_length_le (by simp)
@[go_sem] theorem bs_toList (l : List UInt8) : (bs l).toList = l := by rw [ByteArray.toList_eq, bs_data]
@[go_sem] theorem mk_toList (a : Array UInt8) : (ByteArray.mk a).toList = a.toList := by rw [ByteArray.toList_eq]
attribute [go_sem] bs_append
theorem str_ne {a b : ByteArray} (h : a.data.toList ≠ b.data.toList) : (a.toList == b.toList) = false := by
  rw [ByteArray.toList_eq, ByteArray.toList_eq]; exact beq_eq_false_iff_ne.2 h
theorem str_eq {a b : ByteArray} (h : a.data.toList = b.data.toList) : (a.toList == b.toList) = true := by
  rw [ByteArray.toList_eq, ByteArray.toList_eq]; exact beq_iff_eq.2 h

theorem Below.drewN' (w : World) (n : Nat) : Below w.heap.size w (w.drewN n) := ⟨rfl, rfl, rfl, Nat.le_refl _, fun _ _ => rfl⟩

/-- the cells of bytes -/
def bcells (l : List UInt8) : List Value := l.map fun c => .int .u8 (c.toNat : Int)
theorem bcells_snoc (l : List UInt8) (c : UInt8) : bcells l ++ [.int .u8 (c.toNat : Int)] = bcells (l ++ [c]) := by simp [bcells]
theorem bcells_length (l : List UInt8) : (bcells l).length = l.length := by simp [bcells]

/-- string(b), b the call's own -/
theorem conv_own (src dst e : TypeId) (hs : P.underlying src = some (.slice e)) (he : P.underlying e = some (.int .u8)) (hd : P.underlying dst = some .string) (w : World) (base : Nat) (v : Value) (n : Nat) (l : List UInt8)
    (h : w.ownsRow base e 1 v n (bcells l)) : (convert src dst v).run P w = .ok (.string (bs l)) w := by
  obtain ⟨h1, h2⟩ := id h
  rw [bcells_length, Nat.mul_one] at h1
  rcases h2 with ⟨rfl, h3⟩ | ⟨g, cap, cur, rfl, hg, hh, hc⟩
  · have : l = [] := List.eq_nil_of_length_eq_zero (by omega)
    subst this
    exact run_convert_bytes_nil w src e hs he 0 0 dst hd
  · subst h1
    refine run_convert_bytes_back w src dst e ⟨g, 0, none⟩ cap l hs he hd (fun j hj => ?_)
    have hx := World.ownsRow.cells h (g := g) rfl j (.int .u8 (l[j].toNat : Int)) (by simp [bcells, List.getElem?_eq_getElem hj])
    exact hx

/-- append(s, x): one element, s the call's own; its cells 'news' lie in the new block -/
theorem append1 {ops : Array Oper} {rest : List Oper} {o : Oper} {a : Act} {Q : Exit → Act → World → Prop} (wr : World) (news : List Value) (e : TypeId) (hgd : o.guard = none) (s x : Operand) (t : TypeId)
    (ho : o.op = .call { callee := .builtin .append, args := #[s, x], argTypes := #[t, t] })
    (base : Nat) (z : Value) (size bytes : Nat) (ht : P.underlying t = some (.slice e)) (hinfo : (P.info? e).map (fun i => (i.zero, i.size, i.bytes)) = some (some z, size, bytes))
    (hzs : z.cells.size = size) (hsz : 0 < size) (v : Value) (n : Nat) (xs : List Value) (hs : a.eval s = v) (hown : wr.ownsRow base e size v n xs)
    (c : Nat) (hx : a.eval x = .slice (some ⟨wr.heap.size, 0, none⟩) 1 c) (hl : news.length = size) (h1 : ∀ u ∈ news, u.oneCell' = true)
    (hbytes : (n + 1) * bytes ≤ 140737488355328) (hby : 0 < bytes) (hbase : base ≤ wr.heap.size)
    (h : ∀ v' w', w'.ownsRow base e size v' (n + 1) (xs ++ news) → Below base wr w' → wpList P ops Q rest (a.put o.dst v') w') : wpList P ops Q (o :: rest) a (wr.alloc (.cells news.toArray e)) := by
  obtain ⟨i, hi, hz, hi1, hi2⟩ := info_parts hinfo
  have hn : n + 1 ≤ (n + 1) * bytes := Nat.le_mul_of_pos_right _ hby
  refine wpList_append_own _ hgd s x t ho base e i z size bytes ht hi hz hi1 hi2 hzs hsz v n xs hs (hown.alloc _) ⟨wr.heap.size, 0, none⟩ 1 c news hx (by simpa using hl) ?_ h1 (by unfold maxLen; omega) hbytes (by simp; omega) ?_
  · intro j u hj
    have : j < news.length := by
      rcases Nat.lt_or_ge j news.length with h | h
      · exact h
      · simp [List.getElem?_eq_none h] at hj
    rw [Addr.add_lit, Nat.zero_add, World.cell?_alloc_new]
    simpa using hj
  · intro v' w' h2 h3 _
    refine h v' w' h2 (((Below.refl base wr).alloc hbase _).grown h3 (by simp; omega) ?_)
    intro k hk
    exact (hown.lt k hk).1

/-- append(s, x) in a region that draws its order: one element, s the call's own -/
theorem step_append1 {ops : Array Oper} {o : Oper} {a : Act} {K : Act → World → Prop} {Q : Exit → Act → World → Prop} {E : Prop} (wr : World) (news : List Value) (e : TypeId) (hgd : o.guard = none) (s x : Operand) (t : TypeId)
    (ho : o.op = .call { callee := .builtin .append, args := #[s, x], argTypes := #[t, t] })
    (base : Nat) (z : Value) (size bytes : Nat) (ht : P.underlying t = some (.slice e)) (hinfo : (P.info? e).map (fun i => (i.zero, i.size, i.bytes)) = some (some z, size, bytes))
    (hzs : z.cells.size = size) (hsz : 0 < size) (v : Value) (n : Nat) (xs : List Value) (hs : a.eval s = v) (hown : wr.ownsRow base e size v n xs)
    (c : Nat) (hx : a.eval x = .slice (some ⟨wr.heap.size, 0, none⟩) 1 c) (hl : news.length = size) (h1 : ∀ u ∈ news, u.oneCell' = true)
    (hbytes : (n + 1) * bytes ≤ 140737488355328) (hby : 0 < bytes) (hbase : base ≤ wr.heap.size)
    (h : ∀ g cap w', w'.ownsRow base e size (.slice (some ⟨g, 0, none⟩) (n + 1) cap) (n + 1) (xs ++ news) → Below base wr w' → K (a.put o.dst (.slice (some ⟨g, 0, none⟩) (n + 1) cap)) w') :
    if Region.wanted o (yielded ops a.tmps) = true then Oper.wp P o a (wr.alloc (.cells news.toArray e)) K Q else E := by
  obtain ⟨i, hi, hz, hi1, hi2⟩ := info_parts hinfo
  have hn : n + 1 ≤ (n + 1) * bytes := Nat.le_mul_of_pos_right _ hby
  refine step_append_lies _ hgd s x t ho base e i z size bytes ht hi hz hi1 hi2 hzs hsz v n xs hs (hown.alloc _) ⟨wr.heap.size, 0, none⟩ 1 c news hx (by simpa using hl) ?_ h1 (by decide) (by unfold maxLen; omega) hbytes (by simp; omega) _ rfl ?_
  · intro j u hj
    have : j < news.length := by
      rcases Nat.lt_or_ge j news.length with h | h
      · exact h
      · simp [List.getElem?_eq_none h] at hj
    rw [Addr.add_lit, Nat.zero_add, World.cell?_alloc_new]
    simpa using hj
  · intro g cap w' h2 h3 _ _
    refine h g cap w' h2 (((Below.refl base wr).alloc hbase _).grown h3 (by simp; omega) ?_)
    intro k hk
    exact (hown.lt k hk).1

theorem ownsRow_below {w w' : World} {base : Nat} {e : TypeId} {size : Nat} {v : Value} {n : Nat} {xs : List Value} (h : w.ownsRow base e size v n xs) (hB : Below w.heap.size w w') : w'.ownsRow base e size v n xs := by
  obtain ⟨h1, h2⟩ := h
  refine ⟨h1, ?_⟩
  rcases h2 with h2 | ⟨g, cap, cur, hv, hg, hh, r⟩
  · exact Or.inl h2
  · have hlt : g < w.heap.size := by
      rcases Nat.lt_or_ge g w.heap.size with h | h
      · exact h
      · simp [Array.getElem?_eq_none h] at hh
    exact Or.inr ⟨g, cap, cur, hv, hg, (hB.block g hlt).trans hh, r⟩

/-- two calls, one behind the other -/
theorem bt {a b c : World} (h : Below a.heap.size a b) (k : Below b.heap.size b c) : Below a.heap.size a c := h.trans (k.mono h.size)
theorem b_alloc (w : World) (o : Obj) : Below w.heap.size w (w.alloc o) := (Below.refl _ _).alloc (Nat.le_refl _) _
theorem b_drew (w : World) : Below w.heap.size w w.drew := (Below.refl _ _).drew
theorem b_refl (w : World) : Below w.heap.size w w := Below.refl _ _

theorem owns_slice {w : World} {base : Nat} {e : TypeId} {size : Nat} {v : Value} {n : Nat} {xs : List Value} (h : w.ownsRow base e size v n xs) : ∃ a cap, v = .slice a n cap := by
  rcases h.2 with ⟨hv, h0⟩ | ⟨g, cap, cur, hv, _⟩
  · exact ⟨none, 0, by rw [hv, h0]⟩
  · exact ⟨_, _, hv⟩

theorem owns_mono {w : World} {base base' : Nat} {e : TypeId} {size : Nat} {v : Value} {n : Nat} {xs : List Value} (h : w.ownsRow base e size v n xs) (hb : base' ≤ base) : w.ownsRow base' e size v n xs := by
  obtain ⟨h1, h2⟩ := h
  refine ⟨h1, ?_⟩
  rcases h2 with h2 | ⟨g, cap, cur, hv, hg, r⟩
  · exact .inl h2
  · exact .inr ⟨g, cap, cur, hv, Nat.le_trans hb hg, r⟩

/-- two new blocks -/
theorem two_new (w : World) (o p : Obj) : ((w.alloc o).alloc p).heap[w.heap.size]? = some o ∧ ((w.alloc o).alloc p).heap[w.heap.size + 1]? = some p ∧ Below w.heap.size w ((w.alloc o).alloc p) := by
  refine ⟨?_, ?_, ((Below.refl _ _).alloc (Nat.le_refl _) _).alloc (by simp) _⟩
  · show ((w.heap.push o).push p)[w.heap.size]? = some o
    simp [Array.getElem?_push]
  · show ((w.heap.push o).push p)[w.heap.size + 1]? = some p
    rw [Array.getElem?_push, if_pos (by simp)]

/-- a region that draws its order, and that makes memory at most: one walk of the text's order serves -/
theorem region_grow {id : Nat} {Q : Exit → Act → World → Prop} {a : Act} {w : World} {l : List Oper} (hm : P.follows .mixedOrders = true) (hB : Region.lexB .any l.toArray = true)
    (h : wpQuiet P l.toArray (fun w' => Below w.heap.size w w') (fun a' => ∀ w', Below w.heap.size w w' → Q .normal a' w') l a) : (Code.region id l.toArray true).wp P Q a w :=
  wp_region_quiet (C := fun w' => Below w.heap.size w w') hm hB (b_drew w) (by simpa using h)
theorem calls_grow {f : FuncId} {args : Array Value} {w w' : World} {v : Value} (hC : Below w.heap.size w w') (h : Calls P f args w' fun e w'' => e = .returned v ∧ Below w'.heap.size w' w'') :
    Calls P f args w' fun e w'' => e = .returned v ∧ Below w.heap.size w w'' := h.mono fun _ _ ⟨he, hb⟩ => ⟨he, bt hC hb⟩

/-- the slice value v has n elements, whose cells are xs -/
def Reads (w : World) (v : Value) (n : Nat) (xs : List Value) : Prop :=
  ∃ a cap, v = .slice a n cap ∧ (a = none → n = 0 ∧ cap = 0) ∧ ∀ j u, xs[j]? = some u → ∃ b off, a = some ⟨b, off, none⟩ ∧ w.cell? ⟨b, off + j, none⟩ = some u
theorem lt_of_cell {w : World} {a : Addr} {u : Value} (h : w.cell? a = some u) : a.block < w.heap.size := World.block_lt_of_cell? w a h
theorem Below.keeps {w w' : World} (hB : Below w.heap.size w w') {a : Addr} {u : Value} (h : w.cell? a = some u) : w'.cell? a = some u :=
  (hB.cell (p := a) (lt_of_cell h)).trans h
theorem Reads.below {w w' : World} {v : Value} {n : Nat} {xs : List Value} (h : Reads w v n xs) (hB : Below w.heap.size w w') : Reads w' v n xs := by
  obtain ⟨a, cap, hv, hn, hc⟩ := h
  exact ⟨a, cap, hv, hn, fun j u hj => by obtain ⟨b, off, ha, hu⟩ := hc j u hj; exact ⟨b, off, ha, Below.keeps hB hu⟩⟩
theorem Reads.owned {w : World} {base : Nat} {e : TypeId} {size : Nat} {v : Value} {n : Nat} {xs : List Value} (h : w.ownsRow base e size v n xs) : Reads w v n xs := by
  rcases id h.2 with ⟨hv, h0⟩ | ⟨g, cap, cur, hv, _⟩
  · refine ⟨none, 0, by rw [hv, h0], fun _ => ⟨h0, rfl⟩, fun j u hj => ?_⟩
    have := h.1
    rw [h0, Nat.zero_mul] at this
    rw [List.eq_nil_of_length_eq_zero this] at hj
    simp at hj
  · refine ⟨some ⟨g, 0, none⟩, cap, hv, (by simp), fun j u hj => ⟨g, 0, rfl, ?_⟩⟩
    have := World.ownsRow.cells h (g := g) (by rw [hv]; rfl) j u hj
    rwa [Addr.add_lit] at this
theorem Reads.nil (w : World) : Reads w (.slice none 0 0) 0 [] := ⟨none, 0, rfl, fun _ => ⟨rfl, rfl⟩, fun j u hj => by simp at hj⟩
theorem Reads.new (w : World) (xs : List Value) (n : Nat) (e : TypeId) (c : Nat) : Reads (w.alloc (.cells xs.toArray e)) (.slice (some ⟨w.heap.size, 0, none⟩) n c) n xs :=
  ⟨_, _, rfl, (by simp), fun j u hj => ⟨_, _, rfl, by rw [Nat.zero_add, World.cell?_alloc_new]; simpa using hj⟩⟩
/-- append(s, x...): s the call's own, x whatever slice -/
theorem appendN {ops : Array Oper} {rest : List Oper} {o : Oper} {a : Act} {Q : Exit → Act → World → Prop} (w : World) (news : List Value) (e : TypeId) (hgd : o.guard = none) (s x : Operand) (t : TypeId)
    (ho : o.op = .call { callee := .builtin .append, args := #[s, x], argTypes := #[t, t] })
    (base : Nat) (z : Value) (size bytes : Nat) (ht : P.underlying t = some (.slice e)) (hinfo : (P.info? e).map (fun i => (i.zero, i.size, i.bytes)) = some (some z, size, bytes))
    (hzs : z.cells.size = size) (hsz : 0 < size) (v : Value) (n : Nat) (xs : List Value) (hs : a.eval s = v) (hown : w.ownsRow base e size v n xs)
    (vx : Value) (m : Nat) (hx : a.eval x = vx) (hr : Reads w vx m news) (hl : news.length = m * size) (h1 : ∀ u ∈ news, u.oneCell' = true)
    (hbytes : (n + m) * bytes ≤ 140737488355328) (hby : 0 < bytes) (hbase : base ≤ w.heap.size)
    (h : ∀ v' w', w'.ownsRow base e size v' (n + m) (xs ++ news) → Below base w w' → wpList P ops Q rest (a.put o.dst v') w') : wpList P ops Q (o :: rest) a w := by
  obtain ⟨i, hi, hz, hi1, hi2⟩ := info_parts hinfo
  have hn : n + m ≤ (n + m) * bytes := Nat.le_mul_of_pos_right _ hby
  obtain ⟨ax, cap, rfl, hnone, hc⟩ := hr
  cases ax with
  | none =>
    obtain ⟨rfl, rfl⟩ := hnone rfl
    have hnil : news = [] := List.eq_nil_of_length_eq_zero (by simpa using hl)
    subst hnil
    refine wpList_append_own_none hgd s x t ho base e i size ht hi v n xs hs hown hx ?_
    have := h v w (by simpa using hown) (Below.refl _ _)
    exact this
  | some ad =>
    refine wpList_append_own _ hgd s x t ho base e i z size bytes ht hi hz hi1 hi2 hzs hsz v n xs hs hown ad m cap news hx hl ?_ h1 (by unfold maxLen; omega) hbytes hbase ?_
    · intro j u hj
      obtain ⟨b, off, ha, hu⟩ := hc j u hj
      cases ha
      rw [Addr.add_lit]; exact hu
    · intro v' w' h2 h3 _
      refine h v' w' h2 ((Below.refl base w).grown h3 hbase ?_)
      intro k hk
      exact (hown.lt k hk).1

/-- the cells of texts -/
def tcells (r : List (List UInt8)) : List Value := r.map fun l => .string (bs l)
theorem tcells_at (r : List (List UInt8)) (k : Nat) (h : k < r.length) : (tcells r)[k]? = some (.string (bs r[k])) := by simp [tcells, h]
theorem tcells_snoc (r : List (List UInt8)) (l : List UInt8) : tcells r ++ [.string (bs l)] = tcells (r ++ [l]) := by simp [tcells]
theorem tcells_length (r : List (List UInt8)) : (tcells r).length = r.length := by simp [tcells]

end Go.Proofs.Ytahmacnmphjhgaa
namespace Go.Proofs.Ytahmacnmphjhgaa
open Go.RowKit Oct

theorem infoU8 : (Try.prog.info? 5).map (fun i => (i.zero, i.size, i.bytes)) = some (some (.int .u8 0), 1, 1) := by kernel_rfl

theorem conv1 (w : World) (x : Int) : (convert 94 9 (.slice (some ⟨w.heap.size, 0, none⟩) 1 1)).run Try.prog (w.alloc (.cells #[.int .u8 x] 5)) = .ok (.string (bs [UInt8.ofNat x.toNat])) (w.alloc (.cells #[.int .u8 x] 5)) := conv_one (P := Try.prog) 94 9 5 Try.underlying94 Try.underlying5 Try.underlying9 w x

set_option maxRecDepth 100000 in
set_option maxHeartbeats 400000 in
theorem num_any (v n : Int) (w : World) (h1 : 0 ≤ n) (h2 : n ≤ 8) (h3 : 0 ≤ v) (h4 : v < 18446744073709551616) :
    Calls Try.prog 72 #[.int .u64 v, .int .i64 n] w fun e w' => e = .returned (.string (bs (num v.toNat n.toNat))) ∧ Below w.heap.size w w' := by
  have hcv := conv1
  go_enter Try.func72, Try.ntmps72
  go_wp2
  go_loopw [0, 5, 6] (fun u s i wr => ∃ k : Nat, ∃ x : Nat, ∃ l : List UInt8, (k : Int) ≤ n ∧ i = .int .i64 k ∧ u = .int .u64 x ∧ x < 18446744073709551616 ∧ s = .string (bs l) ∧ l.length ≤ k ∧ Hid (x = v.toNat / 256 ^ k ∧ l = num v.toNat k) ∧ Below w.heap.size w wr) (fun _ _ i _ => (n - intOf i).toNat)
  case atStart => exact ⟨0, v.toNat, [], by omega, rfl, v_int (by omega), by omega, rfl, by simp, ⟨by simp, rfl⟩, Below.refl _ _⟩
  case round =>
    obtain ⟨k, x, l, hk, rfl, rfl, hx, rfl, hl, hH, hB⟩ := hrel
    by_cases h0 : (k : Int) < n
    · go_wp2
      go_roundw
      case rel =>
        obtain ⟨rfl, rfl⟩ := hH.out
        exact ⟨k + 1, _, _, by omega, by go_num, by go_num, Nat.lt_of_le_of_lt (Nat.div_le_self _ _) hx, rfl, by simp, ⟨by rw [Nat.pow_succ, Nat.div_div_eq_div_mul], by rw [num_snoc]⟩, hB.alloc hB.size _⟩
      case measure => simp [intOf]; omega
    · obtain rfl : n = k := by omega
      go_wp2
      go_ret
      obtain ⟨_, rfl⟩ := hH.out
      exact ⟨rfl, hB⟩

/-- the cells of the array after k rounds -/
def cb (v k : Nat) : Array Value := ((num v k).map (fun c => Value.int .u8 (c.toNat : Int)) ++ List.replicate (8 - k) (Value.int .u8 0)).toArray
theorem cb_new (v k : Nat) (h : k < 8) : (cb v k)[k]? = some (.int .u8 0) := by
  simp [cb, List.getElem?_append, num_length, List.getElem?_replicate]; omega
theorem cb_at (v k j : Nat) (h : j < k) : (cb v k)[j]? = some (.int .u8 (((num v k)[j]'(by rw [num_length]; exact h)).toNat : Int)) := by
  have hl : j < (num v k).length := by rw [num_length]; exact h
  simp [cb, List.getElem?_append, num_length, h, hl]
theorem num_take (v m n j : Nat) (h : m ≤ n) (hj : j < m) : (num v n)[j]'(by rw [num_length]; omega) = (num v m)[j]'(by rw [num_length]; omega) := by
  induction m generalizing v n j with
  | zero => omega
  | succ m ih =>
    obtain ⟨n, rfl⟩ : ∃ n', n = n' + 1 := ⟨n - 1, by omega⟩
    cases j with
    | zero => simp [num]
    | succ j => simp only [num, List.getElem_cons_succ]; exact ih _ _ _ (by omega) (by omega)
theorem cb_step (v : Int) (k : Nat) (h : k < 8) (h0 : 0 ≤ v) : (cb v.toNat k).setIfInBounds k (Value.int IntKind.u8 (v / 2 ^ (8 * k) % 256)) = cb v.toNat (k + 1) := by
  obtain ⟨v, rfl⟩ := Int.eq_ofNat_of_zero_le h0
  have e : ((v : Int) / 2 ^ (8 * k) % 256) = (((UInt8.ofNat (v / 256 ^ k % 256)).toNat : Nat) : Int) := by
    have : (2 : Int) ^ (8 * k) = ((256 ^ k : Nat) : Int) := by rw [Int.pow_mul]; simp
    rw [this]; simp
  rw [e]
  simp only [cb, Int.toNat_natCast, List.setIfInBounds_toArray, num_snoc, List.map_append, List.append_assoc]
  congr 1
  rw [List.set_append_right _ _ (by simp [num_length])]
  obtain ⟨m, hm⟩ : ∃ m, 8 - k = m + 1 := ⟨7 - k, by omega⟩
  have hm' : 8 - (k + 1) = m := by omega
  simp [num_length, hm, hm', List.replicate_succ]

set_option maxRecDepth 100000 in
set_option maxHeartbeats 400000 in
theorem bytes_any (v n : Int) (w : World) (h1 : 1 ≤ n) (h2 : n ≤ 8) (h3 : 0 ≤ v) (h4 : v < 18446744073709551616) :
    Calls Try.prog 80 #[.int .u64 v, .int .i64 n] w fun e w' => e = .returned (.string (bs (num v.toNat n.toNat))) ∧ Below w.heap.size w w' := by
  obtain ⟨m, rfl⟩ := Int.eq_ofNat_of_zero_le (show 0 ≤ n by omega)
  have hfin : ∀ c, (convert 94 9 (.slice (some ⟨w.heap.size, 0, none⟩) m c)).run Try.prog (w.alloc (.cells (cb v.toNat 8) 134)) = .ok (.string (bs (num v.toNat m))) (w.alloc (.cells (cb v.toNat 8) 134)) := by
    intro c
    have := run_convert_bytes_back (P := Try.prog) (w.alloc (.cells (cb v.toNat 8) 134)) 94 9 5 ⟨w.heap.size, 0, none⟩ c (num v.toNat m) Try.underlying94 Try.underlying5 Try.underlying9 (fun j hj => by
      rw [num_length] at hj
      have := cb_at v.toNat 8 j (by omega)
      simp [World.cell?_alloc_new, Addr.add_lit, this, num_take v.toNat m 8 j (by omega) hj])
    rw [num_length] at this
    exact this
  go_enter Try.func80, Try.ntmps80
  go_wp2
  go_loopw [7] (fun i wr => ∃ k : Nat, k ≤ 8 ∧ i = .int .i64 k ∧ wr = w.alloc (.cells (cb v.toNat k) 134)) (fun i _ => (8 - intOf i).toNat)
  case atStart => exact ⟨0, by omega, rfl, rfl⟩
  case round =>
    obtain ⟨k, hk, rfl, rfl⟩ := hrel
    by_cases h0 : (k : Int) < 8
    · have hc := cb_new v.toNat k (by omega)
      go_wp2
      go_roundw
      case rel => exact ⟨k + 1, by omega, by go_num, by rw [cb_step v k (by omega) h3]⟩
      case measure => simp [intOf]; omega
    · obtain rfl : k = 8 := by omega
      go_wp2
      go_ret
      exact ⟨rfl, (Below.refl _ _).alloc (Nat.le_refl _) _⟩
end Go.Proofs.Ytahmacnmphjhgaa
namespace Go.Proofs.Ytahmacnmphjhgaa
open Go.RowKit Oct

abbrev PR := List UInt8 × List UInt8
/-- a pair's cells -/
def pcell (p : PR) : List Value := [.string (bs p.1), .string (bs p.2)]
def pcells : List PR → List Value
  | [] => []
  | p :: l => .string (bs p.1) :: .string (bs p.2) :: pcells l
theorem pcells_length : ∀ l : List PR, (pcells l).length = l.length * 2
  | [] => rfl
  | p :: l => by simp [pcells, pcells_length l]; omega
theorem pcells_append : ∀ a b : List PR, pcells (a ++ b) = pcells a ++ pcells b
  | [], _ => rfl
  | p :: a, b => by simp [pcells, pcells_append a b]
theorem pcells_snoc (l : List PR) (p : PR) : pcells l ++ [.string (bs p.1), .string (bs p.2)] = pcells (l ++ [p]) := by rw [pcells_append]; rfl
theorem pcells_key : ∀ (l : List PR) (k : Nat) (h : k < l.length), (pcells l)[k * 2]? = some (.string (bs l[k].1))
  | p :: l, 0, _ => rfl
  | p :: l, k + 1, h => by
    have := pcells_key l k (by simpa using h)
    rw [show (k + 1) * 2 = k * 2 + 2 by omega]
    simpa [pcells] using this
theorem pcells_val : ∀ (l : List PR) (k : Nat) (h : k < l.length), (pcells l)[k * 2 + 1]? = some (.string (bs l[k].2))
  | p :: l, 0, _ => rfl
  | p :: l, k + 1, h => by
    have := pcells_val l k (by simpa using h)
    rw [show (k + 1) * 2 + 1 = k * 2 + 1 + 2 by omega]
    simpa [pcells] using this
theorem pcells_drop : ∀ (l : List PR) (k : Nat), (pcells l).drop (k * 2) = pcells (l.drop k)
  | l, 0 => by simp
  | [], k + 1 => by simp [pcells]
  | p :: l, k + 1 => by
    rw [show (k + 1) * 2 = k * 2 + 2 by omega]
    simp [pcells, pcells_drop l k]
theorem pcells_take : ∀ (l : List PR) (k : Nat), (pcells l).take (k * 2) = pcells (l.take k)
  | l, 0 => by simp [pcells]
  | [], k + 1 => by simp [pcells]
  | p :: l, k + 1 => by
    rw [show (k + 1) * 2 = k * 2 + 2 by omega]
    simp [pcells, pcells_take l k]
theorem pcells_one (l : List PR) : ∀ u ∈ pcells l, u.oneCell' = true := by
  induction l with
  | nil => simp [pcells]
  | cons p l ih => intro u hu; simp [pcells] at hu; rcases hu with rfl | rfl | hu <;> first | rfl | exact ih u hu

/-- the slice value v is a row of pairs -/
def RP (w : World) (v : Value) (l : List PR) : Prop := Reads w v l.length (pcells l) ∧ ∃ a cap, v = .slice a l.length cap ∧ l.length ≤ cap
theorem RP.below {w w' : World} {v : Value} {l : List PR} (h : RP w v l) (hB : Below w.heap.size w w') : RP w' v l := ⟨Reads.below h.1 hB, h.2⟩
/-- v is a row of pairs of the call's own -/
def OP (w : World) (base : Nat) (v : Value) (l : List PR) : Prop := w.ownsRow base 71 2 v l.length (pcells l)
theorem OP.reads {w : World} {base : Nat} {v : Value} {l : List PR} (h : OP w base v l) : RP w v l := by
  refine ⟨Reads.owned h, ?_⟩
  rcases h.2 with ⟨hv, h0⟩ | ⟨g, cap, cur, hv, _, _, hc, _⟩
  · exact ⟨none, 0, by rw [hv, h0], by omega⟩
  · exact ⟨_, _, hv, hc⟩
theorem OP.below {w w' : World} {base : Nat} {v : Value} {l : List PR} (h : OP w base v l) (hB : Below w.heap.size w w') : OP w' base v l := ownsRow_below h hB
theorem RP.nil (w : World) : RP w (.slice none 0 0) [] := ⟨Reads.nil w, none, 0, rfl, Nat.le_refl _⟩
theorem OP.nil (w : World) (base : Nat) : OP w base (.slice none 0 0) [] := ⟨rfl, .inl ⟨rfl, rfl⟩⟩
theorem RP.new (w : World) (l : List PR) (e : TypeId) : RP (w.alloc (.cells (pcells l).toArray e)) (.slice (some ⟨w.heap.size, 0, none⟩) l.length l.length) l := ⟨Reads.new w _ _ _ _, _, _, rfl, Nat.le_refl _⟩
theorem infoPair : (Try.prog.info? 71).map (fun i => (i.zero, i.size, i.bytes)) = some (some (.agg #[.string ByteArray.empty, .string ByteArray.empty]), 2, 32) := by kernel_rfl

/-- a row, opened -/
theorem RP.open {w : World} {v : Value} {l : List PR} (h : RP w v l) : ∃ a cap, v = .slice a l.length cap ∧ l.length ≤ cap ∧
    ∀ k (hk : k < l.length), ∃ b off, a = some ⟨b, off, none⟩ ∧ w.cell? ⟨b, off + k * 2, none⟩ = some (.string (bs l[k].1)) ∧ w.cell? ⟨b, off + k * 2 + 1, none⟩ = some (.string (bs l[k].2)) := by
  obtain ⟨⟨a, cap, rfl, hn, hc⟩, a', cap', hv, hle⟩ := h
  injection hv with _ _ h3
  subst h3
  refine ⟨a, cap, rfl, hle, fun k hk => ?_⟩
  obtain ⟨b, off, rfl, h1⟩ := hc _ _ (pcells_key l k hk)
  obtain ⟨b', off', hb, h2⟩ := hc _ _ (pcells_val l k hk)
  cases hb
  exact ⟨b, off, rfl, h1, h2⟩
/-- append(s, x...): s the call's own -/
theorem appendP {ops : Array Oper} {rest : List Oper} {o : Oper} {a : Act} {Q : Exit → Act → World → Prop} (w : World) (hgd : o.guard = none) (s x : Operand) (t : TypeId)
    (ho : o.op = .call { callee := .builtin .append, args := #[s, x], argTypes := #[t, t] }) (ht : Try.prog.underlying t = some (.slice 71))
    (base : Nat) (v : Value) (xs : List PR) (hs : a.eval s = v) (hown : OP w base v xs)
    (vx : Value) (ys : List PR) (hx : a.eval x = vx) (hr : RP w vx ys) (hbytes : (xs.length + ys.length) * 32 ≤ 140737488355328) (hbase : base ≤ w.heap.size)
    (h : ∀ v' w', OP w' base v' (xs ++ ys) → Below base w w' → wpList Try.prog ops Q rest (a.put o.dst v') w') : wpList Try.prog ops Q (o :: rest) a w :=
  appendN w (pcells ys) 71 hgd s x t ho base (.agg #[.string ByteArray.empty, .string ByteArray.empty]) 2 32 ht infoPair rfl (by decide) v xs.length (pcells xs) hs hown vx ys.length hx hr.1 (pcells_length ys) (pcells_one ys) hbytes (by decide) hbase
    (fun v' w' h1 h2 => h v' w' (by unfold OP; rw [pcells_append, List.length_append]; exact h1) h2)
theorem append1P {ops : Array Oper} {rest : List Oper} {o : Oper} {a : Act} {Q : Exit → Act → World → Prop} (w : World) (p : PR) (hgd : o.guard = none) (s x : Operand) (t : TypeId)
    (ho : o.op = .call { callee := .builtin .append, args := #[s, x], argTypes := #[t, t] }) (ht : Try.prog.underlying t = some (.slice 71))
    (base : Nat) (v : Value) (xs : List PR) (hs : a.eval s = v) (hown : OP w base v xs) (c : Nat) (hx : a.eval x = .slice (some ⟨w.heap.size, 0, none⟩) 1 c)
    (hbytes : (xs.length + 1) * 32 ≤ 140737488355328) (hbase : base ≤ w.heap.size)
    (h : ∀ v' w', OP w' base v' (xs ++ [p]) → Below base w w' → wpList Try.prog ops Q rest (a.put o.dst v') w') : wpList Try.prog ops Q (o :: rest) a (w.alloc (.cells (pcell p).toArray 71)) :=
  append1 w (pcell p) 71 hgd s x t ho base (.agg #[.string ByteArray.empty, .string ByteArray.empty]) 2 32 ht infoPair rfl (by decide) v xs.length (pcells xs) hs hown c hx rfl (by simp [pcell, Value.oneCell']) hbytes (by decide) hbase
    (fun v' w' h1 h2 => h v' w' (by unfold OP; rw [pcells_append, List.length_append]; exact h1) h2)
theorem step_append1P {ops : Array Oper} {o : Oper} {a : Act} {K : Act → World → Prop} {Q : Exit → Act → World → Prop} {E : Prop} (w : World) (p : PR) (hgd : o.guard = none) (s x : Operand) (t : TypeId)
    (ho : o.op = .call { callee := .builtin .append, args := #[s, x], argTypes := #[t, t] }) (ht : Try.prog.underlying t = some (.slice 71))
    (base : Nat) (v : Value) (xs : List PR) (hs : a.eval s = v) (hown : OP w base v xs) (c : Nat) (hx : a.eval x = .slice (some ⟨w.heap.size, 0, none⟩) 1 c)
    (hbytes : (xs.length + 1) * 32 ≤ 140737488355328) (hbase : base ≤ w.heap.size)
    (h : ∀ g cap w', OP w' base (.slice (some ⟨g, 0, none⟩) (xs.length + 1) cap) (xs ++ [p]) → Below base w w' → K (a.put o.dst (.slice (some ⟨g, 0, none⟩) (xs.length + 1) cap)) w') :
    if Region.wanted o (yielded ops a.tmps) = true then Oper.wp Try.prog o a (w.alloc (.cells #[.string (bs p.1), .string (bs p.2)] 71)) K Q else E :=
  step_append1 w (pcell p) 71 hgd s x t ho base (.agg #[.string ByteArray.empty, .string ByteArray.empty]) 2 32 ht infoPair rfl (by decide) v xs.length (pcells xs) hs hown c hx rfl (by simp [pcell, Value.oneCell']) hbytes (by decide) hbase
    (fun g cap w' h1 h2 => h g cap w' (by unfold OP; rw [pcells_append, List.length_append]; exact h1) h2)
theorem Reads.mk {w : World} {a : Option Addr} {n cap : Nat} {xs : List Value} (h1 : a = none → n = 0 ∧ cap = 0) (h2 : ∀ j u, xs[j]? = some u → ∃ b off, a = some ⟨b, off, none⟩ ∧ w.cell? ⟨b, off + j, none⟩ = some u) : Reads w (.slice a n cap) n xs := ⟨a, cap, rfl, h1, h2⟩
theorem none_cap {w : World} {a : Option Addr} {n cap : Nat} {xs : List Value} (h : Reads w (.slice a n cap) n xs) : a = none → n = 0 ∧ cap = 0 := by
  obtain ⟨a', cap', hv, hn, _⟩ := h
  injection hv with h1 _ h3
  subst h1 h3
  exact hn
/-- s[lo:hi], read -/
theorem RP.sub {w : World} {a : Option Addr} {cap : Nat} {l : List PR} (h : RP w (.slice a l.length cap) l) (lo hi : Nat) (h1 : lo ≤ hi) (h2 : hi ≤ l.length) :
    RP w (sliced a lo hi cap 2) ((l.drop lo).take (hi - lo)) := by
  have hlen : ((l.drop lo).take (hi - lo)).length = hi - lo := by simp; omega
  obtain ⟨hr, a', cap', hv, hle⟩ := h
  injection hv with _ _ h3
  subst h3
  have hn := none_cap hr
  obtain ⟨a', cap', hv, _, hc⟩ := hr
  injection hv with e1 _ e3
  subst e1 e3
  unfold sliced
  refine ⟨?_, _, _, by rw [hlen], by rw [hlen]; omega⟩
  rw [hlen]
  refine Reads.mk ?_ ?_
  · intro ha
    by_cases e : cap = lo
    · omega
    · rw [if_neg e] at ha
      have : a = none := by simpa using ha
      have := hn this
      omega
  · intro j u hj
    rw [← pcells_take, ← pcells_drop, List.getElem?_take] at hj
    split at hj
    · rename_i hlt
      rw [List.getElem?_drop] at hj
      obtain ⟨b, off, rfl, hu⟩ := hc _ _ hj
      rw [if_neg (by omega)]
      refine ⟨b, off + lo * 2, ?_, ?_⟩
      · rw [Option.map_some, Addr.add_lit]
      · rw [← hu, Nat.add_assoc]
    · simp at hj
theorem RP.cut {w : World} {a : Option Addr} {cap : Nat} {l : List PR} (h : RP w (.slice a l.length cap) l) (k : Nat) (hk : k ≤ l.length) : RP w (sliced a k l.length cap 2) (l.drop k) := by
  have := h.sub k l.length hk (Nat.le_refl _)
  rwa [List.take_of_length_le (by simp)] at this
theorem RP.head {w : World} {a : Option Addr} {cap : Nat} {l : List PR} (h : RP w (.slice a l.length cap) l) (k : Nat) (hk : k ≤ l.length) : RP w (sliced a 0 k cap 2) (l.take k) := by
  have := h.sub 0 k (by omega) hk
  simpa using this
/-- s[k:], run -/
theorem RP.cutRun {w : World} {a : Option Addr} {cap : Nat} {l : List PR} (h : RP w (.slice a l.length cap) l) (k : Nat) (c : Int) (hc : c = (k : Int)) (hk : k ≤ l.length) :
    ∃ A C, (∀ wx, (Instr.slice 22 (.slice a l.length cap) (some (.int .i64 c)) none none).run Try.prog wx = .ok (.slice A (l.length - k) C) wx) ∧ RP w (.slice A (l.length - k) C) (l.drop k) := by
  subst hc
  refine ⟨_, _, fun wx => ?_, h.cut k hk⟩
  obtain ⟨i, hi, hz, hi1, hi2⟩ := info_parts infoPair
  rw [run_slice_l wx 22 a l.length cap (by kernel_rfl) .i64 k (by omega) (by omega)]
  have he : (sizeOf (Try.prog.elem 22)).run Try.prog wx = .ok 2 wx := by kernel_rfl
  rw [he]
  simp [Result.andThen, sliced]
/-- s[:k], run -/
theorem RP.headRun {w : World} {a : Option Addr} {cap : Nat} {l : List PR} (h : RP w (.slice a l.length cap) l) (k : Nat) (c : Int) (hc : c = (k : Int)) (hk : k ≤ l.length) :
    ∃ A C, (∀ wx, (Instr.slice 22 (.slice a l.length cap) none (some (.int .i64 c)) none).run Try.prog wx = .ok (.slice A k C) wx) ∧ RP w (.slice A k C) (l.take k) := by
  subst hc
  obtain ⟨_, a', cap', hv, hle⟩ := id h
  injection hv with _ _ h3
  subst h3
  refine ⟨if cap = 0 then a else a.map (·.add (0 * 2)), cap - 0, fun wx => ?_, by have := RP.head h k hk; simpa [sliced] using this⟩
  rw [run_slice_h wx 22 a l.length cap (by kernel_rfl) .i64 k (by omega) (by omega)]
  have he : (sizeOf (Try.prog.elem 22)).run Try.prog wx = .ok 2 wx := by kernel_rfl
  rw [he]
  simp [Result.andThen, sliced]
end Go.Proofs.Ytahmacnmphjhgaa
namespace Go.Proofs.Ytahmacnmphjhgaa
open Go.RowKit Oct

/-- how a struct lies in memory -/
structure Rec (α : Type) where
  cell : α → List Value
  e : TypeId
  n : Nat
  bytes : Nat
  z : Value
  len : ∀ x, (cell x).length = n
  one : ∀ x, ∀ u ∈ cell x, u.oneCell' = true
  info : (Try.prog.info? e).map (fun i => (i.zero, i.size, i.bytes)) = some (some z, n, bytes)
  zs : z.cells.size = n
  pos : 0 < n
  bpos : 0 < bytes

section
variable {α : Type}
def Rec.cells (R : Rec α) : List α → List Value
  | [] => []
  | x :: l => R.cell x ++ R.cells l
theorem Rec.cells_length (R : Rec α) : ∀ l : List α, (R.cells l).length = l.length * R.n
  | [] => by simp [Rec.cells]
  | x :: l => by rw [Rec.cells, List.length_append, R.len, R.cells_length l, List.length_cons, Nat.add_mul]; omega
theorem Rec.cells_append (R : Rec α) : ∀ a b : List α, R.cells (a ++ b) = R.cells a ++ R.cells b
  | [], _ => rfl
  | x :: a, b => by rw [List.cons_append, Rec.cells, Rec.cells, R.cells_append a b, List.append_assoc]
theorem Rec.cells_one (R : Rec α) (l : List α) : ∀ u ∈ R.cells l, u.oneCell' = true := by
  induction l with
  | nil => intro u h; simp [Rec.cells] at h
  | cons x l ih =>
    intro u h
    rw [Rec.cells, List.mem_append] at h
    rcases h with h | h
    · exact R.one x u h
    · exact ih u h
theorem Rec.cells_at (R : Rec α) : ∀ (l : List α) (k : Nat) (h : k < l.length) (j : Nat) (u : Value), (R.cell l[k])[j]? = some u → (R.cells l)[k * R.n + j]? = some u
  | x :: l, 0, _, j, u, hu => by
    rw [List.getElem_cons_zero] at hu
    rw [Nat.zero_mul, Nat.zero_add, Rec.cells, List.getElem?_append_left (List.getElem?_eq_some_iff.1 hu).1]
    exact hu
  | x :: l, k + 1, h, j, u, hu => by
    have := R.cells_at l k (by simpa using h) j u hu
    rw [Rec.cells, List.getElem?_append_right (by rw [R.len, Nat.add_mul]; omega), R.len, show (k + 1) * R.n + j - R.n = k * R.n + j by rw [Nat.add_mul]; omega]
    exact this
theorem Rec.cells_drop (R : Rec α) : ∀ (l : List α) (k : Nat), (R.cells l).drop (k * R.n) = R.cells (l.drop k)
  | l, 0 => by simp
  | [], k + 1 => by simp [Rec.cells]
  | x :: l, k + 1 => by
    rw [List.drop_succ_cons, ← R.cells_drop l k, Rec.cells, show (k + 1) * R.n = (R.cell x).length + k * R.n by rw [R.len, Nat.add_mul]; omega, ← List.drop_drop, List.drop_left]
theorem Rec.cells_take (R : Rec α) : ∀ (l : List α) (k : Nat), (R.cells l).take (k * R.n) = R.cells (l.take k)
  | l, 0 => by simp [Rec.cells]
  | [], k + 1 => by simp [Rec.cells]
  | x :: l, k + 1 => by
    rw [List.take_succ_cons, Rec.cells, Rec.cells, ← R.cells_take l k, show (k + 1) * R.n = (R.cell x).length + k * R.n by rw [R.len, Nat.add_mul]; omega, List.take_length_add_append]

/-- the slice value v is a row -/
def Rec.Row (R : Rec α) (w : World) (v : Value) (l : List α) : Prop := Reads w v l.length (R.cells l) ∧ ∃ a cap, v = .slice a l.length cap ∧ l.length ≤ cap
/-- .. of the call's own -/
def Rec.Own (R : Rec α) (w : World) (base : Nat) (v : Value) (l : List α) : Prop := w.ownsRow base R.e R.n v l.length (R.cells l)
variable {R : Rec α} {w w' : World} {v : Value} {l : List α}
theorem Rec.Row.below (h : R.Row w v l) (hB : Below w.heap.size w w') : R.Row w' v l := ⟨Reads.below h.1 hB, h.2⟩
theorem Rec.Own.row {base : Nat} (h : R.Own w base v l) : R.Row w v l := by
  refine ⟨Reads.owned h, ?_⟩
  rcases h.2 with ⟨hv, h0⟩ | ⟨g, cap, cur, hv, _, _, hc, _⟩
  · exact ⟨none, 0, by rw [hv, h0], by omega⟩
  · exact ⟨_, _, hv, hc⟩
theorem Rec.Own.below {base : Nat} (h : R.Own w base v l) (hB : Below w.heap.size w w') : R.Own w' base v l := ownsRow_below h hB
theorem Rec.Own.mono {base base' : Nat} (h : R.Own w base v l) (hb : base' ≤ base) : R.Own w base' v l := owns_mono h hb
theorem Rec.Row.nil (w : World) : R.Row w (.slice none 0 0) [] := ⟨Reads.nil w, none, 0, rfl, Nat.le_refl _⟩
theorem Rec.Own.nil (w : World) (base : Nat) : R.Own w base (.slice none 0 0) [] := ⟨by simp [Rec.cells], .inl ⟨rfl, rfl⟩⟩
theorem Rec.Row.new (w : World) (l : List α) (e : TypeId) : R.Row (w.alloc (.cells (R.cells l).toArray e)) (.slice (some ⟨w.heap.size, 0, none⟩) l.length l.length) l := ⟨Reads.new w _ _ _ _, _, _, rfl, Nat.le_refl _⟩
/-- a row, opened -/
theorem Rec.Row.open (h : R.Row w v l) : ∃ a cap, v = .slice a l.length cap ∧ l.length ≤ cap ∧
    ∀ k (hk : k < l.length), ∃ b off, a = some ⟨b, off, none⟩ ∧ ∀ j u, (R.cell l[k])[j]? = some u → w.cell? ⟨b, off + k * R.n + j, none⟩ = some u := by
  obtain ⟨⟨a, cap, rfl, hn, hc⟩, a', cap', hv, hle⟩ := h
  injection hv with _ _ h3
  subst h3
  refine ⟨a, cap, rfl, hle, fun k hk => ?_⟩
  obtain ⟨u0, hu0⟩ : ∃ u, (R.cell l[k])[0]? = some u := ⟨_, List.getElem?_eq_getElem (l := R.cell l[k]) (i := 0) (by rw [R.len]; exact R.pos)⟩
  obtain ⟨b, off, rfl, h1⟩ := hc _ _ (R.cells_at l k hk 0 u0 hu0)
  refine ⟨b, off, rfl, fun j u hu => ?_⟩
  obtain ⟨b', off', hb, h2⟩ := hc _ _ (R.cells_at l k hk j u hu)
  cases hb
  rw [Nat.add_assoc]
  exact h2
/-- append(s, x...): s the call's own -/
theorem Rec.append {ops : Array Oper} {rest : List Oper} {o : Oper} {a : Act} {Q : Exit → Act → World → Prop} (R : Rec α) (w : World) (hgd : o.guard = none) (s x : Operand) (t : TypeId)
    (ho : o.op = .call { callee := .builtin .append, args := #[s, x], argTypes := #[t, t] }) (ht : Try.prog.underlying t = some (.slice R.e))
    (base : Nat) (v : Value) (xs : List α) (hown : R.Own w base v xs) (hs : a.eval s = v)
    (vx : Value) (ys : List α) (hr : R.Row w vx ys) (hx : a.eval x = vx) (hbytes : (xs.length + ys.length) * R.bytes ≤ 140737488355328) (hbase : base ≤ w.heap.size)
    (h : ∀ v' w', R.Own w' base v' (xs ++ ys) → Below base w w' → wpList Try.prog ops Q rest (a.put o.dst v') w') : wpList Try.prog ops Q (o :: rest) a w :=
  appendN w (R.cells ys) R.e hgd s x t ho base R.z R.n R.bytes ht R.info R.zs R.pos v xs.length (R.cells xs) hs hown vx ys.length hx hr.1 (R.cells_length ys) (R.cells_one ys) hbytes R.bpos hbase
    (fun v' w' h1 h2 => h v' w' (by unfold Rec.Own; rw [R.cells_append, List.length_append]; exact h1) h2)
theorem Rec.append1 {ops : Array Oper} {rest : List Oper} {o : Oper} {a : Act} {Q : Exit → Act → World → Prop} (R : Rec α) (w : World) (p : α) (hgd : o.guard = none) (s x : Operand) (t : TypeId)
    (ho : o.op = .call { callee := .builtin .append, args := #[s, x], argTypes := #[t, t] }) (ht : Try.prog.underlying t = some (.slice R.e))
    (base : Nat) (v : Value) (xs : List α) (hown : R.Own w base v xs) (hs : a.eval s = v) (c : Nat) (hx : a.eval x = .slice (some ⟨w.heap.size, 0, none⟩) 1 c)
    (cs : Array Value) (hcs : cs = (R.cell p).toArray) (e : TypeId) (he : e = R.e)
    (hbytes : (xs.length + 1) * R.bytes ≤ 140737488355328) (hbase : base ≤ w.heap.size)
    (h : ∀ g cap w', R.Own w' base (.slice (some ⟨g, 0, none⟩) (xs.length + 1) cap) (xs ++ [p]) → Below base w w' → wpList Try.prog ops Q rest (a.put o.dst (.slice (some ⟨g, 0, none⟩) (xs.length + 1) cap)) w') : wpList Try.prog ops Q (o :: rest) a (w.alloc (.cells cs e)) := by
  subst hcs he
  exact Go.Proofs.Ytahmacnmphjhgaa.append1 w (R.cell p) R.e hgd s x t ho base R.z R.n R.bytes ht R.info R.zs R.pos v xs.length (R.cells xs) hs hown c hx (R.len p) (R.one p) hbytes R.bpos hbase
    (fun v' w' h1 h2 => by
      obtain ⟨g, cap, rfl⟩ := ownsRow_succ h1
      exact h g cap w' (by unfold Rec.Own; rw [R.cells_append, List.length_append, Rec.cells, Rec.cells, List.append_nil]; exact h1) h2)
theorem Rec.step_append1 {ops : Array Oper} {o : Oper} {a : Act} {K : Act → World → Prop} {Q : Exit → Act → World → Prop} {E : Prop} (R : Rec α) (w : World) (p : α) (hgd : o.guard = none) (s x : Operand) (t : TypeId)
    (ho : o.op = .call { callee := .builtin .append, args := #[s, x], argTypes := #[t, t] }) (ht : Try.prog.underlying t = some (.slice R.e))
    (base : Nat) (v : Value) (xs : List α) (hown : R.Own w base v xs) (hs : a.eval s = v) (c : Nat) (hx : a.eval x = .slice (some ⟨w.heap.size, 0, none⟩) 1 c)
    (cs : Array Value) (hcs : cs = (R.cell p).toArray) (e : TypeId) (he : e = R.e)
    (hbytes : (xs.length + 1) * R.bytes ≤ 140737488355328) (hbase : base ≤ w.heap.size)
    (h : ∀ g cap w', R.Own w' base (.slice (some ⟨g, 0, none⟩) (xs.length + 1) cap) (xs ++ [p]) → Below base w w' → K (a.put o.dst (.slice (some ⟨g, 0, none⟩) (xs.length + 1) cap)) w') :
    if Region.wanted o (yielded ops a.tmps) = true then Oper.wp Try.prog o a (w.alloc (.cells cs e)) K Q else E := by
  subst hcs he
  exact Go.Proofs.Ytahmacnmphjhgaa.step_append1 w (R.cell p) R.e hgd s x t ho base R.z R.n R.bytes ht R.info R.zs R.pos v xs.length (R.cells xs) hs hown c hx (R.len p) (R.one p) hbytes R.bpos hbase
    (fun g cap w' h1 h2 => h g cap w' (by unfold Rec.Own; rw [R.cells_append, List.length_append, Rec.cells, Rec.cells, List.append_nil]; exact h1) h2)
/-- s[lo:hi], read -/
theorem Rec.Row.sub {a : Option Addr} {cap : Nat} (h : R.Row w (.slice a l.length cap) l) (lo hi : Nat) (h1 : lo ≤ hi) (h2 : hi ≤ l.length) :
    R.Row w (sliced a lo hi cap R.n) ((l.drop lo).take (hi - lo)) := by
  have hlen : ((l.drop lo).take (hi - lo)).length = hi - lo := by simp; omega
  obtain ⟨hr, a', cap', hv, hle⟩ := h
  injection hv with _ _ h3
  subst h3
  have hn := none_cap hr
  obtain ⟨a', cap', hv, _, hc⟩ := hr
  injection hv with e1 _ e3
  subst e1 e3
  unfold sliced
  refine ⟨?_, _, _, by rw [hlen], by rw [hlen]; omega⟩
  rw [hlen]
  refine Reads.mk ?_ ?_
  · intro ha
    by_cases e : cap = lo
    · omega
    · rw [if_neg e] at ha
      have : a = none := by simpa using ha
      have := hn this
      omega
  · intro j u hj
    rw [← Rec.cells_take, ← Rec.cells_drop, List.getElem?_take] at hj
    split at hj
    · rename_i hlt
      rw [List.getElem?_drop] at hj
      obtain ⟨b, off, rfl, hu⟩ := hc _ _ hj
      have hne : cap ≠ lo := by
        intro e
        have : hi - lo = 0 := by omega
        rw [this, Nat.zero_mul] at hlt
        omega
      rw [if_neg hne]
      refine ⟨b, off + lo * R.n, ?_, ?_⟩
      · rw [Option.map_some, Addr.add_lit]
      · rw [← hu, Nat.add_assoc]
    · simp at hj
theorem Rec.Row.cut {a : Option Addr} {cap : Nat} (h : R.Row w (.slice a l.length cap) l) (k : Nat) (hk : k ≤ l.length) : R.Row w (sliced a k l.length cap R.n) (l.drop k) := by
  have := h.sub k l.length hk (Nat.le_refl _)
  rwa [List.take_of_length_le (by simp)] at this
theorem Rec.Row.head {a : Option Addr} {cap : Nat} (h : R.Row w (.slice a l.length cap) l) (k : Nat) (hk : k ≤ l.length) : R.Row w (sliced a 0 k cap R.n) (l.take k) := by
  have := h.sub 0 k (by omega) hk
  simpa using this
/-- s[k:], run -/
theorem Rec.Row.cutRun {a : Option Addr} {cap : Nat} (h : R.Row w (.slice a l.length cap) l) (st : TypeId) (hst : Try.prog.underlying st = some (.slice (Try.prog.elem st))) (hsz : ∀ wx, (sizeOf (Try.prog.elem st)).run Try.prog wx = .ok R.n wx) (k : Nat) (c : Int) (hc : c = (k : Int)) (hk : k ≤ l.length) :
    ∃ A C, (∀ wx, (Instr.slice st (.slice a l.length cap) (some (.int .i64 c)) none none).run Try.prog wx = .ok (.slice A (l.length - k) C) wx) ∧ R.Row w (.slice A (l.length - k) C) (l.drop k) := by
  subst hc
  refine ⟨_, _, fun wx => ?_, h.cut k hk⟩
  rw [run_slice_l wx st a l.length cap hst .i64 k (by omega) (by omega), hsz]
  simp [Result.andThen, sliced]
/-- s[:k], run -/
theorem Rec.Row.headRun {a : Option Addr} {cap : Nat} (h : R.Row w (.slice a l.length cap) l) (st : TypeId) (hst : Try.prog.underlying st = some (.slice (Try.prog.elem st))) (hsz : ∀ wx, (sizeOf (Try.prog.elem st)).run Try.prog wx = .ok R.n wx) (k : Nat) (c : Int) (hc : c = (k : Int)) (hk : k ≤ l.length) :
    ∃ A C, (∀ wx, (Instr.slice st (.slice a l.length cap) none (some (.int .i64 c)) none).run Try.prog wx = .ok (.slice A k C) wx) ∧ R.Row w (.slice A k C) (l.take k) := by
  subst hc
  obtain ⟨_, a', cap', hv, hle⟩ := id h
  injection hv with _ _ h3
  subst h3
  refine ⟨if cap = 0 then a else a.map (·.add (0 * R.n)), cap - 0, fun wx => ?_, by have := Rec.Row.head h k hk; simpa [sliced] using this⟩
  rw [run_slice_h wx st a l.length cap hst .i64 k (by omega) (by omega), hsz]
  simp [Result.andThen, sliced]
/-- s[lo:hi], run -/
theorem Rec.Row.subRun {a : Option Addr} {cap : Nat} (h : R.Row w (.slice a l.length cap) l) (st : TypeId) (hst : Try.prog.underlying st = some (.slice (Try.prog.elem st))) (hsz : ∀ wx, (sizeOf (Try.prog.elem st)).run Try.prog wx = .ok R.n wx) (lo hi : Nat) (h1 : lo ≤ hi) (h2 : hi ≤ l.length) :
    ∃ A C, (∀ wx, (Instr.slice st (.slice a l.length cap) (some (.int .i64 (lo : Int))) (some (.int .i64 (hi : Int))) none).run Try.prog wx = .ok (.slice A (hi - lo) C) wx) ∧ R.Row w (.slice A (hi - lo) C) ((l.drop lo).take (hi - lo)) := by
  obtain ⟨_, a', cap', hv, hle⟩ := id h
  injection hv with _ _ h3
  subst h3
  refine ⟨_, _, fun wx => ?_, h.sub lo hi h1 h2⟩
  rw [run_slice_lh wx st a l.length cap hst .i64 .i64 lo hi (by omega) (by omega) (by omega), hsz]
  simp [Result.andThen, sliced]
end
end Go.Proofs.Ytahmacnmphjhgaa
namespace Go.Proofs.Ytahmacnmphjhgaa
open Go.RowKit Oct

def recS : Rec (List UInt8) where
  cell s := [.string (bs s)]
  e := 9
  n := 1
  bytes := 16
  z := .string ByteArray.empty
  len := fun _ => rfl
  one := by intro x u h; simp at h; subst h; rfl
  info := by kernel_rfl
  zs := rfl
  pos := by decide
  bpos := by decide
def recSp : Rec (Nat × Nat) where
  cell s := [.int .i64 (s.1 : Int), .int .i64 (s.2 : Int)]
  e := 53
  n := 2
  bytes := 16
  z := .agg #[.int .i64 0, .int .i64 0]
  len := fun _ => rfl
  one := by intro x u h; simp at h; rcases h with rfl | rfl <;> rfl
  info := by kernel_rfl
  zs := rfl
  pos := by decide
  bpos := by decide
theorem recS_open {w : World} {v : Value} {l : List (List UInt8)} (h : recS.Row w v l) : ∃ a cap, v = .slice a l.length cap ∧ l.length ≤ cap ∧ ∀ k (hk : k < l.length), ∃ b off, a = some ⟨b, off, none⟩ ∧ w.cell? ⟨b, off + k, none⟩ = some (.string (bs l[k])) := by
  obtain ⟨a, cap, hv, hle, hc⟩ := h.open
  refine ⟨a, cap, hv, hle, fun k hk => ?_⟩
  obtain ⟨b, off, ha, hu⟩ := hc k hk
  have := hu 0 _ rfl
  rw [show recS.n = 1 from rfl, Nat.mul_one, Nat.add_zero] at this
  exact ⟨b, off, ha, this⟩
theorem recSp_open {w : World} {v : Value} {l : List (Nat × Nat)} (h : recSp.Row w v l) : ∃ a cap, v = .slice a l.length cap ∧ l.length ≤ cap ∧ ∀ k (hk : k < l.length), ∃ b off, a = some ⟨b, off, none⟩ ∧ w.cell? ⟨b, off + k * 2, none⟩ = some (.int .i64 (l[k].1 : Int)) ∧ w.cell? ⟨b, off + k * 2 + 1, none⟩ = some (.int .i64 (l[k].2 : Int)) := by
  obtain ⟨a, cap, hv, hle, hc⟩ := h.open
  refine ⟨a, cap, hv, hle, fun k hk => ?_⟩
  obtain ⟨b, off, ha, hu⟩ := hc k hk
  exact ⟨b, off, ha, hu 0 _ rfl, hu 1 _ rfl⟩

/-- is a text an identity? -/
def isId (s : List UInt8) : Bool := s.length == 32
def allIds (l : List (List UInt8)) : Bool := l.all isId
theorem allIds_false {l : List (List UInt8)} (k : Nat) (h : k < l.length) (hk : isId l[k] = false) : allIds l = false := by
  unfold allIds
  rw [List.all_eq_false]
  exact ⟨l[k], List.getElem_mem h, by rw [hk]; simp⟩
theorem allIds_true {l : List (List UInt8)} (h : ∀ k (hk : k < l.length), isId l[k] = true) : allIds l = true := by
  unfold allIds
  rw [List.all_eq_true]
  intro t ht
  obtain ⟨k, hk, rfl⟩ := List.getElem_of_mem ht
  exact h k hk
theorem bad_any (s : List UInt8) (w : World) (hs : s.length ≤ 140737488355328) : Calls Try.prog 51 #[.string (bs s)] w fun e w' => e = .returned (.bool (!isId s)) ∧ w = w' := by
  have h63 : (s.length : Int) ≤ 140737488355328 := by omega
  cases h : isId s with
  | false =>
    have h1 : ((s.length : Int) != 32) = true := by unfold isId at h; rw [beq_eq_false_iff_ne] at h; rw [bne_iff_ne]; omega
    go_enter Try.func51, Try.ntmps51
    go_wp2
    go_ret
    exact ⟨rfl, rfl⟩
  | true =>
    have h1 : ((s.length : Int) != 32) = false := by unfold isId at h; rw [beq_iff_eq] at h; rw [bne_eq_false_iff_eq]; omega
    go_enter Try.func51, Try.ntmps51
    go_wp2
    go_ret
    exact ⟨rfl, rfl⟩

set_option maxRecDepth 100000 in
set_option maxHeartbeats 1000000 in
theorem index_bad (v : Value) (l : List (List UInt8)) (w : World) (hr : recS.Row w v l) (hl : l.length ≤ 140737488355328) (hm : ∀ s ∈ l, s.length ≤ 140737488355328) :
    Calls Try.prog 68 #[v, .func (.func 51) #[] #[]] w fun e w' => (∃ i : Int, e = .returned (.int .i64 i) ∧ decide (0 ≤ i) = !allIds l) ∧ w = w' := by
  obtain ⟨a, cap, rfl, _, hc⟩ := recS_open hr
  have HC := Lib.hid hc
  have HM := Lib.hid hm
  clear hc hr hm
  go_enter Try.func68, Try.ntmps68
  go_wp2
  go_loop [8] (fun t => ∃ i : Nat, i ≤ l.length ∧ t = .int .i64 (i : Int) ∧ Hid (∀ j (hj : j < l.length), j < i → isId l[j] = true)) (fun t => l.length - (intOf t).toNat)
  case atStart => exact ⟨0, by omega, rfl, fun j _ h => absurd h (by omega)⟩
  case round =>
    obtain ⟨i, hi, rfl, hH⟩ := hrel
    by_cases h0 : i < l.length
    · obtain ⟨b, off, rfl, c1⟩ := HC.out i h0
      have kk0 : (0 : Int) ≤ (i : Int) := by omega
      have kk1 : (i : Int) < (l.length : Int) := by omega
      have hml := HM.out l[i] (List.getElem_mem h0)
      have HBD := Lib.hid (bad_any l[i] w hml)
      clear hml
      cases hid : isId l[i] with
      | false =>
        have HI := Lib.hid hid
        clear hid
        go_wp2_with fail
        refine HBD.out.mono ?_
        rw [HI.out]
        rintro e w1 ⟨rfl, rfl⟩
        go_wp2
        go_ret
        exact ⟨⟨_, rfl, by rw [allIds_false i h0 HI.out]; simp⟩, rfl⟩
      | true =>
        have HI := Lib.hid hid
        clear hid
        go_wp2_with fail
        refine HBD.out.mono ?_
        rw [HI.out]
        rintro e w1 ⟨rfl, rfl⟩
        go_wp2
        go_round
        case rel =>
          refine ⟨i + 1, by omega, by go_num, ?_⟩
          intro j hj hji
          by_cases e : j = i
          · subst e; exact HI.out
          · exact hH.out j hj (by omega)
        case measure => simp [intOf]; omega
    · have HF := Lib.hid (allIds_true fun k hk => hH.out k hk (by omega))
      obtain rfl : i = l.length := by omega
      go_wp2
      go_ret
      exact ⟨⟨_, rfl, by rw [HF.out]; rfl⟩, rfl⟩
set_option maxRecDepth 100000 in
theorem contains_bad (v : Value) (l : List (List UInt8)) (w : World) (hr : recS.Row w v l) (hl : l.length ≤ 140737488355328) (hm : ∀ s ∈ l, s.length ≤ 140737488355328) :
    Calls Try.prog 50 #[v, .func (.func 51) #[] #[]] w fun e w' => e = .returned (.bool (!allIds l)) ∧ w = w' := by
  have hix := index_bad v l w hr hl hm
  obtain ⟨a, cap, rfl, _, _⟩ := recS_open hr
  have HIX := Lib.hid hix
  clear hix hr hm
  go_enter Try.func50, Try.ntmps50
  go_wp2_with fail
  refine HIX.out.mono ?_
  rintro e w1 ⟨⟨i, rfl, hi⟩, rfl⟩
  obtain ⟨q, hq⟩ : ∃ q, q = !allIds l := ⟨_, rfl⟩
  rw [← hq] at hi
  have HQ := Lib.hid hq
  clear hq
  cases q with
  | false =>
    have hi' : ¬ (0 : Int) ≤ i := of_decide_eq_false hi
    clear hi
    go_wp2
    go_ret
    exact ⟨by rw [← HQ.out]; simp [hi'], rfl⟩
  | true =>
    have hi' : (0 : Int) ≤ i := of_decide_eq_true hi
    clear hi
    go_wp2
    go_ret
    exact ⟨by rw [← HQ.out]; simp [hi'], rfl⟩
end Go.Proofs.Ytahmacnmphjhgaa
namespace Go.Proofs.Ytahmacnmphjhgaa
open Go.RowKit

/-- blocks outside X lie as they lay -/
structure Chg (X : Nat → Prop) (w w' : World) : Prop where
  os : w'.os = w.os
  tape : w'.tape = w.tape
  output : w'.output = w.output
  size : w.heap.size ≤ w'.heap.size
  block : ∀ k, k < w.heap.size → ¬ X k → w'.heap[k]? = w.heap[k]?
theorem Chg.refl (X : Nat → Prop) (w : World) : Chg X w w := ⟨rfl, rfl, rfl, Nat.le_refl _, fun _ _ _ => rfl⟩
theorem Chg.trans {X : Nat → Prop} {a b c : World} (h : Chg X a b) (k : Chg X b c) : Chg X a c :=
  ⟨k.os.trans h.os, k.tape.trans h.tape, k.output.trans h.output, Nat.le_trans h.size k.size, fun i hi hx => (k.block i (Nat.lt_of_lt_of_le hi h.size) hx).trans (h.block i hi hx)⟩
theorem Chg.mono {X X' : Nat → Prop} {w w' : World} (h : Chg X w w') (hx : ∀ k, X k → X' k) : Chg X' w w' := ⟨h.os, h.tape, h.output, h.size, fun k hk hn => h.block k hk fun hxk => hn (hx k hxk)⟩
theorem Chg.of_below {X : Nat → Prop} {w w' : World} (h : Below w.heap.size w w') : Chg X w w' := ⟨h.os, h.tape, h.output, h.size, fun k hk _ => h.block k hk⟩
/-- what a growth of the caller's own leaves -/
theorem Chg.of_base {X : Nat → Prop} {B : Nat} {w w' : World} (h : Below B w w') (hX : ∀ k, B ≤ k → X k) : Chg X w w' :=
  ⟨h.os, h.tape, h.output, h.size, fun k hk hn => h.block k (Nat.lt_of_not_le fun hb => hn (hX k hb))⟩
theorem Chg.below {X : Nat → Prop} {B : Nat} {w w' : World} (h : Chg X w w') (hX : ∀ k, X k → B ≤ k) (hB : B ≤ w.heap.size) : Below B w w' :=
  ⟨h.os, h.tape, h.output, h.size, fun k hk => h.block k (Nat.lt_of_lt_of_le hk hB) fun hx => by have := hX k hx; omega⟩
theorem Chg.alloc (X : Nat → Prop) (w : World) (o : Obj) : Chg X w (w.alloc o) := Chg.of_below (b_alloc w o)
theorem Chg.drew (X : Nat → Prop) (w : World) : Chg X w w.drew := Chg.of_below (b_drew w)
theorem Chg.setCell {X : Nat → Prop} (w : World) (a : Addr) (u : Value) (h : X a.block) : Chg X w (w.setCell a u) :=
  ⟨rfl, rfl, rfl, by simp [World.setCell], fun k _ hn => Below.heap_setCell _ _ _ _ fun e => hn (e ▸ h)⟩
theorem Chg.putObj {X : Nat → Prop} (w : World) (l : Nat) (o : Obj) (h : X l) : Chg X w (w.putObj l o) :=
  ⟨rfl, rfl, rfl, by simp, fun k _ hn => World.putObj_heap_other fun e => hn (e ▸ h)⟩
theorem Chg.at {X : Nat → Prop} {w w' : World} (h : Chg X w w') {k : Nat} {o : Obj} (hk : w.heap[k]? = some o) (hn : ¬ X k) : w'.heap[k]? = some o :=
  (h.block k (Array.getElem?_eq_some_iff.1 hk).1 hn).trans hk
theorem Chg.cell {X : Nat → Prop} {w w' : World} (h : Chg X w w') {a : Addr} {u : Value} (ha : w.cell? a = some u) (hn : ¬ X a.block) : w'.cell? a = some u :=
  (World.cell?_of_block (w := w) (h.block a.block (lt_of_cell ha) hn)).trans ha

section
variable {F : Fence} {n : Nat} {P : Program} {α : Type}

/-- an iterator, captured values lb: it hands out what 'out' says, writes blocks of X alone, and wants the blocks of Y kept in a round that goes on -/
def IterC (F : Fence) (n : Nat) (P : Program) (gf : Nat) (lb : Array Value) (X Y : Nat → Prop) (El : α → Array Value → World → Prop) (out : List α) (W : World) : Prop :=
  ∀ (l : Nat) (J Jx : List α → World → Prop),
    (∀ pre U U', J pre U → Chg X U U' → J pre U') → (∀ pre U U', Jx pre U → Chg X U U' → Jx pre U') →
    (∀ pre x vs U, J pre U → El x vs U → pre ++ [x] <+: out → YieldAt F (n - 1) P l vs U fun e U' =>
      (e = .returned (.bool true) ∧ J (pre ++ [x]) U' ∧ Chg (fun k => ¬ Y k) U U') ∨ (e = .returned (.bool false) ∧ Jx (pre ++ [x]) U')) →
    J [] W → CallsIn F n P gf (#[.func (.yield l) #[] #[]] ++ lb) W fun e W' => (∃ v, e = .returned v) ∧ (J out W' ∨ ∃ pre, pre <+: out ∧ Jx pre W')

/-- how a round's body may be left; D: the loop's two blocks begin there -/
def rangeEnd (D : Nat) (Y : Nat → Prop) (I : List α → World → Prop) (Ix : Code → List α → World → Prop) (pre : List α) (U : World) : Exit → Act → World → Prop
  | .normal, _, U' => Chg (fun k => ¬ (Y k ∨ k = D ∨ k = D + 1)) U U' ∧ I pre U'
  | .ret, _, U' => Chg (fun k => ¬ (k = D ∨ k = D + 1)) U U' ∧ Ix .ret pre U'
  | .exit id, _, U' => Chg (fun k => ¬ (k = D ∨ k = D + 1)) U U' ∧ Ix (.exit id) pre U'
  | .goto t, _, U' => Chg (fun k => ¬ (k = D ∨ k = D + 1)) U U' ∧ Ix (.goto t) pre U'
  | .panic _, _, _ => False
  | .outgrown, _, _ => False

theorem wpIn_range {g : Operand} {ps : Array Tmp} {assign body : Code} {Q : Exit → Act → World → Prop} {a : Act} {w : World}
    (hro : F.round = none) (h1 : 1 ≤ n) {gf : Nat} {lb : Array Value} (hg : a.eval g = .func (.func gf) #[] lb) (hFg : F.fn gf) (eg : ∀ args w, (callFunc gf args).run P w = .ok (.enter gf args) w)
    {X Y : Nat → Prop} {El : α → Array Value → World → Prop} {out : List α} (hX : ∀ k, X k → k < w.heap.size) (hY : ∀ k, Y k → k < w.heap.size)
    (hseq : ∀ W, Below w.heap.size w W → IterC F (n - 1) P gf lb X Y El out W) (hps : ∀ x vs U, El x vs U → vs.size = ps.size)
    (hEl : ∀ x vs U U', El x vs U → Chg (fun k => k = w.heap.size ∨ k = w.heap.size + 1) U U' → El x vs U')
    (I : List α → World → Prop) (Ix : Code → List α → World → Prop)
    (hI : ∀ pre U U', I pre U → Chg (fun k => X k ∨ k = w.heap.size ∨ k = w.heap.size + 1) U U' → I pre U')
    (hIx : ∀ c pre U U', Ix c pre U → Chg (fun k => X k ∨ k = w.heap.size ∨ k = w.heap.size + 1) U U' → Ix c pre U') (h0 : I [] w)
    (hround : ∀ (l : Nat) (pre : List α) (x : α) (vs : Array Value) (U : World), w.heap.size + 2 ≤ U.heap.size → I pre U → El x vs U → pre ++ [x] <+: out →
      assign.wpIn (F.inRound l) (n - 1 - 1) P (Exit.then (fun a' U1 => Below U.heap.size U U1 ∧ ∀ U2, w.heap.size + 2 ≤ U2.heap.size → I pre U2 → El x vs U2 → Chg (fun k => k = w.heap.size ∨ k = w.heap.size + 1) U1 U2 →
        body.wpIn (F.inRound l) (n - 1 - 1) P (rangeEnd w.heap.size Y I Ix (pre ++ [x]) U2) a' U2) (fun _ _ _ => False)) { tmps := (ps.zip vs).foldl (fun t (p, v) => t.setIfInBounds p v) a.tmps, defers := [] } U)
    (hdone : ∀ W, w.heap.size + 2 ≤ W.heap.size → I out W → W.heap[w.heap.size]? = some (.deferred (some [])) → Q .normal { a with defers := { target := .collected w.heap.size, args := #[] } :: a.defers } W)
    (hstop : ∀ c pre W, w.heap.size + 2 ≤ W.heap.size → pre <+: out → Ix c pre W → W.heap[w.heap.size]? = some (.deferred (some [])) → c.wpIn F n P Q { a with defers := { target := .collected w.heap.size, args := #[] } :: a.defers } W) :
    (Code.rangeFunc g ps assign body).wpIn F n P Q a w := by
  refine wpIn_rangeFunc fun fn hfn => ?_
  rw [hro]
  obtain ⟨rec, hrec⟩ : ∃ rec : LoopState → Option Code → Loop, rec = fun st pe => { state := st, pending := pe, fn, tmps := a.tmps, params := ps, assign, body, defers := w.heap.size } := ⟨_, rfl⟩
  obtain ⟨W1, hW1⟩ : ∃ W1, (w.alloc (.deferred (some []))).alloc (.loop (rec .ready none)) = W1 := ⟨_, rfl⟩
  obtain ⟨hK1, hL1, hb1⟩ := two_new w (.deferred (some [])) (.loop (rec .ready none))
  rw [hW1] at hK1 hL1 hb1
  have hsz1 : w.heap.size + 2 ≤ W1.heap.size := by have := (Array.getElem?_eq_some_iff.1 hL1).1; omega
  refine ⟨w.heap.size + 1, [{ target := .collected w.heap.size, args := #[] }], W1, { target := .fn (.func gf) lb, args := #[.func (.yield (w.heap.size + 1)) #[] #[]] }, W1, gf,
    #[.func (.yield (w.heap.size + 1)) #[] #[]] ++ lb, W1, ?_, ?_, ?_, ?_, fun _ => h1, ?_⟩
  · rw [← hW1, hrec]; exact run_enterLoop_outer _ _ _ _ _
  · simp only [resolve, hg]
    simp [go_sem]
  · intro f' hf'; simp [Target.leads] at hf'; subst hf'; exact hFg
  · simp [invoke, go_sem, eg]
  have xD : ∀ k, X k → k ≠ w.heap.size ∧ k ≠ w.heap.size + 1 := fun k hk => by have := hX k hk; omega
  have keep : ∀ {U U' : World} {o o' : Obj}, Chg X U U' → U.heap[w.heap.size + 1]? = some o → U.heap[w.heap.size]? = some o' → U'.heap[w.heap.size + 1]? = some o ∧ U'.heap[w.heap.size]? = some o' :=
    fun hc h h' => ⟨hc.at h fun hx => (xD _ hx).2 rfl, hc.at h' fun hx => (xD _ hx).1 rfl⟩
  refine (hseq W1 hb1 (w.heap.size + 1)
    (fun pre U => I pre U ∧ U.heap[w.heap.size + 1]? = some (.loop (rec .ready none)) ∧ U.heap[w.heap.size]? = some (.deferred (some [])))
    (fun pre U => ∃ c, Ix c pre U ∧ U.heap[w.heap.size + 1]? = some (.loop (rec .done (some c))) ∧ U.heap[w.heap.size]? = some (.deferred (some [])))
    (fun pre U U' hs hc => ⟨hI _ _ _ hs.1 (hc.mono fun _ h => .inl h), keep hc hs.2.1 hs.2.2⟩)
    (fun pre U U' ⟨c, hs, hl, hk⟩ hc => ⟨c, hIx _ _ _ _ hs (hc.mono fun _ h => .inl h), keep hc hl hk⟩)
    ?_ ⟨hI _ _ _ h0 (Chg.of_below hb1), hL1, hK1⟩).mono ?_
  · rintro pre x vs U ⟨hi, hl, hk⟩ hel hpre
    have hy := run_yield (P := P) (args := vs) hl (by rw [hrec]; exact hps x vs U hel)
    rw [hrec] at hy
    refine ⟨fn, _, assign, body, hy, roundIn_of_wpIn hfn (wpIn_mono (hround _ pre x vs U (by have := (Array.getElem?_eq_some_iff.1 hl).1; omega) hi hel hpre) ?_)⟩
    clear hy
    intro ea a' U1 hea
    cases ea with
    | normal => ?_
    | _ => exact hea
    obtain ⟨hbel, hbody⟩ := hea
    have c1 : ∀ {Z : Nat → Prop}, Chg Z U U1 := fun {Z} => Chg.of_below hbel
    replace hl := c1.at (X := fun _ => False) hl (fun h => h)
    replace hk := c1.at (X := fun _ => False) hk (fun h => h)
    replace hi := hI _ _ _ hi c1
    replace hel := hEl _ _ _ _ hel c1
    have hlt := (Array.getElem?_eq_some_iff.1 hl).1
    refine ⟨_, run_beginRound hl (by rw [hrec]), ?_⟩
    obtain ⟨U2, hU2⟩ : ∃ U2, U1.putObj (w.heap.size + 1) (.loop { rec .ready none with state := .busy }) = U2 := ⟨_, rfl⟩
    have hl2 : U2.heap[w.heap.size + 1]? = some (.loop { rec .ready none with state := .busy }) := by rw [← hU2]; exact World.putObj_heap_same hlt
    have hk2 : U2.heap[w.heap.size]? = some (.deferred (some [])) := by rw [← hU2]; exact (World.putObj_heap_other (by omega)).trans hk
    have c2 : ∀ {Z : Nat → Prop}, Z (w.heap.size + 1) → Chg Z U1 U2 := fun {Z} hz => by rw [← hU2]; exact Chg.putObj _ _ _ hz
    rw [hU2]
    refine wpIn_mono (hbody U2 (by have := (Array.getElem?_eq_some_iff.1 hl2).1; omega) (hI _ _ _ hi (c2 (.inr (.inr rfl)))) (hEl _ _ _ _ hel (c2 (.inr rfl))) (c2 (.inr rfl))) ?_
    have fin : ∀ (jump : Option Code) (U3 : World), U3.heap[w.heap.size + 1]? = some (.loop { rec .ready none with state := .busy }) → U3.heap[w.heap.size]? = some (.deferred (some [])) →
        (Instr.endRound (w.heap.size + 1) jump).run P U3 = .ok (.bool jump.isNone) (U3.putObj (w.heap.size + 1) (.loop (rec (if jump.isNone then .ready else .done) jump))) ∧
        (U3.putObj (w.heap.size + 1) (.loop (rec (if jump.isNone then .ready else .done) jump))).heap[w.heap.size + 1]? = some (.loop (rec (if jump.isNone then .ready else .done) jump)) ∧
        (U3.putObj (w.heap.size + 1) (.loop (rec (if jump.isNone then .ready else .done) jump))).heap[w.heap.size]? = some (.deferred (some [])) := fun jump U3 hl3 hk3 => by
      have := run_endRound (P := P) jump hl3
      rw [hrec] at this ⊢
      exact ⟨this, World.putObj_heap_same (Array.getElem?_eq_some_iff.1 hl3).1, (World.putObj_heap_other (by omega)).trans hk3⟩
    have stop : ∀ (c : Code) (U3 : World), Chg (fun k => ¬ (k = w.heap.size ∨ k = w.heap.size + 1)) U2 U3 → Ix c (pre ++ [x]) U3 → ∃ v U4, (Instr.endRound (w.heap.size + 1) (some c)).run P U3 = .ok v U4 ∧
        ((Ending.returned v = .returned (.bool true) ∧ (I (pre ++ [x]) U4 ∧ U4.heap[w.heap.size + 1]? = some (.loop (rec .ready none)) ∧ U4.heap[w.heap.size]? = some (.deferred (some []))) ∧ Chg (fun k => ¬ Y k) U U4) ∨
         (Ending.returned v = .returned (.bool false) ∧ ∃ c, Ix c (pre ++ [x]) U4 ∧ U4.heap[w.heap.size + 1]? = some (.loop (rec .done (some c))) ∧ U4.heap[w.heap.size]? = some (.deferred (some [])))) := fun c U3 hc hx => by
      obtain ⟨hr, hl4, hk4⟩ := fin (some c) U3 (hc.at hl2 fun h => h (.inr rfl)) (hc.at hk2 fun h => h (.inl rfl))
      exact ⟨_, _, hr, .inr ⟨rfl, c, hIx _ _ _ _ hx (Chg.putObj _ _ _ (.inr (.inr rfl))), hl4, hk4⟩⟩
    rintro e a3 U3 hp
    cases e with
    | normal =>
      obtain ⟨hc, hi3⟩ := hp
      obtain ⟨hr, hl4, hk4⟩ := fin none U3 (hc.at hl2 fun h => h (.inr (.inr rfl))) (hc.at hk2 fun h => h (.inr (.inl rfl)))
      have yD : ¬ Y (w.heap.size + 1) := fun h => by have := hY _ h; omega
      exact ⟨_, _, hr, .inl ⟨rfl, ⟨hI _ _ _ hi3 (Chg.putObj _ _ _ (.inr (.inr rfl))), hl4, hk4⟩,
        (((c1.trans (c2 yD)).trans (hc.mono fun k hk hy => hk (.inl hy))).trans (Chg.putObj _ _ _ yD))⟩⟩
    | ret => exact stop .ret U3 hp.1 hp.2
    | exit id => exact stop (.exit id) U3 hp.1 hp.2
    | goto t => exact stop (.goto t) U3 hp.1 hp.2
    | panic ch => exact hp.elim
    | outgrown => exact hp.elim
  · rintro e W2 ⟨⟨v, rfl⟩, (⟨hi, hl, hk⟩ | ⟨pre, hpre, c, hi, hl, hk⟩)⟩
    · have hlt := (Array.getElem?_eq_some_iff.1 hl).1
      exact ⟨none, _, by have := run_endLoop (P := P) hl (by rw [hrec]; simp); rw [hrec] at this; exact this, hdone _ (by simp; omega) (hI _ _ _ hi (Chg.putObj _ _ _ (.inr (.inr rfl)))) ((World.putObj_heap_other (by omega)).trans hk)⟩
    · have hlt := (Array.getElem?_eq_some_iff.1 hl).1
      exact ⟨some c, _, by have := run_endLoop (P := P) hl (by rw [hrec]; simp); rw [hrec] at this; exact this, hstop c pre _ (by simp; omega) hpre (hIx _ _ _ _ hi (Chg.putObj _ _ _ (.inr (.inr rfl)))) ((World.putObj_heap_other (by omega)).trans hk)⟩

/-- .. a function that is walked with no fence -/
theorem wp_range {g : Operand} {ps : Array Tmp} {assign body : Code} {Q : Exit → Act → World → Prop} {a : Act} {w : World} {D : Nat} (hD : w.heap.size = D)
    {gf : Nat} {lb : Array Value} (hg : a.eval g = .func (.func gf) #[] lb) (eg : ∀ args w, (callFunc gf args).run P w = .ok (.enter gf args) w)
    {X Y : Nat → Prop} {El : α → Array Value → World → Prop} {out : List α} (hX : ∀ k, X k → k < D) (hY : ∀ k, Y k → k < D)
    (hseq : ∀ W, Below D w W → IterC Fence.wide 2 P gf lb X Y El out W) (hps : ∀ x vs U, El x vs U → vs.size = ps.size)
    (hEl : ∀ x vs U U', El x vs U → Chg (fun k => k = D ∨ k = D + 1) U U' → El x vs U')
    (I : List α → World → Prop) (Ix : Code → List α → World → Prop)
    (hI : ∀ pre U U', I pre U → Chg (fun k => X k ∨ k = D ∨ k = D + 1) U U' → I pre U')
    (hIx : ∀ c pre U U', Ix c pre U → Chg (fun k => X k ∨ k = D ∨ k = D + 1) U U' → Ix c pre U') (h0 : I [] w)
    (hround : ∀ (l : Nat) (pre : List α) (x : α) (vs : Array Value) (U : World), D + 2 ≤ U.heap.size → I pre U → El x vs U → pre ++ [x] <+: out →
      assign.wpIn (Fence.wide.inRound l) 1 P (Exit.then (fun a' U1 => Below U.heap.size U U1 ∧ ∀ U2, D + 2 ≤ U2.heap.size → I pre U2 → El x vs U2 → Chg (fun k => k = D ∨ k = D + 1) U1 U2 →
        body.wpIn (Fence.wide.inRound l) 1 P (rangeEnd D Y I Ix (pre ++ [x]) U2) a' U2) (fun _ _ _ => False)) { tmps := (ps.zip vs).foldl (fun t (p, v) => t.setIfInBounds p v) a.tmps, defers := [] } U)
    (hdone : ∀ W, D + 2 ≤ W.heap.size → I out W → W.heap[D]? = some (.deferred (some [])) → Q .normal { a with defers := { target := .collected D, args := #[] } :: a.defers } W)
    (hstop : ∀ c pre W, D + 2 ≤ W.heap.size → pre <+: out → Ix c pre W → W.heap[D]? = some (.deferred (some [])) → c.wp P Q { a with defers := { target := .collected D, args := #[] } :: a.defers } W) :
    (Code.rangeFunc g ps assign body).wp P Q a w := by
  subst hD
  exact (wpIn_wide (n := 3)).1 (wpIn_range rfl (by decide) hg trivial eg hX hY hseq hps hEl I Ix hI hIx h0 hround hdone fun c pre W h1 h2 h3 h4 => wpIn_wide.2 (hstop c pre W h1 h2 h3 h4))
end
end Go.Proofs.Ytahmacnmphjhgaa
