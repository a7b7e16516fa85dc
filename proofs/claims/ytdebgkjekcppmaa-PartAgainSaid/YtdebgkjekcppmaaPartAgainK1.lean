/- Lemmas for PartAgain, part 1: walks of the functions that it reaches, and the plain laws behind them. -/
import Derived.WalkKit
import Derived.WalkSpells
import Derived.WalkLawsBesides
import Derived.Lib.Strings
import Derived.Lib.Hide
import Derived.Deep.QuietTactic
import Derived.BigQuiet
import Derived.Deep.AppendLies
import Derived.Laws.AppendOwnNone
import Derived.Deep.RegionLaw
import Derived.Test.YtdebgkjekcppmaaRows
import Derived.RangeFuncNested
import Derived.RangeFuncBound
import Derived.RangeFuncCalls
import Derived.RangeFuncLeaves
import Derived.Shelf.Abstract
import Derived.Laws.BitsAllLaws
import Derived.Deep.WholeRow
import Derived.Deep.MidRow
import Derived.StillTail
import Derived.OrdersIn
import Derived.TacticsIn
import Derived.AtR
set_option linter.unusedSimpArgs false
set_option linter.unusedVariables false
namespace Go.Proofs.Ytdebgkjekcppmaa.Oct

/-- a text of these bytes -/
def bs (l : List UInt8) : ByteArray := ⟨l.toArray⟩
@[simp] theorem bs_data (l : List UInt8) : (bs l).data.toList = l := by simp [bs]
@[go_sem, simp] theorem bs_size (l : List UInt8) : (bs l).size = l.length := by simp [bs, ByteArray.size]
theorem bs_of (s : ByteArray) : bs s.data.toList = s := by simp [bs]
theorem bs_append (a b : List UInt8) : bs a ++ bs b = bs (a ++ b) := by
  apply ByteArray.ext; simp [bs]
theorem bs_inj {a b : List UInt8} : bs a = bs b ↔ a = b := by
  constructor
  · intro h; have := congrArg (fun s : ByteArray => s.data.toList) h; simpa using this
  · rintro rfl; rfl

/-- the number of bytes, the lowest first -/
def val : List UInt8 → Nat
  | [] => 0
  | c :: l => c.toNat + 256 * val l

theorem val_lt : ∀ l : List UInt8, val l < 256 ^ l.length
  | [] => by simp [val]
  | c :: l => by
    have := val_lt l
    have hc := c.toNat_lt
    simp only [val, List.length_cons, Nat.pow_succ]
    omega

theorem pow256_le {n m : Nat} (h : n ≤ m) : 256 ^ n ≤ 256 ^ m := Nat.pow_le_pow_right (by decide) h
theorem val_lt8 (l : List UInt8) (h : l.length ≤ 8) : val l < 18446744073709551616 :=
  Nat.lt_of_lt_of_le (val_lt l) (by have := pow256_le h; simpa using this)

theorem val_drop (l : List UInt8) (k : Nat) (h : k < l.length) : val (l.drop k) = l[k].toNat + 256 * val (l.drop (k + 1)) := by
  rw [List.drop_eq_getElem_cons h]; rfl

/-- n bytes of a number, the lowest first -/
def num : Nat → Nat → List UInt8
  | _, 0 => []
  | v, n + 1 => UInt8.ofNat (v % 256) :: num (v / 256) n
@[go_sem, simp] theorem num_length : ∀ (n v : Nat), (num v n).length = n
  | 0, _ => rfl
  | n + 1, v => by simp [num, num_length n]
theorem num_snoc : ∀ (n v : Nat), num v (n + 1) = num v n ++ [UInt8.ofNat (v / 256 ^ n % 256)]
  | 0, v => by simp [num]
  | n + 1, v => by
    rw [num, num_snoc n (v / 256), num]
    simp [Nat.pow_succ, Nat.div_div_eq_div_mul, Nat.mul_comm]
theorem val_num : ∀ (n v : Nat), val (num v n) = v % 256 ^ n
  | 0, v => by simp [num, val, Nat.mod_one]
  | n + 1, v => by
    rw [num, val, val_num n]
    have h : (UInt8.ofNat (v % 256)).toNat = v % 256 := by simp
    rw [h, Nat.pow_succ, Nat.mul_comm (256 ^ n) 256, Nat.mod_mul]
theorem num_val : ∀ l : List UInt8, num (val l) l.length = l
  | [] => rfl
  | c :: l => by
    have hc := c.toNat_lt
    have h1 : (c.toNat + 256 * val l) % 256 = c.toNat := by omega
    have h2 : (c.toNat + 256 * val l) / 256 = val l := by omega
    simp [num, val, h1, h2, num_val l]
theorem num_zero (n : Nat) : num 0 n = List.replicate n 0 := by
  induction n with
  | zero => rfl
  | succ n ih => simp [num, ih, List.replicate_succ]

/-- Put -/
def putOk (v n : Int) : Bool := decide (1 ≤ n ∧ n ≤ 8 ∧ v.toNat < 256 ^ n.toNat)
def putS (v n : Int) : List UInt8 × Int := if putOk v n then (num v.toNat n.toNat, 0) else ([], 2)
/-- Get -/
def getS (l : List UInt8) : Int × Int := if 1 ≤ l.length ∧ l.length ≤ 8 then ((val l : Int), 0) else (0, 2)
theorem val_append : ∀ a b : List UInt8, val (a ++ b) = val a + 256 ^ a.length * val b
  | [], b => by simp [val]
  | c :: a, b => by
    simp only [List.cons_append, val, val_append a b, List.length_cons, Nat.pow_succ]
    rw [Nat.mul_add, Nat.mul_comm (256 ^ a.length) 256, Nat.mul_assoc, Nat.add_assoc]
theorem val_take (l : List UInt8) (k : Nat) (h : k < l.length) : val (l.take (k + 1)) = val (l.take k) + l[k].toNat * 256 ^ k := by
  rw [List.take_succ_eq_append_getElem h, val_append]
  simp [val, Nat.min_eq_left (Nat.le_of_lt h), Nat.mul_comm]
theorem wrap_u64_nat (n : Nat) (h : n < 18446744073709551616) : IntKind.u64.wrap (n : Int) = n := IntWalk.u64_in _ (by omega)
/-- low or high -/
theorem or_hi (x c j : Nat) (hj : j < 64) (hx : x < 2 ^ j) (h : c * 2 ^ j < 18446744073709551616) :
    bits .or .u64 (x : Int) (IntKind.u64.wrap (IntKind.u64.wrap (c : Int) * 2 ^ j)) = ((x + c * 2 ^ j : Nat) : Int) := by
  have hp : 0 < 2 ^ j := Nat.two_pow_pos j
  have hc : c ≤ c * 2 ^ j := Nat.le_mul_of_pos_right c hp
  rw [wrap_u64_nat c (by omega)]
  have e : ((c : Int) * 2 ^ j) = ((c * 2 ^ j : Nat) : Int) := by simp
  have hx' : x < 18446744073709551616 := Nat.lt_trans hx (by have := Nat.pow_lt_pow_right (a := 2) (by decide) hj; simpa using this)
  rw [e, wrap_u64_nat _ h, bits_or_u64_nat x (c * 2 ^ j) hx' h, Nat.or_comm, Nat.mul_comm c, ← Nat.two_pow_add_eq_or_of_lt hx, Nat.add_comm]
/-- the short number's bytes, with fuel -/
def shortF : Nat → Nat → List UInt8
  | 0, _ => []
  | f + 1, v => if v < 128 then [UInt8.ofNat v] else (UInt8.ofNat (v % 128) + 128) :: shortF f (v / 128)
def short (v : Nat) : List UInt8 := shortF 10 v
theorem shortF_lt (f v : Nat) (h : v < 128) : shortF (f + 1) v = [UInt8.ofNat v] := by simp [shortF, h]
theorem shortF_ge (f v : Nat) (h : 128 ≤ v) : shortF (f + 1) v = (UInt8.ofNat (v % 128) + 128) :: shortF f (v / 128) := by
  simp [shortF, Nat.not_lt.2 h]
end Go.Proofs.Ytdebgkjekcppmaa.Oct
namespace Go.Proofs.Ytdebgkjekcppmaa
open Go.RowKit Oct
variable {P : Program}

theorem ret_int {k : IntKind} {a b : Int} (h : a = b) : Ending.returned (.int k a) = .returned (.int k b) := by rw [h]
theorem ret_str {a b : ByteArray} (h : a = b) : Ending.returned (.string a) = .returned (.string b) := by rw [h]
theorem v_int {k : IntKind} {a b : Int} (h : a = b) : Value.int k a = .int k b := by rw [h]
theorem v_str {a b : ByteArray} (h : a = b) : Value.string a = .string b := by rw [h]

/-- string([]byte{x}) -/
theorem conv_one (src dst e : TypeId) (hs : P.underlying src = some (.slice e)) (he : P.underlying e = some (.int .u8)) (hd : P.underlying dst = some .string) (w : World) (x : Int) :
    (convert src dst (.slice (some ⟨w.heap.size, 0, none⟩) 1 1)).run P (w.alloc (.cells #[.int .u8 x] e)) = .ok (.string (bs [UInt8.ofNat x.toNat])) (w.alloc (.cells #[.int .u8 x] e)) := by
  have := run_convert_bytes_arg (P := P) (w.alloc (.cells #[.int .u8 x] e)) src e hs he w.heap.size 0 1 1 [x] rfl (fun i hi => by
    obtain rfl : i = 0 := by omega
    simp [World.cell?_alloc_new]) dst hd
  exact this
@[go_sem] theorem bs_get (l : List UInt8) (k : Nat) (h : k < (bs l).size) : (bs l)[k]'h = l[k]'(by simpa using h) := by
  have e : (bs l)[k]'h = (bs l).data.toList[k]'(by simpa using h) := by simp; rfl
  rw [e]; simp
@[go_sem] theorem bs_extract (l : List UInt8) (a b : Nat) : (bs l).extract a b = bs ((l.drop a).take (b - a)) := by
  rw [Lib.extract_eq, bs_data]; rfl
@[go_sem] theorem take_drop_len (l : List UInt8) (n : Nat) : (l.drop n).take (l.length - n) = l.drop n := List.take_of_length_le (by simp)
@[go_sem] theorem bs_toList (l : List UInt8) : (bs l).toList = l := by rw [ByteArray.toList_eq, bs_data]
@[go_sem] theorem mk_toList (a : Array UInt8) : (ByteArray.mk a).toList = a.toList := by rw [ByteArray.toList_eq]
attribute [go_sem] bs_append
theorem str_ne {a b : ByteArray} (h : a.data.toList ≠ b.data.toList) : (a.toList == b.toList) = false := by
  rw [ByteArray.toList_eq, ByteArray.toList_eq]; exact beq_eq_false_iff_ne.2 h
theorem str_eq {a b : ByteArray} (h : a.data.toList = b.data.toList) : (a.toList == b.toList) = true := by
  rw [ByteArray.toList_eq, ByteArray.toList_eq]; exact beq_iff_eq.2 h

theorem Below.drewN' (w : World) (n : Nat) : Below w.heap.size w (w.drewN n) := ⟨rfl, rfl, rfl, Nat.le_refl _, fun _ _ => rfl⟩

/-- the cells of bytes -/
def bcells (l : List UInt8) : List Value := l.map fun c => .int .u8 (c.toNat : Int)
theorem bcells_snoc (l : List UInt8) (c : UInt8) : bcells l ++ [.int .u8 (c.toNat : Int)] = bcells (l ++ [c]) := by simp [bcells]
theorem bcells_length (l : List UInt8) : (bcells l).length = l.length := by simp [bcells]

/-- string(b), b the call's own -/
theorem conv_own (src dst e : TypeId) (hs : P.underlying src = some (.slice e)) (he : P.underlying e = some (.int .u8)) (hd : P.underlying dst = some .string) (w : World) (base : Nat) (v : Value) (n : Nat) (l : List UInt8)
    (h : w.ownsRow base e 1 v n (bcells l)) : (convert src dst v).run P w = .ok (.string (bs l)) w := by
  obtain ⟨h1, h2⟩ := id h
  rw [bcells_length, Nat.mul_one] at h1
  rcases h2 with ⟨rfl, h3⟩ | ⟨g, cap, cur, rfl, hg, hh, hc⟩
  · have : l = [] := List.eq_nil_of_length_eq_zero (by omega)
    subst this
    exact run_convert_bytes_nil w src e hs he 0 0 dst hd
  · subst h1
    refine run_convert_bytes_back w src dst e ⟨g, 0, none⟩ cap l hs he hd (fun j hj => ?_)
    have hx := World.ownsRow.cells h (g := g) rfl j (.int .u8 (l[j].toNat : Int)) (by simp [bcells, List.getElem?_eq_getElem hj])
    exact hx

/-- append(s, x): one element, s the call's own; its cells 'news' lie in the new block -/
theorem append1 {ops : Array Oper} {rest : List Oper} {o : Oper} {a : Act} {Q : Exit → Act → World → Prop} (wr : World) (news : List Value) (e : TypeId) (hgd : o.guard = none) (s x : Operand) (t : TypeId)
    (ho : o.op = .call { callee := .builtin .append, args := #[s, x], argTypes := #[t, t] })
    (base : Nat) (z : Value) (size bytes : Nat) (ht : P.underlying t = some (.slice e)) (hinfo : (P.info? e).map (fun i => (i.zero, i.size, i.bytes)) = some (some z, size, bytes))
    (hzs : z.cells.size = size) (hsz : 0 < size) (v : Value) (n : Nat) (xs : List Value) (hs : a.eval s = v) (hown : wr.ownsRow base e size v n xs)
    (c : Nat) (hx : a.eval x = .slice (some ⟨wr.heap.size, 0, none⟩) 1 c) (hl : news.length = size) (h1 : ∀ u ∈ news, u.oneCell' = true)
    (hbytes : (n + 1) * bytes ≤ 140737488355328) (hby : 0 < bytes) (hbase : base ≤ wr.heap.size)
    (h : ∀ v' w', w'.ownsRow base e size v' (n + 1) (xs ++ news) → Below base wr w' → wpList P ops Q rest (a.put o.dst v') w') : wpList P ops Q (o :: rest) a (wr.alloc (.cells news.toArray e)) := by
  obtain ⟨i, hi, hz, hi1, hi2⟩ := info_parts hinfo
  have hn : n + 1 ≤ (n + 1) * bytes := Nat.le_mul_of_pos_right _ hby
  refine wpList_append_own _ hgd s x t ho base e i z size bytes ht hi hz hi1 hi2 hzs hsz v n xs hs (hown.alloc _) ⟨wr.heap.size, 0, none⟩ 1 c news hx (by simpa using hl) ?_ h1 (by unfold maxLen; omega) hbytes (by simp; omega) ?_
  · intro j u hj
    have : j < news.length := by
      rcases Nat.lt_or_ge j news.length with h | h
      · exact h
      · simp [List.getElem?_eq_none h] at hj
    rw [Addr.add_lit, Nat.zero_add, World.cell?_alloc_new]
    simpa using hj
  · intro v' w' h2 h3 _
    refine h v' w' h2 (((Below.refl base wr).alloc hbase _).grown h3 (by simp; omega) ?_)
    intro k hk
    exact (hown.lt k hk).1

/-- append(s, x) in a region that draws its order: one element, s the call's own -/
theorem step_append1 {ops : Array Oper} {o : Oper} {a : Act} {K : Act → World → Prop} {Q : Exit → Act → World → Prop} {E : Prop} (wr : World) (news : List Value) (e : TypeId) (hgd : o.guard = none) (s x : Operand) (t : TypeId)
    (ho : o.op = .call { callee := .builtin .append, args := #[s, x], argTypes := #[t, t] })
    (base : Nat) (z : Value) (size bytes : Nat) (ht : P.underlying t = some (.slice e)) (hinfo : (P.info? e).map (fun i => (i.zero, i.size, i.bytes)) = some (some z, size, bytes))
    (hzs : z.cells.size = size) (hsz : 0 < size) (v : Value) (n : Nat) (xs : List Value) (hs : a.eval s = v) (hown : wr.ownsRow base e size v n xs)
    (c : Nat) (hx : a.eval x = .slice (some ⟨wr.heap.size, 0, none⟩) 1 c) (hl : news.length = size) (h1 : ∀ u ∈ news, u.oneCell' = true)
    (hbytes : (n + 1) * bytes ≤ 140737488355328) (hby : 0 < bytes) (hbase : base ≤ wr.heap.size)
    (h : ∀ g cap w', w'.ownsRow base e size (.slice (some ⟨g, 0, none⟩) (n + 1) cap) (n + 1) (xs ++ news) → Below base wr w' → K (a.put o.dst (.slice (some ⟨g, 0, none⟩) (n + 1) cap)) w') :
    if Region.wanted o (yielded ops a.tmps) = true then Oper.wp P o a (wr.alloc (.cells news.toArray e)) K Q else E := by
  obtain ⟨i, hi, hz, hi1, hi2⟩ := info_parts hinfo
  have hn : n + 1 ≤ (n + 1) * bytes := Nat.le_mul_of_pos_right _ hby
  refine step_append_lies _ hgd s x t ho base e i z size bytes ht hi hz hi1 hi2 hzs hsz v n xs hs (hown.alloc _) ⟨wr.heap.size, 0, none⟩ 1 c news hx (by simpa using hl) ?_ h1 (by decide) (by unfold maxLen; omega) hbytes (by simp; omega) _ rfl ?_
  · intro j u hj
    have : j < news.length := by
      rcases Nat.lt_or_ge j news.length with h | h
      · exact h
      · simp [List.getElem?_eq_none h] at hj
    rw [Addr.add_lit, Nat.zero_add, World.cell?_alloc_new]
    simpa using hj
  · intro g cap w' h2 h3 _ _
    refine h g cap w' h2 (((Below.refl base wr).alloc hbase _).grown h3 (by simp; omega) ?_)
    intro k hk
    exact (hown.lt k hk).1

theorem ownsRow_below {w w' : World} {base : Nat} {e : TypeId} {size : Nat} {v : Value} {n : Nat} {xs : List Value} (h : w.ownsRow base e size v n xs) (hB : Below w.heap.size w w') : w'.ownsRow base e size v n xs := by
  obtain ⟨h1, h2⟩ := h
  refine ⟨h1, ?_⟩
  rcases h2 with h2 | ⟨g, cap, cur, hv, hg, hh, r⟩
  · exact Or.inl h2
  · have hlt : g < w.heap.size := by
      rcases Nat.lt_or_ge g w.heap.size with h | h
      · exact h
      · simp [Array.getElem?_eq_none h] at hh
    exact Or.inr ⟨g, cap, cur, hv, hg, (hB.block g hlt).trans hh, r⟩

/-- two calls, one behind the other -/
theorem bt {a b c : World} (h : Below a.heap.size a b) (k : Below b.heap.size b c) : Below a.heap.size a c := h.trans (k.mono h.size)
theorem b_alloc (w : World) (o : Obj) : Below w.heap.size w (w.alloc o) := (Below.refl _ _).alloc (Nat.le_refl _) _
theorem b_drew (w : World) : Below w.heap.size w w.drew := (Below.refl _ _).drew
theorem b_refl (w : World) : Below w.heap.size w w := Below.refl _ _

theorem owns_slice {w : World} {base : Nat} {e : TypeId} {size : Nat} {v : Value} {n : Nat} {xs : List Value} (h : w.ownsRow base e size v n xs) : ∃ a cap, v = .slice a n cap := by
  rcases h.2 with ⟨hv, h0⟩ | ⟨g, cap, cur, hv, _⟩
  · exact ⟨none, 0, by rw [hv, h0]⟩
  · exact ⟨_, _, hv⟩

theorem owns_mono {w : World} {base base' : Nat} {e : TypeId} {size : Nat} {v : Value} {n : Nat} {xs : List Value} (h : w.ownsRow base e size v n xs) (hb : base' ≤ base) : w.ownsRow base' e size v n xs := by
  obtain ⟨h1, h2⟩ := h
  refine ⟨h1, ?_⟩
  rcases h2 with h2 | ⟨g, cap, cur, hv, hg, r⟩
  · exact .inl h2
  · exact .inr ⟨g, cap, cur, hv, Nat.le_trans hb hg, r⟩

/-- two new blocks -/
theorem two_new (w : World) (o p : Obj) : ((w.alloc o).alloc p).heap[w.heap.size]? = some o ∧ ((w.alloc o).alloc p).heap[w.heap.size + 1]? = some p ∧ Below w.heap.size w ((w.alloc o).alloc p) := by
  refine ⟨?_, ?_, ((Below.refl _ _).alloc (Nat.le_refl _) _).alloc (by simp) _⟩
  · show ((w.heap.push o).push p)[w.heap.size]? = some o
    simp [Array.getElem?_push]
  · show ((w.heap.push o).push p)[w.heap.size + 1]? = some p
    rw [Array.getElem?_push, if_pos (by simp)]

/-- a region that draws its order, and that makes memory at most: one walk of the text's order serves -/
theorem region_grow {id : Nat} {Q : Exit → Act → World → Prop} {a : Act} {w : World} {l : List Oper} (hm : P.follows .mixedOrders = true) (hB : Region.lexB .any l.toArray = true)
    (h : wpQuiet P l.toArray (fun w' => Below w.heap.size w w') (fun a' => ∀ w', Below w.heap.size w w' → Q .normal a' w') l a) : (Code.region id l.toArray true).wp P Q a w :=
  wp_region_quiet (C := fun w' => Below w.heap.size w w') hm hB (b_drew w) (by simpa using h)
theorem calls_grow {f : FuncId} {args : Array Value} {w w' : World} {v : Value} (hC : Below w.heap.size w w') (h : Calls P f args w' fun e w'' => e = .returned v ∧ Below w'.heap.size w' w'') :
    Calls P f args w' fun e w'' => e = .returned v ∧ Below w.heap.size w w'' := h.mono fun _ _ ⟨he, hb⟩ => ⟨he, bt hC hb⟩

/-- the slice value v has n elements, whose cells are xs -/
def Reads (w : World) (v : Value) (n : Nat) (xs : List Value) : Prop :=
  ∃ a cap, v = .slice a n cap ∧ (a = none → n = 0 ∧ cap = 0) ∧ ∀ j u, xs[j]? = some u → ∃ b off, a = some ⟨b, off, none⟩ ∧ w.cell? ⟨b, off + j, none⟩ = some u
theorem lt_of_cell {w : World} {a : Addr} {u : Value} (h : w.cell? a = some u) : a.block < w.heap.size := World.block_lt_of_cell? w a h
theorem Below.keeps {w w' : World} (hB : Below w.heap.size w w') {a : Addr} {u : Value} (h : w.cell? a = some u) : w'.cell? a = some u :=
  (hB.cell (p := a) (lt_of_cell h)).trans h
theorem Reads.below {w w' : World} {v : Value} {n : Nat} {xs : List Value} (h : Reads w v n xs) (hB : Below w.heap.size w w') : Reads w' v n xs := by
  obtain ⟨a, cap, hv, hn, hc⟩ := h
  exact ⟨a, cap, hv, hn, fun j u hj => by obtain ⟨b, off, ha, hu⟩ := hc j u hj; exact ⟨b, off, ha, Below.keeps hB hu⟩⟩
theorem Reads.owned {w : World} {base : Nat} {e : TypeId} {size : Nat} {v : Value} {n : Nat} {xs : List Value} (h : w.ownsRow base e size v n xs) : Reads w v n xs := by
  rcases id h.2 with ⟨hv, h0⟩ | ⟨g, cap, cur, hv, _⟩
  · refine ⟨none, 0, by rw [hv, h0], fun _ => ⟨h0, rfl⟩, fun j u hj => ?_⟩
    have := h.1
    rw [h0, Nat.zero_mul] at this
    rw [List.eq_nil_of_length_eq_zero this] at hj
    simp at hj
  · refine ⟨some ⟨g, 0, none⟩, cap, hv, (by simp), fun j u hj => ⟨g, 0, rfl, ?_⟩⟩
    have := World.ownsRow.cells h (g := g) (by rw [hv]; rfl) j u hj
    rwa [Addr.add_lit] at this
theorem Reads.nil (w : World) : Reads w (.slice none 0 0) 0 [] := ⟨none, 0, rfl, fun _ => ⟨rfl, rfl⟩, fun j u hj => by simp at hj⟩
theorem Reads.new (w : World) (xs : List Value) (n : Nat) (e : TypeId) (c : Nat) : Reads (w.alloc (.cells xs.toArray e)) (.slice (some ⟨w.heap.size, 0, none⟩) n c) n xs :=
  ⟨_, _, rfl, (by simp), fun j u hj => ⟨_, _, rfl, by rw [Nat.zero_add, World.cell?_alloc_new]; simpa using hj⟩⟩
/-- append(s, x...): s the call's own, x whatever slice -/
theorem appendN {ops : Array Oper} {rest : List Oper} {o : Oper} {a : Act} {Q : Exit → Act → World → Prop} (w : World) (news : List Value) (e : TypeId) (hgd : o.guard = none) (s x : Operand) (t : TypeId)
    (ho : o.op = .call { callee := .builtin .append, args := #[s, x], argTypes := #[t, t] })
    (base : Nat) (z : Value) (size bytes : Nat) (ht : P.underlying t = some (.slice e)) (hinfo : (P.info? e).map (fun i => (i.zero, i.size, i.bytes)) = some (some z, size, bytes))
    (hzs : z.cells.size = size) (hsz : 0 < size) (v : Value) (n : Nat) (xs : List Value) (hs : a.eval s = v) (hown : w.ownsRow base e size v n xs)
    (vx : Value) (m : Nat) (hx : a.eval x = vx) (hr : Reads w vx m news) (hl : news.length = m * size) (h1 : ∀ u ∈ news, u.oneCell' = true)
    (hbytes : (n + m) * bytes ≤ 140737488355328) (hby : 0 < bytes) (hbase : base ≤ w.heap.size)
    (h : ∀ v' w', w'.ownsRow base e size v' (n + m) (xs ++ news) → Below base w w' → wpList P ops Q rest (a.put o.dst v') w') : wpList P ops Q (o :: rest) a w := by
  obtain ⟨i, hi, hz, hi1, hi2⟩ := info_parts hinfo
  have hn : n + m ≤ (n + m) * bytes := Nat.le_mul_of_pos_right _ hby
  obtain ⟨ax, cap, rfl, hnone, hc⟩ := hr
  cases ax with
  | none =>
    obtain ⟨rfl, rfl⟩ := hnone rfl
    have hnil : news = [] := List.eq_nil_of_length_eq_zero (by simpa using hl)
    subst hnil
    refine wpList_append_own_none hgd s x t ho base e i size ht hi v n xs hs hown hx ?_
    have := h v w (by simpa using hown) (Below.refl _ _)
    exact this
  | some ad =>
    refine wpList_append_own _ hgd s x t ho base e i z size bytes ht hi hz hi1 hi2 hzs hsz v n xs hs hown ad m cap news hx hl ?_ h1 (by unfold maxLen; omega) hbytes hbase ?_
    · intro j u hj
      obtain ⟨b, off, ha, hu⟩ := hc j u hj
      cases ha
      rw [Addr.add_lit]; exact hu
    · intro v' w' h2 h3 _
      refine h v' w' h2 ((Below.refl base w).grown h3 hbase ?_)
      intro k hk
      exact (hown.lt k hk).1

/-- the cells of texts -/
def tcells (r : List (List UInt8)) : List Value := r.map fun l => .string (bs l)
theorem tcells_at (r : List (List UInt8)) (k : Nat) (h : k < r.length) : (tcells r)[k]? = some (.string (bs r[k])) := by simp [tcells, h]
theorem tcells_snoc (r : List (List UInt8)) (l : List UInt8) : tcells r ++ [.string (bs l)] = tcells (r ++ [l]) := by simp [tcells]
theorem tcells_length (r : List (List UInt8)) : (tcells r).length = r.length := by simp [tcells]

end Go.Proofs.Ytdebgkjekcppmaa
namespace Go.Proofs.Ytdebgkjekcppmaa
open Go.RowKit Oct

theorem infoU8 : (Try.prog.info? 5).map (fun i => (i.zero, i.size, i.bytes)) = some (some (.int .u8 0), 1, 1) := by kernel_rfl

theorem conv1 (w : World) (x : Int) : (convert 75 9 (.slice (some ⟨w.heap.size, 0, none⟩) 1 1)).run Try.prog (w.alloc (.cells #[.int .u8 x] 5)) = .ok (.string (bs [UInt8.ofNat x.toNat])) (w.alloc (.cells #[.int .u8 x] 5)) := conv_one (P := Try.prog) 75 9 5 Try.underlying75 Try.underlying5 Try.underlying9 w x

set_option maxRecDepth 100000 in
set_option maxHeartbeats 400000 in
theorem value_any (s : ByteArray) (w : World) (hs : s.size ≤ 8) :
    Calls Try.prog 72 #[.string s] w fun e w' => e = .returned (.int .u64 (val s.data.toList)) ∧ w = w' := by
  go_enter Try.func72, Try.ntmps72
  go_wp2
  go_loop [3, 4] (fun v i => ∃ k : Nat, k ≤ s.size ∧ i = .int .i64 ((k : Int) - 1) ∧ v = .int .u64 (val (s.data.toList.drop k))) (fun _ i => (intOf i + 1).toNat)
  case atStart => exact ⟨s.size, Nat.le_refl _, rfl, v_int (by rw [List.drop_of_length_le (by simp)]; rfl)⟩
  case round =>
    obtain ⟨k, hk, rfl, rfl⟩ := hrel
    have hl : s.data.toList.length = s.size := by simp
    by_cases h0 : 0 < k
    · obtain ⟨j, rfl⟩ : ∃ j, k = j + 1 := ⟨k - 1, by omega⟩
      have hd := Hid.out (val_drop s.data.toList j (by omega))
      have hb := val_lt8 (s.data.toList.drop j) (by simp; omega)
      have hc := s[j].toNat_lt
      have H : Hid ((IntKind.u64.wrap (IntKind.u64.wrap (↑(val (s.data.toList.drop (j + 1))) * 256) + IntKind.u64.wrap (s[j].toNat : Int))) = (val (s.data.toList.drop j) : Int)) := by
        have e : (s.data.toList[j]'(by omega)) = s[j] := by simp; rfl
        rw [e] at hd
        rw [hd] at hb ⊢
        rw [IntWalk.u64_in (_ * 256) (by omega), IntWalk.u64_in (s[j].toNat : Int) (by omega), IntWalk.u64_in _ (by omega)]
        show _ = _
        omega
      clear hd hb hc
      go_wp2
      go_round
      case rel => exact ⟨j, by omega, rfl, v_int H.out⟩
      case measure => simp [intOf]
    · obtain rfl : k = 0 := by omega
      go_wp2
      go_ret
      exact ⟨by simp, rfl⟩

set_option maxRecDepth 100000 in
set_option maxHeartbeats 400000 in
theorem num_any (v n : Int) (w : World) (h1 : 0 ≤ n) (h2 : n ≤ 8) (h3 : 0 ≤ v) (h4 : v < 18446744073709551616) :
    Calls Try.prog 67 #[.int .u64 v, .int .i64 n] w fun e w' => e = .returned (.string (bs (num v.toNat n.toNat))) ∧ Below w.heap.size w w' := by
  have hcv := conv1
  go_enter Try.func67, Try.ntmps67
  go_wp2
  go_loopw [0, 5, 6] (fun u s i wr => ∃ k : Nat, ∃ x : Nat, ∃ l : List UInt8, (k : Int) ≤ n ∧ i = .int .i64 k ∧ u = .int .u64 x ∧ x < 18446744073709551616 ∧ s = .string (bs l) ∧ l.length ≤ k ∧ Hid (x = v.toNat / 256 ^ k ∧ l = num v.toNat k) ∧ Below w.heap.size w wr) (fun _ _ i _ => (n - intOf i).toNat)
  case atStart => exact ⟨0, v.toNat, [], by omega, rfl, v_int (by omega), by omega, rfl, by simp, ⟨by simp, rfl⟩, Below.refl _ _⟩
  case round =>
    obtain ⟨k, x, l, hk, rfl, rfl, hx, rfl, hl, hH, hB⟩ := hrel
    by_cases h0 : (k : Int) < n
    · go_wp2
      go_roundw
      case rel =>
        obtain ⟨rfl, rfl⟩ := hH.out
        exact ⟨k + 1, _, _, by omega, by go_num, by go_num, Nat.lt_of_le_of_lt (Nat.div_le_self _ _) hx, rfl, by simp, ⟨by rw [Nat.pow_succ, Nat.div_div_eq_div_mul], by rw [num_snoc]⟩, hB.alloc hB.size _⟩
      case measure => simp [intOf]; omega
    · obtain rfl : n = k := by omega
      go_wp2
      go_ret
      obtain ⟨_, rfl⟩ := hH.out
      exact ⟨rfl, hB⟩

/-- the cells of the array after k rounds -/
def cb (v k : Nat) : Array Value := ((num v k).map (fun c => Value.int .u8 (c.toNat : Int)) ++ List.replicate (8 - k) (Value.int .u8 0)).toArray
theorem cb_new (v k : Nat) (h : k < 8) : (cb v k)[k]? = some (.int .u8 0) := by
  simp [cb, List.getElem?_append, num_length, List.getElem?_replicate]; omega
theorem cb_at (v k j : Nat) (h : j < k) : (cb v k)[j]? = some (.int .u8 (((num v k)[j]'(by rw [num_length]; exact h)).toNat : Int)) := by
  have hl : j < (num v k).length := by rw [num_length]; exact h
  simp [cb, List.getElem?_append, num_length, h, hl]
theorem num_take (v m n j : Nat) (h : m ≤ n) (hj : j < m) : (num v n)[j]'(by rw [num_length]; omega) = (num v m)[j]'(by rw [num_length]; omega) := by
  induction m generalizing v n j with
  | zero => omega
  | succ m ih =>
    obtain ⟨n, rfl⟩ : ∃ n', n = n' + 1 := ⟨n - 1, by omega⟩
    cases j with
    | zero => simp [num]
    | succ j => simp only [num, List.getElem_cons_succ]; exact ih _ _ _ (by omega) (by omega)
theorem cb_step (v : Int) (k : Nat) (h : k < 8) (h0 : 0 ≤ v) : (cb v.toNat k).setIfInBounds k (Value.int IntKind.u8 (v / 2 ^ (8 * k) % 256)) = cb v.toNat (k + 1) := by
  obtain ⟨v, rfl⟩ := Int.eq_ofNat_of_zero_le h0
  have e : ((v : Int) / 2 ^ (8 * k) % 256) = (((UInt8.ofNat (v / 256 ^ k % 256)).toNat : Nat) : Int) := by
    have : (2 : Int) ^ (8 * k) = ((256 ^ k : Nat) : Int) := by rw [Int.pow_mul]; simp
    rw [this]; simp
  rw [e]
  simp only [cb, Int.toNat_natCast, List.setIfInBounds_toArray, num_snoc, List.map_append, List.append_assoc]
  congr 1
  rw [List.set_append_right _ _ (by simp [num_length])]
  obtain ⟨m, hm⟩ : ∃ m, 8 - k = m + 1 := ⟨7 - k, by omega⟩
  have hm' : 8 - (k + 1) = m := by omega
  simp [num_length, hm, hm', List.replicate_succ]

set_option maxRecDepth 100000 in
set_option maxHeartbeats 400000 in
theorem bytes_any (v n : Int) (w : World) (h1 : 1 ≤ n) (h2 : n ≤ 8) (h3 : 0 ≤ v) (h4 : v < 18446744073709551616) :
    Calls Try.prog 93 #[.int .u64 v, .int .i64 n] w fun e w' => e = .returned (.string (bs (num v.toNat n.toNat))) ∧ Below w.heap.size w w' := by
  obtain ⟨m, rfl⟩ := Int.eq_ofNat_of_zero_le (show 0 ≤ n by omega)
  have hfin : ∀ c, (convert 75 9 (.slice (some ⟨w.heap.size, 0, none⟩) m c)).run Try.prog (w.alloc (.cells (cb v.toNat 8) 133)) = .ok (.string (bs (num v.toNat m))) (w.alloc (.cells (cb v.toNat 8) 133)) := by
    intro c
    have := run_convert_bytes_back (P := Try.prog) (w.alloc (.cells (cb v.toNat 8) 133)) 75 9 5 ⟨w.heap.size, 0, none⟩ c (num v.toNat m) Try.underlying75 Try.underlying5 Try.underlying9 (fun j hj => by
      rw [num_length] at hj
      have := cb_at v.toNat 8 j (by omega)
      simp [World.cell?_alloc_new, Addr.add_lit, this, num_take v.toNat m 8 j (by omega) hj])
    rw [num_length] at this
    exact this
  go_enter Try.func93, Try.ntmps93
  go_wp2
  go_loopw [7] (fun i wr => ∃ k : Nat, k ≤ 8 ∧ i = .int .i64 k ∧ wr = w.alloc (.cells (cb v.toNat k) 133)) (fun i _ => (8 - intOf i).toNat)
  case atStart => exact ⟨0, by omega, rfl, rfl⟩
  case round =>
    obtain ⟨k, hk, rfl, rfl⟩ := hrel
    by_cases h0 : (k : Int) < 8
    · have hc := cb_new v.toNat k (by omega)
      go_wp2
      go_roundw
      case rel => exact ⟨k + 1, by omega, by go_num, by rw [cb_step v k (by omega) h3]⟩
      case measure => simp [intOf]; omega
    · obtain rfl : k = 8 := by omega
      go_wp2
      go_ret
      exact ⟨rfl, (Below.refl _ _).alloc (Nat.le_refl _) _⟩
end Go.Proofs.Ytdebgkjekcppmaa
namespace Go.Proofs.Ytdebgkjekcppmaa
open Go.RowKit

/-- blocks outside X lie as they lay -/
structure Chg (X : Nat → Prop) (w w' : World) : Prop where
  os : w'.os = w.os
  tape : w'.tape = w.tape
  output : w'.output = w.output
  size : w.heap.size ≤ w'.heap.size
  block : ∀ k, k < w.heap.size → ¬ X k → w'.heap[k]? = w.heap[k]?
theorem Chg.refl (X : Nat → Prop) (w : World) : Chg X w w := ⟨rfl, rfl, rfl, Nat.le_refl _, fun _ _ _ => rfl⟩
theorem Chg.trans {X : Nat → Prop} {a b c : World} (h : Chg X a b) (k : Chg X b c) : Chg X a c :=
  ⟨k.os.trans h.os, k.tape.trans h.tape, k.output.trans h.output, Nat.le_trans h.size k.size, fun i hi hx => (k.block i (Nat.lt_of_lt_of_le hi h.size) hx).trans (h.block i hi hx)⟩
theorem Chg.mono {X X' : Nat → Prop} {w w' : World} (h : Chg X w w') (hx : ∀ k, X k → X' k) : Chg X' w w' := ⟨h.os, h.tape, h.output, h.size, fun k hk hn => h.block k hk fun hxk => hn (hx k hxk)⟩
theorem Chg.of_below {X : Nat → Prop} {w w' : World} (h : Below w.heap.size w w') : Chg X w w' := ⟨h.os, h.tape, h.output, h.size, fun k hk _ => h.block k hk⟩
/-- what a growth of the caller's own leaves -/
theorem Chg.of_base {X : Nat → Prop} {B : Nat} {w w' : World} (h : Below B w w') (hX : ∀ k, B ≤ k → X k) : Chg X w w' :=
  ⟨h.os, h.tape, h.output, h.size, fun k hk hn => h.block k (Nat.lt_of_not_le fun hb => hn (hX k hb))⟩
theorem Chg.below {X : Nat → Prop} {B : Nat} {w w' : World} (h : Chg X w w') (hX : ∀ k, X k → B ≤ k) (hB : B ≤ w.heap.size) : Below B w w' :=
  ⟨h.os, h.tape, h.output, h.size, fun k hk => h.block k (Nat.lt_of_lt_of_le hk hB) fun hx => by have := hX k hx; omega⟩
theorem Chg.alloc (X : Nat → Prop) (w : World) (o : Obj) : Chg X w (w.alloc o) := Chg.of_below (b_alloc w o)
theorem Chg.drew (X : Nat → Prop) (w : World) : Chg X w w.drew := Chg.of_below (b_drew w)
theorem Chg.setCell {X : Nat → Prop} (w : World) (a : Addr) (u : Value) (h : X a.block) : Chg X w (w.setCell a u) :=
  ⟨rfl, rfl, rfl, by simp [World.setCell], fun k _ hn => Below.heap_setCell _ _ _ _ fun e => hn (e ▸ h)⟩
theorem Chg.putObj {X : Nat → Prop} (w : World) (l : Nat) (o : Obj) (h : X l) : Chg X w (w.putObj l o) :=
  ⟨rfl, rfl, rfl, by simp, fun k _ hn => World.putObj_heap_other fun e => hn (e ▸ h)⟩
theorem Chg.at {X : Nat → Prop} {w w' : World} (h : Chg X w w') {k : Nat} {o : Obj} (hk : w.heap[k]? = some o) (hn : ¬ X k) : w'.heap[k]? = some o :=
  (h.block k (Array.getElem?_eq_some_iff.1 hk).1 hn).trans hk
theorem Chg.cell {X : Nat → Prop} {w w' : World} (h : Chg X w w') {a : Addr} {u : Value} (ha : w.cell? a = some u) (hn : ¬ X a.block) : w'.cell? a = some u :=
  (World.cell?_of_block (w := w) (h.block a.block (lt_of_cell ha) hn)).trans ha

section
variable {F : Fence} {n : Nat} {P : Program} {α : Type}

/-- an iterator, captured values lb: it hands out what 'out' says, writes blocks of X alone, and wants the blocks of Y kept in a round that goes on -/
def IterC (F : Fence) (n : Nat) (P : Program) (gf : Nat) (lb : Array Value) (X Y : Nat → Prop) (El : α → Array Value → World → Prop) (out : List α) (W : World) : Prop :=
  ∀ (l : Nat) (J Jx : List α → World → Prop),
    (∀ pre U U', J pre U → Chg X U U' → J pre U') → (∀ pre U U', Jx pre U → Chg X U U' → Jx pre U') →
    (∀ pre x vs U, J pre U → El x vs U → pre ++ [x] <+: out → YieldAt F (n - 1) P l vs U fun e U' =>
      (e = .returned (.bool true) ∧ J (pre ++ [x]) U' ∧ Chg (fun k => ¬ Y k) U U') ∨ (e = .returned (.bool false) ∧ Jx (pre ++ [x]) U')) →
    J [] W → CallsIn F n P gf (#[.func (.yield l) #[] #[]] ++ lb) W fun e W' => (∃ v, e = .returned v) ∧ (J out W' ∨ ∃ pre, pre <+: out ∧ Jx pre W')

/-- how a round's body may be left; D: the loop's two blocks begin there -/
def rangeEnd (D : Nat) (Y : Nat → Prop) (I : List α → World → Prop) (Ix : Code → List α → World → Prop) (pre : List α) (U : World) : Exit → Act → World → Prop
  | .normal, _, U' => Chg (fun k => ¬ (Y k ∨ k = D ∨ k = D + 1)) U U' ∧ I pre U'
  | .ret, _, U' => Chg (fun k => ¬ (k = D ∨ k = D + 1)) U U' ∧ Ix .ret pre U'
  | .exit id, _, U' => Chg (fun k => ¬ (k = D ∨ k = D + 1)) U U' ∧ Ix (.exit id) pre U'
  | .goto t, _, U' => Chg (fun k => ¬ (k = D ∨ k = D + 1)) U U' ∧ Ix (.goto t) pre U'
  | .panic _, _, _ => False
  | .outgrown, _, _ => False

theorem wpIn_range {g : Operand} {ps : Array Tmp} {assign body : Code} {Q : Exit → Act → World → Prop} {a : Act} {w : World}
    (hro : F.round = none) (h1 : 1 ≤ n) {gf : Nat} {lb : Array Value} (hg : a.eval g = .func (.func gf) #[] lb) (hFg : F.fn gf) (eg : ∀ args w, (callFunc gf args).run P w = .ok (.enter gf args) w)
    {X Y : Nat → Prop} {El : α → Array Value → World → Prop} {out : List α} (hX : ∀ k, X k → k < w.heap.size) (hY : ∀ k, Y k → k < w.heap.size)
    (hseq : ∀ W, Below w.heap.size w W → IterC F (n - 1) P gf lb X Y El out W) (hps : ∀ x vs U, El x vs U → vs.size = ps.size)
    (hEl : ∀ x vs U U', El x vs U → Chg (fun k => k = w.heap.size ∨ k = w.heap.size + 1) U U' → El x vs U')
    (I : List α → World → Prop) (Ix : Code → List α → World → Prop)
    (hI : ∀ pre U U', I pre U → Chg (fun k => X k ∨ k = w.heap.size ∨ k = w.heap.size + 1) U U' → I pre U')
    (hIx : ∀ c pre U U', Ix c pre U → Chg (fun k => X k ∨ k = w.heap.size ∨ k = w.heap.size + 1) U U' → Ix c pre U') (h0 : I [] w)
    (hround : ∀ (l : Nat) (pre : List α) (x : α) (vs : Array Value) (U : World), I pre U → El x vs U → pre ++ [x] <+: out →
      assign.wpIn (F.inRound l) (n - 1 - 1) P (Exit.then (fun a' U1 => Below U.heap.size U U1 ∧ ∀ U2, w.heap.size + 2 ≤ U2.heap.size → I pre U2 → El x vs U2 → Chg (fun k => k = w.heap.size ∨ k = w.heap.size + 1) U1 U2 →
        body.wpIn (F.inRound l) (n - 1 - 1) P (rangeEnd w.heap.size Y I Ix (pre ++ [x]) U2) a' U2) (fun _ _ _ => False)) { tmps := (ps.zip vs).foldl (fun t (p, v) => t.setIfInBounds p v) a.tmps, defers := [] } U)
    (hdone : ∀ W, w.heap.size + 2 ≤ W.heap.size → I out W → W.heap[w.heap.size]? = some (.deferred (some [])) → Q .normal { a with defers := { target := .collected w.heap.size, args := #[] } :: a.defers } W)
    (hstop : ∀ c pre W, w.heap.size + 2 ≤ W.heap.size → pre <+: out → Ix c pre W → W.heap[w.heap.size]? = some (.deferred (some [])) → c.wpIn F n P Q { a with defers := { target := .collected w.heap.size, args := #[] } :: a.defers } W) :
    (Code.rangeFunc g ps assign body).wpIn F n P Q a w := by
  refine wpIn_rangeFunc fun fn hfn => ?_
  rw [hro]
  obtain ⟨rec, hrec⟩ : ∃ rec : LoopState → Option Code → Loop, rec = fun st pe => { state := st, pending := pe, fn, tmps := a.tmps, params := ps, assign, body, defers := w.heap.size } := ⟨_, rfl⟩
  obtain ⟨W1, hW1⟩ : ∃ W1, (w.alloc (.deferred (some []))).alloc (.loop (rec .ready none)) = W1 := ⟨_, rfl⟩
  obtain ⟨hK1, hL1, hb1⟩ := two_new w (.deferred (some [])) (.loop (rec .ready none))
  rw [hW1] at hK1 hL1 hb1
  have hsz1 : w.heap.size + 2 ≤ W1.heap.size := by have := (Array.getElem?_eq_some_iff.1 hL1).1; omega
  refine ⟨w.heap.size + 1, [{ target := .collected w.heap.size, args := #[] }], W1, { target := .fn (.func gf) lb, args := #[.func (.yield (w.heap.size + 1)) #[] #[]] }, W1, gf,
    #[.func (.yield (w.heap.size + 1)) #[] #[]] ++ lb, W1, ?_, ?_, ?_, ?_, fun _ => h1, ?_⟩
  · rw [← hW1, hrec]; exact run_enterLoop_outer _ _ _ _ _
  · simp only [resolve, hg]
    simp [go_sem]
  · intro f' hf'; simp [Target.leads] at hf'; subst hf'; exact hFg
  · simp [invoke, go_sem, eg]
  have xD : ∀ k, X k → k ≠ w.heap.size ∧ k ≠ w.heap.size + 1 := fun k hk => by have := hX k hk; omega
  have keep : ∀ {U U' : World} {o o' : Obj}, Chg X U U' → U.heap[w.heap.size + 1]? = some o → U.heap[w.heap.size]? = some o' → U'.heap[w.heap.size + 1]? = some o ∧ U'.heap[w.heap.size]? = some o' :=
    fun hc h h' => ⟨hc.at h fun hx => (xD _ hx).2 rfl, hc.at h' fun hx => (xD _ hx).1 rfl⟩
  refine (hseq W1 hb1 (w.heap.size + 1)
    (fun pre U => I pre U ∧ U.heap[w.heap.size + 1]? = some (.loop (rec .ready none)) ∧ U.heap[w.heap.size]? = some (.deferred (some [])))
    (fun pre U => ∃ c, Ix c pre U ∧ U.heap[w.heap.size + 1]? = some (.loop (rec .done (some c))) ∧ U.heap[w.heap.size]? = some (.deferred (some [])))
    (fun pre U U' hs hc => ⟨hI _ _ _ hs.1 (hc.mono fun _ h => .inl h), keep hc hs.2.1 hs.2.2⟩)
    (fun pre U U' ⟨c, hs, hl, hk⟩ hc => ⟨c, hIx _ _ _ _ hs (hc.mono fun _ h => .inl h), keep hc hl hk⟩)
    ?_ ⟨hI _ _ _ h0 (Chg.of_below hb1), hL1, hK1⟩).mono ?_
  · rintro pre x vs U ⟨hi, hl, hk⟩ hel hpre
    have hy := run_yield (P := P) (args := vs) hl (by rw [hrec]; exact hps x vs U hel)
    rw [hrec] at hy
    refine ⟨fn, _, assign, body, hy, roundIn_of_wpIn hfn (wpIn_mono (hround _ pre x vs U hi hel hpre) ?_)⟩
    clear hy
    intro ea a' U1 hea
    cases ea with
    | normal => ?_
    | _ => exact hea
    obtain ⟨hbel, hbody⟩ := hea
    have c1 : ∀ {Z : Nat → Prop}, Chg Z U U1 := fun {Z} => Chg.of_below hbel
    replace hl := c1.at (X := fun _ => False) hl (fun h => h)
    replace hk := c1.at (X := fun _ => False) hk (fun h => h)
    replace hi := hI _ _ _ hi c1
    replace hel := hEl _ _ _ _ hel c1
    have hlt := (Array.getElem?_eq_some_iff.1 hl).1
    refine ⟨_, run_beginRound hl (by rw [hrec]), ?_⟩
    obtain ⟨U2, hU2⟩ : ∃ U2, U1.putObj (w.heap.size + 1) (.loop { rec .ready none with state := .busy }) = U2 := ⟨_, rfl⟩
    have hl2 : U2.heap[w.heap.size + 1]? = some (.loop { rec .ready none with state := .busy }) := by rw [← hU2]; exact World.putObj_heap_same hlt
    have hk2 : U2.heap[w.heap.size]? = some (.deferred (some [])) := by rw [← hU2]; exact (World.putObj_heap_other (by omega)).trans hk
    have c2 : ∀ {Z : Nat → Prop}, Z (w.heap.size + 1) → Chg Z U1 U2 := fun {Z} hz => by rw [← hU2]; exact Chg.putObj _ _ _ hz
    rw [hU2]
    refine wpIn_mono (hbody U2 (by have := (Array.getElem?_eq_some_iff.1 hl2).1; omega) (hI _ _ _ hi (c2 (.inr (.inr rfl)))) (hEl _ _ _ _ hel (c2 (.inr rfl))) (c2 (.inr rfl))) ?_
    have fin : ∀ (jump : Option Code) (U3 : World), U3.heap[w.heap.size + 1]? = some (.loop { rec .ready none with state := .busy }) → U3.heap[w.heap.size]? = some (.deferred (some [])) →
        (Instr.endRound (w.heap.size + 1) jump).run P U3 = .ok (.bool jump.isNone) (U3.putObj (w.heap.size + 1) (.loop (rec (if jump.isNone then .ready else .done) jump))) ∧
        (U3.putObj (w.heap.size + 1) (.loop (rec (if jump.isNone then .ready else .done) jump))).heap[w.heap.size + 1]? = some (.loop (rec (if jump.isNone then .ready else .done) jump)) ∧
        (U3.putObj (w.heap.size + 1) (.loop (rec (if jump.isNone then .ready else .done) jump))).heap[w.heap.size]? = some (.deferred (some [])) := fun jump U3 hl3 hk3 => by
      have := run_endRound (P := P) jump hl3
      rw [hrec] at this ⊢
      exact ⟨this, World.putObj_heap_same (Array.getElem?_eq_some_iff.1 hl3).1, (World.putObj_heap_other (by omega)).trans hk3⟩
    have stop : ∀ (c : Code) (U3 : World), Chg (fun k => ¬ (k = w.heap.size ∨ k = w.heap.size + 1)) U2 U3 → Ix c (pre ++ [x]) U3 → ∃ v U4, (Instr.endRound (w.heap.size + 1) (some c)).run P U3 = .ok v U4 ∧
        ((Ending.returned v = .returned (.bool true) ∧ (I (pre ++ [x]) U4 ∧ U4.heap[w.heap.size + 1]? = some (.loop (rec .ready none)) ∧ U4.heap[w.heap.size]? = some (.deferred (some []))) ∧ Chg (fun k => ¬ Y k) U U4) ∨
         (Ending.returned v = .returned (.bool false) ∧ ∃ c, Ix c (pre ++ [x]) U4 ∧ U4.heap[w.heap.size + 1]? = some (.loop (rec .done (some c))) ∧ U4.heap[w.heap.size]? = some (.deferred (some [])))) := fun c U3 hc hx => by
      obtain ⟨hr, hl4, hk4⟩ := fin (some c) U3 (hc.at hl2 fun h => h (.inr rfl)) (hc.at hk2 fun h => h (.inl rfl))
      exact ⟨_, _, hr, .inr ⟨rfl, c, hIx _ _ _ _ hx (Chg.putObj _ _ _ (.inr (.inr rfl))), hl4, hk4⟩⟩
    rintro e a3 U3 hp
    cases e with
    | normal =>
      obtain ⟨hc, hi3⟩ := hp
      obtain ⟨hr, hl4, hk4⟩ := fin none U3 (hc.at hl2 fun h => h (.inr (.inr rfl))) (hc.at hk2 fun h => h (.inr (.inl rfl)))
      have yD : ¬ Y (w.heap.size + 1) := fun h => by have := hY _ h; omega
      exact ⟨_, _, hr, .inl ⟨rfl, ⟨hI _ _ _ hi3 (Chg.putObj _ _ _ (.inr (.inr rfl))), hl4, hk4⟩,
        (((c1.trans (c2 yD)).trans (hc.mono fun k hk hy => hk (.inl hy))).trans (Chg.putObj _ _ _ yD))⟩⟩
    | ret => exact stop .ret U3 hp.1 hp.2
    | exit id => exact stop (.exit id) U3 hp.1 hp.2
    | goto t => exact stop (.goto t) U3 hp.1 hp.2
    | panic ch => exact hp.elim
    | outgrown => exact hp.elim
  · rintro e W2 ⟨⟨v, rfl⟩, (⟨hi, hl, hk⟩ | ⟨pre, hpre, c, hi, hl, hk⟩)⟩
    · have hlt := (Array.getElem?_eq_some_iff.1 hl).1
      exact ⟨none, _, by have := run_endLoop (P := P) hl (by rw [hrec]; simp); rw [hrec] at this; exact this, hdone _ (by simp; omega) (hI _ _ _ hi (Chg.putObj _ _ _ (.inr (.inr rfl)))) ((World.putObj_heap_other (by omega)).trans hk)⟩
    · have hlt := (Array.getElem?_eq_some_iff.1 hl).1
      exact ⟨some c, _, by have := run_endLoop (P := P) hl (by rw [hrec]; simp); rw [hrec] at this; exact this, hstop c pre _ (by simp; omega) hpre (hIx _ _ _ _ hi (Chg.putObj _ _ _ (.inr (.inr rfl)))) ((World.putObj_heap_other (by omega)).trans hk)⟩

/-- .. a function that is walked with no fence -/
theorem wp_range {g : Operand} {ps : Array Tmp} {assign body : Code} {Q : Exit → Act → World → Prop} {a : Act} {w : World} {D : Nat} (hD : w.heap.size = D)
    {gf : Nat} {lb : Array Value} (hg : a.eval g = .func (.func gf) #[] lb) (eg : ∀ args w, (callFunc gf args).run P w = .ok (.enter gf args) w)
    {X Y : Nat → Prop} {El : α → Array Value → World → Prop} {out : List α} (hX : ∀ k, X k → k < D) (hY : ∀ k, Y k → k < D)
    (hseq : ∀ W, Below D w W → IterC Fence.wide 2 P gf lb X Y El out W) (hps : ∀ x vs U, El x vs U → vs.size = ps.size)
    (hEl : ∀ x vs U U', El x vs U → Chg (fun k => k = D ∨ k = D + 1) U U' → El x vs U')
    (I : List α → World → Prop) (Ix : Code → List α → World → Prop)
    (hI : ∀ pre U U', I pre U → Chg (fun k => X k ∨ k = D ∨ k = D + 1) U U' → I pre U')
    (hIx : ∀ c pre U U', Ix c pre U → Chg (fun k => X k ∨ k = D ∨ k = D + 1) U U' → Ix c pre U') (h0 : I [] w)
    (hround : ∀ (l : Nat) (pre : List α) (x : α) (vs : Array Value) (U : World), I pre U → El x vs U → pre ++ [x] <+: out →
      assign.wpIn (Fence.wide.inRound l) 1 P (Exit.then (fun a' U1 => Below U.heap.size U U1 ∧ ∀ U2, D + 2 ≤ U2.heap.size → I pre U2 → El x vs U2 → Chg (fun k => k = D ∨ k = D + 1) U1 U2 →
        body.wpIn (Fence.wide.inRound l) 1 P (rangeEnd D Y I Ix (pre ++ [x]) U2) a' U2) (fun _ _ _ => False)) { tmps := (ps.zip vs).foldl (fun t (p, v) => t.setIfInBounds p v) a.tmps, defers := [] } U)
    (hdone : ∀ W, D + 2 ≤ W.heap.size → I out W → W.heap[D]? = some (.deferred (some [])) → Q .normal { a with defers := { target := .collected D, args := #[] } :: a.defers } W)
    (hstop : ∀ c pre W, D + 2 ≤ W.heap.size → pre <+: out → Ix c pre W → W.heap[D]? = some (.deferred (some [])) → c.wp P Q { a with defers := { target := .collected D, args := #[] } :: a.defers } W) :
    (Code.rangeFunc g ps assign body).wp P Q a w := by
  subst hD
  exact (wpIn_wide (n := 3)).1 (wpIn_range rfl (by decide) hg trivial eg hX hY hseq hps hEl I Ix hI hIx h0 hround hdone fun c pre W h1 h2 h3 h4 => wpIn_wide.2 (hstop c pre W h1 h2 h3 h4))
end
end Go.Proofs.Ytdebgkjekcppmaa
namespace Go.Proofs.Ytdebgkjekcppmaa
open Go.RowKit

/-- a word, as a value holds it -/
def U (x : UInt32) : Int := (x.toNat : Int)
theorem U_nat (x : UInt32) : U x = (x.toNat : Int) := rfl
theorem U_lt (x : UInt32) : x.toNat < 4294967296 := x.toNat_lt
@[go_sem] theorem U_xor (a b : UInt32) : bits .xor .u32 (U a) (U b) = U (a ^^^ b) := by
  rw [U_nat, U_nat, u32_xor_nat _ _ (U_lt a) (U_lt b), U_nat, UInt32.toNat_xor]
@[go_sem] theorem U_and (a b : UInt32) : bits .and .u32 (U a) (U b) = U (a &&& b) := by
  rw [U_nat, U_nat, u32_and_nat _ _ (U_lt a) (U_lt b), U_nat, UInt32.toNat_and]
@[go_sem] theorem U_or (a b : UInt32) : bits .or .u32 (U a) (U b) = U (a ||| b) := by
  rw [U_nat, U_nat, u32_or_nat _ _ (U_lt a) (U_lt b), U_nat, UInt32.toNat_or]
theorem wrap_u32 (z : Int) : IntKind.u32.wrap z = z % (4294967296 : Int) := by
  simp [IntKind.wrap, IntKind.bits, IntKind.signed]
@[go_sem] theorem U_add (a b : UInt32) : IntKind.u32.wrap (U a + U b) = U (a + b) := by
  rw [wrap_u32, U_nat, U_nat, U_nat, UInt32.toNat_add]; omega
theorem U_shr (x : UInt32) (n : Nat) (h : n ≤ 31) : U x / 2 ^ n = U (x >>> UInt32.ofNat n) := by
  rw [U_nat, U_nat, UInt32.toNat_shiftRight, UInt32.toNat_ofNat_of_lt' (by show n < 4294967296; omega), Nat.mod_eq_of_lt (by omega), Nat.shiftRight_eq_div_pow]
  norm_cast
theorem U_shl (x : UInt32) (n : Nat) (h : n ≤ 31) : U x * 2 ^ n % 4294967296 = U (x <<< UInt32.ofNat n) := by
  rw [U_nat, U_nat, UInt32.toNat_shiftLeft, UInt32.toNat_ofNat_of_lt' (by show n < 4294967296; omega), Nat.mod_eq_of_lt (show n < 32 by omega), Nat.shiftLeft_eq]
  have e : (4294967296 : Int) = ((2 ^ 32 : Nat) : Int) := rfl
  have e2 : (2 : Int) ^ n = ((2 ^ n : Nat) : Int) := by norm_cast
  rw [e, e2, ← Int.natCast_mul, ← Int.natCast_emod]
@[go_sem] theorem U_shl24 (x : UInt32) : U x * (16777216 : Int) % (4294967296 : Int) = U (x <<< 24) := U_shl x 24 (by omega)
@[go_sem] theorem U_shl16 (x : UInt32) : U x * (65536 : Int) % (4294967296 : Int) = U (x <<< 16) := U_shl x 16 (by omega)
@[go_sem] theorem U_shl8 (x : UInt32) : U x * (256 : Int) % (4294967296 : Int) = U (x <<< 8) := U_shl x 8 (by omega)
@[go_sem] theorem U_shr3 (x : UInt32) : U x / (8 : Int) = U (x >>> 3) := U_shr x 3 (by omega)
@[go_sem] theorem U_shr10 (x : UInt32) : U x / (1024 : Int) = U (x >>> 10) := U_shr x 10 (by omega)
@[go_sem] theorem U_add' (a b : UInt32) : (U a + U b) % (4294967296 : Int) = U (a + b) := by rw [← wrap_u32, U_add]
@[go_sem] theorem U_add3 (a b c : UInt32) : (U a + U b + U c) % (4294967296 : Int) = U (a + b + c) := by
  simp only [U_nat, UInt32.toNat_add]; omega
@[go_sem] theorem U_add4 (a b c d : UInt32) : (U a + U b + U c + U d) % (4294967296 : Int) = U (a + b + c + d) := by
  simp only [U_nat, UInt32.toNat_add]; omega
@[go_sem] theorem U_add5 (a b c d e : UInt32) : (U a + U b + U c + U d + U e) % (4294967296 : Int) = U (a + b + c + d + e) := by
  simp only [U_nat, UInt32.toNat_add]; omega
@[go_sem] theorem U_byte (c : UInt8) : (c.toNat : Int) % (4294967296 : Int) = U c.toUInt32 := by
  have := c.toNat_lt
  rw [U_nat, UInt8.toNat_toUInt32]; omega
theorem wf_U (x : UInt32) : IntKind.u32.wrap (U x) = U x := by
  have := U_lt x
  rw [wrap_u32, U_nat]; omega
/-- the cells of a row of words -/
def ucells (l : List UInt32) : List Value := l.map fun x => .int .u32 (U x)
theorem ucells_length (l : List UInt32) : (ucells l).length = l.length := by simp [ucells]
theorem ucells_at (l : List UInt32) (k : Nat) (h : k < l.length) : (ucells l)[k]? = some (.int .u32 (U l[k])) := by simp [ucells, h]
theorem ucells_set (l : List UInt32) (k : Nat) (x : UInt32) : (ucells l).set k (.int .u32 (U x)) = ucells (l.set k x) := by simp [ucells, List.map_set]
theorem ucells_one (l : List UInt32) : (ucells l).toArray.all (·.oneCell') = true := by
  rw [List.all_toArray, List.all_eq_true]; intro v hv
  simp only [ucells, List.mem_map] at hv
  obtain ⟨x, _, rfl⟩ := hv; rfl

/-- block b is this row of cells, that may be written -/
def Blk (w : World) (b : Nat) (t : TypeId) (cs : List Value) : Prop := w.heap[b]? = some (.cells cs.toArray t (0, 0))
theorem Blk.lt {w : World} {b : Nat} {t : TypeId} {cs : List Value} (h : Blk w b t cs) : b < w.heap.size := by
  rcases Nat.lt_or_ge b w.heap.size with hn | hn
  · exact hn
  · simp [Blk, Array.getElem?_eq_none hn] at h
theorem Blk.cell {w : World} {b : Nat} {t : TypeId} {cs : List Value} (h : Blk w b t cs) {k : Nat} {v : Value} (hv : cs[k]? = some v) : w.cell? ⟨b, k, none⟩ = some v := by
  rw [cell_of_row w b k _ t _ h]; simpa using hv
theorem Blk.free {w : World} {b : Nat} {t : TypeId} {cs : List Value} (h : Blk w b t cs) {k : Nat} (hk : k < cs.length) : w.frozen? ⟨b, k, none⟩ = false := by
  unfold Blk at h
  simp [World.frozen?, h]
theorem Blk.set {w : World} {b : Nat} {t : TypeId} {cs : List Value} (h : Blk w b t cs) (k : Nat) (v : Value) : Blk (w.setCell ⟨b, k, none⟩ v) b t (cs.set k v) := by
  unfold Blk at h ⊢
  simp [World.setCell, Array.getElem?_modify, h]
theorem Blk.row {w : World} {b : Nat} {t : TypeId} {cs : List Value} (h : Blk w b t cs) (cs' : List Value) : Blk (w.setRow b cs'.toArray) b t cs' := by
  unfold Blk at h ⊢
  simp [World.setRow, Array.getElem?_modify, h]
theorem Blk.below {w w' : World} {b : Nat} {t : TypeId} {cs : List Value} (h : Blk w b t cs) (hB : Below w.heap.size w w') : Blk w' b t cs := by
  unfold Blk; rw [hB.block b h.lt]; exact h
theorem Blk.chg {X : Nat → Prop} {w w' : World} {b : Nat} {t : TypeId} {cs : List Value} (h : Blk w b t cs) (hB : Chg X w w') (hX : ¬ X b) : Blk w' b t cs := hB.at h hX
theorem Blk.new (w : World) (cs : List Value) (t : TypeId) : Blk (w.alloc (.cells cs.toArray t)) w.heap.size t cs := by
  exact heap_alloc_last w _
theorem Blk.range {w : World} {b : Nat} {t : TypeId} {cs : List Value} (h : Blk w b t cs) : w.rangeAt b 0 cs := fun j v hv => by rw [Nat.zero_add]; exact h.cell hv
theorem heap_setRow_ne (w : World) (b : Nat) (cs : Array Value) (k : Nat) (h : k ≠ b) : (w.setRow b cs).heap[k]? = w.heap[k]? := by
  unfold World.setRow
  rw [Array.getElem?_modify, if_neg (fun e => h e.symm)]
theorem setRow_size (w : World) (b : Nat) (cs : Array Value) : (w.setRow b cs).heap.size = w.heap.size := by simp [World.setRow]
theorem below_setRow {B : Nat} {a w : World} (h : Below B a w) {b : Nat} (hb : B ≤ b) (cs : Array Value) : Below B a (w.setRow b cs) :=
  ⟨h.os, h.tape, h.output, by rw [setRow_size]; exact h.size, fun k hk => by rw [heap_setRow_ne w b cs k (by omega)]; exact h.block k hk⟩
theorem chg_setRow {X : Nat → Prop} (w : World) (b : Nat) (cs : Array Value) (hX : X b) : Chg X w (w.setRow b cs) :=
  ⟨rfl, rfl, rfl, by rw [setRow_size]; exact Nat.le_refl _, fun k _ hn => heap_setRow_ne w b cs k fun e => hn (e ▸ hX)⟩

section
variable {P : Program} {ops : Array Oper} {rest : List Oper} {op : Oper} {a : Act} {w : World} {Q : Exit → Act → World → Prop}
/-- a whole block is read -/
theorem blk_load (b : Nat) (cs : List Value) {t : TypeId} (h : Blk w b t cs) (d : TypeDesc) (hgd : op.guard = none) (ty : TypeId) (x : Operand) (ho : op.op = .load ty x) (hx : a.eval x = .pointer (some ⟨b, 0, none⟩))
    (hu : P.underlying ty = some d) (hd : (match d with | .struct _ | .array _ _ => true | _ => false) = true) (hi : (P.info? ty).map (·.size) = some cs.length)
    (k : wpList P ops Q rest (a.put op.dst (.agg cs.toArray)) w) : wpList P ops Q (op :: rest) a w :=
  wpList_plain hgd fun _ hK => wp_load_row ty x ho b hx t cs.toArray (0, 0) d h hu hd (by simpa using hi) (hK _ _ k)
/-- a whole block is written -/
theorem blk_store (b : Nat) (cs cs' : List Value) {t : TypeId} (h : Blk w b t cs) (hgd : op.guard = none) (ty : TypeId) (x y : Operand) (ho : op.op = .store ty x y) (hx : a.eval x = .pointer (some ⟨b, 0, none⟩))
    (hy : a.eval y = .agg cs'.toArray) (hi : (P.info? ty).map (·.size) = some cs'.length) (hl : cs.length = cs'.length) (h1 : cs'.toArray.all (·.oneCell') = true)
    (k : wpList P ops Q rest (a.put op.dst undef) (w.setRow b cs'.toArray)) : wpList P ops Q (op :: rest) a w :=
  wpList_plain hgd fun _ hK => wp_store_row ty x y ho b cs'.toArray hx hy t cs.toArray h (by simpa using hi) (by simpa using hl) h1 (hK _ _ k)
/-- a literal, as it is built -/
theorem blk_build (cs' : List Value) (hgd : op.guard = none) (t : TypeId) (parts : Array (Nat × Operand)) (ho : op.op = .build t parts)
    (hb : P.built t (parts.map fun (i, x) => (i, a.eval x)).toList = some cs'.toArray)
    (k : wpList P ops Q rest (a.put op.dst (.agg cs'.toArray)) w) : wpList P ops Q (op :: rest) a w :=
  wpList_build hgd t parts ho (by rw [hb]; rfl) (by rw [hb]; exact k)
/-- a result that lies in a block -/
theorem blk_result {fn : Func} {p : Tmp} {ty t : TypeId} {tmps : Array Value} {cs : List Value} {b : Nat} (hr : fn.results = #[.cell p ty]) (hp : tmps.getD p undef = .pointer (some ⟨b, 0, none⟩)) (h : Blk w b t cs) (d : TypeDesc)
    (hu : P.underlying ty = some d) (hd : (match d with | .struct _ | .array _ _ => true | _ => false) = true) (hi : (P.info? ty).map (·.size) = some cs.length) : (results fn tmps).run P w = .ok (.agg cs.toArray) w := by
  have := run_loadVar_row w b t ty cs.toArray (0, 0) d h hu hd (by simpa using hi)
  simp only [Array.getD_eq_getD_getElem?] at hp
  simp [results, hr, Sem.run_bind, Result.andThen, hp, asAddr, this]
end
end Go.Proofs.Ytdebgkjekcppmaa
namespace Go.Proofs.Ytdebgkjekcppmaa
open Go.RowKit

def rotr (x : UInt32) (n : Nat) : UInt32 := (x >>> UInt32.ofNat n) ||| (x <<< UInt32.ofNat (32 - n))
def byteAt (b : List UInt8) (k : Nat) : UInt32 := (b.getD k 0).toUInt32
def be32 (b : List UInt8) (k : Nat) : UInt32 := ((byteAt b k <<< 24 ||| byteAt b (k + 1) <<< 16) ||| byteAt b (k + 2) <<< 8) ||| byteAt b (k + 3)
def sg0 (x : UInt32) : UInt32 := rotr x 7 ^^^ rotr x 18 ^^^ (x >>> 3)
def sg1 (x : UInt32) : UInt32 := rotr x 17 ^^^ rotr x 19 ^^^ (x >>> 10)
def wnext (b : List UInt8) (l : List UInt32) : UInt32 :=
  if l.length < 16 then be32 b (4 * l.length)
  else l.getD (l.length - 16) 0 + sg0 (l.getD (l.length - 15) 0) + l.getD (l.length - 7) 0 + sg1 (l.getD (l.length - 2) 0)
def wl (b : List UInt8) : Nat → List UInt32
  | 0 => []
  | t + 1 => wl b t ++ [wnext b (wl b t)]
theorem wl_length (b : List UInt8) (t : Nat) : (wl b t).length = t := by induction t with | zero => rfl | succ t ih => simp [wl, ih]
/-- .. the row while it is filled -/
def wrow (b : List UInt8) (t : Nat) : List UInt32 := wl b t ++ List.replicate (64 - t) 0
theorem wrow_length (b : List UInt8) (t : Nat) (h : t ≤ 64) : (wrow b t).length = 64 := by simp [wrow, wl_length]; omega
theorem wrow_set (b : List UInt8) (t : Nat) (h : t < 64) : (wrow b t).set t (wnext b (wl b t)) = wrow b (t + 1) := by
  have e : 64 - t = (64 - (t + 1)) + 1 := by omega
  have e2 : wl b (t + 1) = wl b t ++ [wnext b (wl b t)] := rfl
  unfold wrow
  rw [e2, List.set_append_right _ _ (by rw [wl_length]; exact Nat.le_refl _), wl_length, Nat.sub_self, e, List.replicate_succ, List.set_cons_zero]
  simp only [List.append_assoc, List.singleton_append]
theorem wrow_end (b : List UInt8) : wrow b 64 = wl b 64 := by simp [wrow]
theorem wrow_at (b : List UInt8) (t k : Nat) (h : k < t) (h' : t ≤ 64) : (ucells (wrow b t))[k]? = some (.int .u32 (U ((wl b t).getD k 0))) := by
  have hl : k < (wl b t).length := by rw [wl_length]; exact h
  have hx : k < (wrow b t).length := by rw [wrow_length b t h']; omega
  rw [ucells_at _ _ hx]
  have : (wrow b t)[k] = (wl b t).getD k 0 := by
    simp only [wrow, List.getElem_append_left hl, List.getD_eq_getElem?_getD, List.getElem?_eq_getElem hl, Option.getD_some]
  rw [this]
theorem wnext_low (b : List UInt8) (t : Nat) (h : t < 16) : wnext b (wl b t) = be32 b (4 * t) := by rw [wnext, wl_length, if_pos h]
theorem wnext_high (b : List UInt8) (t : Nat) (h : 16 ≤ t) : wnext b (wl b t) = (wl b t).getD (t - 16) 0 + sg0 ((wl b t).getD (t - 15) 0) + (wl b t).getD (t - 7) 0 + sg1 ((wl b t).getD (t - 2) 0) := by rw [wnext, wl_length, if_neg (by omega)]
theorem byteAt_get (b : List UInt8) (k : Nat) (h : k < b.length) : b[k].toUInt32 = byteAt b k := by
  simp [byteAt, List.getD_eq_getElem?_getD, h]
theorem be32_get (b : List UInt8) (k : Nat) (h0 : k < b.length) (h1 : k + 1 < b.length) (h2 : k + 2 < b.length) (h3 : k + 3 < b.length) :
    ((b[k].toUInt32 <<< 24 ||| b[k + 1].toUInt32 <<< 16) ||| b[k + 2].toUInt32 <<< 8) ||| b[k + 3].toUInt32 = be32 b k := by
  rw [byteAt_get, byteAt_get, byteAt_get, byteAt_get]; rfl
theorem Blk.ex {w : World} {b : Nat} {t : TypeId} {cs : List Value} (h : Blk w b t cs) {k : Nat} (hk : k < cs.length) : ∃ u, w.cell? ⟨b, k, none⟩ = some u := ⟨_, h.cell (List.getElem?_eq_getElem hk)⟩
/-- a load out of a block that is known -/
theorem Blk.got {w w' : World} {b : Nat} {t : TypeId} {cs : List Value} (h : Blk w b t cs) (hB : Below w.heap.size w w') {k : Nat} {v : Value} (hv : cs[k]? = some v) : w'.cell? ⟨b, k, none⟩ = some v := (h.below hB).cell hv
end Go.Proofs.Ytdebgkjekcppmaa
namespace Go.Proofs.Ytdebgkjekcppmaa
open Go.RowKit

section
variable {P : Program} {ops : Array Oper} {md : Region.Mode} {C : World → Prop} {R : World → World → Prop}

/-- what is known of a slot's value, whatever the order -/
structure Known (R : World → World → Prop) where
  α : Type
  val : α → Value
  fact : α → Option (World → Prop)
  stable : ∀ x φ, fact x = some φ → ∀ w w', φ w → R w w' → φ w'
def Known.exact (R : World → World → Prop) (v : Value) : Known R := ⟨Unit, fun _ => v, fun _ => none, fun _ _ h => by cases h⟩

abbrev Facts := (Oper × (World → Prop)) → Prop
def Facts.none : Facts := fun _ => False
def Facts.add (o : Oper) (φ : Option (World → Prop)) (S : Facts) : Facts := fun q => (∃ ψ, φ = some ψ ∧ q = (o, ψ)) ∨ S q
def Facts.all (S : Facts) (w : World) : Prop := ∀ p, S p → p.2 w
/-- the facts that an operation may lean on: of those slots that it waits for -/
def Facts.at (S : Facts) (ops : Array Oper) (o : Oper) (w : World) : Prop := ∀ p, S p → p.1.apart ops o = false → p.2 w
def Facts.kept (R : World → World → Prop) (S : Facts) : Prop := ∀ p, S p → ∀ w w', p.2 w → R w w' → p.2 w'

theorem Facts.add_none (o : Oper) (S : Facts) : S.add o Option.none = S := by
  funext q; simp [Facts.add]
theorem Facts.add_comm (o o' : Oper) (φ φ' : Option (World → Prop)) (S : Facts) : (S.add o φ).add o' φ' = (S.add o' φ').add o φ := by
  funext q; simp only [Facts.add, eq_iff_iff]; grind
theorem Facts.all_add {S : Facts} {o : Oper} {φ : Option (World → Prop)} {w : World} : (S.add o φ).all w ↔ (∀ ψ, φ = some ψ → ψ w) ∧ S.all w := by
  constructor
  · intro h; exact ⟨fun ψ hψ => h (o, ψ) (.inl ⟨ψ, hψ, rfl⟩), fun p hp => h p (.inr hp)⟩
  · rintro ⟨h1, h2⟩ p (⟨ψ, hψ, rfl⟩ | hp)
    · exact h1 ψ hψ
    · exact h2 p hp
theorem Facts.all_some {S : Facts} {o : Oper} {φ : World → Prop} {w : World} : (S.add o (some φ)).all w ↔ φ w ∧ S.all w := by
  rw [Facts.all_add]; simp
theorem Facts.all_none {w : World} : Facts.none.all w ↔ True := by simp [Facts.all, Facts.none]
theorem Facts.at_some {S : Facts} {o o' : Oper} {φ : World → Prop} {w : World} (h : (S.add o (some φ)).at ops o' w) : (o.apart ops o' = false → φ w) ∧ S.at ops o' w :=
  ⟨fun ha => h (o, φ) (.inl ⟨φ, rfl, rfl⟩) ha, fun p hp => h p (.inr hp)⟩
theorem Facts.at_of_all {S : Facts} {o : Oper} {w : World} (h : S.all w) : S.at ops o w := fun p hp _ => h p hp
theorem Facts.kept_add {S : Facts} (h : S.kept R) (o : Oper) (g : Known R) (x : g.α) : (S.add o (g.fact x)).kept R := by
  rintro p (⟨ψ, hψ, rfl⟩ | hp)
  · exact g.stable x ψ hψ
  · exact h p hp
theorem Facts.all_kept {S : Facts} (h : S.kept R) {w w' : World} (ha : S.all w) (hR : R w w') : S.all w' := fun p hp => h p hp w w' (ha p hp) hR

def growUpon (P : Program) (w : World) (G : Value → World → Prop) : Result Next → Prop
  | .ok (.value u) w' => G u w'
  | .ok .skip w' => G undef w'
  | .ok (.enter f args) w' => w' = w ∧ Calls P f args w fun e w'' => ∃ u, e = .returned u ∧ G u w''
  | _ => False
def growAt (P : Program) (o : Oper) (a : Act) (w : World) (G : Value → World → Prop) : Prop := growUpon P w G ((execOp a.eval o).run P w)
def readUpon (w : World) (v : Value) : Result Next → Prop
  | .ok (.value u) w' => w' = w ∧ u = v
  | .ok .skip w' => w' = w ∧ v = undef
  | _ => False
def readAt (P : Program) (o : Oper) (a : Act) (w : World) (v : Value) : Prop := readUpon w v ((execOp a.eval o).run P w)

/-- what operation 'i' yields in state 'a' -/
def okFor (P : Program) (ops : Array Oper) (C : World → Prop) (R : World → World → Prop) (F : Nat → Option (Known R)) (i : Nat) (o : Oper) (S : Facts) (a : Act) (g : Known R) : Prop :=
  if Region.wanted o (yielded ops a.tmps) = true then
    match F i with
    | none => ∃ v, g = .exact R v ∧ ∀ w, C w → S.at ops o w → readAt P o a w v
    | some g' => g = g' ∧ ∀ w, C w → S.at ops o w → growAt P o a w fun u w' => R w w' ∧ ∃ x, u = g'.val x ∧ ∀ φ, g'.fact x = some φ → φ w'
  else g = .exact R undef

def gOp (P : Program) (ops : Array Oper) (C : World → Prop) (R : World → World → Prop) (F : Nat → Option (Known R)) (i : Nat) (K : Facts → Act → Prop) (S : Facts) (a : Act) : Prop :=
  match ops[i]? with
  | none => K S a
  | some o => ∃ g, okFor P ops C R F i o S a g ∧ ∀ x, K (S.add o (g.fact x)) (a.put o.dst (g.val x))

def Inh (C : World → Prop) (S : Facts) : Prop := ∃ w, C w ∧ S.all w

def wpAnyG (P : Program) (md : Region.Mode) (ops : Array Oper) (C : World → Prop) (R : World → World → Prop) (F : Nat → Option (Known R)) (Q : Array Bool → Facts → Act → Prop) : Nat → Array Bool → Facts → Act → Prop
  | 0, listed, S, a => Inh C S → Q listed S a
  | fuel + 1, listed, S, a => Inh C S →
    Region.ready md ops listed ≠ [] ∧
    ∀ i ∈ Region.ready md ops listed, gOp P ops C R F i (wpAnyG P md ops C R F Q fuel (listed.setIfInBounds i true)) S a

variable {F : Nat → Option (Known R)} {Q : Array Bool → Facts → Act → Prop}

theorem wpAnyG_inh {n : Nat} {listed : Array Bool} {S : Facts} {a : Act} (h : Inh C S → wpAnyG P md ops C R F Q n listed S a) : wpAnyG P md ops C R F Q n listed S a := by
  cases n <;> exact fun hi => h hi hi

/-- what an operation may come to, and where it goes on -/
theorem grow_on {i : Nat} {o : Oper} {S : Facts} {a : Act} {w : World} {g : Known R} {K : Facts → Act → Prop} {N : Act → World → Prop} (hCR : ∀ w w', C w → R w w' → C w') (hk : S.kept R) (hw : C w) (hS : S.all w)
    (hwant : Region.wanted o (yielded ops a.tmps) = true) (hok : okFor P ops C R F i o S a g) (hK : ∀ x, K (S.add o (g.fact x)) (a.put o.dst (g.val x)))
    (hN : ∀ S' a' w', S'.kept R → C w' → S'.all w' → K S' a' → N a' w') :
    growAt P o a w fun u w' => N (a.put o.dst u) w' := by
  unfold okFor at hok
  rw [if_pos hwant] at hok
  cases hF : F i with
  | none =>
    simp only [hF] at hok
    obtain ⟨v, rfl, hr⟩ := hok
    have hr := hr w hw (Facts.at_of_all hS)
    have hK := hK ()
    simp only [Known.exact, Facts.add_none] at hK
    unfold readAt at hr
    unfold growAt
    generalize (execOp a.eval o).run P w = r at *
    cases r with
    | ok n w' =>
      cases n <;> simp only [readUpon] at hr <;> simp only [growUpon]
      case value u => obtain ⟨rfl, rfl⟩ := hr; exact hN S _ _ hk hw hS hK
      case skip => obtain ⟨rfl, rfl⟩ := hr; exact hN S _ _ hk hw hS hK
    | halt x w' => simp only [readUpon] at hr
  | some g' =>
    simp only [hF] at hok
    obtain ⟨rfl, hr⟩ := hok
    have hr := hr w hw (Facts.at_of_all hS)
    have on : ∀ u w', (R w w' ∧ ∃ x, u = g.val x ∧ ∀ φ, g.fact x = some φ → φ w') → N (a.put o.dst u) w' := by
      rintro u w' ⟨hR, x, rfl, hx⟩
      exact hN _ _ _ (Facts.kept_add hk o g x) (hCR _ _ hw hR) (Facts.all_add.2 ⟨hx, Facts.all_kept hk hS hR⟩) (hK x)
    unfold growAt at hr ⊢
    generalize (execOp a.eval o).run P w = r at *
    cases r with
    | ok n w' =>
      cases n <;> simp only [growUpon] at hr ⊢
      case value u => exact on _ _ hr
      case skip => exact on _ _ hr
      case enter f args =>
        obtain ⟨rfl, hc⟩ := hr
        exact ⟨rfl, hc.mono fun e w'' ⟨u, he, hG⟩ => ⟨u, he, on _ _ hG⟩⟩
    | halt x w' => simp only [growUpon] at hr
theorem wp_of_grow {o : Oper} {a : Act} {w : World} {N : Act → World → Prop} {Q' : Exit → Act → World → Prop} (h : growAt P o a w fun u w' => N (a.put o.dst u) w') : o.wp P a w N Q' := by
  unfold growAt at h
  unfold Oper.wp
  generalize (execOp a.eval o).run P w = r at *
  cases r with
  | ok n w' =>
    cases n <;> simp only [growUpon] at h <;> simp only [Oper.upon]
    case value u => exact h
    case skip => exact h
    case enter f args =>
      obtain ⟨rfl, hc⟩ := h
      refine hc.mono fun e w'' ⟨u, he, hG⟩ => ?_
      subst he
      exact hG
  | halt x w' => simp only [growUpon] at h
def noDefer (o : Oper) : Bool := match o.op with | .defer _ => false | _ => true
theorem wpIn_of_grow {l n : Nat} {o : Oper} {a : Act} {w : World} {N : Act → World → Prop} {Q' : Exit → Act → World → Prop} (hd : noDefer o = true) (h : growAt P o a w fun u w' => N (a.put o.dst u) w') : o.wpIn (Fence.wide.inRound l) n P a w N Q' := by
  refine ⟨fun _ _ => trivial, ?_⟩
  rw [Oper.semAt_eq _ _ _ (fun c hc => by unfold noDefer at hd; rw [hc] at hd; cases hd)]
  unfold growAt at h
  generalize (execOp a.eval o).run P w = r at *
  cases r with
  | ok m w' =>
    cases m <;> simp only [growUpon] at h <;> simp only [Oper.uponIn]
    case value u => exact h
    case skip => exact h
    case enter f args =>
      obtain ⟨rfl, hc⟩ := h
      refine ⟨fun hx => (by cases hx), ?_⟩
      show CallsIn Fence.wide (n - 1) P f args w' _
      refine callsIn_wide.2 (hc.mono fun e w'' ⟨u, he, hG⟩ => ?_)
      subst he
      exact hG
  | halt x w' => simp only [growUpon] at h

theorem ready_fuel {listed : Array Bool} {X : Prop} (h : Region.ready md ops listed ≠ []) : Region.ready md ops listed = [] → X := fun e => absurd e h

theorem wpAny_of_G {Q' : Exit → Act → World → Prop} (hCR : ∀ w w', C w → R w w' → C w') (rest : Nat) (hQ : ∀ listed S a w, C w → S.all w → Q listed S a → wpAny P md ops Q' rest listed a w) :
    ∀ (fuel : Nat) (listed : Array Bool) (S : Facts) (a : Act) (w : World), S.kept R → C w → S.all w → wpAnyG P md ops C R F Q fuel listed S a → wpAny P md ops Q' (fuel + rest) listed a w
  | 0, _, _, _, w, _, hw, hS, h => by rw [Nat.zero_add]; exact hQ _ _ _ _ hw hS (h ⟨w, hw, hS⟩)
  | fuel + 1, listed, S, a, w, hk, hw, hS, h => by
    have h := h ⟨w, hw, hS⟩
    rw [show fuel + 1 + rest = (fuel + rest) + 1 by omega]
    refine ⟨ready_fuel h.1, fun i hi => ?_⟩
    have h2 := h.2 i hi
    unfold gOp at h2
    unfold wpOp
    cases ho : ops[i]? with
    | none => simp only [ho] at h2 ⊢; exact wpAny_of_G hCR rest hQ fuel _ S a w hk hw hS h2
    | some o =>
      simp only [ho] at h2 ⊢
      obtain ⟨g, hok, hK⟩ := h2
      by_cases hwant : Region.wanted o (yielded ops a.tmps) = true
      · rw [if_pos hwant]
        exact .inl (wp_of_grow (grow_on hCR hk hw hS hwant hok hK fun S' a' w' hk' hw' hS' hA => wpAny_of_G hCR rest hQ fuel _ S' a' w' hk' hw' hS' hA))
      · unfold okFor at hok
        rw [if_neg hwant] at hok ⊢
        subst hok
        have hK := hK ()
        simp only [Known.exact, Facts.add_none] at hK
        exact wpAny_of_G hCR rest hQ fuel _ S _ w hk hw hS hK
theorem wpAnyIn_of_G {l n : Nat} {Q' : Exit → Act → World → Prop} (hd : ∀ (j : Nat) (o : Oper), ops[j]? = some o → noDefer o = true) (hCR : ∀ w w', C w → R w w' → C w') (rest : Nat) (hQ : ∀ listed S a w, C w → S.all w → Q listed S a → wpAnyIn (Fence.wide.inRound l) n P md ops Q' rest listed a w) :
    ∀ (fuel : Nat) (listed : Array Bool) (S : Facts) (a : Act) (w : World), S.kept R → C w → S.all w → wpAnyG P md ops C R F Q fuel listed S a → wpAnyIn (Fence.wide.inRound l) n P md ops Q' (fuel + rest) listed a w
  | 0, _, _, _, w, _, hw, hS, h => by rw [Nat.zero_add]; exact hQ _ _ _ _ hw hS (h ⟨w, hw, hS⟩)
  | fuel + 1, listed, S, a, w, hk, hw, hS, h => by
    have h := h ⟨w, hw, hS⟩
    rw [show fuel + 1 + rest = (fuel + rest) + 1 by omega]
    refine ⟨ready_fuel h.1, fun i hi => ?_⟩
    have h2 := h.2 i hi
    unfold gOp at h2
    unfold wpOpIn
    cases ho : ops[i]? with
    | none => simp only [ho] at h2 ⊢; exact wpAnyIn_of_G hd hCR rest hQ fuel _ S a w hk hw hS h2
    | some o =>
      simp only [ho] at h2 ⊢
      obtain ⟨g, hok, hK⟩ := h2
      by_cases hwant : Region.wanted o (yielded ops a.tmps) = true
      · rw [if_pos hwant]
        exact wpIn_of_grow (hd i o ho) (grow_on hCR hk hw hS hwant hok hK fun S' a' w' hk' hw' hS' hA => wpAnyIn_of_G hd hCR rest hQ fuel _ S' a' w' hk' hw' hS' hA)
      · unfold okFor at hok
        rw [if_neg hwant] at hok ⊢
        subst hok
        have hK := hK ()
        simp only [Known.exact, Facts.add_none] at hK
        exact ⟨fun _ _ => trivial, wpAnyIn_of_G hd hCR rest hQ fuel _ S _ w hk hw hS hK⟩

/-- an operation that may run has an outcome -/
theorem okFor_out (hCR : ∀ w w', C w → R w w' → C w') {i : Nat} {o : Oper} {S : Facts} {a : Act} {g : Known R} (hk : S.kept R) (h : okFor P ops C R F i o S a g) (hI : Inh C S) : ∃ x, Inh C (S.add o (g.fact x)) := by
  obtain ⟨w, hw, hS⟩ := hI
  unfold okFor at h
  by_cases hwant : Region.wanted o (yielded ops a.tmps) = true
  · rw [if_pos hwant] at h
    cases hF : F i with
    | none =>
      simp only [hF] at h
      obtain ⟨v, rfl, _⟩ := h
      exact ⟨(), w, hw, by simp only [Known.exact, Facts.add_none]; exact hS⟩
    | some g' =>
      simp only [hF] at h
      obtain ⟨rfl, hr⟩ := h
      have hr := hr w hw (Facts.at_of_all hS)
      unfold growAt at hr
      have on : ∀ u w', (R w w' ∧ ∃ x, u = g.val x ∧ ∀ φ, g.fact x = some φ → φ w') → ∃ x, Inh C (S.add o (g.fact x)) := by
        rintro u w' ⟨hR, x, rfl, hx⟩
        exact ⟨x, w', hCR _ _ hw hR, Facts.all_add.2 ⟨hx, Facts.all_kept hk hS hR⟩⟩
      generalize (execOp a.eval o).run P w = r at *
      cases r with
      | ok n w' =>
        cases n <;> simp only [growUpon] at hr
        case value u => exact on _ _ hr
        case skip => exact on _ _ hr
        case enter f args =>
          obtain ⟨rfl, hc⟩ := hr
          obtain ⟨e, w'', _, ⟨u, _, hG⟩, _⟩ := hc []
          exact on _ _ hG
      | halt x w' => simp only [growUpon] at hr
  · rw [if_neg hwant] at h
    subst h
    exact ⟨(), w, hw, by simp only [Known.exact, Facts.add_none]; exact hS⟩

theorem okFor_one {i : Nat} {o : Oper} {S : Facts} {a : Act} {g g' : Known R} (h : okFor P ops C R F i o S a g) (h' : okFor P ops C R F i o S a g') (hI : Inh C S) : g = g' := by
  obtain ⟨w, hw, hS⟩ := hI
  unfold okFor at h h'
  by_cases hwant : Region.wanted o (yielded ops a.tmps) = true
  · rw [if_pos hwant] at h h'
    cases hF : F i with
    | none =>
      simp only [hF] at h h'
      obtain ⟨v, rfl, hv⟩ := h
      obtain ⟨v', rfl, hv'⟩ := h'
      have hv := hv w hw (Facts.at_of_all hS)
      have hv' := hv' w hw (Facts.at_of_all hS)
      unfold readAt at hv hv'
      have : v = v' := by
        generalize (execOp a.eval o).run P w = r at *
        cases r with
        | ok n w' => cases n <;> simp only [readUpon] at hv hv' <;> grind
        | halt x w' => simp only [readUpon] at hv
      rw [this]
    | some q =>
      simp only [hF] at h h'
      rw [h.1, h'.1]
  · rw [if_neg hwant] at h h'
    rw [h, h']

theorem okFor_more {i : Nat} {o : Oper} {S S' : Facts} {a : Act} {g : Known R} (h : okFor P ops C R F i o S a g) (hS : ∀ p, S p → S' p) : okFor P ops C R F i o S' a g := by
  have hat : ∀ w, S'.at ops o w → S.at ops o w := fun w hw p hp => hw p (hS p hp)
  unfold okFor at *
  split
  · rename_i hwant
    rw [if_pos hwant] at h
    cases hF : F i with
    | none => simp only [hF] at h ⊢; obtain ⟨v, e, hv⟩ := h; exact ⟨v, e, fun w hw ha => hv w hw (hat w ha)⟩
    | some q => simp only [hF] at h ⊢; exact ⟨h.1, fun w hw ha => h.2 w hw (hat w ha)⟩
  · rename_i hwant
    rw [if_neg hwant] at h; exact h

/-- state and facts of an operation that stands apart make no difference -/
theorem okFor_apart {j : Nat} {oi oj : Oper} {S : Facts} {a : Act} {u : Value} {φ : Option (World → Prop)} {g : Known R} (hap : oi.apart ops oj = true) (hsj : ∀ cs b, oj.op ≠ .select cs b)
    (h : okFor P ops C R F j oj (S.add oi φ) (a.put oi.dst u) g) : okFor P ops C R F j oj S a g := by
  obtain ⟨h1, h2, h3⟩ := Oper.apart_spec hap
  have hat : ∀ w, S.at ops oj w → (S.add oi φ).at ops oj w := by
    rintro w hw p (⟨ψ, hψ, rfl⟩ | hp) hap'
    · simp only [hap] at hap'; cases hap'
    · exact hw p hp hap'
  unfold okFor growAt readAt at *
  rw [wanted_put oj a oi.dst u h1, execOp_put oj hsj a oi.dst u h1] at h
  split
  · rename_i hwant
    rw [if_pos hwant] at h
    cases hF : F j with
    | none => simp only [hF] at h ⊢; obtain ⟨v, e, hv⟩ := h; exact ⟨v, e, fun w hw ha => hv w hw (hat w ha)⟩
    | some q => simp only [hF] at h ⊢; exact ⟨h.1, fun w hw ha => h.2 w hw (hat w ha)⟩
  · rename_i hwant
    rw [if_neg hwant] at h; exact h
theorem okFor_keep {i : Nat} {oi oj : Oper} {S : Facts} {a : Act} {u : Value} {g : Known R} (hap : oi.apart ops oj = true) (hsi : ∀ cs b, oi.op ≠ .select cs b)
    (h : okFor P ops C R F i oi S a g) : okFor P ops C R F i oi S (a.put oj.dst u) g := by
  obtain ⟨h1, h2, h3⟩ := Oper.apart_spec hap
  unfold okFor growAt readAt at *
  rw [wanted_put oi a oj.dst u h3, execOp_put oi hsi a oj.dst u h3]
  exact h

theorem wpAnyG_first (hCR : ∀ w w', C w → R w w' → C w') {n i : Nat} {oi : Oper} (hi : ops[i]? = some oi) (hsel : ∀ (j : Nat) (o : Oper) cs b, ops[j]? = some o → o.op ≠ .select cs b) (hin : i < n)
    (htail : ∀ listed, HeadInv md ops n listed → ∀ i, i < n → listed.getD i true = false → ∀ j ∈ Region.ready md ops listed, j < n)
    (hdone : ∀ listed S a, Q listed S a → ∀ j ∈ Region.ready md ops listed, n ≤ j) :
    ∀ (fuel : Nat) (listed : Array Bool) (S : Facts) (a : Act) (g : Known R), S.kept R → HeadInv md ops n listed →
      (∀ j oj, ops[j]? = some oj → j ≠ i → listed.getD j true = false → (∀ e ∈ oj.after, Region.binds md e = true → e.on ≠ i) → oi.apart ops oj = true) →
      i ∈ Region.ready md ops listed → okFor P ops C R F i oi S a g →
      (∀ x, wpAnyG P md ops C R F Q fuel (listed.setIfInBounds i true) (S.add oi (g.fact x)) (a.put oi.dst (g.val x))) → wpAnyG P md ops C R F Q (fuel + 1) listed S a := by
  intro fuel
  induction fuel with
  | zero =>
    intro listed S a g hk inv _ hr hok H hI
    have hun := (mem_ready.1 hr).1
    refine ⟨fun h => (by rw [h] at hr; cases hr), fun j hj => ?_⟩
    have hjn := htail listed inv i hin hun j hj
    by_cases hji : j = i
    · subst hji; unfold gOp; simp only [hi]; exact ⟨g, hok, H⟩
    · obtain ⟨x, hx⟩ := okFor_out hCR hk hok hI
      have := hdone _ _ _ (H x hx) j (ready_mono hj hji)
      omega
  | succ fuel ih =>
    intro listed S a g hk inv hfree hr hok H hI
    have hun := (mem_ready.1 hr).1
    refine ⟨fun h => (by rw [h] at hr; cases hr), fun j hj => ?_⟩
    have hjn := htail listed inv i hin hun j hj
    by_cases hji : j = i
    · subst hji; unfold gOp; simp only [hi]; exact ⟨g, hok, H⟩
    · obtain ⟨hjun, oj, hoj, hall⟩ := mem_ready.1 hj
      have hnot : ∀ e ∈ oj.after, Region.binds md e = true → e.on ≠ i := fun e he hb heq => by
        have h1 := hall e he hb
        rw [heq, getD_both hun] at h1
        cases h1
      have hap := hfree j oj hoj hji hjun hnot
      have hsi : ∀ cs b, oi.op ≠ .select cs b := fun cs b => hsel i oi cs b hi
      have hsj : ∀ cs b, oj.op ≠ .select cs b := fun cs b => hsel j oj cs b hoj
      have hfree' : ∀ k ok, ops[k]? = some ok → k ≠ i → (listed.setIfInBounds j true).getD k true = false →
          (∀ e ∈ ok.after, Region.binds md e = true → e.on ≠ i) → oi.apart ops ok = true := fun k ok hk hki hun hno => by
        refine hfree k ok hk hki ?_ hno
        by_cases hjk : j = k
        · subst hjk; exact hjun
        · rw [getD_set_ne true hjk] at hun; exact hun
      have step : ∀ x, Inh C (S.add oi (g.fact x)) → ∃ gj, okFor P ops C R F j oj S a gj ∧ ∀ y, wpAnyG P md ops C R F Q fuel ((listed.setIfInBounds i true).setIfInBounds j true) ((S.add oi (g.fact x)).add oj (gj.fact y)) ((a.put oi.dst (g.val x)).put oj.dst (gj.val y)) := by
        intro x hx
        have h2 := (H x hx).2 j (ready_mono hj hji)
        unfold gOp at h2
        simp only [hoj] at h2
        obtain ⟨gj, hgj, hK⟩ := h2
        exact ⟨gj, okFor_apart hap hsj hgj, hK⟩
      obtain ⟨x1, hx1⟩ := okFor_out hCR hk hok hI
      obtain ⟨gj, hgj, _⟩ := step x1 hx1
      unfold gOp
      simp only [hoj]
      refine ⟨gj, hgj, fun y => ?_⟩
      refine ih (listed.setIfInBounds j true) (S.add oj (gj.fact y)) (a.put oj.dst (gj.val y)) g (Facts.kept_add hk oj gj y) (inv.set hj hjn) hfree' (ready_mono hr (Ne.symm hji))
        (okFor_keep hap hsi (okFor_more hok fun p hp => .inr hp)) fun x => wpAnyG_inh fun hI2 => ?_
      have hx : Inh C (S.add oi (g.fact x)) := by
        obtain ⟨w, hw, hS⟩ := hI2
        rw [Facts.add_comm] at hS
        exact ⟨w, hw, (Facts.all_add.1 hS).2⟩
      obtain ⟨gj', hgj', hK⟩ := step x hx
      obtain rfl := okFor_one hgj hgj' hI
      have := hK y
      rw [Facts.add_comm, Act.put_comm a _ _ (fun d hd => (Oper.apart_spec hap).2.1 d hd), Array.setIfInBounds_comm _ _ (Ne.symm hji)] at this
      exact this

/-- the lexical walk -/
def wpG (P : Program) (ops : Array Oper) (C : World → Prop) (R : World → World → Prop) (F : Nat → Option (Known R)) (Q : Facts → Act → Prop) : Nat → List Oper → Facts → Act → Prop
  | _, [], S, a => Q S a
  | k, o :: rest, S, a => if Region.wanted o (yielded ops a.tmps) = true then
      match F k with
      | none => ∃ v, (∀ w, C w → S.at ops o w → readAt P o a w v) ∧ wpG P ops C R F Q (k + 1) rest S (a.put o.dst v)
      | some g => (∀ w, C w → S.at ops o w → growAt P o a w fun u w' => R w w' ∧ ∃ x, u = g.val x ∧ ∀ φ, g.fact x = some φ → φ w') ∧ ∀ x, wpG P ops C R F Q (k + 1) rest (S.add o (g.fact x)) (a.put o.dst (g.val x))
    else wpG P ops C R F Q (k + 1) rest S (a.put o.dst undef)

theorem wpG_out {Q : Facts → Act → Prop} {k : Nat} {o : Oper} {rest : List Oper} {S : Facts} {a : Act} (h : wpG P ops C R F Q k (o :: rest) S a) :
    ∃ g, okFor P ops C R F k o S a g ∧ ∀ x, wpG P ops C R F Q (k + 1) rest (S.add o (g.fact x)) (a.put o.dst (g.val x)) := by
  unfold wpG at h
  unfold okFor
  split at h
  · rename_i hwant
    simp only [hwant, if_true]
    cases hF : F k with
    | none => simp only [hF] at h; obtain ⟨v, h1, h2⟩ := h; exact ⟨.exact R v, ⟨v, rfl, h1⟩, fun _ => by simpa only [Known.exact, Facts.add_none] using h2⟩
    | some g => simp only [hF] at h; exact ⟨g, ⟨rfl, h.1⟩, h.2⟩
  · rename_i hwant
    exact ⟨.exact R undef, by rw [if_neg hwant], fun _ => by simpa only [Known.exact, Facts.add_none] using h⟩

/-- the order of the text, up to the tail -/
theorem wpAnyG_lex {Q : Facts → Act → Prop} (hCR : ∀ w w', C w → R w w' → C w') {n g : Nat} (hs : Region.noSelect ops = true)
    (htail : ∀ listed, HeadInv md ops n listed → ∀ i, i < n → listed.getD i true = false → ∀ j ∈ Region.ready md ops listed, j < n) :
    ∀ (l : List Oper) (k : Nat) (listed : Array Bool) (S : Facts) (a : Act), S.kept R → (∀ j, j < l.length → l[j]? = ops[k + j]?) → k + l.length = n → HeadInv md ops n listed →
    Region.lexHead md ops g l.length k listed = true → wpG P ops C R F Q k l S a → wpAnyG P md ops C R F (fun listed' S' a' => Region.seqB md ops g n listed' = true ∧ Q S' a') l.length listed S a
  | [], k, listed, _, _, _, _, hk, _, hB, h => fun _ => by
    have : k = n := by simpa using hk
    subst this
    exact ⟨by simpa [Region.lexHead] using hB, h⟩
  | o :: l, k, listed, S, a, hk, hl, hkn, inv, hB, h => by
    have h0 : ops[k]? = some o := by simpa using (hl 0 (by simp)).symm
    simp only [List.length_cons, Region.lexHead, Bool.and_eq_true] at hB
    obtain ⟨⟨hr, hf⟩, hB'⟩ := hB
    have hkn' : k < n := by simp only [List.length_cons] at hkn; omega
    have hr' : k ∈ Region.ready md ops listed := by simpa using hr
    obtain ⟨gg, hg, hK⟩ := wpG_out h
    exact wpAnyG_first hCR h0 (Region.noSelect_spec hs) hkn' htail (fun listed' S' a' hL => seqB_ready hL.1) l.length listed S a gg hk inv (Region.free_spec h0 hf) hr' hg
      fun x => wpAnyG_lex hCR hs htail l (k + 1) _ _ _ (Facts.kept_add hk o gg x) (fun j hj => by have := hl (j + 1) (by simp; omega); simpa [Nat.add_assoc, Nat.add_comm 1 j] using this) (by simp only [List.length_cons] at hkn; omega) (inv.set hr' hkn') hB' (hK x)

theorem wpAnyIn_of_seq {F : Fence} {m : Nat} {Q' : Exit → Act → World → Prop} : ∀ (l : List Oper) (k : Nat) (listed : Array Bool) (a : Act) (w : World), (∀ j, l[j]? = ops[k + j]?) →
    Region.seqB md ops l.length k listed = true → wpListIn F m P ops Q' l a w → wpAnyIn F m P md ops Q' l.length listed a w
  | [], _, _, _, _, _, hB, h => ⟨by simpa [Region.seqB] using hB, h⟩
  | o :: l, k, listed, a, w, hl, hB, h => by
    have h0 : ops[k]? = some o := by simpa using (hl 0).symm
    simp only [List.length_cons, Region.seqB, Bool.and_eq_true, decide_eq_true_eq] at hB
    refine ⟨fun h1 => (by rw [hB.1] at h1; cases h1), fun i hi => ?_⟩
    rw [hB.1] at hi
    have hik : i = k := by simpa using hi
    subst hik
    have ih := fun a' w' h' => wpAnyIn_of_seq (F := F) (m := m) (Q' := Q') l (i + 1) (listed.setIfInBounds i true) a' w' (fun j => by have := hl (j + 1); simpa [Nat.add_assoc, Nat.add_comm 1 j] using this) hB.2 h'
    unfold wpOpIn
    simp only [h0]
    unfold wpListIn at h
    split
    · rename_i hw
      rw [if_pos hw] at h
      exact Oper.wpIn_mono (fun a' w' h' => ih a' w' h') h
    · rename_i hw
      rw [if_neg hw] at h
      exact ⟨h.1, ih _ _ h.2⟩

/-- what is asked of a region whose first n operations are taken in the text's order, the others one behind the other -/
def splitB (ops : Array Oper) (n : Nat) : Bool :=
  Region.noSelect ops && (decide (n = ops.size) || (decide (n < ops.size) && Region.sinkB .any ops n && Region.chainB .any ops n)) && Region.lexHead .any ops (ops.size - n) n 0 (Array.replicate ops.size false)
theorem split_tail {n : Nat} (h : splitB ops n = true) : Region.noSelect ops = true ∧ n ≤ ops.size ∧ Region.lexHead .any ops (ops.size - n) n 0 (Array.replicate ops.size false) = true ∧
    ∀ listed, HeadInv .any ops n listed → ∀ i, i < n → listed.getD i true = false → ∀ j ∈ Region.ready .any ops listed, j < n := by
  simp only [splitB, Bool.and_eq_true, Bool.or_eq_true, decide_eq_true_eq] at h
  obtain ⟨⟨hs, hn⟩, hl⟩ := h
  rcases hn with rfl | ⟨⟨hn, h1⟩, h2⟩
  · exact ⟨hs, Nat.le_refl _, hl, fun listed _ i _ _ j hj => by obtain ⟨_, o, ho, _⟩ := mem_ready.1 hj; exact (Array.getElem?_eq_some_iff.1 ho).1⟩
  · refine ⟨hs, Nat.le_of_lt hn, hl, fun listed inv i hi hun j hj => ?_⟩
    rcases Nat.lt_or_ge j n with h | h
    · exact h
    · exact absurd hj (tail_waits h1 h2 hn inv _ i rfl hi hun j h)

/-- ONE WALK OF THE TEXT'S ORDER, the tail one operation behind the other -/
theorem wp_region_grown {id : Nat} {Q : Exit → Act → World → Prop} {a : Act} {w : World} {l : List Oper} (F : Nat → Option (Known R)) (n : Nat) (hm : P.follows .mixedOrders = true) (hB : splitB l.toArray n = true)
    (hCR : ∀ w w', C w → R w w' → C w') (hC : C w.drew)
    (h : wpG P l.toArray C R F (fun S a' => ∀ w', C w' → S.all w' → wpList P l.toArray Q (l.drop n) a' w') 0 (l.take n) Facts.none a) : (Code.region id l.toArray true).wp P Q a w := by
  obtain ⟨hs, hn, hlex, htail⟩ := split_tail hB
  have hk : Facts.none.kept R := fun p hp => hp.elim
  have ha : ∀ w', Facts.none.all w' := fun w' p hp => hp.elim
  have hn' : n ≤ l.length := by simpa using hn
  have htl : (l.take n).length = n := by simp; omega
  have hdl : (l.drop n).length = l.toArray.size - n := by simp
  have inv0 : HeadInv .any l.toArray n (Array.replicate l.toArray.size false) :=
    ⟨by simp, fun j oj _ hl => (by rw [getD_replicate_false] at hl; cases hl), fun t _ ht => getD_in (by simpa using ht) (getD_replicate_false _ _)⟩
  have H := wpAnyG_lex hCR hs htail (l.take n) 0 _ Facts.none a hk (fun j hj => by
    have hj' : j < n := by rw [htl] at hj; exact hj
    simp [hj']) (by simpa using htl) inv0 (by rw [htl]; exact hlex) h
  have := wpAny_of_G (Q' := Q) hCR (l.toArray.size - n) (fun listed S a' w' hw hS hL => by
    have := wpAny_of_seq (md := .any) (Q' := Q) (l.drop n) n listed a' w' (fun j => by simp [List.getElem?_drop]) (by rw [hdl]; exact hL.1) (hL.2 w' hw hS)
    rwa [hdl] at this) _ _ _ _ _ hk hC (ha _) H
  rw [htl, show n + (l.toArray.size - n) = l.toArray.size by omega] at this
  exact wp_region_any hm this

/-- .. in a round of a range over a function -/
theorem wpIn_region_grown {id k r : Nat} {Q : Exit → Act → World → Prop} {a : Act} {w : World} {l : List Oper} (F : Nat → Option (Known R)) (n : Nat) (hm : P.follows .mixedOrders = true) (hB : splitB l.toArray n = true) (hd : l.all noDefer = true)
    (hCR : ∀ w w', C w → R w w' → C w') (hC : C w.drew)
    (h : wpG P l.toArray C R F (fun S a' => ∀ w', C w' → S.all w' → wpListIn (Fence.wide.inRound r) k P l.toArray Q (l.drop n) a' w') 0 (l.take n) Facts.none a) : (Code.region id l.toArray true).wpIn (Fence.wide.inRound r) k P Q a w := by
  obtain ⟨hs, hn, hlex, htail⟩ := split_tail hB
  have hk : Facts.none.kept R := fun p hp => hp.elim
  have ha : ∀ w', Facts.none.all w' := fun w' p hp => hp.elim
  have hn' : n ≤ l.length := by simpa using hn
  have htl : (l.take n).length = n := by simp; omega
  have hdl : (l.drop n).length = l.toArray.size - n := by simp
  have inv0 : HeadInv .any l.toArray n (Array.replicate l.toArray.size false) :=
    ⟨by simp, fun j oj _ hl => (by rw [getD_replicate_false] at hl; cases hl), fun t _ ht => getD_in (by simpa using ht) (getD_replicate_false _ _)⟩
  have H := wpAnyG_lex hCR hs htail (l.take n) 0 _ Facts.none a hk (fun j hj => by
    have hj' : j < n := by rw [htl] at hj; exact hj
    simp [hj']) (by simpa using htl) inv0 (by rw [htl]; exact hlex) h
  have := wpAnyIn_of_G (l := r) (n := k) (Q' := Q) (fun j o ho => List.all_eq_true.1 hd o (List.mem_of_getElem? (by simpa using ho))) hCR (l.toArray.size - n) (fun listed S a' w' hw hS hL => by
    have := wpAnyIn_of_seq (md := .any) (F := Fence.wide.inRound r) (m := k) (Q' := Q) (l.drop n) n listed a' w' (fun j => by simp [List.getElem?_drop]) (by rw [hdl]; exact hL.1) (hL.2 w' hw hS)
    rwa [hdl] at this) _ _ _ _ _ hk hC (ha _) H
  rw [htl, show n + (l.toArray.size - n) = l.toArray.size by omega] at this
  exact wpIn_region_any hm this
end
end Go.Proofs.Ytdebgkjekcppmaa
