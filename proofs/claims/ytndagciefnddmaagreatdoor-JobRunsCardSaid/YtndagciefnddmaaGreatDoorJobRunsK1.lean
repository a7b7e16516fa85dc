/- Lemmas for JobRuns, part 1: walks of the functions that it reaches, and the plain laws behind them. -/
import Derived.Test.YtndagciefnddmaaGreatDoorRows
import Derived.WalkKit
import Derived.WalkSpells
import Derived.WalkLawsBesides
import Derived.Lib.Strings
import Derived.Lib.Hide
import Derived.Deep.QuietTactic
import Derived.BigQuiet
import Derived.Deep.AppendLies
import Derived.Laws.AppendOwnNone
import Derived.Deep.RegionLaw
import Derived.Shelf.Strings.Builder1
import Derived.Shelf.Strings.Builder2
import Derived.Shelf.Strings.BuilderF
import Derived.Shelf.Strings.BuilderK
import Derived.Shelf.Utf8.RuneCount
import Derived.Shelf.Strconv.Itoa0
import Derived.Shelf.Strconv.Itoa1
import Derived.Shelf.LaysM
import Derived.Shelf.Strconv.Itoa2
import Derived.Shelf.Strconv.Itoa3
import Derived.Shelf.Strconv.Itoa4
import Derived.Shelf.Strconv.ParseIntEmpty
import Derived.Shelf.Strconv.Clone
import Derived.Shelf.Strconv.SyntaxError
import Derived.Shelf.LaysC
import Derived.Shelf.Strconv.ToError
import Derived.Shelf.Strconv.Lower
import Derived.Shelf.Strconv.ParseUint10
import Derived.Shelf.Strconv.ParseUint10Empty
import Derived.Shelf.Strconv.ParseUint10Any
import Derived.Shelf.Strconv.ParseInt10
import Derived.Shelf.Strconv.RangeError
import Derived.Shelf.Strconv.ToErrorRange
import Derived.Shelf.Strconv.ParseUintEmpty
import Derived.Shelf.Strconv.ParseUint10b64
import Derived.Shelf.Strconv.ParseUint10b32
import Derived.Shelf.Strconv.ParseUint10b16
import Derived.Shelf.Strconv.ParseUint10b8
import Derived.Shelf.Strconv.ParseUint10At
import Derived.Shelf.Strconv.ParseInt10At64
import Derived.Shelf.Strconv.ParseInt10At32
import Derived.Shelf.Strconv.ParseInt10At16
import Derived.Shelf.Strconv.ParseInt10At8
import Derived.Shelf.Strconv.ParseInt10All
import Derived.Shelf.Strconv.ParseIntPublic10
import Derived.Shelf.Strconv.ErrVarParseInt
import Derived.Shelf.Strings.Search1
import Derived.Shelf.Strings.Search2
import Derived.Shelf.Strings.Search3
import Derived.Shelf.Strings.Cut
import Derived.Shelf.Strings.Count
import Derived.Shelf.Strings.Shaped
import Derived.Shelf.Strings.Split
import Derived.Shelf.Strings.Replace
import Derived.Shelf.Strings.SplitShaped
import Derived.Shelf.Unicode.Decode
import Derived.Shelf.Strings.RuneCount
import Derived.Shelf.Unicode.DecodeSlow
import Derived.Shelf.Unicode.DecodeAny
import Derived.Test.YtndagciefnddmaaGreatDoorProg
import Derived.Lib.Builder
import Derived.Lib.AppendStr
import Derived.RangeFuncNested
import Derived.RangeFuncBound
import Derived.RangeFuncCalls
import Derived.RangeFuncLeaves
import Derived.Shelf.Abstract
import Derived.Laws.BitsAllLaws
import Derived.Deep.WholeRow
import Derived.Deep.MidRow
import Derived.RangeFuncBox
set_option linter.unusedSimpArgs false
set_option linter.unusedVariables false
namespace Go.Proofs.YtndagciefnddmaaGreatDoor
abbrev VI := UInt8 × UInt8
def hasArg (op : UInt8) : Bool := op == 1 || op == 2 || op == 3 || op == 17 || op == 18 || op == 22
def insOk (x : VI) : Bool := decide (1 ≤ x.1.toNat) && decide (x.1.toNat ≤ 23) && (x.2 == 0 || hasArg x.1)
def mayV (texts : List (List UInt8)) (code : List VI) : Bool := decide (texts.length ≤ 16) && decide (code.length ≤ 256) && texts.all (fun s => decide (s.length ≤ 64)) && code.all insOk
def effs : List (List UInt8 × List UInt8) :=
  [([], []), ([], [84]), ([], [78]), ([], [84]), ([84, 84], [84]), ([84], [78]), ([84, 78, 78], [84]), ([84], [78]), ([78], [84]), ([78, 78], [78]), ([78, 78], [78]), ([78, 78], [78]), ([84, 84], [78]), ([78], [78]),
   ([63], []), ([63], [49, 49]), ([63, 63], [50, 49]), ([], [82]), ([82], []), ([78], []), ([], []), ([], []), ([84], []), ([84, 84], [])]
def regV (arg : UInt8) : List UInt8 := if 4 ≤ arg.toNat then [84] else [78]
def replV (s r : List UInt8) : List UInt8 := if s = [82] then r else s
def effV (x : VI) : List UInt8 × List UInt8 := (replV (effs.getD x.1.toNat ([], [])).1 (regV x.2), replV (effs.getD x.1.toNat ([], [])).2 (regV x.2))
structure Vb where
  op : UInt8
  want : List UInt8
  opn : List UInt8
  at_ : Nat
  did : Bool
deriving DecidableEq
structure Vs where
  kinds : List UInt8
  blocks : List Vb
  seen : List (List UInt8)
  ends : List Int
  deep : Nat
deriving DecidableEq
def elseBad : Option Vb → Bool
  | none => true
  | some b => b.op != 19 || b.did
def thereV (nt inp : Nat) (role : UInt8) (blocks : List Vb) (x : VI) : Nat :=
  if (x.1 = 1 ∧ nt ≤ x.2.toNat) ∨ (x.1 = 3 ∧ inp ≤ x.2.toNat) ∨ ((x.1 = 17 ∨ x.1 = 18) ∧ 8 ≤ x.2.toNat) then 3
  else if x.1 = 23 ∧ role ≠ 1 then 133
  else if x.1 = 20 ∧ elseBad blocks.getLast? = true then 132
  else if x.1 = 21 ∧ blocks = [] then 132
  else if (x.1 = 19 ∨ x.1 = 22) ∧ 8 ≤ blocks.length then 132 else 0
def fitV : List UInt8 → List UInt8 → Bool
  | [], _ => true
  | _ :: _, [] => false
  | a :: t, b :: u => (a == 63 || a == b) && fitV t u
def givesV (top : List UInt8) (g : List UInt8) : List UInt8 := g.flatMap fun c => if c = 49 then top.take 1 else if c = 50 then (top.drop 1).take 1 else [c]
def valuesV (kinds : List UInt8) (x : VI) : Nat × List UInt8 :=
  if kinds.length < (effV x).1.length then (130, kinds)
  else if fitV (effV x).1 (kinds.drop (kinds.length - (effV x).1.length)) = false then (131, kinds)
  else if (x.1 = 22 ∧ 16 ≤ (kinds.take (kinds.length - (effV x).1.length) ++ givesV (kinds.drop (kinds.length - (effV x).1.length)) (effV x).2).length) ∨ 16 < (kinds.take (kinds.length - (effV x).1.length) ++ givesV (kinds.drop (kinds.length - (effV x).1.length)) (effV x).2).length then (130, kinds)
  else (0, kinds.take (kinds.length - (effV x).1.length) ++ givesV (kinds.drop (kinds.length - (effV x).1.length)) (effV x).2)
def turnsV (i : Nat) (x : VI) (s : Vs) : Nat × Vs :=
  if x.1 = 19 then (0, { s with blocks := s.blocks ++ [⟨19, s.kinds, s.kinds, i, false⟩] })
  else if x.1 = 22 then (0, { s with blocks := s.blocks ++ [⟨22, s.kinds, s.kinds, i, false⟩], kinds := s.kinds ++ [84] })
  else if x.1 = 20 then
    match s.blocks.getLast? with
    | none => (0, s)
    | some b => (0, { s with ends := s.ends.set b.at_ (i : Int), blocks := s.blocks.dropLast ++ [{ b with want := s.kinds, at_ := i, did := true }], kinds := b.opn })
  else if x.1 = 21 then
    match s.blocks.getLast? with
    | none => (0, s)
    | some b => if s.kinds = b.want then (0, { s with ends := s.ends.set b.at_ (i : Int), blocks := s.blocks.dropLast }) else (132, s)
  else (0, s)
def oneV (nt inp : Nat) (role : UInt8) (i : Nat) (x : VI) (s : Vs) : Nat × Vs :=
  if thereV nt inp role s.blocks x ≠ 0 then (thereV nt inp role s.blocks x, { s with seen := s.seen ++ [s.kinds] })
  else if (valuesV s.kinds x).1 ≠ 0 then ((valuesV s.kinds x).1, { s with seen := s.seen ++ [s.kinds] })
  else
    let r := turnsV i x { s with seen := s.seen ++ [s.kinds], kinds := (valuesV s.kinds x).2 }
    (r.1, { r.2 with deep := max s.deep r.2.kinds.length })
def wantV (role : UInt8) : List UInt8 := if role = 1 then [] else [84]
def overV (role : UInt8) (s : Vs) : Nat := if 0 < s.blocks.length then 132 else if s.kinds.length ≠ (wantV role).length then 130 else if s.kinds ≠ wantV role then 131 else 0
def runV (nt inp : Nat) (role : UInt8) : Nat → List VI → Vs → Nat × Nat × Vs
  | i, [], s => (i, overV role s, s)
  | i, x :: r, s => if (oneV nt inp role i x s).1 = 0 then runV nt inp role (i + 1) r (oneV nt inp role i x s).2 else (i, (oneV nt inp role i x s).1, (oneV nt inp role i x s).2)
def startV (n : Nat) : Vs := ⟨[], [], [], List.replicate n 0, 0⟩
def inputsV (role : UInt8) : Nat := if role = 1 then 1 else 2
def roleOk (role : UInt8) : Bool := decide (1 ≤ role.toNat) && decide (role.toNat ≤ 3)
def throughV (texts : List (List UInt8)) (code : List VI) (role : UInt8) : Nat × Nat × Vs :=
  if (mayV texts code && roleOk role) = true then
    if (runV texts.length (inputsV role) role 0 code (startV code.length)).2.1 = 0 then (0, 0, (runV texts.length (inputsV role) role 0 code (startV code.length)).2.2)
    else runV texts.length (inputsV role) role 0 code (startV code.length)
  else (0, 2, startV code.length)
end Go.Proofs.YtndagciefnddmaaGreatDoor
namespace Go.Proofs.YtndagciefnddmaaGreatDoor.Oct
def bs (l : List UInt8) : ByteArray := ⟨l.toArray⟩
@[simp] theorem bs_data (l : List UInt8) : (bs l).data.toList = l := by simp [bs]
@[go_sem, simp] theorem bs_size (l : List UInt8) : (bs l).size = l.length := by simp [bs, ByteArray.size]
theorem bs_of (s : ByteArray) : bs s.data.toList = s := by simp [bs]
theorem bs_append (a b : List UInt8) : bs a ++ bs b = bs (a ++ b) := by
  apply ByteArray.ext; simp [bs]
def val : List UInt8 → Nat
  | [] => 0
  | c :: l => c.toNat + 256 * val l
def num : Nat → Nat → List UInt8
  | _, 0 => []
  | v, n + 1 => UInt8.ofNat (v % 256) :: num (v / 256) n
@[go_sem, simp] theorem num_length : ∀ (n v : Nat), (num v n).length = n
  | 0, _ => rfl
  | n + 1, v => by simp [num, num_length n]
theorem num_snoc : ∀ (n v : Nat), num v (n + 1) = num v n ++ [UInt8.ofNat (v / 256 ^ n % 256)]
  | 0, v => by simp [num]
  | n + 1, v => by
    rw [num, num_snoc n (v / 256), num]
    simp [Nat.pow_succ, Nat.div_div_eq_div_mul, Nat.mul_comm]
theorem val_num : ∀ (n v : Nat), val (num v n) = v % 256 ^ n
  | 0, v => by simp [num, val, Nat.mod_one]
  | n + 1, v => by
    rw [num, val, val_num n]
    have h : (UInt8.ofNat (v % 256)).toNat = v % 256 := by simp
    rw [h, Nat.pow_succ, Nat.mul_comm (256 ^ n) 256, Nat.mod_mul]
def putOk (v n : Int) : Bool := decide (1 ≤ n ∧ n ≤ 8 ∧ v.toNat < 256 ^ n.toNat)
def putS (v n : Int) : List UInt8 × Int := if putOk v n then (num v.toNat n.toNat, 0) else ([], 2)
def getS (l : List UInt8) : Int × Int := if 1 ≤ l.length ∧ l.length ≤ 8 then ((val l : Int), 0) else (0, 2)
theorem val_append : ∀ a b : List UInt8, val (a ++ b) = val a + 256 ^ a.length * val b
  | [], b => by simp [val]
  | c :: a, b => by
    simp only [List.cons_append, val, val_append a b, List.length_cons, Nat.pow_succ]
    rw [Nat.mul_add, Nat.mul_comm (256 ^ a.length) 256, Nat.mul_assoc, Nat.add_assoc]
theorem val_take (l : List UInt8) (k : Nat) (h : k < l.length) : val (l.take (k + 1)) = val (l.take k) + l[k].toNat * 256 ^ k := by
  rw [List.take_succ_eq_append_getElem h, val_append]
  simp [val, Nat.min_eq_left (Nat.le_of_lt h), Nat.mul_comm]
theorem wrap_u64_nat (n : Nat) (h : n < 18446744073709551616) : IntKind.u64.wrap (n : Int) = n := IntWalk.u64_in _ (by omega)
theorem or_hi (x c j : Nat) (hj : j < 64) (hx : x < 2 ^ j) (h : c * 2 ^ j < 18446744073709551616) :
    bits .or .u64 (x : Int) (IntKind.u64.wrap (IntKind.u64.wrap (c : Int) * 2 ^ j)) = ((x + c * 2 ^ j : Nat) : Int) := by
  have hp : 0 < 2 ^ j := Nat.two_pow_pos j
  have hc : c ≤ c * 2 ^ j := Nat.le_mul_of_pos_right c hp
  rw [wrap_u64_nat c (by omega)]
  have e : ((c : Int) * 2 ^ j) = ((c * 2 ^ j : Nat) : Int) := by simp
  have hx' : x < 18446744073709551616 := Nat.lt_trans hx (by have := Nat.pow_lt_pow_right (a := 2) (by decide) hj; simpa using this)
  rw [e, wrap_u64_nat _ h, bits_or_u64_nat x (c * 2 ^ j) hx' h, Nat.or_comm, Nat.mul_comm c, ← Nat.two_pow_add_eq_or_of_lt hx, Nat.add_comm]
def shortF : Nat → Nat → List UInt8
  | 0, _ => []
  | f + 1, v => if v < 128 then [UInt8.ofNat v] else (UInt8.ofNat (v % 128) + 128) :: shortF f (v / 128)
def short (v : Nat) : List UInt8 := shortF 10 v
end Go.Proofs.YtndagciefnddmaaGreatDoor.Oct
namespace Go.Proofs.YtndagciefnddmaaGreatDoor
open Go.RowKit Oct
variable {P : Program}
theorem v_int {k : IntKind} {a b : Int} (h : a = b) : Value.int k a = .int k b := by rw [h]
@[go_sem] theorem bs_get (l : List UInt8) (k : Nat) (h : k < (bs l).size) : (bs l)[k]'h = l[k]'(by simpa using h) := by
  have e : (bs l)[k]'h = (bs l).data.toList[k]'(by simpa using h) := by simp; rfl
  rw [e]; simp
@[go_sem] theorem bs_extract (l : List UInt8) (a b : Nat) : (bs l).extract a b = bs ((l.drop a).take (b - a)) := by
  rw [Lib.extract_eq, bs_data]; rfl
@[go_sem] theorem take_drop_len (l : List UInt8) (n : Nat) : (l.drop n).take (l.length - n) = l.drop n := List.take_of_length_le (by simp)
@[go_sem] theorem bs_toList (l : List UInt8) : (bs l).toList = l := by rw [ByteArray.toList_eq, bs_data]
@[go_sem] theorem mk_toList (a : Array UInt8) : (ByteArray.mk a).toList = a.toList := by rw [ByteArray.toList_eq]
attribute [go_sem] bs_append
theorem Below.drewN' (w : World) (n : Nat) : Below w.heap.size w (w.drewN n) := ⟨rfl, rfl, rfl, Nat.le_refl _, fun _ _ => rfl⟩
def bcells (l : List UInt8) : List Value := l.map fun c => .int .u8 (c.toNat : Int)
theorem bcells_length (l : List UInt8) : (bcells l).length = l.length := by simp [bcells]
theorem conv_own (src dst e : TypeId) (hs : P.underlying src = some (.slice e)) (he : P.underlying e = some (.int .u8)) (hd : P.underlying dst = some .string) (w : World) (base : Nat) (v : Value) (n : Nat) (l : List UInt8)
    (h : w.ownsRow base e 1 v n (bcells l)) : (convert src dst v).run P w = .ok (.string (bs l)) w := by
  obtain ⟨h1, h2⟩ := id h
  rw [bcells_length, Nat.mul_one] at h1
  rcases h2 with ⟨rfl, h3⟩ | ⟨g, cap, cur, rfl, hg, hh, hc⟩
  · have : l = [] := List.eq_nil_of_length_eq_zero (by omega)
    subst this
    exact run_convert_bytes_nil w src e hs he 0 0 dst hd
  · subst h1
    refine run_convert_bytes_back w src dst e ⟨g, 0, none⟩ cap l hs he hd (fun j hj => ?_)
    have hx := World.ownsRow.cells h (g := g) rfl j (.int .u8 (l[j].toNat : Int)) (by simp [bcells, List.getElem?_eq_getElem hj])
    exact hx
theorem ownsRow_below {w w' : World} {base : Nat} {e : TypeId} {size : Nat} {v : Value} {n : Nat} {xs : List Value} (h : w.ownsRow base e size v n xs) (hB : Below w.heap.size w w') : w'.ownsRow base e size v n xs := by
  obtain ⟨h1, h2⟩ := h
  refine ⟨h1, ?_⟩
  rcases h2 with h2 | ⟨g, cap, cur, hv, hg, hh, r⟩
  · exact Or.inl h2
  · have hlt : g < w.heap.size := by
      rcases Nat.lt_or_ge g w.heap.size with h | h
      · exact h
      · simp [Array.getElem?_eq_none h] at hh
    exact Or.inr ⟨g, cap, cur, hv, hg, (hB.block g hlt).trans hh, r⟩
theorem bt {a b c : World} (h : Below a.heap.size a b) (k : Below b.heap.size b c) : Below a.heap.size a c := h.trans (k.mono h.size)
theorem b_alloc (w : World) (o : Obj) : Below w.heap.size w (w.alloc o) := (Below.refl _ _).alloc (Nat.le_refl _) _
theorem b_drew (w : World) : Below w.heap.size w w.drew := (Below.refl _ _).drew
theorem b_refl (w : World) : Below w.heap.size w w := Below.refl _ _
theorem owns_slice {w : World} {base : Nat} {e : TypeId} {size : Nat} {v : Value} {n : Nat} {xs : List Value} (h : w.ownsRow base e size v n xs) : ∃ a cap, v = .slice a n cap := by
  rcases h.2 with ⟨hv, h0⟩ | ⟨g, cap, cur, hv, _⟩
  · exact ⟨none, 0, by rw [hv, h0]⟩
  · exact ⟨_, _, hv⟩
theorem owns_mono {w : World} {base base' : Nat} {e : TypeId} {size : Nat} {v : Value} {n : Nat} {xs : List Value} (h : w.ownsRow base e size v n xs) (hb : base' ≤ base) : w.ownsRow base' e size v n xs := by
  obtain ⟨h1, h2⟩ := h
  refine ⟨h1, ?_⟩
  rcases h2 with h2 | ⟨g, cap, cur, hv, hg, r⟩
  · exact .inl h2
  · exact .inr ⟨g, cap, cur, hv, Nat.le_trans hb hg, r⟩
def Reads (w : World) (v : Value) (n : Nat) (xs : List Value) : Prop :=
  ∃ a cap, v = .slice a n cap ∧ (a = none → n = 0 ∧ cap = 0) ∧ ∀ j u, xs[j]? = some u → ∃ b off, a = some ⟨b, off, none⟩ ∧ w.cell? ⟨b, off + j, none⟩ = some u
theorem lt_of_cell {w : World} {a : Addr} {u : Value} (h : w.cell? a = some u) : a.block < w.heap.size := World.block_lt_of_cell? w a h
theorem Below.keeps {w w' : World} (hB : Below w.heap.size w w') {a : Addr} {u : Value} (h : w.cell? a = some u) : w'.cell? a = some u :=
  (hB.cell (p := a) (lt_of_cell h)).trans h
theorem Reads.below {w w' : World} {v : Value} {n : Nat} {xs : List Value} (h : Reads w v n xs) (hB : Below w.heap.size w w') : Reads w' v n xs := by
  obtain ⟨a, cap, hv, hn, hc⟩ := h
  exact ⟨a, cap, hv, hn, fun j u hj => by obtain ⟨b, off, ha, hu⟩ := hc j u hj; exact ⟨b, off, ha, Below.keeps hB hu⟩⟩
theorem Reads.owned {w : World} {base : Nat} {e : TypeId} {size : Nat} {v : Value} {n : Nat} {xs : List Value} (h : w.ownsRow base e size v n xs) : Reads w v n xs := by
  rcases id h.2 with ⟨hv, h0⟩ | ⟨g, cap, cur, hv, _⟩
  · refine ⟨none, 0, by rw [hv, h0], fun _ => ⟨h0, rfl⟩, fun j u hj => ?_⟩
    have := h.1
    rw [h0, Nat.zero_mul] at this
    rw [List.eq_nil_of_length_eq_zero this] at hj
    simp at hj
  · refine ⟨some ⟨g, 0, none⟩, cap, hv, (by simp), fun j u hj => ⟨g, 0, rfl, ?_⟩⟩
    have := World.ownsRow.cells h (g := g) (by rw [hv]; rfl) j u hj
    rwa [Addr.add_lit] at this
theorem Reads.nil (w : World) : Reads w (.slice none 0 0) 0 [] := ⟨none, 0, rfl, fun _ => ⟨rfl, rfl⟩, fun j u hj => by simp at hj⟩
theorem Reads.new (w : World) (xs : List Value) (n : Nat) (e : TypeId) (c : Nat) : Reads (w.alloc (.cells xs.toArray e)) (.slice (some ⟨w.heap.size, 0, none⟩) n c) n xs :=
  ⟨_, _, rfl, (by simp), fun j u hj => ⟨_, _, rfl, by rw [Nat.zero_add, World.cell?_alloc_new]; simpa using hj⟩⟩
theorem appendN {ops : Array Oper} {rest : List Oper} {o : Oper} {a : Act} {Q : Exit → Act → World → Prop} (w : World) (news : List Value) (e : TypeId) (hgd : o.guard = none) (s x : Operand) (t : TypeId)
    (ho : o.op = .call { callee := .builtin .append, args := #[s, x], argTypes := #[t, t] })
    (base : Nat) (z : Value) (size bytes : Nat) (ht : P.underlying t = some (.slice e)) (hinfo : (P.info? e).map (fun i => (i.zero, i.size, i.bytes)) = some (some z, size, bytes))
    (hzs : z.cells.size = size) (hsz : 0 < size) (v : Value) (n : Nat) (xs : List Value) (hs : a.eval s = v) (hown : w.ownsRow base e size v n xs)
    (vx : Value) (m : Nat) (hx : a.eval x = vx) (hr : Reads w vx m news) (hl : news.length = m * size) (h1 : ∀ u ∈ news, u.oneCell' = true)
    (hbytes : (n + m) * bytes ≤ 140737488355328) (hby : 0 < bytes) (hbase : base ≤ w.heap.size)
    (h : ∀ v' w', w'.ownsRow base e size v' (n + m) (xs ++ news) → Below base w w' → wpList P ops Q rest (a.put o.dst v') w') : wpList P ops Q (o :: rest) a w := by
  obtain ⟨i, hi, hz, hi1, hi2⟩ := info_parts hinfo
  have hn : n + m ≤ (n + m) * bytes := Nat.le_mul_of_pos_right _ hby
  obtain ⟨ax, cap, rfl, hnone, hc⟩ := hr
  cases ax with
  | none =>
    obtain ⟨rfl, rfl⟩ := hnone rfl
    have hnil : news = [] := List.eq_nil_of_length_eq_zero (by simpa using hl)
    subst hnil
    refine wpList_append_own_none hgd s x t ho base e i size ht hi v n xs hs hown hx ?_
    have := h v w (by simpa using hown) (Below.refl _ _)
    exact this
  | some ad =>
    refine wpList_append_own _ hgd s x t ho base e i z size bytes ht hi hz hi1 hi2 hzs hsz v n xs hs hown ad m cap news hx hl ?_ h1 (by unfold maxLen; omega) hbytes hbase ?_
    · intro j u hj
      obtain ⟨b, off, ha, hu⟩ := hc j u hj
      cases ha
      rw [Addr.add_lit]; exact hu
    · intro v' w' h2 h3 _
      refine h v' w' h2 ((Below.refl base w).grown h3 hbase ?_)
      intro k hk
      exact (hown.lt k hk).1
end Go.Proofs.YtndagciefnddmaaGreatDoor
namespace Go.Proofs.YtndagciefnddmaaGreatDoor
open Go.RowKit Oct
theorem infoU8 : (Tryz.prog.info? 5).map (fun i => (i.zero, i.size, i.bytes)) = some (some (.int .u8 0), 1, 1) := by kernel_rfl
def cb (v k : Nat) : Array Value := ((num v k).map (fun c => Value.int .u8 (c.toNat : Int)) ++ List.replicate (8 - k) (Value.int .u8 0)).toArray
theorem cb_new (v k : Nat) (h : k < 8) : (cb v k)[k]? = some (.int .u8 0) := by
  simp [cb, List.getElem?_append, num_length, List.getElem?_replicate]; omega
theorem cb_at (v k j : Nat) (h : j < k) : (cb v k)[j]? = some (.int .u8 (((num v k)[j]'(by rw [num_length]; exact h)).toNat : Int)) := by
  have hl : j < (num v k).length := by rw [num_length]; exact h
  simp [cb, List.getElem?_append, num_length, h, hl]
theorem num_take (v m n j : Nat) (h : m ≤ n) (hj : j < m) : (num v n)[j]'(by rw [num_length]; omega) = (num v m)[j]'(by rw [num_length]; omega) := by
  induction m generalizing v n j with
  | zero => omega
  | succ m ih =>
    obtain ⟨n, rfl⟩ : ∃ n', n = n' + 1 := ⟨n - 1, by omega⟩
    cases j with
    | zero => simp [num]
    | succ j => simp only [num, List.getElem_cons_succ]; exact ih _ _ _ (by omega) (by omega)
theorem cb_step (v : Int) (k : Nat) (h : k < 8) (h0 : 0 ≤ v) : (cb v.toNat k).setIfInBounds k (Value.int IntKind.u8 (v / 2 ^ (8 * k) % 256)) = cb v.toNat (k + 1) := by
  obtain ⟨v, rfl⟩ := Int.eq_ofNat_of_zero_le h0
  have e : ((v : Int) / 2 ^ (8 * k) % 256) = (((UInt8.ofNat (v / 256 ^ k % 256)).toNat : Nat) : Int) := by
    have : (2 : Int) ^ (8 * k) = ((256 ^ k : Nat) : Int) := by rw [Int.pow_mul]; simp
    rw [this]; simp
  rw [e]
  simp only [cb, Int.toNat_natCast, List.setIfInBounds_toArray, num_snoc, List.map_append, List.append_assoc]
  congr 1
  rw [List.set_append_right _ _ (by simp [num_length])]
  obtain ⟨m, hm⟩ : ∃ m, 8 - k = m + 1 := ⟨7 - k, by omega⟩
  have hm' : 8 - (k + 1) = m := by omega
  simp [num_length, hm, hm', List.replicate_succ]
set_option maxRecDepth 100000 in
set_option maxHeartbeats 400000 in
theorem bytes_any (v n : Int) (w : World) (h1 : 1 ≤ n) (h2 : n ≤ 8) (h3 : 0 ≤ v) (h4 : v < 18446744073709551616) :
    Calls Tryz.prog 104 #[.int .u64 v, .int .i64 n] w fun e w' => e = .returned (.string (bs (num v.toNat n.toNat))) ∧ Below w.heap.size w w' := by
  obtain ⟨m, rfl⟩ := Int.eq_ofNat_of_zero_le (show 0 ≤ n by omega)
  have hfin : ∀ c, (convert 66 9 (.slice (some ⟨w.heap.size, 0, none⟩) m c)).run Tryz.prog (w.alloc (.cells (cb v.toNat 8) 215)) = .ok (.string (bs (num v.toNat m))) (w.alloc (.cells (cb v.toNat 8) 215)) := by
    intro c
    have := run_convert_bytes_back (P := Tryz.prog) (w.alloc (.cells (cb v.toNat 8) 215)) 66 9 5 ⟨w.heap.size, 0, none⟩ c (num v.toNat m) Tryz.underlying66 Tryz.underlying5 Tryz.underlying9 (fun j hj => by
      rw [num_length] at hj
      have := cb_at v.toNat 8 j (by omega)
      simp [World.cell?_alloc_new, Addr.add_lit, this, num_take v.toNat m 8 j (by omega) hj])
    rw [num_length] at this
    exact this
  go_enter Tryz.func104, Tryz.ntmps104
  go_wp2
  go_loopw [7] (fun i wr => ∃ k : Nat, k ≤ 8 ∧ i = .int .i64 k ∧ wr = w.alloc (.cells (cb v.toNat k) 215)) (fun i _ => (8 - intOf i).toNat)
  case atStart => exact ⟨0, by omega, rfl, rfl⟩
  case round =>
    obtain ⟨k, hk, rfl, rfl⟩ := hrel
    by_cases h0 : (k : Int) < 8
    · have hc := cb_new v.toNat k (by omega)
      go_wp2
      go_roundw
      case rel => exact ⟨k + 1, by omega, by go_num, by rw [cb_step v k (by omega) h3]⟩
      case measure => simp [intOf]; omega
    · obtain rfl : k = 8 := by omega
      go_wp2
      go_ret
      exact ⟨rfl, (Below.refl _ _).alloc (Nat.le_refl _) _⟩
end Go.Proofs.YtndagciefnddmaaGreatDoor
namespace Go.Proofs
open Go.Shelf
def Tryz.lays169_ren : Go.Shelf.Ren := ⟨fun | 169 => 38 | n => n, fun | 70 => 65 | 9 => 9 | 0 => 0 | 72 => 68 | 37 => 66 | 127 => 103 | 3 => 3 | 5 => 5 | n => n, fun | n => n⟩
theorem Tryz.lays169 : Go.Proofs.Lays.n169 Tryz.prog Tryz.lays169_ren := {
  mixed := by kernel_rfl
  f169 := Tryz.func38.trans (congrArg some (by kernel_rfl))
  t0 := Tryz.underlying0
  a0 := Tryz.isAgg0
  z0 := Tryz.sizeOf0
  v0 := Tryz.zeroValue0
  t3 := Tryz.underlying3
  a3 := Tryz.isAgg3
  z3 := Tryz.sizeOf3
  v3 := Tryz.zeroValue3
  t9 := Tryz.underlying9
  a9 := Tryz.isAgg9
  z9 := Tryz.sizeOf9
  v9 := Tryz.zeroValue9
  t37 := Tryz.underlying66
  a37 := Tryz.isAgg66
  z37 := Tryz.sizeOf66
  v37 := Tryz.zeroValue66
  t70 := Tryz.underlying65
  a70 := Tryz.isAgg65
  z70 := Tryz.sizeOf65
  v70 := Tryz.zeroValue65
  t72 := Tryz.underlying68
  a72 := Tryz.isAgg68
  z72 := Tryz.sizeOf68
  v72 := Tryz.zeroValue68
  t127 := Tryz.underlying103
  a127 := Tryz.isAgg103
  z127 := Tryz.sizeOf103
  v127 := Tryz.zeroValue103 }
theorem Tryz.Builder_Extra_169 : Builder.Extra Tryz.prog Tryz.lays169_ren := {
  sizeBuilder := by kernel_rfl
  liesBuilder := by kernel_rfl
  t5 := Tryz.underlying5
  a5 := Tryz.isAgg5
  z5 := Tryz.sizeOf5
  v5 := Tryz.zeroValue5
  infoByte := by kernel_rfl
  cellsByte := by kernel_rfl
  sizeByte := by kernel_rfl
  neB5 := by decide }
open Go.RowKit in
theorem Tryz.Builder_String_any (B b : Nat) (l : List UInt8) (w : World) (h : Lib.IsBuilder 68 5 B b (Lib.byteCells l) w) (hBw : B ≤ w.heap.size) :
    Calls Tryz.prog 38 #[.pointer (some ⟨b, 0, none⟩)] w fun e w' => e = .returned (.string ⟨l.toArray⟩) ∧ Below B w w' := Any.Builder_String_any Tryz.lays169 Tryz.Builder_Extra_169 B b l w h hBw
def Tryz.lays165_ren : Go.Shelf.Ren := ⟨fun | 165 => 157 | 240 => 71 | 241 => 172 | 276 => 100 | 277 => 182 | n => n, fun | 70 => 65 | 3 => 3 | 0 => 0 | 4 => 4 | 9 => 9 | 20 => 20 | 72 => 68 | 37 => 66 | 164 => 185 | 5 => 5 | n => n, fun | n => n⟩
theorem Tryz.lays165 : Go.Proofs.Lays.n165 Tryz.prog Tryz.lays165_ren := {
  mixed := by kernel_rfl
  f165 := Tryz.func157.trans (congrArg some (by kernel_rfl))
  f240 := Tryz.func71.trans (congrArg some (by kernel_rfl))
  f241 := Tryz.func172.trans (congrArg some (by kernel_rfl))
  f276 := Tryz.func100.trans (congrArg some (by kernel_rfl))
  f277 := Tryz.func182.trans (congrArg some (by kernel_rfl))
  t0 := Tryz.underlying0
  a0 := Tryz.isAgg0
  z0 := Tryz.sizeOf0
  v0 := Tryz.zeroValue0
  t3 := Tryz.underlying3
  a3 := Tryz.isAgg3
  z3 := Tryz.sizeOf3
  v3 := Tryz.zeroValue3
  t4 := Tryz.underlying4
  a4 := Tryz.isAgg4
  z4 := Tryz.sizeOf4
  v4 := Tryz.zeroValue4
  t9 := Tryz.underlying9
  a9 := Tryz.isAgg9
  z9 := Tryz.sizeOf9
  v9 := Tryz.zeroValue9
  t20 := Tryz.underlying20
  a20 := Tryz.isAgg20
  z20 := Tryz.sizeOf20
  v20 := Tryz.zeroValue20
  t37 := Tryz.underlying66
  a37 := Tryz.isAgg66
  z37 := Tryz.sizeOf66
  v37 := Tryz.zeroValue66
  t70 := Tryz.underlying65
  a70 := Tryz.isAgg65
  z70 := Tryz.sizeOf65
  v70 := Tryz.zeroValue65
  t72 := Tryz.underlying68
  a72 := Tryz.isAgg68
  z72 := Tryz.sizeOf68
  v72 := Tryz.zeroValue68
  t164 := Tryz.underlying185
  a164 := Tryz.isAgg185
  z164 := Tryz.sizeOf185
  v164 := Tryz.zeroValue185 }
theorem Tryz.Builder_Extra_165 : Builder.Extra Tryz.prog Tryz.lays165_ren := {
  sizeBuilder := by kernel_rfl
  liesBuilder := by kernel_rfl
  t5 := Tryz.underlying5
  a5 := Tryz.isAgg5
  z5 := Tryz.sizeOf5
  v5 := Tryz.zeroValue5
  infoByte := by kernel_rfl
  cellsByte := by kernel_rfl
  sizeByte := by kernel_rfl
  neB5 := by decide }
open Go.RowKit in
theorem Tryz.Builder_Grow_fresh (B b n : Nat) (w : World) (hB : B ≤ b) (hbk : w.heap[b]? = some (.cells #[.pointer none, .slice none 0 0] 68 (0, 0))) (hBw : B ≤ w.heap.size) (hn : n ≤ 281474976710656) :
    Calls Tryz.prog 157 #[.pointer (some ⟨b, 0, none⟩), .int .i64 n] w fun e w' => e = .returned (.tuple #[]) ∧ (Lib.BuilderAt 68 5 B b (.pointer (some ⟨b, 0, none⟩)) [] w' ∧ Below B w w') := Any.Builder_Grow_fresh Tryz.lays165 Tryz.Builder_Extra_165 B b n w hB hbk hBw hn
def Tryz.laysM173_ren : Go.Shelf.Ren := ⟨fun | 173 => 138 | 246 => 147 | 283 => 150 | 284 => 151 | 285 => 152 | 286 => 153 | 129 => 161 | 317 => 160 | 318 => 162 | 319 => 163 | 320 => 164 | 337 => 175 | 338 => 176 | n => n, fun | 2 => 2 | 3 => 3 | 9 => 9 | 4 => 4 | 171 => 244 | 0 => 0 | 53 => 110 | 37 => 66 | 5 => 5 | 173 => 247 | 212 => 256 | 51 => 192 | 20 => 20 | 213 => 257 | 46 => 140 | 232 => 278 | 233 => 279 | n => n, fun | 17 => 2 | 18 => 8 | 19 => 9 | n => n⟩
theorem Tryz.laysM173 : Go.Proofs.LaysM.n173 Tryz.prog Tryz.laysM173_ren := {
  mixed := by kernel_rfl
  f129 := Tryz.func161.trans (congrArg some (by kernel_rfl))
  f173 := Tryz.func138.trans (congrArg some (by kernel_rfl))
  f246 := Tryz.func147.trans (congrArg some (by kernel_rfl))
  f283 := Tryz.func150.trans (congrArg some (by kernel_rfl))
  f284 := Tryz.func151.trans (congrArg some (by kernel_rfl))
  f285 := Tryz.func152.trans (congrArg some (by kernel_rfl))
  f286 := Tryz.func153.trans (congrArg some (by kernel_rfl))
  f317 := Tryz.func160.trans (congrArg some (by kernel_rfl))
  f318 := Tryz.func162.trans (congrArg some (by kernel_rfl))
  f319 := Tryz.func163.trans (congrArg some (by kernel_rfl))
  f320 := Tryz.func164.trans (congrArg some (by kernel_rfl))
  f337 := Tryz.func175.trans (congrArg some (by kernel_rfl))
  f338 := Tryz.func176.trans (congrArg some (by kernel_rfl))
  t0 := Tryz.underlying0
  a0 := Tryz.isAgg0
  z0 := Tryz.sizeOf0
  v0 := Tryz.zeroValue0
  t2 := Tryz.underlying2
  a2 := Tryz.isAgg2
  z2 := Tryz.sizeOf2
  v2 := Tryz.zeroValue2
  t3 := Tryz.underlying3
  a3 := Tryz.isAgg3
  z3 := Tryz.sizeOf3
  v3 := Tryz.zeroValue3
  t4 := Tryz.underlying4
  a4 := Tryz.isAgg4
  z4 := Tryz.sizeOf4
  v4 := Tryz.zeroValue4
  t5 := Tryz.underlying5
  a5 := Tryz.isAgg5
  z5 := Tryz.sizeOf5
  v5 := Tryz.zeroValue5
  t9 := Tryz.underlying9
  a9 := Tryz.isAgg9
  z9 := Tryz.sizeOf9
  v9 := Tryz.zeroValue9
  t20 := Tryz.underlying20
  a20 := Tryz.isAgg20
  z20 := Tryz.sizeOf20
  v20 := Tryz.zeroValue20
  t37 := Tryz.underlying66
  a37 := Tryz.isAgg66
  z37 := Tryz.sizeOf66
  v37 := Tryz.zeroValue66
  t46 := Tryz.underlying140
  a46 := Tryz.isAgg140
  z46 := Tryz.sizeOf140
  v46 := Tryz.zeroValue140
  t51 := Tryz.underlying192
  a51 := Tryz.isAgg192
  z51 := Tryz.sizeOf192
  v51 := Tryz.zeroValue192
  t53 := Tryz.underlying110
  a53 := Tryz.isAgg110
  z53 := Tryz.sizeOf110
  v53 := Tryz.zeroValue110
  t171 := Tryz.underlying244
  a171 := Tryz.isAgg244
  z171 := Tryz.sizeOf244
  v171 := Tryz.zeroValue244
  t173 := Tryz.underlying247
  a173 := Tryz.isAgg247
  z173 := Tryz.sizeOf247
  v173 := Tryz.zeroValue247
  t212 := Tryz.underlying256
  a212 := Tryz.isAgg256
  z212 := Tryz.sizeOf256
  v212 := Tryz.zeroValue256
  t213 := Tryz.underlying257
  a213 := Tryz.isAgg257
  z213 := Tryz.sizeOf257
  t232 := Tryz.underlying278
  a232 := Tryz.isAgg278
  z232 := Tryz.sizeOf278
  v232 := Tryz.zeroValue278
  t233 := Tryz.underlying279
  a233 := Tryz.isAgg279
  z233 := Tryz.sizeOf279
  v233 := Tryz.zeroValue279
  g17 := by kernel_rfl
  g18 := by kernel_rfl
  g19 := by kernel_rfl
  i0 := by kernel_rfl
  i2 := by kernel_rfl
  i3 := by kernel_rfl
  i4 := by kernel_rfl
  i5 := by kernel_rfl
  i9 := by kernel_rfl
  i20 := by kernel_rfl
  i37 := by kernel_rfl
  i46 := by kernel_rfl
  i51 := by kernel_rfl
  i53 := by kernel_rfl
  i171 := by kernel_rfl
  i173 := by kernel_rfl
  i212 := by kernel_rfl
  i232 := by kernel_rfl
  i233 := by kernel_rfl
  m17 := by kernel_rfl
  m18 := by kernel_rfl
  m19 := by kernel_rfl }
open Go.RowKit Go.Sort Go.Lib in
theorem Tryz.strconv_FormatInt_10 (n : Int) (h0 : -9223372036854775808 ≤ n) (h1 : n ≤ 9223372036854775807) (w : World) (htab : Lib.TabIs Tryz.prog w "internal/strconv.uint64pow10" .u64 Lib.pow10Tab) :
    Calls Tryz.prog 138 #[.int .i64 n, .int .i64 10] w fun e w' => e = .returned (.string ⟨(Lib.itoa n).toArray⟩) ∧ ∃ k os, w' = grow (w.drewN k) os := Any.strconv_FormatInt_10 Tryz.laysM173 n h0 h1 w htab
def Tryz.laysC174_ren : Go.Shelf.Ren := ⟨fun | 174 => 148 | 247 => 154 | 245 => 155 | 287 => 165 | 279 => 166 | 280 => 167 | 281 => 168 | 282 => 169 | 321 => 177 | 322 => 178 | 316 => 179 | 171 => 181 | 205 => 180 | 243 => 187 | 246 => 147 | 283 => 150 | 284 => 151 | 285 => 152 | 286 => 153 | 129 => 161 | 317 => 160 | 318 => 162 | 319 => 163 | 320 => 164 | 337 => 175 | 338 => 176 | n => n, fun | 9 => 9 | 3 => 3 | 2 => 2 | 75 => 100 | 85 => 241 | 4 => 4 | 167 => 260 | 5 => 5 | 53 => 110 | 175 => 261 | 46 => 140 | 168 => 263 | 37 => 66 | 0 => 0 | 210 => 271 | 21 => 21 | 127 => 103 | 145 => 282 | 143 => 280 | 171 => 244 | 173 => 247 | 212 => 256 | 51 => 192 | 20 => 20 | 213 => 257 | 232 => 278 | 233 => 279 | 80 => 73 | n => n, fun | 15 => 3 | 16 => 4 | 17 => 2 | 18 => 8 | 19 => 9 | n => n⟩
theorem Tryz.laysC174 : Go.Proofs.LaysC.n174 Tryz.prog Tryz.laysC174_ren := {
  mixed := by kernel_rfl
  f129 := Tryz.func161.trans (congrArg some (by kernel_rfl))
  f171 := Tryz.func181.trans (congrArg some (by kernel_rfl))
  f174 := Tryz.func148.trans (congrArg some (by kernel_rfl))
  f205 := Tryz.func180.trans (congrArg some (by kernel_rfl))
  f243 := Tryz.func187.trans (congrArg some (by kernel_rfl))
  f245 := Tryz.func155.trans (congrArg some (by kernel_rfl))
  f246 := Tryz.func147.trans (congrArg some (by kernel_rfl))
  f247 := Tryz.func154.trans (congrArg some (by kernel_rfl))
  f279 := Tryz.func166.trans (congrArg some (by kernel_rfl))
  f280 := Tryz.func167.trans (congrArg some (by kernel_rfl))
  f281 := Tryz.func168.trans (congrArg some (by kernel_rfl))
  f282 := Tryz.func169.trans (congrArg some (by kernel_rfl))
  f283 := Tryz.func150.trans (congrArg some (by kernel_rfl))
  f284 := Tryz.func151.trans (congrArg some (by kernel_rfl))
  f285 := Tryz.func152.trans (congrArg some (by kernel_rfl))
  f286 := Tryz.func153.trans (congrArg some (by kernel_rfl))
  f287 := Tryz.func165.trans (congrArg some (by kernel_rfl))
  f316 := Tryz.func179.trans (congrArg some (by kernel_rfl))
  f317 := Tryz.func160.trans (congrArg some (by kernel_rfl))
  f318 := Tryz.func162.trans (congrArg some (by kernel_rfl))
  f319 := Tryz.func163.trans (congrArg some (by kernel_rfl))
  f320 := Tryz.func164.trans (congrArg some (by kernel_rfl))
  f321 := Tryz.func177.trans (congrArg some (by kernel_rfl))
  f322 := Tryz.func178.trans (congrArg some (by kernel_rfl))
  f337 := Tryz.func175.trans (congrArg some (by kernel_rfl))
  f338 := Tryz.func176.trans (congrArg some (by kernel_rfl))
  t0 := Tryz.underlying0
  a0 := Tryz.isAgg0
  z0 := Tryz.sizeOf0
  v0 := Tryz.zeroValue0
  t2 := Tryz.underlying2
  a2 := Tryz.isAgg2
  z2 := Tryz.sizeOf2
  v2 := Tryz.zeroValue2
  t3 := Tryz.underlying3
  a3 := Tryz.isAgg3
  z3 := Tryz.sizeOf3
  v3 := Tryz.zeroValue3
  t4 := Tryz.underlying4
  a4 := Tryz.isAgg4
  z4 := Tryz.sizeOf4
  v4 := Tryz.zeroValue4
  t5 := Tryz.underlying5
  a5 := Tryz.isAgg5
  z5 := Tryz.sizeOf5
  v5 := Tryz.zeroValue5
  t9 := Tryz.underlying9
  a9 := Tryz.isAgg9
  z9 := Tryz.sizeOf9
  v9 := Tryz.zeroValue9
  t20 := Tryz.underlying20
  a20 := Tryz.isAgg20
  z20 := Tryz.sizeOf20
  v20 := Tryz.zeroValue20
  t21 := Tryz.underlying21
  a21 := Tryz.isAgg21
  z21 := Tryz.sizeOf21
  v21 := Tryz.zeroValue21
  t37 := Tryz.underlying66
  a37 := Tryz.isAgg66
  z37 := Tryz.sizeOf66
  v37 := Tryz.zeroValue66
  t46 := Tryz.underlying140
  a46 := Tryz.isAgg140
  z46 := Tryz.sizeOf140
  v46 := Tryz.zeroValue140
  t51 := Tryz.underlying192
  a51 := Tryz.isAgg192
  z51 := Tryz.sizeOf192
  v51 := Tryz.zeroValue192
  t53 := Tryz.underlying110
  a53 := Tryz.isAgg110
  z53 := Tryz.sizeOf110
  v53 := Tryz.zeroValue110
  t75 := Tryz.underlying100
  a75 := Tryz.isAgg100
  z75 := Tryz.sizeOf100
  v75 := Tryz.zeroValue100
  t85 := Tryz.underlying241
  a85 := Tryz.isAgg241
  z85 := Tryz.sizeOf241
  v85 := Tryz.zeroValue241
  t127 := Tryz.underlying103
  a127 := Tryz.isAgg103
  z127 := Tryz.sizeOf103
  v127 := Tryz.zeroValue103
  t143 := Tryz.underlying280
  a143 := Tryz.isAgg280
  z143 := Tryz.sizeOf280
  v143 := Tryz.zeroValue280
  t145 := Tryz.underlying282
  a145 := Tryz.isAgg282
  z145 := Tryz.sizeOf282
  v145 := Tryz.zeroValue282
  t167 := Tryz.underlying260
  a167 := Tryz.isAgg260
  z167 := Tryz.sizeOf260
  v167 := Tryz.zeroValue260
  t168 := Tryz.underlying263
  a168 := Tryz.isAgg263
  z168 := Tryz.sizeOf263
  v168 := Tryz.zeroValue263
  t171 := Tryz.underlying244
  a171 := Tryz.isAgg244
  z171 := Tryz.sizeOf244
  v171 := Tryz.zeroValue244
  t173 := Tryz.underlying247
  a173 := Tryz.isAgg247
  z173 := Tryz.sizeOf247
  v173 := Tryz.zeroValue247
  t175 := Tryz.underlying261
  a175 := Tryz.isAgg261
  z175 := Tryz.sizeOf261
  v175 := Tryz.zeroValue261
  t210 := Tryz.underlying271
  a210 := Tryz.isAgg271
  z210 := Tryz.sizeOf271
  v210 := Tryz.zeroValue271
  t212 := Tryz.underlying256
  a212 := Tryz.isAgg256
  z212 := Tryz.sizeOf256
  v212 := Tryz.zeroValue256
  t213 := Tryz.underlying257
  a213 := Tryz.isAgg257
  z213 := Tryz.sizeOf257
  t232 := Tryz.underlying278
  a232 := Tryz.isAgg278
  z232 := Tryz.sizeOf278
  v232 := Tryz.zeroValue278
  t233 := Tryz.underlying279
  a233 := Tryz.isAgg279
  z233 := Tryz.sizeOf279
  v233 := Tryz.zeroValue279
  g15 := by kernel_rfl
  g16 := by kernel_rfl
  g17 := by kernel_rfl
  g18 := by kernel_rfl
  g19 := by kernel_rfl
  t80 := Tryz.underlying73
  a80 := Tryz.isAgg73
  z80 := Tryz.sizeOf73
  v80 := Tryz.zeroValue73
  i0 := by kernel_rfl
  i2 := by kernel_rfl
  i3 := by kernel_rfl
  i4 := by kernel_rfl
  i5 := by kernel_rfl
  i9 := by kernel_rfl
  i20 := by kernel_rfl
  i21 := by kernel_rfl
  i37 := by kernel_rfl
  i46 := by kernel_rfl
  i51 := by kernel_rfl
  i53 := by kernel_rfl
  i75 := by kernel_rfl
  i80 := by kernel_rfl
  i85 := by kernel_rfl
  i127 := by kernel_rfl
  i143 := by kernel_rfl
  i145 := by kernel_rfl
  i167 := by kernel_rfl
  i168 := by kernel_rfl
  i171 := by kernel_rfl
  i173 := by kernel_rfl
  i175 := by kernel_rfl
  i210 := by kernel_rfl
  i212 := by kernel_rfl
  i232 := by kernel_rfl
  i233 := by kernel_rfl
  m15 := by kernel_rfl
  m16 := by kernel_rfl
  m17 := by kernel_rfl
  m18 := by kernel_rfl
  m19 := by kernel_rfl
  c0 := by kernel_rfl
  c2 := by kernel_rfl
  c3 := by kernel_rfl
  c4 := by kernel_rfl
  c5 := by kernel_rfl
  c9 := by kernel_rfl
  c20 := by kernel_rfl
  c21 := by kernel_rfl
  c37 := by kernel_rfl
  c46 := by kernel_rfl
  c51 := by kernel_rfl
  c53 := by kernel_rfl
  c75 := by kernel_rfl
  c80 := by kernel_rfl
  c85 := by kernel_rfl
  c127 := by kernel_rfl
  c143 := by kernel_rfl
  c145 := by kernel_rfl
  c167 := by kernel_rfl
  c168 := by kernel_rfl
  c171 := by kernel_rfl
  c173 := by kernel_rfl
  c175 := by kernel_rfl
  c210 := by kernel_rfl
  c212 := by kernel_rfl
  c213 := by kernel_rfl
  c232 := by kernel_rfl
  c233 := by kernel_rfl }
open Go.RowKit in
theorem Tryz.strconv_ParseInt_10_at64_ok (s : ByteArray) (hmax : s.size ≤ 9223372036854775806) (v : Int) (h : Lib.parseIntB 64 s.data.toList = .ok v) (w : World) :
    Calls Tryz.prog 148 #[.string s, .int .i64 10, .int .i64 64] w fun e w' => e = .returned (.tuple #[.int .i64 v, .nilIface]) ∧ (w' = w ∨ ∃ t, w' = Lib.bytesWorld w 5 t) := Any.strconv_ParseInt_10_at64_ok Tryz.laysC174 s hmax v h w
open Go.RowKit in
theorem Tryz.strconv_ParseInt_10_at64_syntax (s : ByteArray) (hlim : s.size ≤ 281474976710656) (h : Lib.parseIntB 64 s.data.toList = Lib.NumEnd.syntax) (ev : Value) (w : World) (hv : w.cell? ⟨3, 0, none⟩ = some ev) (hev : ev = .nilIface ∨ ∃ te pe, ev = .iface te pe) :
    Calls Tryz.prog 148 #[.string s, .int .i64 10, .int .i64 64] w fun e w' => ∃ N, e = .returned (.tuple #[.int .i64 (0), .iface 263 (.pointer (some ⟨N, 0, none⟩))]) ∧ w.heap.size ≤ N ∧ w'.heap[N]? = some (.cells #[.string ⟨#[80, 97, 114, 115, 101, 73, 110, 116]⟩, .string s, ev] 271 (0, 0)) ∧ Below w.heap.size w w' := Any.strconv_ParseInt_10_at64_syntax Tryz.laysC174 s hlim h ev w hv hev
open Go.RowKit in
theorem Tryz.strconv_ParseInt_10_at64_range (s : ByteArray) (hlim : s.size ≤ 281474976710656) (h : Lib.parseIntB 64 s.data.toList = .range) (ev : Value) (w : World) (hv : w.cell? ⟨4, 0, none⟩ = some ev) (hev : ev = .nilIface ∨ ∃ te pe, ev = .iface te pe) :
    Calls Tryz.prog 148 #[.string s, .int .i64 10, .int .i64 64] w fun e w' => ∃ N, e = .returned (.tuple #[.int .i64 (Lib.intSat 64 s.data.toList), .iface 263 (.pointer (some ⟨N, 0, none⟩))]) ∧ w.heap.size ≤ N ∧ w'.heap[N]? = some (.cells #[.string ⟨#[80, 97, 114, 115, 101, 73, 110, 116]⟩, .string s, ev] 271 (0, 0)) ∧ Below w.heap.size w w' := Any.strconv_ParseInt_10_at64_range Tryz.laysC174 s hlim h ev w hv hev
def Tryz.lays143_ren : Go.Shelf.Ren := ⟨fun | 143 => 158 | 219 => 173 | 217 => 183 | 225 => 184 | 224 => 185 | 267 => 186 | 266 => 188 | 314 => 189 | n => n, fun | 9 => 9 | 3 => 3 | 4 => 4 | 5 => 5 | 46 => 140 | 146 => 283 | 51 => 192 | n => n, fun | 1 => 5 | n => n⟩
theorem Tryz.lays143 : Go.Proofs.Lays.n143 Tryz.prog Tryz.lays143_ren := {
  mixed := by kernel_rfl
  f143 := Tryz.func158.trans (congrArg some (by kernel_rfl))
  f217 := Tryz.func183.trans (congrArg some (by kernel_rfl))
  f219 := Tryz.func173.trans (congrArg some (by kernel_rfl))
  f224 := Tryz.func185.trans (congrArg some (by kernel_rfl))
  f225 := Tryz.func184.trans (congrArg some (by kernel_rfl))
  f266 := Tryz.func188.trans (congrArg some (by kernel_rfl))
  f267 := Tryz.func186.trans (congrArg some (by kernel_rfl))
  f314 := Tryz.func189.trans (congrArg some (by kernel_rfl))
  t3 := Tryz.underlying3
  a3 := Tryz.isAgg3
  z3 := Tryz.sizeOf3
  v3 := Tryz.zeroValue3
  t4 := Tryz.underlying4
  a4 := Tryz.isAgg4
  z4 := Tryz.sizeOf4
  v4 := Tryz.zeroValue4
  t5 := Tryz.underlying5
  a5 := Tryz.isAgg5
  z5 := Tryz.sizeOf5
  v5 := Tryz.zeroValue5
  t9 := Tryz.underlying9
  a9 := Tryz.isAgg9
  z9 := Tryz.sizeOf9
  v9 := Tryz.zeroValue9
  t46 := Tryz.underlying140
  a46 := Tryz.isAgg140
  z46 := Tryz.sizeOf140
  v46 := Tryz.zeroValue140
  t51 := Tryz.underlying192
  a51 := Tryz.isAgg192
  z51 := Tryz.sizeOf192
  v51 := Tryz.zeroValue192
  t146 := Tryz.underlying283
  a146 := Tryz.isAgg283
  z146 := Tryz.sizeOf283
  v146 := Tryz.zeroValue283
  g1 := by kernel_rfl }
open Go.RowKit Go.Lib in
theorem Tryz.strings_Index_one (s : ByteArray) (c : UInt8) (w : World) :
    Calls Tryz.prog 158 #[.string s, .string ⟨#[c]⟩] w fun e w' => e = .returned (.int .i64 (Lib.indexByte s.data.toList c)) ∧ w' = w := Any.strings_Index_one Tryz.lays143 s c w
def Tryz.lays145_ren : Go.Shelf.Ren := ⟨fun | 145 => 239 | 220 => 240 | 219 => 173 | 217 => 183 | 225 => 184 | 224 => 185 | 267 => 186 | 266 => 188 | 314 => 189 | n => n, fun | 9 => 9 | 4 => 4 | 59 => 113 | 3 => 3 | 5 => 5 | 46 => 140 | 146 => 283 | 51 => 192 | n => n, fun | 1 => 5 | n => n⟩
theorem Tryz.lays145 : Go.Proofs.Lays.n145 Tryz.prog Tryz.lays145_ren := {
  mixed := by kernel_rfl
  f145 := Tryz.func239.trans (congrArg some (by kernel_rfl))
  f217 := Tryz.func183.trans (congrArg some (by kernel_rfl))
  f219 := Tryz.func173.trans (congrArg some (by kernel_rfl))
  f220 := Tryz.func240.trans (congrArg some (by kernel_rfl))
  f224 := Tryz.func185.trans (congrArg some (by kernel_rfl))
  f225 := Tryz.func184.trans (congrArg some (by kernel_rfl))
  f266 := Tryz.func188.trans (congrArg some (by kernel_rfl))
  f267 := Tryz.func186.trans (congrArg some (by kernel_rfl))
  f314 := Tryz.func189.trans (congrArg some (by kernel_rfl))
  t3 := Tryz.underlying3
  a3 := Tryz.isAgg3
  z3 := Tryz.sizeOf3
  v3 := Tryz.zeroValue3
  t4 := Tryz.underlying4
  a4 := Tryz.isAgg4
  z4 := Tryz.sizeOf4
  v4 := Tryz.zeroValue4
  t5 := Tryz.underlying5
  a5 := Tryz.isAgg5
  z5 := Tryz.sizeOf5
  v5 := Tryz.zeroValue5
  t9 := Tryz.underlying9
  a9 := Tryz.isAgg9
  z9 := Tryz.sizeOf9
  v9 := Tryz.zeroValue9
  t46 := Tryz.underlying140
  a46 := Tryz.isAgg140
  z46 := Tryz.sizeOf140
  v46 := Tryz.zeroValue140
  t51 := Tryz.underlying192
  a51 := Tryz.isAgg192
  z51 := Tryz.sizeOf192
  v51 := Tryz.zeroValue192
  t59 := Tryz.underlying113
  a59 := Tryz.isAgg113
  z59 := Tryz.sizeOf113
  v59 := Tryz.zeroValue113
  t146 := Tryz.underlying283
  a146 := Tryz.isAgg283
  z146 := Tryz.sizeOf283
  v146 := Tryz.zeroValue283
  g1 := by kernel_rfl }
open Go.RowKit Go.Lib in
theorem Tryz.strings_Cut (s sep : ByteArray) (m : Int) (w : World) (hs : s.size < 4294967281) (hm : w.cell? ⟨5, 0, none⟩ = some (.int .i64 m)) :
    Calls Tryz.prog 239 #[.string s, .string sep] w fun e w' => e = .returned (.tuple #[.string ⟨(Lib.cut s.data.toList sep.data.toList).1.toArray⟩, .string ⟨(Lib.cut s.data.toList sep.data.toList).2.1.toArray⟩, .bool (Lib.cut s.data.toList sep.data.toList).2.2]) ∧ ∃ n, w' = w.drewN n := Any.strings_Cut Tryz.lays145 s sep m w hs hm
def Tryz.lays138_ren : Go.Shelf.Ren := ⟨fun | 138 => 156 | 195 => 170 | 218 => 171 | 143 => 158 | 219 => 173 | 217 => 183 | 225 => 184 | 224 => 185 | 267 => 186 | 266 => 188 | 314 => 189 | n => n, fun | 9 => 9 | 3 => 3 | 4 => 4 | 5 => 5 | 0 => 0 | 46 => 140 | 146 => 283 | 51 => 192 | n => n, fun | 1 => 5 | n => n⟩
theorem Tryz.lays138 : Go.Proofs.Lays.n138 Tryz.prog Tryz.lays138_ren := {
  mixed := by kernel_rfl
  f138 := Tryz.func156.trans (congrArg some (by kernel_rfl))
  f143 := Tryz.func158.trans (congrArg some (by kernel_rfl))
  f195 := Tryz.func170.trans (congrArg some (by kernel_rfl))
  f217 := Tryz.func183.trans (congrArg some (by kernel_rfl))
  f218 := Tryz.func171.trans (congrArg some (by kernel_rfl))
  f219 := Tryz.func173.trans (congrArg some (by kernel_rfl))
  f224 := Tryz.func185.trans (congrArg some (by kernel_rfl))
  f225 := Tryz.func184.trans (congrArg some (by kernel_rfl))
  f266 := Tryz.func188.trans (congrArg some (by kernel_rfl))
  f267 := Tryz.func186.trans (congrArg some (by kernel_rfl))
  f314 := Tryz.func189.trans (congrArg some (by kernel_rfl))
  t0 := Tryz.underlying0
  a0 := Tryz.isAgg0
  z0 := Tryz.sizeOf0
  v0 := Tryz.zeroValue0
  t3 := Tryz.underlying3
  a3 := Tryz.isAgg3
  z3 := Tryz.sizeOf3
  v3 := Tryz.zeroValue3
  t4 := Tryz.underlying4
  a4 := Tryz.isAgg4
  z4 := Tryz.sizeOf4
  v4 := Tryz.zeroValue4
  t5 := Tryz.underlying5
  a5 := Tryz.isAgg5
  z5 := Tryz.sizeOf5
  v5 := Tryz.zeroValue5
  t9 := Tryz.underlying9
  a9 := Tryz.isAgg9
  z9 := Tryz.sizeOf9
  v9 := Tryz.zeroValue9
  t46 := Tryz.underlying140
  a46 := Tryz.isAgg140
  z46 := Tryz.sizeOf140
  v46 := Tryz.zeroValue140
  t51 := Tryz.underlying192
  a51 := Tryz.isAgg192
  z51 := Tryz.sizeOf192
  v51 := Tryz.zeroValue192
  t146 := Tryz.underlying283
  a146 := Tryz.isAgg283
  z146 := Tryz.sizeOf283
  v146 := Tryz.zeroValue283
  g1 := by kernel_rfl }
open Go.RowKit Go.Lib in
theorem Tryz.strings_Count_one (s : ByteArray) (c : UInt8) (w : World) :
    Calls Tryz.prog 156 #[.string s, .string ⟨#[c]⟩] w fun e w' => e = .returned (.int .i64 (Lib.countByte s.data.toList c)) ∧ w' = w := Any.strings_Count_one Tryz.lays138 s c w
end Go.Proofs
namespace Go.Proofs.YtndagciefnddmaaGreatDoor
open Go.RowKit Oct
theorem sizeBuilder : (Tryz.prog.info? 68).map (·.size) = some 2 := by kernel_rfl
theorem liesBuilder : liesAt Tryz.prog Tryz.prog.depth 68 (2 / Tryz.prog.cellsOf 68) 0 68 1 = true := by kernel_rfl
set_option maxHeartbeats 1000000 in
set_option maxRecDepth 100000 in
theorem copyCheck_used (b : Nat) (w : World) (h0 : w.cell? ⟨b, 0, none⟩ = some (.pointer (some ⟨b, 0, none⟩))) :
    Calls Tryz.prog 71 #[.pointer (some ⟨b, 0, none⟩)] w fun e w' => e = .returned (.tuple #[]) ∧ w' = w := by
  obtain ⟨j, hj, _⟩ := Option.map_eq_some_iff.1 sizeBuilder
  go_enter Tryz.func71, Tryz.ntmps71
  go_wp2
  rw [Lib.run_neq_ptr_same w _ Tryz.underlying65 hj]
  go_wp2
  go_end0
  exact ⟨rfl, rfl⟩
set_option maxHeartbeats 1000000 in
set_option maxRecDepth 100000 in
theorem copyCheck_fresh (b : Nat) (w : World) (h0 : w.cell? ⟨b, 0, none⟩ = some (.pointer none)) (hsh : w.shape? b = some (68, 2)) (hfz : w.frozen? ⟨b, 0, none⟩ = false) :
    Calls Tryz.prog 71 #[.pointer (some ⟨b, 0, none⟩)] w fun e w' => e = .returned (.tuple #[]) ∧ w' = w.setCell ⟨b, 0, none⟩ (.pointer (some ⟨b, 0, none⟩)) := by
  obtain ⟨j, hj, hjs⟩ := Option.map_eq_some_iff.1 sizeBuilder
  go_enter Tryz.func71, Tryz.ntmps71
  go_wp2
  rw [Lib.run_to_unsafe w ⟨b, 0, none⟩ Tryz.underlying65 Tryz.underlying185 hj (by rw [hjs]; decide) hsh (Nat.zero_lt_succ 1)]
  simp only [Result.andThen]
  rw [Oper.upon_value]
  go_wp2
  rw [run_callFunc_extern Tryz.func100 (by kernel_rfl) (by kernel_rfl) (by kernel_rfl) (e := Extern.AbiNoEscape.same) (by kernel_rfl)]
  rw [Lib.run_noEscape]
  simp only [Result.andThen]
  rw [Oper.upon_value]
  go_wp2
  rw [Lib.run_from_unsafe w ⟨b, 0, none⟩ Tryz.underlying185 Tryz.underlying65 hj hsh liesBuilder]
  simp only [Result.andThen]
  rw [Oper.upon_value]
  go_wp2
  go_end0
  exact ⟨rfl, rfl⟩
theorem copyCheck_any (B b : Nat) (bs : List Value) (w : World) (h : Lib.IsBuilder 68 5 B b bs w) :
    Calls Tryz.prog 71 #[.pointer (some ⟨b, 0, none⟩)] w fun e w' => e = .returned (.tuple #[]) ∧ (Lib.BuilderAt 68 5 B b (.pointer (some ⟨b, 0, none⟩)) bs w' ∧ Below B w w') := by
  rcases h with h | h
  · refine (copyCheck_fresh b w h.cell0 h.shape h.frozen0).mono ?_
    rintro e w' ⟨rfl, rfl⟩
    exact ⟨rfl, h.used _, (Below.refl B w).setCell (p := ⟨b, 0, none⟩) h.1 _⟩
  · refine (copyCheck_used b w h.cell0).mono ?_
    rintro e w' ⟨rfl, rfl⟩
    exact ⟨rfl, h, Below.refl B _⟩
set_option maxHeartbeats 2000000 in
set_option maxRecDepth 100000 in
theorem WriteString_raw (B b : Nat) (bs : List Value) (s : ByteArray) (w : World) (h : Lib.IsBuilder 68 5 B b bs w) (hlen : bs.length + s.size ≤ 140737488355328) (hBw : B ≤ w.heap.size) :
    Calls Tryz.prog 53 #[.pointer (some ⟨b, 0, none⟩), .string s] w fun e w' => e = .returned (.tuple #[.int .i64 s.size, .nilIface]) ∧ (Lib.BuilderAt 68 5 B b (.pointer (some ⟨b, 0, none⟩)) (bs ++ Lib.strCells s) w' ∧ Below B w w') := by
  obtain ⟨i0, hi, hz0, hz1, hz2⟩ := info_parts infoU8
  go_enter Tryz.func53, Tryz.ntmps53
  go_wp2_with (go_at_call 71; refine (copyCheck_any B b bs _ h).mono ?_)
  rintro e w1 ⟨rfl, h1, hb1⟩
  obtain ⟨hB, v, hbk, hown, hne⟩ := h1
  have c0 : w1.cell? ⟨b, 0, none⟩ = some (.pointer (some ⟨b, 0, none⟩)) := by rw [Lib.cell_of_heap hbk]; rfl
  have c1 : w1.cell? ⟨b, 1, none⟩ = some v := by rw [Lib.cell_of_heap hbk]; rfl
  go_wp2_with (at_builtin; refine Lib.wpList_append_own_string _ rfl _ _ 66 9 rfl B 5 i0 Tryz.underlying66 Tryz.underlying9 hi hz0 hz1 hz2 _ _ _ rfl hown s rfl ?c3 ?c4 ?c5 ?_)
  case c3 => unfold maxLen; omega
  case c4 => omega
  case c5 => have := hb1.size; omega
  intro v' w2 hown' hgrow _
  have hlt : b < w1.heap.size := by
    rcases Nat.lt_or_ge b w1.heap.size with h' | h'
    · exact h'
    · simp [Array.getElem?_eq_none h'] at hbk
  have hb2 : w2.heap[b]? = some (.cells #[.pointer (some ⟨b, 0, none⟩), v] 68 (0, 0)) := by
    rw [hgrow.block b hlt (fun e => hne e.symm)]
    exact hbk
  have d0 : w2.cell? ⟨b, 0, none⟩ = some (.pointer (some ⟨b, 0, none⟩)) := by rw [Lib.cell_of_heap hb2]; rfl
  have d1 : w2.cell? ⟨b, 1, none⟩ = some v := by rw [Lib.cell_of_heap hb2]; rfl
  have f1 : w2.frozen? ⟨b, 1, none⟩ = false := Lib.frozen_of_heap hb2 1
  obtain ⟨ao, n', cap, rfl⟩ : ∃ ao n' cap, v' = .slice ao n' cap := by
    rcases hown'.2 with ⟨hv, _⟩ | ⟨g, cap, cur, hv, _⟩
    · exact ⟨_, _, _, hv⟩
    · exact ⟨_, _, _, hv⟩
  go_wp2
  go_ret2
  refine ⟨rfl, ?_, ?_⟩
  · exact Lib.BuilderAt.put (T := 68) (e := 5) hB hb2 (bs' := bs ++ Lib.strCells s) (by simpa [Lib.strCells_length] using hown') (by decide)
  · exact (hb1.grown hgrow (by have := hb1.size; omega) (fun k hk => (hown.lt k hk).1)).setCell (p := ⟨b, 1, none⟩) hB _
def Bld (B b : Nat) (l : List UInt8) (w : World) : Prop := B ≤ w.heap.size ∧ Lib.IsBuilder 68 5 B b (bcells l) w
theorem Bld.fresh (w : World) : Bld w.heap.size w.heap.size [] (w.alloc (.cells #[.pointer none, .slice none 0 0] 68)) := ⟨by simp, Lib.fresh_isBuilder _ _ w⟩
theorem strCells_bs (l : List UInt8) : Lib.strCells (bs l) = bcells l := by simp [Lib.strCells, bcells, bs]
theorem BuilderAt_below {T e : TypeId} {B b : Nat} {p : Value} {l : List Value} {w w' : World} (h : Lib.BuilderAt T e B b p l w) (hB : Below w.heap.size w w') : Lib.BuilderAt T e B b p l w' := by
  have hlt := h.lt
  obtain ⟨h1, v, h2, h3, h4⟩ := h
  exact ⟨h1, v, (hB.block b hlt).trans h2, ownsRow_below h3 hB, h4⟩
theorem Bld.below {B b : Nat} {l : List UInt8} {w w' : World} (h : Bld B b l w) (hB : Below w.heap.size w w') : Bld B b l w' :=
  ⟨Nat.le_trans h.1 hB.size, h.2.imp (fun h => BuilderAt_below h hB) (fun h => BuilderAt_below h hB)⟩
theorem WriteString_any (B b : Nat) (l m : List UInt8) (w : World) (h : Bld B b l w) (hlen : l.length + m.length ≤ 140737488355328) :
    Calls Tryz.prog 53 #[.pointer (some ⟨b, 0, none⟩), .string (bs m)] w fun e w' => e = .returned (.tuple #[.int .i64 m.length, .nilIface]) ∧ Bld B b (l ++ m) w' ∧ Below B w w' := by
  refine (WriteString_raw B b (bcells l) (bs m) w h.2 (by rw [bcells_length, bs_size]; exact hlen) h.1).mono ?_
  rintro e w' ⟨rfl, h1, h2⟩
  refine ⟨by rw [bs_size], ⟨Nat.le_trans h.1 h2.size, .inr ?_⟩, h2⟩
  rw [strCells_bs] at h1
  simpa [bcells] using h1
theorem BString_any (B b : Nat) (l : List UInt8) (w : World) (h : Bld B b l w) :
    Calls Tryz.prog 38 #[.pointer (some ⟨b, 0, none⟩)] w fun e w' => e = .returned (.string (bs l)) ∧ Below B w w' :=
  Tryz.Builder_String_any B b l w h.2 h.1
end Go.Proofs.YtndagciefnddmaaGreatDoor
namespace Go.Proofs.YtndagciefnddmaaGreatDoor
open Go.RowKit
structure Chg (X : Nat → Prop) (w w' : World) : Prop where
  os : w'.os = w.os
  tape : w'.tape = w.tape
  output : w'.output = w.output
  size : w.heap.size ≤ w'.heap.size
  block : ∀ k, k < w.heap.size → ¬ X k → w'.heap[k]? = w.heap[k]?
theorem Chg.refl (X : Nat → Prop) (w : World) : Chg X w w := ⟨rfl, rfl, rfl, Nat.le_refl _, fun _ _ _ => rfl⟩
theorem Chg.trans {X : Nat → Prop} {a b c : World} (h : Chg X a b) (k : Chg X b c) : Chg X a c :=
  ⟨k.os.trans h.os, k.tape.trans h.tape, k.output.trans h.output, Nat.le_trans h.size k.size, fun i hi hx => (k.block i (Nat.lt_of_lt_of_le hi h.size) hx).trans (h.block i hi hx)⟩
theorem Chg.mono {X X' : Nat → Prop} {w w' : World} (h : Chg X w w') (hx : ∀ k, X k → X' k) : Chg X' w w' := ⟨h.os, h.tape, h.output, h.size, fun k hk hn => h.block k hk fun hxk => hn (hx k hxk)⟩
theorem Chg.of_below {X : Nat → Prop} {w w' : World} (h : Below w.heap.size w w') : Chg X w w' := ⟨h.os, h.tape, h.output, h.size, fun k hk _ => h.block k hk⟩
theorem Chg.below {X : Nat → Prop} {B : Nat} {w w' : World} (h : Chg X w w') (hX : ∀ k, X k → B ≤ k) (hB : B ≤ w.heap.size) : Below B w w' :=
  ⟨h.os, h.tape, h.output, h.size, fun k hk => h.block k (Nat.lt_of_lt_of_le hk hB) fun hx => by have := hX k hx; omega⟩
theorem Chg.alloc (X : Nat → Prop) (w : World) (o : Obj) : Chg X w (w.alloc o) := Chg.of_below (b_alloc w o)
theorem Chg.drew (X : Nat → Prop) (w : World) : Chg X w w.drew := Chg.of_below (b_drew w)
theorem Chg.setCell {X : Nat → Prop} (w : World) (a : Addr) (u : Value) (h : X a.block) : Chg X w (w.setCell a u) :=
  ⟨rfl, rfl, rfl, by simp [World.setCell], fun k _ hn => Below.heap_setCell _ _ _ _ fun e => hn (e ▸ h)⟩
theorem Chg.putObj {X : Nat → Prop} (w : World) (l : Nat) (o : Obj) (h : X l) : Chg X w (w.putObj l o) :=
  ⟨rfl, rfl, rfl, by simp, fun k _ hn => World.putObj_heap_other fun e => hn (e ▸ h)⟩
theorem Chg.at {X : Nat → Prop} {w w' : World} (h : Chg X w w') {k : Nat} {o : Obj} (hk : w.heap[k]? = some o) (hn : ¬ X k) : w'.heap[k]? = some o :=
  (h.block k (Array.getElem?_eq_some_iff.1 hk).1 hn).trans hk
theorem Chg.cell {X : Nat → Prop} {w w' : World} (h : Chg X w w') {a : Addr} {u : Value} (ha : w.cell? a = some u) (hn : ¬ X a.block) : w'.cell? a = some u :=
  (World.cell?_of_block (w := w) (h.block a.block (lt_of_cell ha) hn)).trans ha
section
variable {F : Fence} {n : Nat} {P : Program} {α : Type}
end
end Go.Proofs.YtndagciefnddmaaGreatDoor
namespace Go.Proofs.YtndagciefnddmaaGreatDoor
open Go.RowKit
def U (x : UInt32) : Int := (x.toNat : Int)
theorem U_nat (x : UInt32) : U x = (x.toNat : Int) := rfl
theorem U_lt (x : UInt32) : x.toNat < 4294967296 := x.toNat_lt
@[go_sem] theorem U_xor (a b : UInt32) : bits .xor .u32 (U a) (U b) = U (a ^^^ b) := by
  rw [U_nat, U_nat, u32_xor_nat _ _ (U_lt a) (U_lt b), U_nat, UInt32.toNat_xor]
@[go_sem] theorem U_and (a b : UInt32) : bits .and .u32 (U a) (U b) = U (a &&& b) := by
  rw [U_nat, U_nat, u32_and_nat _ _ (U_lt a) (U_lt b), U_nat, UInt32.toNat_and]
@[go_sem] theorem U_or (a b : UInt32) : bits .or .u32 (U a) (U b) = U (a ||| b) := by
  rw [U_nat, U_nat, u32_or_nat _ _ (U_lt a) (U_lt b), U_nat, UInt32.toNat_or]
theorem wrap_u32 (z : Int) : IntKind.u32.wrap z = z % (4294967296 : Int) := by
  simp [IntKind.wrap, IntKind.bits, IntKind.signed]
@[go_sem] theorem U_add (a b : UInt32) : IntKind.u32.wrap (U a + U b) = U (a + b) := by
  rw [wrap_u32, U_nat, U_nat, U_nat, UInt32.toNat_add]; omega
theorem U_shr (x : UInt32) (n : Nat) (h : n ≤ 31) : U x / 2 ^ n = U (x >>> UInt32.ofNat n) := by
  rw [U_nat, U_nat, UInt32.toNat_shiftRight, UInt32.toNat_ofNat_of_lt' (by show n < 4294967296; omega), Nat.mod_eq_of_lt (by omega), Nat.shiftRight_eq_div_pow]
  norm_cast
theorem U_shl (x : UInt32) (n : Nat) (h : n ≤ 31) : U x * 2 ^ n % 4294967296 = U (x <<< UInt32.ofNat n) := by
  rw [U_nat, U_nat, UInt32.toNat_shiftLeft, UInt32.toNat_ofNat_of_lt' (by show n < 4294967296; omega), Nat.mod_eq_of_lt (show n < 32 by omega), Nat.shiftLeft_eq]
  have e : (4294967296 : Int) = ((2 ^ 32 : Nat) : Int) := rfl
  have e2 : (2 : Int) ^ n = ((2 ^ n : Nat) : Int) := by norm_cast
  rw [e, e2, ← Int.natCast_mul, ← Int.natCast_emod]
@[go_sem] theorem U_shl24 (x : UInt32) : U x * (16777216 : Int) % (4294967296 : Int) = U (x <<< 24) := U_shl x 24 (by omega)
@[go_sem] theorem U_shl16 (x : UInt32) : U x * (65536 : Int) % (4294967296 : Int) = U (x <<< 16) := U_shl x 16 (by omega)
@[go_sem] theorem U_shl8 (x : UInt32) : U x * (256 : Int) % (4294967296 : Int) = U (x <<< 8) := U_shl x 8 (by omega)
@[go_sem] theorem U_shr3 (x : UInt32) : U x / (8 : Int) = U (x >>> 3) := U_shr x 3 (by omega)
@[go_sem] theorem U_shr10 (x : UInt32) : U x / (1024 : Int) = U (x >>> 10) := U_shr x 10 (by omega)
@[go_sem] theorem U_add' (a b : UInt32) : (U a + U b) % (4294967296 : Int) = U (a + b) := by rw [← wrap_u32, U_add]
@[go_sem] theorem U_add3 (a b c : UInt32) : (U a + U b + U c) % (4294967296 : Int) = U (a + b + c) := by
  simp only [U_nat, UInt32.toNat_add]; omega
@[go_sem] theorem U_add4 (a b c d : UInt32) : (U a + U b + U c + U d) % (4294967296 : Int) = U (a + b + c + d) := by
  simp only [U_nat, UInt32.toNat_add]; omega
@[go_sem] theorem U_add5 (a b c d e : UInt32) : (U a + U b + U c + U d + U e) % (4294967296 : Int) = U (a + b + c + d + e) := by
  simp only [U_nat, UInt32.toNat_add]; omega
@[go_sem] theorem U_byte (c : UInt8) : (c.toNat : Int) % (4294967296 : Int) = U c.toUInt32 := by
  have := c.toNat_lt
  rw [U_nat, UInt8.toNat_toUInt32]; omega
def Blk (w : World) (b : Nat) (t : TypeId) (cs : List Value) : Prop := w.heap[b]? = some (.cells cs.toArray t (0, 0))
theorem Blk.lt {w : World} {b : Nat} {t : TypeId} {cs : List Value} (h : Blk w b t cs) : b < w.heap.size := by
  rcases Nat.lt_or_ge b w.heap.size with hn | hn
  · exact hn
  · simp [Blk, Array.getElem?_eq_none hn] at h
theorem Blk.cell {w : World} {b : Nat} {t : TypeId} {cs : List Value} (h : Blk w b t cs) {k : Nat} {v : Value} (hv : cs[k]? = some v) : w.cell? ⟨b, k, none⟩ = some v := by
  rw [cell_of_row w b k _ t _ h]; simpa using hv
theorem Blk.free {w : World} {b : Nat} {t : TypeId} {cs : List Value} (h : Blk w b t cs) {k : Nat} (hk : k < cs.length) : w.frozen? ⟨b, k, none⟩ = false := by
  unfold Blk at h
  simp [World.frozen?, h]
theorem Blk.set {w : World} {b : Nat} {t : TypeId} {cs : List Value} (h : Blk w b t cs) (k : Nat) (v : Value) : Blk (w.setCell ⟨b, k, none⟩ v) b t (cs.set k v) := by
  unfold Blk at h ⊢
  simp [World.setCell, Array.getElem?_modify, h]
theorem Blk.row {w : World} {b : Nat} {t : TypeId} {cs : List Value} (h : Blk w b t cs) (cs' : List Value) : Blk (w.setRow b cs'.toArray) b t cs' := by
  unfold Blk at h ⊢
  simp [World.setRow, Array.getElem?_modify, h]
theorem Blk.below {w w' : World} {b : Nat} {t : TypeId} {cs : List Value} (h : Blk w b t cs) (hB : Below w.heap.size w w') : Blk w' b t cs := by
  unfold Blk; rw [hB.block b h.lt]; exact h
theorem Blk.chg {X : Nat → Prop} {w w' : World} {b : Nat} {t : TypeId} {cs : List Value} (h : Blk w b t cs) (hB : Chg X w w') (hX : ¬ X b) : Blk w' b t cs := hB.at h hX
theorem Blk.new (w : World) (cs : List Value) (t : TypeId) : Blk (w.alloc (.cells cs.toArray t)) w.heap.size t cs := by
  exact heap_alloc_last w _
theorem Blk.range {w : World} {b : Nat} {t : TypeId} {cs : List Value} (h : Blk w b t cs) : w.rangeAt b 0 cs := fun j v hv => by rw [Nat.zero_add]; exact h.cell hv
theorem heap_setRow_ne (w : World) (b : Nat) (cs : Array Value) (k : Nat) (h : k ≠ b) : (w.setRow b cs).heap[k]? = w.heap[k]? := by
  unfold World.setRow
  rw [Array.getElem?_modify, if_neg (fun e => h e.symm)]
theorem setRow_size (w : World) (b : Nat) (cs : Array Value) : (w.setRow b cs).heap.size = w.heap.size := by simp [World.setRow]
theorem chg_setRow {X : Nat → Prop} (w : World) (b : Nat) (cs : Array Value) (hX : X b) : Chg X w (w.setRow b cs) :=
  ⟨rfl, rfl, rfl, by rw [setRow_size]; exact Nat.le_refl _, fun k _ hn => heap_setRow_ne w b cs k fun e => hn (e ▸ hX)⟩
section
variable {P : Program} {ops : Array Oper} {rest : List Oper} {op : Oper} {a : Act} {w : World} {Q : Exit → Act → World → Prop}
theorem blk_load (b : Nat) (cs : List Value) {t : TypeId} (h : Blk w b t cs) (d : TypeDesc) (hgd : op.guard = none) (ty : TypeId) (x : Operand) (ho : op.op = .load ty x) (hx : a.eval x = .pointer (some ⟨b, 0, none⟩))
    (hu : P.underlying ty = some d) (hd : (match d with | .struct _ | .array _ _ => true | _ => false) = true) (hi : (P.info? ty).map (·.size) = some cs.length)
    (k : wpList P ops Q rest (a.put op.dst (.agg cs.toArray)) w) : wpList P ops Q (op :: rest) a w :=
  wpList_plain hgd fun _ hK => wp_load_row ty x ho b hx t cs.toArray (0, 0) d h hu hd (by simpa using hi) (hK _ _ k)
theorem blk_store (b : Nat) (cs cs' : List Value) {t : TypeId} (h : Blk w b t cs) (hgd : op.guard = none) (ty : TypeId) (x y : Operand) (ho : op.op = .store ty x y) (hx : a.eval x = .pointer (some ⟨b, 0, none⟩))
    (hy : a.eval y = .agg cs'.toArray) (hi : (P.info? ty).map (·.size) = some cs'.length) (hl : cs.length = cs'.length) (h1 : cs'.toArray.all (·.oneCell') = true)
    (k : wpList P ops Q rest (a.put op.dst undef) (w.setRow b cs'.toArray)) : wpList P ops Q (op :: rest) a w :=
  wpList_plain hgd fun _ hK => wp_store_row ty x y ho b cs'.toArray hx hy t cs.toArray h (by simpa using hi) (by simpa using hl) h1 (hK _ _ k)
end
end Go.Proofs.YtndagciefnddmaaGreatDoor
namespace Go.Proofs.YtndagciefnddmaaGreatDoor
open Go.RowKit Oct
abbrev PR := List UInt8 × List UInt8
def pcells : List PR → List Value
  | [] => []
  | p :: l => .string (bs p.1) :: .string (bs p.2) :: pcells l
theorem pcells_key : ∀ (l : List PR) (k : Nat) (h : k < l.length), (pcells l)[k * 2]? = some (.string (bs l[k].1))
  | p :: l, 0, _ => rfl
  | p :: l, k + 1, h => by
    have := pcells_key l k (by simpa using h)
    rw [show (k + 1) * 2 = k * 2 + 2 by omega]
    simpa [pcells] using this
theorem pcells_val : ∀ (l : List PR) (k : Nat) (h : k < l.length), (pcells l)[k * 2 + 1]? = some (.string (bs l[k].2))
  | p :: l, 0, _ => rfl
  | p :: l, k + 1, h => by
    have := pcells_val l k (by simpa using h)
    rw [show (k + 1) * 2 + 1 = k * 2 + 1 + 2 by omega]
    simpa [pcells] using this
theorem pcells_drop : ∀ (l : List PR) (k : Nat), (pcells l).drop (k * 2) = pcells (l.drop k)
  | l, 0 => by simp
  | [], k + 1 => by simp [pcells]
  | p :: l, k + 1 => by
    rw [show (k + 1) * 2 = k * 2 + 2 by omega]
    simp [pcells, pcells_drop l k]
theorem pcells_take : ∀ (l : List PR) (k : Nat), (pcells l).take (k * 2) = pcells (l.take k)
  | l, 0 => by simp [pcells]
  | [], k + 1 => by simp [pcells]
  | p :: l, k + 1 => by
    rw [show (k + 1) * 2 = k * 2 + 2 by omega]
    simp [pcells, pcells_take l k]
def RP (w : World) (v : Value) (l : List PR) : Prop := Reads w v l.length (pcells l) ∧ ∃ a cap, v = .slice a l.length cap ∧ l.length ≤ cap
theorem RP.below {w w' : World} {v : Value} {l : List PR} (h : RP w v l) (hB : Below w.heap.size w w') : RP w' v l := ⟨Reads.below h.1 hB, h.2⟩
def OP (w : World) (base : Nat) (v : Value) (l : List PR) : Prop := w.ownsRow base 60 2 v l.length (pcells l)
theorem OP.reads {w : World} {base : Nat} {v : Value} {l : List PR} (h : OP w base v l) : RP w v l := by
  refine ⟨Reads.owned h, ?_⟩
  rcases h.2 with ⟨hv, h0⟩ | ⟨g, cap, cur, hv, _, _, hc, _⟩
  · exact ⟨none, 0, by rw [hv, h0], by omega⟩
  · exact ⟨_, _, hv, hc⟩
theorem OP.below {w w' : World} {base : Nat} {v : Value} {l : List PR} (h : OP w base v l) (hB : Below w.heap.size w w') : OP w' base v l := ownsRow_below h hB
theorem RP.nil (w : World) : RP w (.slice none 0 0) [] := ⟨Reads.nil w, none, 0, rfl, Nat.le_refl _⟩
theorem OP.nil (w : World) (base : Nat) : OP w base (.slice none 0 0) [] := ⟨rfl, .inl ⟨rfl, rfl⟩⟩
theorem RP.new (w : World) (l : List PR) (e : TypeId) : RP (w.alloc (.cells (pcells l).toArray e)) (.slice (some ⟨w.heap.size, 0, none⟩) l.length l.length) l := ⟨Reads.new w _ _ _ _, _, _, rfl, Nat.le_refl _⟩
theorem RP.open {w : World} {v : Value} {l : List PR} (h : RP w v l) : ∃ a cap, v = .slice a l.length cap ∧ l.length ≤ cap ∧
    ∀ k (hk : k < l.length), ∃ b off, a = some ⟨b, off, none⟩ ∧ w.cell? ⟨b, off + k * 2, none⟩ = some (.string (bs l[k].1)) ∧ w.cell? ⟨b, off + k * 2 + 1, none⟩ = some (.string (bs l[k].2)) := by
  obtain ⟨⟨a, cap, rfl, hn, hc⟩, a', cap', hv, hle⟩ := h
  injection hv with _ _ h3
  subst h3
  refine ⟨a, cap, rfl, hle, fun k hk => ?_⟩
  obtain ⟨b, off, rfl, h1⟩ := hc _ _ (pcells_key l k hk)
  obtain ⟨b', off', hb, h2⟩ := hc _ _ (pcells_val l k hk)
  cases hb
  exact ⟨b, off, rfl, h1, h2⟩
theorem Reads.mk {w : World} {a : Option Addr} {n cap : Nat} {xs : List Value} (h1 : a = none → n = 0 ∧ cap = 0) (h2 : ∀ j u, xs[j]? = some u → ∃ b off, a = some ⟨b, off, none⟩ ∧ w.cell? ⟨b, off + j, none⟩ = some u) : Reads w (.slice a n cap) n xs := ⟨a, cap, rfl, h1, h2⟩
theorem none_cap {w : World} {a : Option Addr} {n cap : Nat} {xs : List Value} (h : Reads w (.slice a n cap) n xs) : a = none → n = 0 ∧ cap = 0 := by
  obtain ⟨a', cap', hv, hn, _⟩ := h
  injection hv with h1 _ h3
  subst h1 h3
  exact hn
theorem RP.sub {w : World} {a : Option Addr} {cap : Nat} {l : List PR} (h : RP w (.slice a l.length cap) l) (lo hi : Nat) (h1 : lo ≤ hi) (h2 : hi ≤ l.length) :
    RP w (sliced a lo hi cap 2) ((l.drop lo).take (hi - lo)) := by
  have hlen : ((l.drop lo).take (hi - lo)).length = hi - lo := by simp; omega
  obtain ⟨hr, a', cap', hv, hle⟩ := h
  injection hv with _ _ h3
  subst h3
  have hn := none_cap hr
  obtain ⟨a', cap', hv, _, hc⟩ := hr
  injection hv with e1 _ e3
  subst e1 e3
  unfold sliced
  refine ⟨?_, _, _, by rw [hlen], by rw [hlen]; omega⟩
  rw [hlen]
  refine Reads.mk ?_ ?_
  · intro ha
    by_cases e : cap = lo
    · omega
    · rw [if_neg e] at ha
      have : a = none := by simpa using ha
      have := hn this
      omega
  · intro j u hj
    rw [← pcells_take, ← pcells_drop, List.getElem?_take] at hj
    split at hj
    · rename_i hlt
      rw [List.getElem?_drop] at hj
      obtain ⟨b, off, rfl, hu⟩ := hc _ _ hj
      rw [if_neg (by omega)]
      refine ⟨b, off + lo * 2, ?_, ?_⟩
      · rw [Option.map_some, Addr.add_lit]
      · rw [← hu, Nat.add_assoc]
    · simp at hj
theorem RP.cut {w : World} {a : Option Addr} {cap : Nat} {l : List PR} (h : RP w (.slice a l.length cap) l) (k : Nat) (hk : k ≤ l.length) : RP w (sliced a k l.length cap 2) (l.drop k) := by
  have := h.sub k l.length hk (Nat.le_refl _)
  rwa [List.take_of_length_le (by simp)] at this
theorem RP.head {w : World} {a : Option Addr} {cap : Nat} {l : List PR} (h : RP w (.slice a l.length cap) l) (k : Nat) (hk : k ≤ l.length) : RP w (sliced a 0 k cap 2) (l.take k) := by
  have := h.sub 0 k (by omega) hk
  simpa using this
end Go.Proofs.YtndagciefnddmaaGreatDoor
namespace Go.Proofs.YtndagciefnddmaaGreatDoor
open Go.RowKit Oct
structure Rec (α : Type) where
  cell : α → List Value
  e : TypeId
  n : Nat
  bytes : Nat
  z : Value
  len : ∀ x, (cell x).length = n
  one : ∀ x, ∀ u ∈ cell x, u.oneCell' = true
  info : (Tryz.prog.info? e).map (fun i => (i.zero, i.size, i.bytes)) = some (some z, n, bytes)
  zs : z.cells.size = n
  pos : 0 < n
  bpos : 0 < bytes
section
variable {α : Type}
def Rec.cells (R : Rec α) : List α → List Value
  | [] => []
  | x :: l => R.cell x ++ R.cells l
theorem Rec.cells_length (R : Rec α) : ∀ l : List α, (R.cells l).length = l.length * R.n
  | [] => by simp [Rec.cells]
  | x :: l => by rw [Rec.cells, List.length_append, R.len, R.cells_length l, List.length_cons, Nat.add_mul]; omega
theorem Rec.cells_append (R : Rec α) : ∀ a b : List α, R.cells (a ++ b) = R.cells a ++ R.cells b
  | [], _ => rfl
  | x :: a, b => by rw [List.cons_append, Rec.cells, Rec.cells, R.cells_append a b, List.append_assoc]
theorem Rec.cells_one (R : Rec α) (l : List α) : ∀ u ∈ R.cells l, u.oneCell' = true := by
  induction l with
  | nil => intro u h; simp [Rec.cells] at h
  | cons x l ih =>
    intro u h
    rw [Rec.cells, List.mem_append] at h
    rcases h with h | h
    · exact R.one x u h
    · exact ih u h
theorem Rec.cells_at (R : Rec α) : ∀ (l : List α) (k : Nat) (h : k < l.length) (j : Nat) (u : Value), (R.cell l[k])[j]? = some u → (R.cells l)[k * R.n + j]? = some u
  | x :: l, 0, _, j, u, hu => by
    rw [List.getElem_cons_zero] at hu
    rw [Nat.zero_mul, Nat.zero_add, Rec.cells, List.getElem?_append_left (List.getElem?_eq_some_iff.1 hu).1]
    exact hu
  | x :: l, k + 1, h, j, u, hu => by
    have := R.cells_at l k (by simpa using h) j u hu
    rw [Rec.cells, List.getElem?_append_right (by rw [R.len, Nat.add_mul]; omega), R.len, show (k + 1) * R.n + j - R.n = k * R.n + j by rw [Nat.add_mul]; omega]
    exact this
theorem Rec.cells_drop (R : Rec α) : ∀ (l : List α) (k : Nat), (R.cells l).drop (k * R.n) = R.cells (l.drop k)
  | l, 0 => by simp
  | [], k + 1 => by simp [Rec.cells]
  | x :: l, k + 1 => by
    rw [List.drop_succ_cons, ← R.cells_drop l k, Rec.cells, show (k + 1) * R.n = (R.cell x).length + k * R.n by rw [R.len, Nat.add_mul]; omega, ← List.drop_drop, List.drop_left]
theorem Rec.cells_take (R : Rec α) : ∀ (l : List α) (k : Nat), (R.cells l).take (k * R.n) = R.cells (l.take k)
  | l, 0 => by simp [Rec.cells]
  | [], k + 1 => by simp [Rec.cells]
  | x :: l, k + 1 => by
    rw [List.take_succ_cons, Rec.cells, Rec.cells, ← R.cells_take l k, show (k + 1) * R.n = (R.cell x).length + k * R.n by rw [R.len, Nat.add_mul]; omega, List.take_length_add_append]
def Rec.Row (R : Rec α) (w : World) (v : Value) (l : List α) : Prop := Reads w v l.length (R.cells l) ∧ ∃ a cap, v = .slice a l.length cap ∧ l.length ≤ cap
def Rec.Own (R : Rec α) (w : World) (base : Nat) (v : Value) (l : List α) : Prop := w.ownsRow base R.e R.n v l.length (R.cells l)
variable {R : Rec α} {w w' : World} {v : Value} {l : List α}
theorem Rec.Row.below (h : R.Row w v l) (hB : Below w.heap.size w w') : R.Row w' v l := ⟨Reads.below h.1 hB, h.2⟩
theorem Rec.Own.row {base : Nat} (h : R.Own w base v l) : R.Row w v l := by
  refine ⟨Reads.owned h, ?_⟩
  rcases h.2 with ⟨hv, h0⟩ | ⟨g, cap, cur, hv, _, _, hc, _⟩
  · exact ⟨none, 0, by rw [hv, h0], by omega⟩
  · exact ⟨_, _, hv, hc⟩
theorem Rec.Own.below {base : Nat} (h : R.Own w base v l) (hB : Below w.heap.size w w') : R.Own w' base v l := ownsRow_below h hB
theorem Rec.Own.mono {base base' : Nat} (h : R.Own w base v l) (hb : base' ≤ base) : R.Own w base' v l := owns_mono h hb
theorem Rec.Row.nil (w : World) : R.Row w (.slice none 0 0) [] := ⟨Reads.nil w, none, 0, rfl, Nat.le_refl _⟩
theorem Rec.Own.nil (w : World) (base : Nat) : R.Own w base (.slice none 0 0) [] := ⟨by simp [Rec.cells], .inl ⟨rfl, rfl⟩⟩
theorem Rec.Row.new (w : World) (l : List α) (e : TypeId) : R.Row (w.alloc (.cells (R.cells l).toArray e)) (.slice (some ⟨w.heap.size, 0, none⟩) l.length l.length) l := ⟨Reads.new w _ _ _ _, _, _, rfl, Nat.le_refl _⟩
theorem Rec.Row.open (h : R.Row w v l) : ∃ a cap, v = .slice a l.length cap ∧ l.length ≤ cap ∧
    ∀ k (hk : k < l.length), ∃ b off, a = some ⟨b, off, none⟩ ∧ ∀ j u, (R.cell l[k])[j]? = some u → w.cell? ⟨b, off + k * R.n + j, none⟩ = some u := by
  obtain ⟨⟨a, cap, rfl, hn, hc⟩, a', cap', hv, hle⟩ := h
  injection hv with _ _ h3
  subst h3
  refine ⟨a, cap, rfl, hle, fun k hk => ?_⟩
  obtain ⟨u0, hu0⟩ : ∃ u, (R.cell l[k])[0]? = some u := ⟨_, List.getElem?_eq_getElem (l := R.cell l[k]) (i := 0) (by rw [R.len]; exact R.pos)⟩
  obtain ⟨b, off, rfl, h1⟩ := hc _ _ (R.cells_at l k hk 0 u0 hu0)
  refine ⟨b, off, rfl, fun j u hu => ?_⟩
  obtain ⟨b', off', hb, h2⟩ := hc _ _ (R.cells_at l k hk j u hu)
  cases hb
  rw [Nat.add_assoc]
  exact h2
theorem Rec.append {ops : Array Oper} {rest : List Oper} {o : Oper} {a : Act} {Q : Exit → Act → World → Prop} (R : Rec α) (w : World) (hgd : o.guard = none) (s x : Operand) (t : TypeId)
    (ho : o.op = .call { callee := .builtin .append, args := #[s, x], argTypes := #[t, t] }) (ht : Tryz.prog.underlying t = some (.slice R.e))
    (base : Nat) (v : Value) (xs : List α) (hown : R.Own w base v xs) (hs : a.eval s = v)
    (vx : Value) (ys : List α) (hr : R.Row w vx ys) (hx : a.eval x = vx) (hbytes : (xs.length + ys.length) * R.bytes ≤ 140737488355328) (hbase : base ≤ w.heap.size)
    (h : ∀ v' w', R.Own w' base v' (xs ++ ys) → Below base w w' → wpList Tryz.prog ops Q rest (a.put o.dst v') w') : wpList Tryz.prog ops Q (o :: rest) a w :=
  appendN w (R.cells ys) R.e hgd s x t ho base R.z R.n R.bytes ht R.info R.zs R.pos v xs.length (R.cells xs) hs hown vx ys.length hx hr.1 (R.cells_length ys) (R.cells_one ys) hbytes R.bpos hbase
    (fun v' w' h1 h2 => h v' w' (by unfold Rec.Own; rw [R.cells_append, List.length_append]; exact h1) h2)
theorem Rec.Row.sub {a : Option Addr} {cap : Nat} (h : R.Row w (.slice a l.length cap) l) (lo hi : Nat) (h1 : lo ≤ hi) (h2 : hi ≤ l.length) :
    R.Row w (sliced a lo hi cap R.n) ((l.drop lo).take (hi - lo)) := by
  have hlen : ((l.drop lo).take (hi - lo)).length = hi - lo := by simp; omega
  obtain ⟨hr, a', cap', hv, hle⟩ := h
  injection hv with _ _ h3
  subst h3
  have hn := none_cap hr
  obtain ⟨a', cap', hv, _, hc⟩ := hr
  injection hv with e1 _ e3
  subst e1 e3
  unfold sliced
  refine ⟨?_, _, _, by rw [hlen], by rw [hlen]; omega⟩
  rw [hlen]
  refine Reads.mk ?_ ?_
  · intro ha
    by_cases e : cap = lo
    · omega
    · rw [if_neg e] at ha
      have : a = none := by simpa using ha
      have := hn this
      omega
  · intro j u hj
    rw [← Rec.cells_take, ← Rec.cells_drop, List.getElem?_take] at hj
    split at hj
    · rename_i hlt
      rw [List.getElem?_drop] at hj
      obtain ⟨b, off, rfl, hu⟩ := hc _ _ hj
      have hne : cap ≠ lo := by
        intro e
        have : hi - lo = 0 := by omega
        rw [this, Nat.zero_mul] at hlt
        omega
      rw [if_neg hne]
      refine ⟨b, off + lo * R.n, ?_, ?_⟩
      · rw [Option.map_some, Addr.add_lit]
      · rw [← hu, Nat.add_assoc]
    · simp at hj
theorem Rec.Row.cut {a : Option Addr} {cap : Nat} (h : R.Row w (.slice a l.length cap) l) (k : Nat) (hk : k ≤ l.length) : R.Row w (sliced a k l.length cap R.n) (l.drop k) := by
  have := h.sub k l.length hk (Nat.le_refl _)
  rwa [List.take_of_length_le (by simp)] at this
theorem Rec.Row.head {a : Option Addr} {cap : Nat} (h : R.Row w (.slice a l.length cap) l) (k : Nat) (hk : k ≤ l.length) : R.Row w (sliced a 0 k cap R.n) (l.take k) := by
  have := h.sub 0 k (by omega) hk
  simpa using this
end
end Go.Proofs.YtndagciefnddmaaGreatDoor
namespace Go.Proofs.YtndagciefnddmaaGreatDoor
open Go.RowKit Oct
def recS : Rec (List UInt8) where
  cell s := [.string (bs s)]
  e := 9
  n := 1
  bytes := 16
  z := .string ByteArray.empty
  len := fun _ => rfl
  one := by intro x u h; simp at h; subst h; rfl
  info := by kernel_rfl
  zs := rfl
  pos := by decide
  bpos := by decide
theorem recS_open {w : World} {v : Value} {l : List (List UInt8)} (h : recS.Row w v l) : ∃ a cap, v = .slice a l.length cap ∧ l.length ≤ cap ∧ ∀ k (hk : k < l.length), ∃ b off, a = some ⟨b, off, none⟩ ∧ w.cell? ⟨b, off + k, none⟩ = some (.string (bs l[k])) := by
  obtain ⟨a, cap, hv, hle, hc⟩ := h.open
  refine ⟨a, cap, hv, hle, fun k hk => ?_⟩
  obtain ⟨b, off, ha, hu⟩ := hc k hk
  have := hu 0 _ rfl
  rw [show recS.n = 1 from rfl, Nat.mul_one, Nat.add_zero] at this
  exact ⟨b, off, ha, this⟩
end Go.Proofs.YtndagciefnddmaaGreatDoor
namespace Go.Proofs.YtndagciefnddmaaGreatDoor
open Go.RowKit Oct
theorem count_kind (s : List UInt8) (w : World) : Calls Tryz.prog 156 #[.string (bs s), .string (bs [82])] w fun e w' => e = .returned (.int .i64 (Lib.countByte s 82)) ∧ w' = w := by
  have := Tryz.strings_Count_one (bs s) 82 w
  rwa [bs_data] at this
theorem index_kind (s : List UInt8) (w : World) : Calls Tryz.prog 158 #[.string (bs s), .string (bs [82])] w fun e w' => e = .returned (.int .i64 (Lib.indexByte s 82)) ∧ w' = w := by
  have := Tryz.strings_Index_one (bs s) 82 w
  rwa [bs_data] at this
theorem grow_kind (B b : Nat) (w : World) (hB : B ≤ b) (hbk : w.heap[b]? = some (.cells #[.pointer none, .slice none 0 0] 68 (0, 0))) (hBw : B ≤ w.heap.size) :
    Calls Tryz.prog 157 #[.pointer (some ⟨b, 0, none⟩), .int .i64 1] w fun e w' => e = .returned (.tuple #[]) ∧ Bld B b [] w' ∧ Below B w w' := by
  refine (Tryz.Builder_Grow_fresh B b 1 w hB hbk hBw (by decide)).mono ?_
  rintro e w' ⟨rfl, h1, h2⟩
  exact ⟨rfl, ⟨Nat.le_trans hBw h2.size, .inr h1⟩, h2⟩
set_option maxRecDepth 100000 in
set_option maxHeartbeats 4000000 in
theorem Replace_no (s r : List UInt8) (w : World) (h0 : Lib.countByte s 82 = 0) (hr : r = [84] ∨ r = [78]) :
    Calls Tryz.prog 149 #[.string (bs s), .string (bs [82]), .string (bs r), .int .i64 (-1)] w fun e w' => e = .returned (.string (bs s)) ∧ Below w.heap.size w w' := by
  have HC := Lib.hid (count_kind s w)
  rw [h0] at HC
  clear h0
  rcases hr with rfl | rfl
  · go_enter Tryz.func149, Tryz.ntmps149
    go_wp2_with fail
    refine HC.out.mono ?_
    rintro e w1 ⟨rfl, rfl⟩
    go_wp2_with fail
    go_ret
    exact ⟨rfl, Below.refl _ _⟩
  · go_enter Tryz.func149, Tryz.ntmps149
    go_wp2_with fail
    refine HC.out.mono ?_
    rintro e w1 ⟨rfl, rfl⟩
    go_wp2_with fail
    go_ret
    exact ⟨rfl, Below.refl _ _⟩
set_option maxRecDepth 100000 in
set_option maxHeartbeats 4000000 in
theorem Replace_one (r : List UInt8) (w : World) (hr : r = [84] ∨ r = [78]) :
    Calls Tryz.prog 149 #[.string (bs [82]), .string (bs [82]), .string (bs r), .int .i64 (-1)] w fun e w' => e = .returned (.string (bs r)) ∧ Below w.heap.size w w' := by
  have HC := Lib.hid (count_kind [82] w)
  rw [show Lib.countByte [82] 82 = 1 from rfl] at HC
  have HI := Lib.hid (fun w => index_kind [82] w)
  have hl : r.length = 1 := by rcases hr with rfl | rfl <;> rfl
  have hne : ((82 : UInt8) :: [] == r) = false := by rcases hr with rfl | rfl <;> rfl
  have hl1 : (r.length : Int) = 1 := by omega
  clear hr
  go_enter Tryz.func149, Tryz.ntmps149
  go_wp2_with fail
  refine HC.out.mono ?_
  rintro e w1 ⟨rfl, rfl⟩
  go_wp2_with fail
  refine (grow_kind w1.heap.size w1.heap.size _ (Nat.le_refl _) (World.alloc_heap_new w1 _) (by simp)).mono ?_
  rintro e w2 ⟨rfl, hb2, hB2⟩
  have HB2 := Lib.hid hb2
  have HW2 := Lib.hid ((b_alloc w1 _).trans hB2)
  clear hb2 hB2
  have hs0 : ∀ wx, (Instr.slice 9 (.string (bs [82])) (some (.int .i64 0)) none none).run Tryz.prog wx = .ok (.string (bs [82])) wx := by intro wx; kernel_rfl
  have hs1 : ∀ wx, (Instr.slice 9 (.string (bs [82])) (some (.int .i64 0)) (some (.int .i64 0)) none).run Tryz.prog wx = .ok (.string (bs [])) wx := by intro wx; kernel_rfl
  have hs2 : ∀ wx, (Instr.slice 9 (.string (bs [82])) (some (.int .i64 1)) none none).run Tryz.prog wx = .ok (.string (bs [])) wx := by intro wx; kernel_rfl
  have H0 := Lib.hid hs0
  have H1 := Lib.hid hs1
  have H2 := Lib.hid hs2
  clear hs0 hs1 hs2
  go_wp2
  go_loopw [11, 53] (fun t11 t53 wr => (t11 = .int .i64 0 ∧ t53 = .int .i64 0 ∧ Hid (Bld w1.heap.size w1.heap.size [] wr) ∧ Hid (Below w1.heap.size w1 wr)) ∨ (t11 = .int .i64 1 ∧ t53 = .int .i64 1 ∧ Hid (Bld w1.heap.size w1.heap.size r wr) ∧ Hid (Below w1.heap.size w1 wr))) (fun _ t53 _ => 1 - (intOf t53).toNat)
  case atStart => exact .inl ⟨rfl, rfl, HB2.out, HW2.out⟩
  case round =>
    rcases hrel with ⟨rfl, rfl, HB, HW⟩ | ⟨rfl, rfl, HB, HW⟩
    · have hs0 := H0.out
      go_wp2_with fail
      refine (HI.out _).mono ?_
      rw [show Lib.indexByte [82] 82 = 0 from rfl]
      rintro e w3 ⟨rfl, rfl⟩
      have hs1 := H1.out
      clear hs0
      go_wp2_with fail
      refine (WriteString_any _ _ [] [] _ HB.out (by decide)).mono ?_
      rintro e w4 ⟨rfl, hb4, hB4⟩
      have HB4 := Lib.hid hb4
      have HW4 := Lib.hid (HW.out.trans hB4)
      clear hb4 hB4 hs1
      go_wp2_with fail
      refine (WriteString_any _ _ [] r _ HB4.out (by simp; omega)).mono ?_
      rintro e w5 ⟨rfl, hb5, hB5⟩
      have HB5 := Lib.hid hb5
      have HW5 := Lib.hid (HW4.out.trans hB5)
      clear hb5 hB5
      go_wp2
      exact ⟨.inr ⟨rfl, rfl, HB5.out, HW5.out⟩, by simp [intOf]⟩
    · have hs2 := H2.out
      go_wp2_with fail
      refine (WriteString_any _ _ r [] _ HB.out (by simp; omega)).mono ?_
      rintro e w4 ⟨rfl, hb4, hB4⟩
      rw [List.append_nil] at hb4
      have HB4 := Lib.hid hb4
      have HW4 := Lib.hid (HW.out.trans hB4)
      clear hb4 hB4 hs2
      go_wp2_with fail
      refine (BString_any _ _ r _ HB4.out).mono ?_
      rintro e w5 ⟨rfl, hB5⟩
      go_wp2_with fail
      go_ret
      exact ⟨rfl, HW4.out.trans hB5⟩
theorem ReplaceAll_any (s r : List UInt8) (w : World) (hs : Lib.countByte s 82 = 0 ∨ s = [82]) (hr : r = [84] ∨ r = [78]) :
    Calls Tryz.prog 144 #[.string (bs s), .string (bs [82]), .string (bs r)] w fun e w' => e = .returned (.string (bs (replV s r))) ∧ Below w.heap.size w w' := by
  rcases hs with hs | rfl
  · have hne : s ≠ [82] := by rintro rfl; exact absurd hs (by decide)
    have HR := Lib.hid (Replace_no s r w hs hr)
    have HE := Lib.hid (show replV s r = s by unfold replV; rw [if_neg hne])
    clear hs hr hne
    go_enter Tryz.func144, Tryz.ntmps144
    go_wp2_with fail
    refine HR.out.mono ?_
    rintro e w1 ⟨rfl, hB⟩
    go_wp2_with fail
    go_ret
    exact ⟨by rw [HE.out]; rfl, hB⟩
  · have HR := Lib.hid (Replace_one r w hr)
    clear hr
    go_enter Tryz.func144, Tryz.ntmps144
    go_wp2_with fail
    refine HR.out.mono ?_
    rintro e w1 ⟨rfl, hB⟩
    go_wp2_with fail
    go_ret
    exact ⟨rfl, hB⟩
end Go.Proofs.YtndagciefnddmaaGreatDoor
