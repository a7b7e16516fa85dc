/- Lemmas for CodeTells, part 1: walks of the functions that it reaches, and the plain laws behind them. -/
import Derived.Test.YtbcjfppdeapamaaDoorRows
import Derived.WalkKit
import Derived.WalkSpells
import Derived.WalkLawsBesides
import Derived.Lib.Strings
import Derived.Lib.Hide
import Derived.Deep.QuietTactic
import Derived.BigQuiet
import Derived.Deep.AppendLies
import Derived.Laws.AppendOwnNone
import Derived.Deep.RegionLaw
import Derived.Lib.Builder
import Derived.Lib.AppendStr
import Derived.Test.YtbcjfppdeapamaaDoorShelf
import Derived.RangeFuncNested
import Derived.RangeFuncBound
import Derived.RangeFuncCalls
import Derived.RangeFuncLeaves
import Derived.Shelf.Abstract
import Derived.Laws.BitsAllLaws
import Derived.Deep.WholeRow
import Derived.Deep.MidRow
import Derived.RangeFuncBox
set_option linter.unusedSimpArgs false
set_option linter.unusedVariables false
namespace Go.Proofs.YtbcjfppdeapamaaDoor

/-- an instruction: what is done, a number with it -/
abbrev VI := UInt8 × UInt8
/-- does an op have a number? -/
def hasArg (op : UInt8) : Bool := op == 1 || op == 2 || op == 3 || op == 17 || op == 18 || op == 22
def insOk (x : VI) : Bool := decide (1 ≤ x.1.toNat) && decide (x.1.toNat ≤ 23) && (x.2 == 0 || hasArg x.1)
/-- may a program be? -/
def mayV (texts : List (List UInt8)) (code : List VI) : Bool := decide (texts.length ≤ 16) && decide (code.length ≤ 256) && texts.all (fun s => decide (s.length ≤ 64)) && code.all insOk
/-- what each op takes and gives -/
def effs : List (List UInt8 × List UInt8) :=
  [([], []), ([], [84]), ([], [78]), ([], [84]), ([84, 84], [84]), ([84], [78]), ([84, 78, 78], [84]), ([84], [78]), ([78], [84]), ([78, 78], [78]), ([78, 78], [78]), ([78, 78], [78]), ([84, 84], [78]), ([78], [78]),
   ([63], []), ([63], [49, 49]), ([63, 63], [50, 49]), ([], [82]), ([82], []), ([78], []), ([], []), ([], []), ([84], []), ([84, 84], [])]
def regV (arg : UInt8) : List UInt8 := if 4 ≤ arg.toNat then [84] else [78]
def replV (s r : List UInt8) : List UInt8 := if s = [82] then r else s
def effV (x : VI) : List UInt8 × List UInt8 := (replV (effs.getD x.1.toNat ([], [])).1 (regV x.2), replV (effs.getD x.1.toNat ([], [])).2 (regV x.2))
/-- an open block -/
structure Vb where
  op : UInt8
  want : List UInt8
  opn : List UInt8
  at_ : Nat
  did : Bool
deriving DecidableEq
/-- where a program's check stands -/
structure Vs where
  kinds : List UInt8
  blocks : List Vb
  seen : List (List UInt8)
  ends : List Int
  deep : Nat
deriving DecidableEq
/-- may an OpElse not stand here? -/
def elseBad : Option Vb → Bool
  | none => true
  | some b => b.op != 19 || b.did
def thereV (nt inp : Nat) (role : UInt8) (blocks : List Vb) (x : VI) : Nat :=
  if (x.1 = 1 ∧ nt ≤ x.2.toNat) ∨ (x.1 = 3 ∧ inp ≤ x.2.toNat) ∨ ((x.1 = 17 ∨ x.1 = 18) ∧ 8 ≤ x.2.toNat) then 3
  else if x.1 = 23 ∧ role ≠ 1 then 133
  else if x.1 = 20 ∧ elseBad blocks.getLast? = true then 132
  else if x.1 = 21 ∧ blocks = [] then 132
  else if (x.1 = 19 ∨ x.1 = 22) ∧ 8 ≤ blocks.length then 132 else 0
/-- do the kinds fit? -/
def fitV : List UInt8 → List UInt8 → Bool
  | [], _ => true
  | _ :: _, [] => false
  | a :: t, b :: u => (a == 63 || a == b) && fitV t u
def givesV (top : List UInt8) (g : List UInt8) : List UInt8 := g.flatMap fun c => if c = 49 then top.take 1 else if c = 50 then (top.drop 1).take 1 else [c]
def valuesV (kinds : List UInt8) (x : VI) : Nat × List UInt8 :=
  if kinds.length < (effV x).1.length then (130, kinds)
  else if fitV (effV x).1 (kinds.drop (kinds.length - (effV x).1.length)) = false then (131, kinds)
  else if (x.1 = 22 ∧ 16 ≤ (kinds.take (kinds.length - (effV x).1.length) ++ givesV (kinds.drop (kinds.length - (effV x).1.length)) (effV x).2).length) ∨ 16 < (kinds.take (kinds.length - (effV x).1.length) ++ givesV (kinds.drop (kinds.length - (effV x).1.length)) (effV x).2).length then (130, kinds)
  else (0, kinds.take (kinds.length - (effV x).1.length) ++ givesV (kinds.drop (kinds.length - (effV x).1.length)) (effV x).2)
def turnsV (i : Nat) (x : VI) (s : Vs) : Nat × Vs :=
  if x.1 = 19 then (0, { s with blocks := s.blocks ++ [⟨19, s.kinds, s.kinds, i, false⟩] })
  else if x.1 = 22 then (0, { s with blocks := s.blocks ++ [⟨22, s.kinds, s.kinds, i, false⟩], kinds := s.kinds ++ [84] })
  else if x.1 = 20 then
    match s.blocks.getLast? with
    | none => (0, s)
    | some b => (0, { s with ends := s.ends.set b.at_ (i : Int), blocks := s.blocks.dropLast ++ [{ b with want := s.kinds, at_ := i, did := true }], kinds := b.opn })
  else if x.1 = 21 then
    match s.blocks.getLast? with
    | none => (0, s)
    | some b => if s.kinds = b.want then (0, { s with ends := s.ends.set b.at_ (i : Int), blocks := s.blocks.dropLast }) else (132, s)
  else (0, s)
def oneV (nt inp : Nat) (role : UInt8) (i : Nat) (x : VI) (s : Vs) : Nat × Vs :=
  if thereV nt inp role s.blocks x ≠ 0 then (thereV nt inp role s.blocks x, { s with seen := s.seen ++ [s.kinds] })
  else if (valuesV s.kinds x).1 ≠ 0 then ((valuesV s.kinds x).1, { s with seen := s.seen ++ [s.kinds] })
  else
    let r := turnsV i x { s with seen := s.seen ++ [s.kinds], kinds := (valuesV s.kinds x).2 }
    (r.1, { r.2 with deep := max s.deep r.2.kinds.length })
def wantV (role : UInt8) : List UInt8 := if role = 1 then [] else [84]
def overV (role : UInt8) (s : Vs) : Nat := if 0 < s.blocks.length then 132 else if s.kinds.length ≠ (wantV role).length then 130 else if s.kinds ≠ wantV role then 131 else 0
/-- the rest of a program, from instruction i on: where it is wrong, what is wrong, what was seen -/
def runV (nt inp : Nat) (role : UInt8) : Nat → List VI → Vs → Nat × Nat × Vs
  | i, [], s => (i, overV role s, s)
  | i, x :: r, s => if (oneV nt inp role i x s).1 = 0 then runV nt inp role (i + 1) r (oneV nt inp role i x s).2 else (i, (oneV nt inp role i x s).1, (oneV nt inp role i x s).2)
def startV (n : Nat) : Vs := ⟨[], [], [], List.replicate n 0, 0⟩
def inputsV (role : UInt8) : Nat := if role = 1 then 1 else 2
def roleOk (role : UInt8) : Bool := decide (1 ≤ role.toNat) && decide (role.toNat ≤ 3)
def throughV (texts : List (List UInt8)) (code : List VI) (role : UInt8) : Nat × Nat × Vs :=
  if (mayV texts code && roleOk role) = true then
    if (runV texts.length (inputsV role) role 0 code (startV code.length)).2.1 = 0 then (0, 0, (runV texts.length (inputsV role) role 0 code (startV code.length)).2.2)
    else runV texts.length (inputsV role) role 0 code (startV code.length)
  else (0, 2, startV code.length)
end Go.Proofs.YtbcjfppdeapamaaDoor
namespace Go.Proofs.YtbcjfppdeapamaaDoor

/-- a number's byte -/
abbrev b8 (n : Nat) : UInt8 := UInt8.ofNat n
theorem b8_toNat {n : Nat} (h : n < 256) : (b8 n).toNat = n := by unfold b8; rw [UInt8.toNat_ofNat']; omega
theorem b8_of (c : UInt8) : b8 c.toNat = c := UInt8.ofNat_toNat
def putTs (t : List (List UInt8)) : List UInt8 := t.flatMap (fun s => b8 s.length :: s)
def putIs (c : List VI) : List UInt8 := c.flatMap (fun x => [x.1, x.2])
/-- a program's bytes -/
def putC (t : List (List UInt8)) (c : List VI) : List UInt8 := b8 t.length :: (putTs t ++ (b8 c.length :: b8 (c.length / 256) :: putIs c))
def takeT : Nat → List UInt8 → Option (List (List UInt8) × List UInt8)
  | 0, s => some ([], s)
  | _ + 1, [] => none
  | k + 1, c :: s => if c.toNat ≤ s.length then (takeT k (s.drop c.toNat)).map (fun p => (s.take c.toNat :: p.1, p.2)) else none
def takeI : Nat → List UInt8 → Option (List VI × List UInt8)
  | 0, s => some ([], s)
  | k + 1, a :: b :: s => (takeI k s).map (fun p => ((a, b) :: p.1, p.2))
  | _ + 1, _ => none
/-- a program at the beginning of bytes, and what stands behind it -/
def parseC : List UInt8 → Option (List (List UInt8) × List VI × List UInt8)
  | [] => none
  | n :: s =>
    match takeT n.toNat s with
    | some (t, a :: b :: r) => (takeI (a.toNat + 256 * b.toNat) r).map (fun p => (t, p.1, p.2))
    | _ => none
/-- which program bytes are -/
def getC (s : List UInt8) : Option (List (List UInt8) × List VI) :=
  match parseC s with
  | some (t, c, r) => if r = [] ∧ mayV t c = true then some (t, c) else none
  | none => none

theorem takeT_put : ∀ (t : List (List UInt8)) (r : List UInt8), (∀ s ∈ t, s.length < 256) → takeT t.length (putTs t ++ r) = some (t, r)
  | [], r, _ => rfl
  | s :: t, r, h => by
    have hs : s.length < 256 := h s (by simp)
    have ih := takeT_put t r (fun x hx => h x (by simp [hx]))
    show takeT (t.length + 1) ((b8 s.length :: s) ++ putTs t ++ r) = _
    rw [List.append_assoc, List.cons_append, takeT, b8_toNat hs, if_pos (by rw [List.length_append]; omega), List.drop_left', ih, List.take_left']
    · rfl
    · rfl
    · rfl
theorem takeI_put : ∀ (c : List VI) (r : List UInt8), takeI c.length (putIs c ++ r) = some (c, r)
  | [], r => rfl
  | x :: c, r => by
    have ih := takeI_put c r
    show takeI (c.length + 1) (x.1 :: x.2 :: (putIs c ++ r)) = _
    rw [takeI, ih]
    rfl
theorem parseC_put {t : List (List UInt8)} {c : List VI} (r : List UInt8) (h1 : t.length < 256) (h2 : ∀ s ∈ t, s.length < 256) (h3 : c.length < 65536) : parseC (putC t c ++ r) = some (t, c, r) := by
  have ht := takeT_put t (b8 c.length :: b8 (c.length / 256) :: (putIs c ++ r)) h2
  have hi := takeI_put c r
  unfold putC
  rw [List.cons_append, parseC, b8_toNat h1, List.append_assoc, List.cons_append, List.cons_append, ht]
  have e : (b8 c.length).toNat + 256 * (b8 (c.length / 256)).toNat = c.length := by
    unfold b8
    rw [UInt8.toNat_ofNat', UInt8.toNat_ofNat']
    omega
  show Option.map _ (takeI ((b8 c.length).toNat + 256 * (b8 (c.length / 256)).toNat) (putIs c ++ r)) = _
  rw [e, hi]
  rfl
theorem takeT_sound : ∀ (k : Nat) (s : List UInt8) (t : List (List UInt8)) (r : List UInt8), takeT k s = some (t, r) → t.length = k ∧ s = putTs t ++ r ∧ ∀ x ∈ t, x.length < 256
  | 0, s, t, r, h => by
    rw [takeT] at h
    injection h with h
    injection h with h1 h2
    subst h1 h2
    exact ⟨rfl, rfl, fun x hx => by cases hx⟩
  | k + 1, [], t, r, h => by rw [takeT] at h; cases h
  | k + 1, c :: s, t, r, h => by
    rw [takeT] at h
    split at h
    · rename_i hc
      cases hq : takeT k (s.drop c.toNat) with
      | none => rw [hq] at h; cases h
      | some p =>
        obtain ⟨t', r'⟩ := p
        rw [hq] at h
        injection h with h
        injection h with h1 h2
        subst h1 h2
        obtain ⟨e1, e2, e3⟩ := takeT_sound k _ t' r' hq
        have hl : (s.take c.toNat).length = c.toNat := by rw [List.length_take]; omega
        refine ⟨by simp [e1], ?_, fun x hx => ?_⟩
        · show c :: s = (b8 (s.take c.toNat).length :: s.take c.toNat) ++ putTs t' ++ r'
          rw [hl, b8_of, List.append_assoc, ← e2, List.cons_append, List.take_append_drop]
        · rcases List.mem_cons.1 hx with rfl | hx
          · rw [hl]; exact c.toNat_lt
          · exact e3 x hx
    · cases h
theorem takeI_sound : ∀ (k : Nat) (s : List UInt8) (c : List VI) (r : List UInt8), takeI k s = some (c, r) → c.length = k ∧ s = putIs c ++ r
  | 0, s, c, r, h => by
    rw [takeI] at h
    injection h with h
    injection h with h1 h2
    subst h1 h2
    exact ⟨rfl, rfl⟩
  | k + 1, [], c, r, h => by simp [takeI] at h
  | k + 1, [a], c, r, h => by simp [takeI] at h
  | k + 1, a :: b :: s, c, r, h => by
    rw [takeI] at h
    cases hq : takeI k s with
    | none => rw [hq] at h; cases h
    | some p =>
      obtain ⟨c', r'⟩ := p
      rw [hq] at h
      injection h with h
      injection h with h1 h2
      subst h1 h2
      obtain ⟨e1, e2⟩ := takeI_sound k s c' r' hq
      refine ⟨by simp [e1], ?_⟩
      show a :: b :: s = [a, b] ++ putIs c' ++ r'
      rw [e2]
      rfl
theorem parseC_sound {s : List UInt8} {t : List (List UInt8)} {c : List VI} {r : List UInt8} (h : parseC s = some (t, c, r)) : s = putC t c ++ r := by
  cases s with
  | nil => cases h
  | cons n s =>
    rw [parseC] at h
    split at h
    · rename_i t' a b r' hq
      cases hi : takeI (a.toNat + 256 * b.toNat) r' with
      | none => rw [hi] at h; cases h
      | some p =>
        obtain ⟨c', r''⟩ := p
        rw [hi] at h
        injection h with h
        injection h with h1 h
        injection h with h2 h3
        subst h1 h2 h3
        obtain ⟨e1, e2, -⟩ := takeT_sound _ _ _ _ hq
        obtain ⟨e3, e4⟩ := takeI_sound _ _ _ _ hi
        have ha := a.toNat_lt
        have hb := b.toNat_lt
        have f1 : b8 c'.length = a := by
          rw [e3]; apply UInt8.toNat_inj.1; unfold b8; rw [UInt8.toNat_ofNat']; omega
        have f2 : b8 (c'.length / 256) = b := by
          rw [e3]; apply UInt8.toNat_inj.1; unfold b8; rw [UInt8.toNat_ofNat']; omega
        unfold putC
        rw [f1, f2, e1, b8_of, e2, e4]
        simp
    · cases h
theorem mayV_parts {t : List (List UInt8)} {c : List VI} (h : mayV t c = true) : t.length ≤ 16 ∧ c.length ≤ 256 ∧ ∀ s ∈ t, s.length ≤ 64 := by
  unfold mayV at h
  simp only [Bool.and_eq_true, decide_eq_true_eq, List.all_eq_true] at h
  exact ⟨h.1.1.1, h.1.1.2, h.1.2⟩
theorem getC_put {t : List (List UInt8)} {c : List VI} (h : mayV t c = true) : getC (putC t c) = some (t, c) := by
  obtain ⟨h1, h2, h3⟩ := mayV_parts h
  have hp := parseC_put (t := t) (c := c) [] (by omega) (fun s hs => by have := h3 s hs; omega) (by omega)
  rw [List.append_nil] at hp
  unfold getC
  rw [hp]
  simp [h]
theorem getC_sound {s : List UInt8} {t : List (List UInt8)} {c : List VI} (h : getC s = some (t, c)) : mayV t c = true ∧ putC t c = s := by
  unfold getC at h
  split at h
  · rename_i t' c' r' hp
    split at h
    · rename_i hr
      injection h with h
      injection h with h1 h2
      subst h1 h2
      have := parseC_sound hp
      rw [hr.1, List.append_nil] at this
      exact ⟨hr.2, this.symm⟩
    · cases h
  · cases h
theorem putC_inj {t t' : List (List UInt8)} {c c' : List VI} (h : mayV t c = true) (h' : mayV t' c' = true) (e : putC t c = putC t' c') : t = t' ∧ c = c' := by
  have h1 := getC_put h
  rw [e, getC_put h'] at h1
  injection h1 with h1
  injection h1 with h2 h3
  exact ⟨h2.symm, h3.symm⟩
/-- no program's bytes are the beginning of another one's -/
theorem putC_prefix {t t' : List (List UInt8)} {c c' : List VI} {r r' : List UInt8} (h : mayV t c = true) (h' : mayV t' c' = true) (e : putC t c ++ r = putC t' c' ++ r') : t = t' ∧ c = c' ∧ r = r' := by
  obtain ⟨h1, h2, h3⟩ := mayV_parts h
  obtain ⟨g1, g2, g3⟩ := mayV_parts h'
  have p1 := parseC_put (t := t) (c := c) r (by omega) (fun s hs => by have := h3 s hs; omega) (by omega)
  have p2 := parseC_put (t := t') (c := c') r' (by omega) (fun s hs => by have := g3 s hs; omega) (by omega)
  rw [e, p2] at p1
  injection p1 with p1
  injection p1 with q1 p1
  injection p1 with q2 q3
  exact ⟨q1.symm, q2.symm, q3.symm⟩
theorem getC_cut {t : List (List UInt8)} {c : List VI} (h : mayV t c = true) {k : Nat} (hk : k < (putC t c).length) : getC ((putC t c).take k) = none := by
  cases hg : getC ((putC t c).take k) with
  | none => rfl
  | some p =>
    obtain ⟨t', c'⟩ := p
    obtain ⟨h1, h2⟩ := getC_sound hg
    have e : putC t' c' ++ (putC t c).drop k = putC t c ++ [] := by rw [h2, List.take_append_drop, List.append_nil]
    obtain ⟨-, -, h3⟩ := putC_prefix h1 h e
    have := congrArg List.length h3
    rw [List.length_drop] at this
    simp at this
    omega
theorem getC_more {t : List (List UInt8)} {c : List VI} (h : mayV t c = true) {m : List UInt8} (hm : m ≠ []) : getC (putC t c ++ m) = none := by
  cases hg : getC (putC t c ++ m) with
  | none => rfl
  | some p =>
    obtain ⟨t', c'⟩ := p
    obtain ⟨h1, h2⟩ := getC_sound hg
    obtain ⟨-, -, h3⟩ := putC_prefix h1 h (by rw [h2, List.append_nil] : putC t' c' ++ [] = putC t c ++ m)
    exact absurd h3.symm hm
end Go.Proofs.YtbcjfppdeapamaaDoor
namespace Go.Proofs.YtbcjfppdeapamaaDoor.Oct

/-- a text of these bytes -/
def bs (l : List UInt8) : ByteArray := ⟨l.toArray⟩
@[simp] theorem bs_data (l : List UInt8) : (bs l).data.toList = l := by simp [bs]
@[go_sem, simp] theorem bs_size (l : List UInt8) : (bs l).size = l.length := by simp [bs, ByteArray.size]
theorem bs_of (s : ByteArray) : bs s.data.toList = s := by simp [bs]
theorem bs_append (a b : List UInt8) : bs a ++ bs b = bs (a ++ b) := by
  apply ByteArray.ext; simp [bs]
theorem bs_inj {a b : List UInt8} : bs a = bs b ↔ a = b := by
  constructor
  · intro h; have := congrArg (fun s : ByteArray => s.data.toList) h; simpa using this
  · rintro rfl; rfl

/-- the number of bytes, the lowest first -/
def val : List UInt8 → Nat
  | [] => 0
  | c :: l => c.toNat + 256 * val l

theorem val_lt : ∀ l : List UInt8, val l < 256 ^ l.length
  | [] => by simp [val]
  | c :: l => by
    have := val_lt l
    have hc := c.toNat_lt
    simp only [val, List.length_cons, Nat.pow_succ]
    omega

theorem pow256_le {n m : Nat} (h : n ≤ m) : 256 ^ n ≤ 256 ^ m := Nat.pow_le_pow_right (by decide) h
theorem val_lt8 (l : List UInt8) (h : l.length ≤ 8) : val l < 18446744073709551616 :=
  Nat.lt_of_lt_of_le (val_lt l) (by have := pow256_le h; simpa using this)

theorem val_drop (l : List UInt8) (k : Nat) (h : k < l.length) : val (l.drop k) = l[k].toNat + 256 * val (l.drop (k + 1)) := by
  rw [List.drop_eq_getElem_cons h]; rfl

/-- n bytes of a number, the lowest first -/
def num : Nat → Nat → List UInt8
  | _, 0 => []
  | v, n + 1 => UInt8.ofNat (v % 256) :: num (v / 256) n
@[go_sem, simp] theorem num_length : ∀ (n v : Nat), (num v n).length = n
  | 0, _ => rfl
  | n + 1, v => by simp [num, num_length n]
theorem num_snoc : ∀ (n v : Nat), num v (n + 1) = num v n ++ [UInt8.ofNat (v / 256 ^ n % 256)]
  | 0, v => by simp [num]
  | n + 1, v => by
    rw [num, num_snoc n (v / 256), num]
    simp [Nat.pow_succ, Nat.div_div_eq_div_mul, Nat.mul_comm]
theorem val_num : ∀ (n v : Nat), val (num v n) = v % 256 ^ n
  | 0, v => by simp [num, val, Nat.mod_one]
  | n + 1, v => by
    rw [num, val, val_num n]
    have h : (UInt8.ofNat (v % 256)).toNat = v % 256 := by simp
    rw [h, Nat.pow_succ, Nat.mul_comm (256 ^ n) 256, Nat.mod_mul]
theorem num_val : ∀ l : List UInt8, num (val l) l.length = l
  | [] => rfl
  | c :: l => by
    have hc := c.toNat_lt
    have h1 : (c.toNat + 256 * val l) % 256 = c.toNat := by omega
    have h2 : (c.toNat + 256 * val l) / 256 = val l := by omega
    simp [num, val, h1, h2, num_val l]
theorem num_zero (n : Nat) : num 0 n = List.replicate n 0 := by
  induction n with
  | zero => rfl
  | succ n ih => simp [num, ih, List.replicate_succ]

/-- Put -/
def putOk (v n : Int) : Bool := decide (1 ≤ n ∧ n ≤ 8 ∧ v.toNat < 256 ^ n.toNat)
def putS (v n : Int) : List UInt8 × Int := if putOk v n then (num v.toNat n.toNat, 0) else ([], 2)
/-- Get -/
def getS (l : List UInt8) : Int × Int := if 1 ≤ l.length ∧ l.length ≤ 8 then ((val l : Int), 0) else (0, 2)
theorem val_append : ∀ a b : List UInt8, val (a ++ b) = val a + 256 ^ a.length * val b
  | [], b => by simp [val]
  | c :: a, b => by
    simp only [List.cons_append, val, val_append a b, List.length_cons, Nat.pow_succ]
    rw [Nat.mul_add, Nat.mul_comm (256 ^ a.length) 256, Nat.mul_assoc, Nat.add_assoc]
theorem val_take (l : List UInt8) (k : Nat) (h : k < l.length) : val (l.take (k + 1)) = val (l.take k) + l[k].toNat * 256 ^ k := by
  rw [List.take_succ_eq_append_getElem h, val_append]
  simp [val, Nat.min_eq_left (Nat.le_of_lt h), Nat.mul_comm]
theorem wrap_u64_nat (n : Nat) (h : n < 18446744073709551616) : IntKind.u64.wrap (n : Int) = n := IntWalk.u64_in _ (by omega)
/-- low or high -/
theorem or_hi (x c j : Nat) (hj : j < 64) (hx : x < 2 ^ j) (h : c * 2 ^ j < 18446744073709551616) :
    bits .or .u64 (x : Int) (IntKind.u64.wrap (IntKind.u64.wrap (c : Int) * 2 ^ j)) = ((x + c * 2 ^ j : Nat) : Int) := by
  have hp : 0 < 2 ^ j := Nat.two_pow_pos j
  have hc : c ≤ c * 2 ^ j := Nat.le_mul_of_pos_right c hp
  rw [wrap_u64_nat c (by omega)]
  have e : ((c : Int) * 2 ^ j) = ((c * 2 ^ j : Nat) : Int) := by simp
  have hx' : x < 18446744073709551616 := Nat.lt_trans hx (by have := Nat.pow_lt_pow_right (a := 2) (by decide) hj; simpa using this)
  rw [e, wrap_u64_nat _ h, bits_or_u64_nat x (c * 2 ^ j) hx' h, Nat.or_comm, Nat.mul_comm c, ← Nat.two_pow_add_eq_or_of_lt hx, Nat.add_comm]
/-- the short number's bytes, with fuel -/
def shortF : Nat → Nat → List UInt8
  | 0, _ => []
  | f + 1, v => if v < 128 then [UInt8.ofNat v] else (UInt8.ofNat (v % 128) + 128) :: shortF f (v / 128)
def short (v : Nat) : List UInt8 := shortF 10 v
theorem shortF_lt (f v : Nat) (h : v < 128) : shortF (f + 1) v = [UInt8.ofNat v] := by simp [shortF, h]
theorem shortF_ge (f v : Nat) (h : 128 ≤ v) : shortF (f + 1) v = (UInt8.ofNat (v % 128) + 128) :: shortF f (v / 128) := by
  simp [shortF, Nat.not_lt.2 h]
end Go.Proofs.YtbcjfppdeapamaaDoor.Oct
namespace Go.Proofs.YtbcjfppdeapamaaDoor
open Go.RowKit Oct
variable {P : Program}

theorem ret_int {k : IntKind} {a b : Int} (h : a = b) : Ending.returned (.int k a) = .returned (.int k b) := by rw [h]
theorem ret_str {a b : ByteArray} (h : a = b) : Ending.returned (.string a) = .returned (.string b) := by rw [h]
theorem v_int {k : IntKind} {a b : Int} (h : a = b) : Value.int k a = .int k b := by rw [h]
theorem v_str {a b : ByteArray} (h : a = b) : Value.string a = .string b := by rw [h]

/-- string([]byte{x}) -/
theorem conv_one (src dst e : TypeId) (hs : P.underlying src = some (.slice e)) (he : P.underlying e = some (.int .u8)) (hd : P.underlying dst = some .string) (w : World) (x : Int) :
    (convert src dst (.slice (some ⟨w.heap.size, 0, none⟩) 1 1)).run P (w.alloc (.cells #[.int .u8 x] e)) = .ok (.string (bs [UInt8.ofNat x.toNat])) (w.alloc (.cells #[.int .u8 x] e)) := by
  have := run_convert_bytes_arg (P := P) (w.alloc (.cells #[.int .u8 x] e)) src e hs he w.heap.size 0 1 1 [x] rfl (fun i hi => by
    obtain rfl : i = 0 := by omega
    simp [World.cell?_alloc_new]) dst hd
  exact this
@[go_sem] theorem bs_get (l : List UInt8) (k : Nat) (h : k < (bs l).size) : (bs l)[k]'h = l[k]'(by simpa using h) := by
  have e : (bs l)[k]'h = (bs l).data.toList[k]'(by simpa using h) := by simp; rfl
  rw [e]; simp
@[go_sem] theorem bs_extract (l : List UInt8) (a b : Nat) : (bs l).extract a b = bs ((l.drop a).take (b - a)) := by
  rw [Lib.extract_eq, bs_data]; rfl
@[go_sem] theorem take_drop_len (l : List UInt8) (n : Nat) : (l.drop n).take (l.length - n) = l.drop n := List.take_of_length_le (by simp)
@[go_sem] theorem bs_toList (l : List UInt8) : (bs l).toList = l := by rw [ByteArray.toList_eq, bs_data]
@[go_sem] theorem mk_toList (a : Array UInt8) : (ByteArray.mk a).toList = a.toList := by rw [ByteArray.toList_eq]
attribute [go_sem] bs_append
theorem str_ne {a b : ByteArray} (h : a.data.toList ≠ b.data.toList) : (a.toList == b.toList) = false := by
  rw [ByteArray.toList_eq, ByteArray.toList_eq]; exact beq_eq_false_iff_ne.2 h
theorem str_eq {a b : ByteArray} (h : a.data.toList = b.data.toList) : (a.toList == b.toList) = true := by
  rw [ByteArray.toList_eq, ByteArray.toList_eq]; exact beq_iff_eq.2 h

theorem Below.drewN' (w : World) (n : Nat) : Below w.heap.size w (w.drewN n) := ⟨rfl, rfl, rfl, Nat.le_refl _, fun _ _ => rfl⟩

/-- the cells of bytes -/
def bcells (l : List UInt8) : List Value := l.map fun c => .int .u8 (c.toNat : Int)
theorem bcells_snoc (l : List UInt8) (c : UInt8) : bcells l ++ [.int .u8 (c.toNat : Int)] = bcells (l ++ [c]) := by simp [bcells]
theorem bcells_length (l : List UInt8) : (bcells l).length = l.length := by simp [bcells]

/-- string(b), b the call's own -/
theorem conv_own (src dst e : TypeId) (hs : P.underlying src = some (.slice e)) (he : P.underlying e = some (.int .u8)) (hd : P.underlying dst = some .string) (w : World) (base : Nat) (v : Value) (n : Nat) (l : List UInt8)
    (h : w.ownsRow base e 1 v n (bcells l)) : (convert src dst v).run P w = .ok (.string (bs l)) w := by
  obtain ⟨h1, h2⟩ := id h
  rw [bcells_length, Nat.mul_one] at h1
  rcases h2 with ⟨rfl, h3⟩ | ⟨g, cap, cur, rfl, hg, hh, hc⟩
  · have : l = [] := List.eq_nil_of_length_eq_zero (by omega)
    subst this
    exact run_convert_bytes_nil w src e hs he 0 0 dst hd
  · subst h1
    refine run_convert_bytes_back w src dst e ⟨g, 0, none⟩ cap l hs he hd (fun j hj => ?_)
    have hx := World.ownsRow.cells h (g := g) rfl j (.int .u8 (l[j].toNat : Int)) (by simp [bcells, List.getElem?_eq_getElem hj])
    exact hx

/-- append(s, x): one element, s the call's own; its cells 'news' lie in the new block -/
theorem append1 {ops : Array Oper} {rest : List Oper} {o : Oper} {a : Act} {Q : Exit → Act → World → Prop} (wr : World) (news : List Value) (e : TypeId) (hgd : o.guard = none) (s x : Operand) (t : TypeId)
    (ho : o.op = .call { callee := .builtin .append, args := #[s, x], argTypes := #[t, t] })
    (base : Nat) (z : Value) (size bytes : Nat) (ht : P.underlying t = some (.slice e)) (hinfo : (P.info? e).map (fun i => (i.zero, i.size, i.bytes)) = some (some z, size, bytes))
    (hzs : z.cells.size = size) (hsz : 0 < size) (v : Value) (n : Nat) (xs : List Value) (hs : a.eval s = v) (hown : wr.ownsRow base e size v n xs)
    (c : Nat) (hx : a.eval x = .slice (some ⟨wr.heap.size, 0, none⟩) 1 c) (hl : news.length = size) (h1 : ∀ u ∈ news, u.oneCell' = true)
    (hbytes : (n + 1) * bytes ≤ 140737488355328) (hby : 0 < bytes) (hbase : base ≤ wr.heap.size)
    (h : ∀ v' w', w'.ownsRow base e size v' (n + 1) (xs ++ news) → Below base wr w' → wpList P ops Q rest (a.put o.dst v') w') : wpList P ops Q (o :: rest) a (wr.alloc (.cells news.toArray e)) := by
  obtain ⟨i, hi, hz, hi1, hi2⟩ := info_parts hinfo
  have hn : n + 1 ≤ (n + 1) * bytes := Nat.le_mul_of_pos_right _ hby
  refine wpList_append_own _ hgd s x t ho base e i z size bytes ht hi hz hi1 hi2 hzs hsz v n xs hs (hown.alloc _) ⟨wr.heap.size, 0, none⟩ 1 c news hx (by simpa using hl) ?_ h1 (by unfold maxLen; omega) hbytes (by simp; omega) ?_
  · intro j u hj
    have : j < news.length := by
      rcases Nat.lt_or_ge j news.length with h | h
      · exact h
      · simp [List.getElem?_eq_none h] at hj
    rw [Addr.add_lit, Nat.zero_add, World.cell?_alloc_new]
    simpa using hj
  · intro v' w' h2 h3 _
    refine h v' w' h2 (((Below.refl base wr).alloc hbase _).grown h3 (by simp; omega) ?_)
    intro k hk
    exact (hown.lt k hk).1

/-- append(s, x) in a region that draws its order: one element, s the call's own -/
theorem step_append1 {ops : Array Oper} {o : Oper} {a : Act} {K : Act → World → Prop} {Q : Exit → Act → World → Prop} {E : Prop} (wr : World) (news : List Value) (e : TypeId) (hgd : o.guard = none) (s x : Operand) (t : TypeId)
    (ho : o.op = .call { callee := .builtin .append, args := #[s, x], argTypes := #[t, t] })
    (base : Nat) (z : Value) (size bytes : Nat) (ht : P.underlying t = some (.slice e)) (hinfo : (P.info? e).map (fun i => (i.zero, i.size, i.bytes)) = some (some z, size, bytes))
    (hzs : z.cells.size = size) (hsz : 0 < size) (v : Value) (n : Nat) (xs : List Value) (hs : a.eval s = v) (hown : wr.ownsRow base e size v n xs)
    (c : Nat) (hx : a.eval x = .slice (some ⟨wr.heap.size, 0, none⟩) 1 c) (hl : news.length = size) (h1 : ∀ u ∈ news, u.oneCell' = true)
    (hbytes : (n + 1) * bytes ≤ 140737488355328) (hby : 0 < bytes) (hbase : base ≤ wr.heap.size)
    (h : ∀ g cap w', w'.ownsRow base e size (.slice (some ⟨g, 0, none⟩) (n + 1) cap) (n + 1) (xs ++ news) → Below base wr w' → K (a.put o.dst (.slice (some ⟨g, 0, none⟩) (n + 1) cap)) w') :
    if Region.wanted o (yielded ops a.tmps) = true then Oper.wp P o a (wr.alloc (.cells news.toArray e)) K Q else E := by
  obtain ⟨i, hi, hz, hi1, hi2⟩ := info_parts hinfo
  have hn : n + 1 ≤ (n + 1) * bytes := Nat.le_mul_of_pos_right _ hby
  refine step_append_lies _ hgd s x t ho base e i z size bytes ht hi hz hi1 hi2 hzs hsz v n xs hs (hown.alloc _) ⟨wr.heap.size, 0, none⟩ 1 c news hx (by simpa using hl) ?_ h1 (by decide) (by unfold maxLen; omega) hbytes (by simp; omega) _ rfl ?_
  · intro j u hj
    have : j < news.length := by
      rcases Nat.lt_or_ge j news.length with h | h
      · exact h
      · simp [List.getElem?_eq_none h] at hj
    rw [Addr.add_lit, Nat.zero_add, World.cell?_alloc_new]
    simpa using hj
  · intro g cap w' h2 h3 _ _
    refine h g cap w' h2 (((Below.refl base wr).alloc hbase _).grown h3 (by simp; omega) ?_)
    intro k hk
    exact (hown.lt k hk).1

theorem ownsRow_below {w w' : World} {base : Nat} {e : TypeId} {size : Nat} {v : Value} {n : Nat} {xs : List Value} (h : w.ownsRow base e size v n xs) (hB : Below w.heap.size w w') : w'.ownsRow base e size v n xs := by
  obtain ⟨h1, h2⟩ := h
  refine ⟨h1, ?_⟩
  rcases h2 with h2 | ⟨g, cap, cur, hv, hg, hh, r⟩
  · exact Or.inl h2
  · have hlt : g < w.heap.size := by
      rcases Nat.lt_or_ge g w.heap.size with h | h
      · exact h
      · simp [Array.getElem?_eq_none h] at hh
    exact Or.inr ⟨g, cap, cur, hv, hg, (hB.block g hlt).trans hh, r⟩

/-- two calls, one behind the other -/
theorem bt {a b c : World} (h : Below a.heap.size a b) (k : Below b.heap.size b c) : Below a.heap.size a c := h.trans (k.mono h.size)
theorem b_alloc (w : World) (o : Obj) : Below w.heap.size w (w.alloc o) := (Below.refl _ _).alloc (Nat.le_refl _) _
theorem b_drew (w : World) : Below w.heap.size w w.drew := (Below.refl _ _).drew
theorem b_refl (w : World) : Below w.heap.size w w := Below.refl _ _

theorem owns_slice {w : World} {base : Nat} {e : TypeId} {size : Nat} {v : Value} {n : Nat} {xs : List Value} (h : w.ownsRow base e size v n xs) : ∃ a cap, v = .slice a n cap := by
  rcases h.2 with ⟨hv, h0⟩ | ⟨g, cap, cur, hv, _⟩
  · exact ⟨none, 0, by rw [hv, h0]⟩
  · exact ⟨_, _, hv⟩

theorem owns_mono {w : World} {base base' : Nat} {e : TypeId} {size : Nat} {v : Value} {n : Nat} {xs : List Value} (h : w.ownsRow base e size v n xs) (hb : base' ≤ base) : w.ownsRow base' e size v n xs := by
  obtain ⟨h1, h2⟩ := h
  refine ⟨h1, ?_⟩
  rcases h2 with h2 | ⟨g, cap, cur, hv, hg, r⟩
  · exact .inl h2
  · exact .inr ⟨g, cap, cur, hv, Nat.le_trans hb hg, r⟩

/-- two new blocks -/
theorem two_new (w : World) (o p : Obj) : ((w.alloc o).alloc p).heap[w.heap.size]? = some o ∧ ((w.alloc o).alloc p).heap[w.heap.size + 1]? = some p ∧ Below w.heap.size w ((w.alloc o).alloc p) := by
  refine ⟨?_, ?_, ((Below.refl _ _).alloc (Nat.le_refl _) _).alloc (by simp) _⟩
  · show ((w.heap.push o).push p)[w.heap.size]? = some o
    simp [Array.getElem?_push]
  · show ((w.heap.push o).push p)[w.heap.size + 1]? = some p
    rw [Array.getElem?_push, if_pos (by simp)]

/-- a region that draws its order, and that makes memory at most: one walk of the text's order serves -/
theorem region_grow {id : Nat} {Q : Exit → Act → World → Prop} {a : Act} {w : World} {l : List Oper} (hm : P.follows .mixedOrders = true) (hB : Region.lexB .any l.toArray = true)
    (h : wpQuiet P l.toArray (fun w' => Below w.heap.size w w') (fun a' => ∀ w', Below w.heap.size w w' → Q .normal a' w') l a) : (Code.region id l.toArray true).wp P Q a w :=
  wp_region_quiet (C := fun w' => Below w.heap.size w w') hm hB (b_drew w) (by simpa using h)
theorem calls_grow {f : FuncId} {args : Array Value} {w w' : World} {v : Value} (hC : Below w.heap.size w w') (h : Calls P f args w' fun e w'' => e = .returned v ∧ Below w'.heap.size w' w'') :
    Calls P f args w' fun e w'' => e = .returned v ∧ Below w.heap.size w w'' := h.mono fun _ _ ⟨he, hb⟩ => ⟨he, bt hC hb⟩

/-- the slice value v has n elements, whose cells are xs -/
def Reads (w : World) (v : Value) (n : Nat) (xs : List Value) : Prop :=
  ∃ a cap, v = .slice a n cap ∧ (a = none → n = 0 ∧ cap = 0) ∧ ∀ j u, xs[j]? = some u → ∃ b off, a = some ⟨b, off, none⟩ ∧ w.cell? ⟨b, off + j, none⟩ = some u
theorem lt_of_cell {w : World} {a : Addr} {u : Value} (h : w.cell? a = some u) : a.block < w.heap.size := World.block_lt_of_cell? w a h
theorem Below.keeps {w w' : World} (hB : Below w.heap.size w w') {a : Addr} {u : Value} (h : w.cell? a = some u) : w'.cell? a = some u :=
  (hB.cell (p := a) (lt_of_cell h)).trans h
theorem Reads.below {w w' : World} {v : Value} {n : Nat} {xs : List Value} (h : Reads w v n xs) (hB : Below w.heap.size w w') : Reads w' v n xs := by
  obtain ⟨a, cap, hv, hn, hc⟩ := h
  exact ⟨a, cap, hv, hn, fun j u hj => by obtain ⟨b, off, ha, hu⟩ := hc j u hj; exact ⟨b, off, ha, Below.keeps hB hu⟩⟩
theorem Reads.owned {w : World} {base : Nat} {e : TypeId} {size : Nat} {v : Value} {n : Nat} {xs : List Value} (h : w.ownsRow base e size v n xs) : Reads w v n xs := by
  rcases id h.2 with ⟨hv, h0⟩ | ⟨g, cap, cur, hv, _⟩
  · refine ⟨none, 0, by rw [hv, h0], fun _ => ⟨h0, rfl⟩, fun j u hj => ?_⟩
    have := h.1
    rw [h0, Nat.zero_mul] at this
    rw [List.eq_nil_of_length_eq_zero this] at hj
    simp at hj
  · refine ⟨some ⟨g, 0, none⟩, cap, hv, (by simp), fun j u hj => ⟨g, 0, rfl, ?_⟩⟩
    have := World.ownsRow.cells h (g := g) (by rw [hv]; rfl) j u hj
    rwa [Addr.add_lit] at this
theorem Reads.nil (w : World) : Reads w (.slice none 0 0) 0 [] := ⟨none, 0, rfl, fun _ => ⟨rfl, rfl⟩, fun j u hj => by simp at hj⟩
theorem Reads.new (w : World) (xs : List Value) (n : Nat) (e : TypeId) (c : Nat) : Reads (w.alloc (.cells xs.toArray e)) (.slice (some ⟨w.heap.size, 0, none⟩) n c) n xs :=
  ⟨_, _, rfl, (by simp), fun j u hj => ⟨_, _, rfl, by rw [Nat.zero_add, World.cell?_alloc_new]; simpa using hj⟩⟩
/-- append(s, x...): s the call's own, x whatever slice -/
theorem appendN {ops : Array Oper} {rest : List Oper} {o : Oper} {a : Act} {Q : Exit → Act → World → Prop} (w : World) (news : List Value) (e : TypeId) (hgd : o.guard = none) (s x : Operand) (t : TypeId)
    (ho : o.op = .call { callee := .builtin .append, args := #[s, x], argTypes := #[t, t] })
    (base : Nat) (z : Value) (size bytes : Nat) (ht : P.underlying t = some (.slice e)) (hinfo : (P.info? e).map (fun i => (i.zero, i.size, i.bytes)) = some (some z, size, bytes))
    (hzs : z.cells.size = size) (hsz : 0 < size) (v : Value) (n : Nat) (xs : List Value) (hs : a.eval s = v) (hown : w.ownsRow base e size v n xs)
    (vx : Value) (m : Nat) (hx : a.eval x = vx) (hr : Reads w vx m news) (hl : news.length = m * size) (h1 : ∀ u ∈ news, u.oneCell' = true)
    (hbytes : (n + m) * bytes ≤ 140737488355328) (hby : 0 < bytes) (hbase : base ≤ w.heap.size)
    (h : ∀ v' w', w'.ownsRow base e size v' (n + m) (xs ++ news) → Below base w w' → wpList P ops Q rest (a.put o.dst v') w') : wpList P ops Q (o :: rest) a w := by
  obtain ⟨i, hi, hz, hi1, hi2⟩ := info_parts hinfo
  have hn : n + m ≤ (n + m) * bytes := Nat.le_mul_of_pos_right _ hby
  obtain ⟨ax, cap, rfl, hnone, hc⟩ := hr
  cases ax with
  | none =>
    obtain ⟨rfl, rfl⟩ := hnone rfl
    have hnil : news = [] := List.eq_nil_of_length_eq_zero (by simpa using hl)
    subst hnil
    refine wpList_append_own_none hgd s x t ho base e i size ht hi v n xs hs hown hx ?_
    have := h v w (by simpa using hown) (Below.refl _ _)
    exact this
  | some ad =>
    refine wpList_append_own _ hgd s x t ho base e i z size bytes ht hi hz hi1 hi2 hzs hsz v n xs hs hown ad m cap news hx hl ?_ h1 (by unfold maxLen; omega) hbytes hbase ?_
    · intro j u hj
      obtain ⟨b, off, ha, hu⟩ := hc j u hj
      cases ha
      rw [Addr.add_lit]; exact hu
    · intro v' w' h2 h3 _
      refine h v' w' h2 ((Below.refl base w).grown h3 hbase ?_)
      intro k hk
      exact (hown.lt k hk).1

/-- the cells of texts -/
def tcells (r : List (List UInt8)) : List Value := r.map fun l => .string (bs l)
theorem tcells_at (r : List (List UInt8)) (k : Nat) (h : k < r.length) : (tcells r)[k]? = some (.string (bs r[k])) := by simp [tcells, h]
theorem tcells_snoc (r : List (List UInt8)) (l : List UInt8) : tcells r ++ [.string (bs l)] = tcells (r ++ [l]) := by simp [tcells]
theorem tcells_length (r : List (List UInt8)) : (tcells r).length = r.length := by simp [tcells]

end Go.Proofs.YtbcjfppdeapamaaDoor
namespace Go.Proofs.YtbcjfppdeapamaaDoor
open Go.RowKit Oct

theorem infoU8 : (Tryd.prog.info? 5).map (fun i => (i.zero, i.size, i.bytes)) = some (some (.int .u8 0), 1, 1) := by kernel_rfl

theorem conv1 (w : World) (x : Int) : (convert 52 9 (.slice (some ⟨w.heap.size, 0, none⟩) 1 1)).run Tryd.prog (w.alloc (.cells #[.int .u8 x] 5)) = .ok (.string (bs [UInt8.ofNat x.toNat])) (w.alloc (.cells #[.int .u8 x] 5)) := conv_one (P := Tryd.prog) 52 9 5 Tryd.underlying52 Tryd.underlying5 Tryd.underlying9 w x

/-- the cells of the array after k rounds -/
def cb (v k : Nat) : Array Value := ((num v k).map (fun c => Value.int .u8 (c.toNat : Int)) ++ List.replicate (8 - k) (Value.int .u8 0)).toArray
theorem cb_new (v k : Nat) (h : k < 8) : (cb v k)[k]? = some (.int .u8 0) := by
  simp [cb, List.getElem?_append, num_length, List.getElem?_replicate]; omega
theorem cb_at (v k j : Nat) (h : j < k) : (cb v k)[j]? = some (.int .u8 (((num v k)[j]'(by rw [num_length]; exact h)).toNat : Int)) := by
  have hl : j < (num v k).length := by rw [num_length]; exact h
  simp [cb, List.getElem?_append, num_length, h, hl]
theorem num_take (v m n j : Nat) (h : m ≤ n) (hj : j < m) : (num v n)[j]'(by rw [num_length]; omega) = (num v m)[j]'(by rw [num_length]; omega) := by
  induction m generalizing v n j with
  | zero => omega
  | succ m ih =>
    obtain ⟨n, rfl⟩ : ∃ n', n = n' + 1 := ⟨n - 1, by omega⟩
    cases j with
    | zero => simp [num]
    | succ j => simp only [num, List.getElem_cons_succ]; exact ih _ _ _ (by omega) (by omega)
theorem cb_step (v : Int) (k : Nat) (h : k < 8) (h0 : 0 ≤ v) : (cb v.toNat k).setIfInBounds k (Value.int IntKind.u8 (v / 2 ^ (8 * k) % 256)) = cb v.toNat (k + 1) := by
  obtain ⟨v, rfl⟩ := Int.eq_ofNat_of_zero_le h0
  have e : ((v : Int) / 2 ^ (8 * k) % 256) = (((UInt8.ofNat (v / 256 ^ k % 256)).toNat : Nat) : Int) := by
    have : (2 : Int) ^ (8 * k) = ((256 ^ k : Nat) : Int) := by rw [Int.pow_mul]; simp
    rw [this]; simp
  rw [e]
  simp only [cb, Int.toNat_natCast, List.setIfInBounds_toArray, num_snoc, List.map_append, List.append_assoc]
  congr 1
  rw [List.set_append_right _ _ (by simp [num_length])]
  obtain ⟨m, hm⟩ : ∃ m, 8 - k = m + 1 := ⟨7 - k, by omega⟩
  have hm' : 8 - (k + 1) = m := by omega
  simp [num_length, hm, hm', List.replicate_succ]
end Go.Proofs.YtbcjfppdeapamaaDoor
namespace Go.Proofs.YtbcjfppdeapamaaDoor
open Go.RowKit Oct

theorem strCells_bs (l : List UInt8) : Lib.strCells (bs l) = bcells l := by simp [Lib.strCells, bcells, bs]

theorem BuilderAt_below {T e : TypeId} {B b : Nat} {p : Value} {l : List Value} {w w' : World} (h : Lib.BuilderAt T e B b p l w) (hB : Below w.heap.size w w') : Lib.BuilderAt T e B b p l w' := by
  have hlt := h.lt
  obtain ⟨h1, v, h2, h3, h4⟩ := h
  exact ⟨h1, v, (hB.block b hlt).trans h2, ownsRow_below h3 hB, h4⟩
end Go.Proofs.YtbcjfppdeapamaaDoor
namespace Go.Proofs.YtbcjfppdeapamaaDoor
open Go.RowKit

/-- blocks outside X lie as they lay -/
structure Chg (X : Nat → Prop) (w w' : World) : Prop where
  os : w'.os = w.os
  tape : w'.tape = w.tape
  output : w'.output = w.output
  size : w.heap.size ≤ w'.heap.size
  block : ∀ k, k < w.heap.size → ¬ X k → w'.heap[k]? = w.heap[k]?
theorem Chg.refl (X : Nat → Prop) (w : World) : Chg X w w := ⟨rfl, rfl, rfl, Nat.le_refl _, fun _ _ _ => rfl⟩
theorem Chg.trans {X : Nat → Prop} {a b c : World} (h : Chg X a b) (k : Chg X b c) : Chg X a c :=
  ⟨k.os.trans h.os, k.tape.trans h.tape, k.output.trans h.output, Nat.le_trans h.size k.size, fun i hi hx => (k.block i (Nat.lt_of_lt_of_le hi h.size) hx).trans (h.block i hi hx)⟩
theorem Chg.mono {X X' : Nat → Prop} {w w' : World} (h : Chg X w w') (hx : ∀ k, X k → X' k) : Chg X' w w' := ⟨h.os, h.tape, h.output, h.size, fun k hk hn => h.block k hk fun hxk => hn (hx k hxk)⟩
theorem Chg.of_below {X : Nat → Prop} {w w' : World} (h : Below w.heap.size w w') : Chg X w w' := ⟨h.os, h.tape, h.output, h.size, fun k hk _ => h.block k hk⟩
/-- what a growth of the caller's own leaves -/
theorem Chg.of_base {X : Nat → Prop} {B : Nat} {w w' : World} (h : Below B w w') (hX : ∀ k, B ≤ k → X k) : Chg X w w' :=
  ⟨h.os, h.tape, h.output, h.size, fun k hk hn => h.block k (Nat.lt_of_not_le fun hb => hn (hX k hb))⟩
theorem Chg.below {X : Nat → Prop} {B : Nat} {w w' : World} (h : Chg X w w') (hX : ∀ k, X k → B ≤ k) (hB : B ≤ w.heap.size) : Below B w w' :=
  ⟨h.os, h.tape, h.output, h.size, fun k hk => h.block k (Nat.lt_of_lt_of_le hk hB) fun hx => by have := hX k hx; omega⟩
theorem Chg.alloc (X : Nat → Prop) (w : World) (o : Obj) : Chg X w (w.alloc o) := Chg.of_below (b_alloc w o)
theorem Chg.drew (X : Nat → Prop) (w : World) : Chg X w w.drew := Chg.of_below (b_drew w)
theorem Chg.setCell {X : Nat → Prop} (w : World) (a : Addr) (u : Value) (h : X a.block) : Chg X w (w.setCell a u) :=
  ⟨rfl, rfl, rfl, by simp [World.setCell], fun k _ hn => Below.heap_setCell _ _ _ _ fun e => hn (e ▸ h)⟩
theorem Chg.putObj {X : Nat → Prop} (w : World) (l : Nat) (o : Obj) (h : X l) : Chg X w (w.putObj l o) :=
  ⟨rfl, rfl, rfl, by simp, fun k _ hn => World.putObj_heap_other fun e => hn (e ▸ h)⟩
theorem Chg.at {X : Nat → Prop} {w w' : World} (h : Chg X w w') {k : Nat} {o : Obj} (hk : w.heap[k]? = some o) (hn : ¬ X k) : w'.heap[k]? = some o :=
  (h.block k (Array.getElem?_eq_some_iff.1 hk).1 hn).trans hk
theorem Chg.cell {X : Nat → Prop} {w w' : World} (h : Chg X w w') {a : Addr} {u : Value} (ha : w.cell? a = some u) (hn : ¬ X a.block) : w'.cell? a = some u :=
  (World.cell?_of_block (w := w) (h.block a.block (lt_of_cell ha) hn)).trans ha

section
variable {F : Fence} {n : Nat} {P : Program} {α : Type}

/-- an iterator, captured values lb: it hands out what 'out' says, writes blocks of X alone, and wants the blocks of Y kept in a round that goes on -/
def IterC (F : Fence) (n : Nat) (P : Program) (gf : Nat) (lb : Array Value) (X Y : Nat → Prop) (El : α → Array Value → World → Prop) (out : List α) (W : World) : Prop :=
  ∀ (l : Nat) (J Jx : List α → World → Prop),
    (∀ pre U U', J pre U → Chg X U U' → J pre U') → (∀ pre U U', Jx pre U → Chg X U U' → Jx pre U') →
    (∀ pre x vs U, J pre U → El x vs U → pre ++ [x] <+: out → YieldAt F (n - 1) P l vs U fun e U' =>
      (e = .returned (.bool true) ∧ J (pre ++ [x]) U' ∧ Chg (fun k => ¬ Y k) U U') ∨ (e = .returned (.bool false) ∧ Jx (pre ++ [x]) U')) →
    J [] W → CallsIn F n P gf (#[.func (.yield l) #[] #[]] ++ lb) W fun e W' => (∃ v, e = .returned v) ∧ (J out W' ∨ ∃ pre, pre <+: out ∧ Jx pre W')

/-- how a round's body may be left; D: the loop's two blocks begin there -/
def rangeEnd (D : Nat) (Y : Nat → Prop) (I : List α → World → Prop) (Ix : Code → List α → World → Prop) (pre : List α) (U : World) : Exit → Act → World → Prop
  | .normal, _, U' => Chg (fun k => ¬ (Y k ∨ k = D ∨ k = D + 1)) U U' ∧ I pre U'
  | .ret, _, U' => Chg (fun k => ¬ (k = D ∨ k = D + 1)) U U' ∧ Ix .ret pre U'
  | .exit id, _, U' => Chg (fun k => ¬ (k = D ∨ k = D + 1)) U U' ∧ Ix (.exit id) pre U'
  | .goto t, _, U' => Chg (fun k => ¬ (k = D ∨ k = D + 1)) U U' ∧ Ix (.goto t) pre U'
  | .panic _, _, _ => False
  | .outgrown, _, _ => False

theorem wpIn_range {g : Operand} {ps : Array Tmp} {assign body : Code} {Q : Exit → Act → World → Prop} {a : Act} {w : World}
    (hro : F.round = none) (h1 : 1 ≤ n) {gf : Nat} {lb : Array Value} (hg : a.eval g = .func (.func gf) #[] lb) (hFg : F.fn gf) (eg : ∀ args w, (callFunc gf args).run P w = .ok (.enter gf args) w)
    {X Y : Nat → Prop} {El : α → Array Value → World → Prop} {out : List α} (hX : ∀ k, X k → k < w.heap.size) (hY : ∀ k, Y k → k < w.heap.size)
    (hseq : ∀ W, Below w.heap.size w W → IterC F (n - 1) P gf lb X Y El out W) (hps : ∀ x vs U, El x vs U → vs.size = ps.size)
    (hEl : ∀ x vs U U', El x vs U → Chg (fun k => k = w.heap.size ∨ k = w.heap.size + 1) U U' → El x vs U')
    (I : List α → World → Prop) (Ix : Code → List α → World → Prop)
    (hI : ∀ pre U U', I pre U → Chg (fun k => X k ∨ k = w.heap.size ∨ k = w.heap.size + 1) U U' → I pre U')
    (hIx : ∀ c pre U U', Ix c pre U → Chg (fun k => X k ∨ k = w.heap.size ∨ k = w.heap.size + 1) U U' → Ix c pre U') (h0 : I [] w)
    (hround : ∀ (l : Nat) (pre : List α) (x : α) (vs : Array Value) (U : World), w.heap.size + 2 ≤ U.heap.size → I pre U → El x vs U → pre ++ [x] <+: out →
      assign.wpIn (F.inRound l) (n - 1 - 1) P (Exit.then (fun a' U1 => Below U.heap.size U U1 ∧ ∀ U2, w.heap.size + 2 ≤ U2.heap.size → I pre U2 → El x vs U2 → Chg (fun k => k = w.heap.size ∨ k = w.heap.size + 1) U1 U2 →
        body.wpIn (F.inRound l) (n - 1 - 1) P (rangeEnd w.heap.size Y I Ix (pre ++ [x]) U2) a' U2) (fun _ _ _ => False)) { tmps := (ps.zip vs).foldl (fun t (p, v) => t.setIfInBounds p v) a.tmps, defers := [] } U)
    (hdone : ∀ W, w.heap.size + 2 ≤ W.heap.size → I out W → W.heap[w.heap.size]? = some (.deferred (some [])) → Q .normal { a with defers := { target := .collected w.heap.size, args := #[] } :: a.defers } W)
    (hstop : ∀ c pre W, w.heap.size + 2 ≤ W.heap.size → pre <+: out → Ix c pre W → W.heap[w.heap.size]? = some (.deferred (some [])) → c.wpIn F n P Q { a with defers := { target := .collected w.heap.size, args := #[] } :: a.defers } W) :
    (Code.rangeFunc g ps assign body).wpIn F n P Q a w := by
  refine wpIn_rangeFunc fun fn hfn => ?_
  rw [hro]
  obtain ⟨rec, hrec⟩ : ∃ rec : LoopState → Option Code → Loop, rec = fun st pe => { state := st, pending := pe, fn, tmps := a.tmps, params := ps, assign, body, defers := w.heap.size } := ⟨_, rfl⟩
  obtain ⟨W1, hW1⟩ : ∃ W1, (w.alloc (.deferred (some []))).alloc (.loop (rec .ready none)) = W1 := ⟨_, rfl⟩
  obtain ⟨hK1, hL1, hb1⟩ := two_new w (.deferred (some [])) (.loop (rec .ready none))
  rw [hW1] at hK1 hL1 hb1
  have hsz1 : w.heap.size + 2 ≤ W1.heap.size := by have := (Array.getElem?_eq_some_iff.1 hL1).1; omega
  refine ⟨w.heap.size + 1, [{ target := .collected w.heap.size, args := #[] }], W1, { target := .fn (.func gf) lb, args := #[.func (.yield (w.heap.size + 1)) #[] #[]] }, W1, gf,
    #[.func (.yield (w.heap.size + 1)) #[] #[]] ++ lb, W1, ?_, ?_, ?_, ?_, fun _ => h1, ?_⟩
  · rw [← hW1, hrec]; exact run_enterLoop_outer _ _ _ _ _
  · simp only [resolve, hg]
    simp [go_sem]
  · intro f' hf'; simp [Target.leads] at hf'; subst hf'; exact hFg
  · simp [invoke, go_sem, eg]
  have xD : ∀ k, X k → k ≠ w.heap.size ∧ k ≠ w.heap.size + 1 := fun k hk => by have := hX k hk; omega
  have keep : ∀ {U U' : World} {o o' : Obj}, Chg X U U' → U.heap[w.heap.size + 1]? = some o → U.heap[w.heap.size]? = some o' → U'.heap[w.heap.size + 1]? = some o ∧ U'.heap[w.heap.size]? = some o' :=
    fun hc h h' => ⟨hc.at h fun hx => (xD _ hx).2 rfl, hc.at h' fun hx => (xD _ hx).1 rfl⟩
  refine (hseq W1 hb1 (w.heap.size + 1)
    (fun pre U => I pre U ∧ U.heap[w.heap.size + 1]? = some (.loop (rec .ready none)) ∧ U.heap[w.heap.size]? = some (.deferred (some [])))
    (fun pre U => ∃ c, Ix c pre U ∧ U.heap[w.heap.size + 1]? = some (.loop (rec .done (some c))) ∧ U.heap[w.heap.size]? = some (.deferred (some [])))
    (fun pre U U' hs hc => ⟨hI _ _ _ hs.1 (hc.mono fun _ h => .inl h), keep hc hs.2.1 hs.2.2⟩)
    (fun pre U U' ⟨c, hs, hl, hk⟩ hc => ⟨c, hIx _ _ _ _ hs (hc.mono fun _ h => .inl h), keep hc hl hk⟩)
    ?_ ⟨hI _ _ _ h0 (Chg.of_below hb1), hL1, hK1⟩).mono ?_
  · rintro pre x vs U ⟨hi, hl, hk⟩ hel hpre
    have hy := run_yield (P := P) (args := vs) hl (by rw [hrec]; exact hps x vs U hel)
    rw [hrec] at hy
    refine ⟨fn, _, assign, body, hy, roundIn_of_wpIn hfn (wpIn_mono (hround _ pre x vs U (by have := (Array.getElem?_eq_some_iff.1 hl).1; omega) hi hel hpre) ?_)⟩
    clear hy
    intro ea a' U1 hea
    cases ea with
    | normal => ?_
    | _ => exact hea
    obtain ⟨hbel, hbody⟩ := hea
    have c1 : ∀ {Z : Nat → Prop}, Chg Z U U1 := fun {Z} => Chg.of_below hbel
    replace hl := c1.at (X := fun _ => False) hl (fun h => h)
    replace hk := c1.at (X := fun _ => False) hk (fun h => h)
    replace hi := hI _ _ _ hi c1
    replace hel := hEl _ _ _ _ hel c1
    have hlt := (Array.getElem?_eq_some_iff.1 hl).1
    refine ⟨_, run_beginRound hl (by rw [hrec]), ?_⟩
    obtain ⟨U2, hU2⟩ : ∃ U2, U1.putObj (w.heap.size + 1) (.loop { rec .ready none with state := .busy }) = U2 := ⟨_, rfl⟩
    have hl2 : U2.heap[w.heap.size + 1]? = some (.loop { rec .ready none with state := .busy }) := by rw [← hU2]; exact World.putObj_heap_same hlt
    have hk2 : U2.heap[w.heap.size]? = some (.deferred (some [])) := by rw [← hU2]; exact (World.putObj_heap_other (by omega)).trans hk
    have c2 : ∀ {Z : Nat → Prop}, Z (w.heap.size + 1) → Chg Z U1 U2 := fun {Z} hz => by rw [← hU2]; exact Chg.putObj _ _ _ hz
    rw [hU2]
    refine wpIn_mono (hbody U2 (by have := (Array.getElem?_eq_some_iff.1 hl2).1; omega) (hI _ _ _ hi (c2 (.inr (.inr rfl)))) (hEl _ _ _ _ hel (c2 (.inr rfl))) (c2 (.inr rfl))) ?_
    have fin : ∀ (jump : Option Code) (U3 : World), U3.heap[w.heap.size + 1]? = some (.loop { rec .ready none with state := .busy }) → U3.heap[w.heap.size]? = some (.deferred (some [])) →
        (Instr.endRound (w.heap.size + 1) jump).run P U3 = .ok (.bool jump.isNone) (U3.putObj (w.heap.size + 1) (.loop (rec (if jump.isNone then .ready else .done) jump))) ∧
        (U3.putObj (w.heap.size + 1) (.loop (rec (if jump.isNone then .ready else .done) jump))).heap[w.heap.size + 1]? = some (.loop (rec (if jump.isNone then .ready else .done) jump)) ∧
        (U3.putObj (w.heap.size + 1) (.loop (rec (if jump.isNone then .ready else .done) jump))).heap[w.heap.size]? = some (.deferred (some [])) := fun jump U3 hl3 hk3 => by
      have := run_endRound (P := P) jump hl3
      rw [hrec] at this ⊢
      exact ⟨this, World.putObj_heap_same (Array.getElem?_eq_some_iff.1 hl3).1, (World.putObj_heap_other (by omega)).trans hk3⟩
    have stop : ∀ (c : Code) (U3 : World), Chg (fun k => ¬ (k = w.heap.size ∨ k = w.heap.size + 1)) U2 U3 → Ix c (pre ++ [x]) U3 → ∃ v U4, (Instr.endRound (w.heap.size + 1) (some c)).run P U3 = .ok v U4 ∧
        ((Ending.returned v = .returned (.bool true) ∧ (I (pre ++ [x]) U4 ∧ U4.heap[w.heap.size + 1]? = some (.loop (rec .ready none)) ∧ U4.heap[w.heap.size]? = some (.deferred (some []))) ∧ Chg (fun k => ¬ Y k) U U4) ∨
         (Ending.returned v = .returned (.bool false) ∧ ∃ c, Ix c (pre ++ [x]) U4 ∧ U4.heap[w.heap.size + 1]? = some (.loop (rec .done (some c))) ∧ U4.heap[w.heap.size]? = some (.deferred (some [])))) := fun c U3 hc hx => by
      obtain ⟨hr, hl4, hk4⟩ := fin (some c) U3 (hc.at hl2 fun h => h (.inr rfl)) (hc.at hk2 fun h => h (.inl rfl))
      exact ⟨_, _, hr, .inr ⟨rfl, c, hIx _ _ _ _ hx (Chg.putObj _ _ _ (.inr (.inr rfl))), hl4, hk4⟩⟩
    rintro e a3 U3 hp
    cases e with
    | normal =>
      obtain ⟨hc, hi3⟩ := hp
      obtain ⟨hr, hl4, hk4⟩ := fin none U3 (hc.at hl2 fun h => h (.inr (.inr rfl))) (hc.at hk2 fun h => h (.inr (.inl rfl)))
      have yD : ¬ Y (w.heap.size + 1) := fun h => by have := hY _ h; omega
      exact ⟨_, _, hr, .inl ⟨rfl, ⟨hI _ _ _ hi3 (Chg.putObj _ _ _ (.inr (.inr rfl))), hl4, hk4⟩,
        (((c1.trans (c2 yD)).trans (hc.mono fun k hk hy => hk (.inl hy))).trans (Chg.putObj _ _ _ yD))⟩⟩
    | ret => exact stop .ret U3 hp.1 hp.2
    | exit id => exact stop (.exit id) U3 hp.1 hp.2
    | goto t => exact stop (.goto t) U3 hp.1 hp.2
    | panic ch => exact hp.elim
    | outgrown => exact hp.elim
  · rintro e W2 ⟨⟨v, rfl⟩, (⟨hi, hl, hk⟩ | ⟨pre, hpre, c, hi, hl, hk⟩)⟩
    · have hlt := (Array.getElem?_eq_some_iff.1 hl).1
      exact ⟨none, _, by have := run_endLoop (P := P) hl (by rw [hrec]; simp); rw [hrec] at this; exact this, hdone _ (by simp; omega) (hI _ _ _ hi (Chg.putObj _ _ _ (.inr (.inr rfl)))) ((World.putObj_heap_other (by omega)).trans hk)⟩
    · have hlt := (Array.getElem?_eq_some_iff.1 hl).1
      exact ⟨some c, _, by have := run_endLoop (P := P) hl (by rw [hrec]; simp); rw [hrec] at this; exact this, hstop c pre _ (by simp; omega) hpre (hIx _ _ _ _ hi (Chg.putObj _ _ _ (.inr (.inr rfl)))) ((World.putObj_heap_other (by omega)).trans hk)⟩

/-- .. a function that is walked with no fence -/
theorem wp_range {g : Operand} {ps : Array Tmp} {assign body : Code} {Q : Exit → Act → World → Prop} {a : Act} {w : World} {D : Nat} (hD : w.heap.size = D)
    {gf : Nat} {lb : Array Value} (hg : a.eval g = .func (.func gf) #[] lb) (eg : ∀ args w, (callFunc gf args).run P w = .ok (.enter gf args) w)
    {X Y : Nat → Prop} {El : α → Array Value → World → Prop} {out : List α} (hX : ∀ k, X k → k < D) (hY : ∀ k, Y k → k < D)
    (hseq : ∀ W, Below D w W → IterC Fence.wide 2 P gf lb X Y El out W) (hps : ∀ x vs U, El x vs U → vs.size = ps.size)
    (hEl : ∀ x vs U U', El x vs U → Chg (fun k => k = D ∨ k = D + 1) U U' → El x vs U')
    (I : List α → World → Prop) (Ix : Code → List α → World → Prop)
    (hI : ∀ pre U U', I pre U → Chg (fun k => X k ∨ k = D ∨ k = D + 1) U U' → I pre U')
    (hIx : ∀ c pre U U', Ix c pre U → Chg (fun k => X k ∨ k = D ∨ k = D + 1) U U' → Ix c pre U') (h0 : I [] w)
    (hround : ∀ (l : Nat) (pre : List α) (x : α) (vs : Array Value) (U : World), D + 2 ≤ U.heap.size → I pre U → El x vs U → pre ++ [x] <+: out →
      assign.wpIn (Fence.wide.inRound l) 1 P (Exit.then (fun a' U1 => Below U.heap.size U U1 ∧ ∀ U2, D + 2 ≤ U2.heap.size → I pre U2 → El x vs U2 → Chg (fun k => k = D ∨ k = D + 1) U1 U2 →
        body.wpIn (Fence.wide.inRound l) 1 P (rangeEnd D Y I Ix (pre ++ [x]) U2) a' U2) (fun _ _ _ => False)) { tmps := (ps.zip vs).foldl (fun t (p, v) => t.setIfInBounds p v) a.tmps, defers := [] } U)
    (hdone : ∀ W, D + 2 ≤ W.heap.size → I out W → W.heap[D]? = some (.deferred (some [])) → Q .normal { a with defers := { target := .collected D, args := #[] } :: a.defers } W)
    (hstop : ∀ c pre W, D + 2 ≤ W.heap.size → pre <+: out → Ix c pre W → W.heap[D]? = some (.deferred (some [])) → c.wp P Q { a with defers := { target := .collected D, args := #[] } :: a.defers } W) :
    (Code.rangeFunc g ps assign body).wp P Q a w := by
  subst hD
  exact (wpIn_wide (n := 3)).1 (wpIn_range rfl (by decide) hg trivial eg hX hY hseq hps hEl I Ix hI hIx h0 hround hdone fun c pre W h1 h2 h3 h4 => wpIn_wide.2 (hstop c pre W h1 h2 h3 h4))
end
end Go.Proofs.YtbcjfppdeapamaaDoor
namespace Go.Proofs.YtbcjfppdeapamaaDoor
open Go.RowKit

/-- a word, as a value holds it -/
def U (x : UInt32) : Int := (x.toNat : Int)
theorem U_nat (x : UInt32) : U x = (x.toNat : Int) := rfl
theorem U_lt (x : UInt32) : x.toNat < 4294967296 := x.toNat_lt
@[go_sem] theorem U_xor (a b : UInt32) : bits .xor .u32 (U a) (U b) = U (a ^^^ b) := by
  rw [U_nat, U_nat, u32_xor_nat _ _ (U_lt a) (U_lt b), U_nat, UInt32.toNat_xor]
@[go_sem] theorem U_and (a b : UInt32) : bits .and .u32 (U a) (U b) = U (a &&& b) := by
  rw [U_nat, U_nat, u32_and_nat _ _ (U_lt a) (U_lt b), U_nat, UInt32.toNat_and]
@[go_sem] theorem U_or (a b : UInt32) : bits .or .u32 (U a) (U b) = U (a ||| b) := by
  rw [U_nat, U_nat, u32_or_nat _ _ (U_lt a) (U_lt b), U_nat, UInt32.toNat_or]
theorem wrap_u32 (z : Int) : IntKind.u32.wrap z = z % (4294967296 : Int) := by
  simp [IntKind.wrap, IntKind.bits, IntKind.signed]
@[go_sem] theorem U_add (a b : UInt32) : IntKind.u32.wrap (U a + U b) = U (a + b) := by
  rw [wrap_u32, U_nat, U_nat, U_nat, UInt32.toNat_add]; omega
theorem U_shr (x : UInt32) (n : Nat) (h : n ≤ 31) : U x / 2 ^ n = U (x >>> UInt32.ofNat n) := by
  rw [U_nat, U_nat, UInt32.toNat_shiftRight, UInt32.toNat_ofNat_of_lt' (by show n < 4294967296; omega), Nat.mod_eq_of_lt (by omega), Nat.shiftRight_eq_div_pow]
  norm_cast
theorem U_shl (x : UInt32) (n : Nat) (h : n ≤ 31) : U x * 2 ^ n % 4294967296 = U (x <<< UInt32.ofNat n) := by
  rw [U_nat, U_nat, UInt32.toNat_shiftLeft, UInt32.toNat_ofNat_of_lt' (by show n < 4294967296; omega), Nat.mod_eq_of_lt (show n < 32 by omega), Nat.shiftLeft_eq]
  have e : (4294967296 : Int) = ((2 ^ 32 : Nat) : Int) := rfl
  have e2 : (2 : Int) ^ n = ((2 ^ n : Nat) : Int) := by norm_cast
  rw [e, e2, ← Int.natCast_mul, ← Int.natCast_emod]
@[go_sem] theorem U_shl24 (x : UInt32) : U x * (16777216 : Int) % (4294967296 : Int) = U (x <<< 24) := U_shl x 24 (by omega)
@[go_sem] theorem U_shl16 (x : UInt32) : U x * (65536 : Int) % (4294967296 : Int) = U (x <<< 16) := U_shl x 16 (by omega)
@[go_sem] theorem U_shl8 (x : UInt32) : U x * (256 : Int) % (4294967296 : Int) = U (x <<< 8) := U_shl x 8 (by omega)
@[go_sem] theorem U_shr3 (x : UInt32) : U x / (8 : Int) = U (x >>> 3) := U_shr x 3 (by omega)
@[go_sem] theorem U_shr10 (x : UInt32) : U x / (1024 : Int) = U (x >>> 10) := U_shr x 10 (by omega)
@[go_sem] theorem U_add' (a b : UInt32) : (U a + U b) % (4294967296 : Int) = U (a + b) := by rw [← wrap_u32, U_add]
@[go_sem] theorem U_add3 (a b c : UInt32) : (U a + U b + U c) % (4294967296 : Int) = U (a + b + c) := by
  simp only [U_nat, UInt32.toNat_add]; omega
@[go_sem] theorem U_add4 (a b c d : UInt32) : (U a + U b + U c + U d) % (4294967296 : Int) = U (a + b + c + d) := by
  simp only [U_nat, UInt32.toNat_add]; omega
@[go_sem] theorem U_add5 (a b c d e : UInt32) : (U a + U b + U c + U d + U e) % (4294967296 : Int) = U (a + b + c + d + e) := by
  simp only [U_nat, UInt32.toNat_add]; omega
@[go_sem] theorem U_byte (c : UInt8) : (c.toNat : Int) % (4294967296 : Int) = U c.toUInt32 := by
  have := c.toNat_lt
  rw [U_nat, UInt8.toNat_toUInt32]; omega
theorem wf_U (x : UInt32) : IntKind.u32.wrap (U x) = U x := by
  have := U_lt x
  rw [wrap_u32, U_nat]; omega
/-- the cells of a row of words -/
def ucells (l : List UInt32) : List Value := l.map fun x => .int .u32 (U x)
theorem ucells_length (l : List UInt32) : (ucells l).length = l.length := by simp [ucells]
theorem ucells_at (l : List UInt32) (k : Nat) (h : k < l.length) : (ucells l)[k]? = some (.int .u32 (U l[k])) := by simp [ucells, h]
theorem ucells_set (l : List UInt32) (k : Nat) (x : UInt32) : (ucells l).set k (.int .u32 (U x)) = ucells (l.set k x) := by simp [ucells, List.map_set]
theorem ucells_one (l : List UInt32) : (ucells l).toArray.all (·.oneCell') = true := by
  rw [List.all_toArray, List.all_eq_true]; intro v hv
  simp only [ucells, List.mem_map] at hv
  obtain ⟨x, _, rfl⟩ := hv; rfl

/-- block b is this row of cells, that may be written -/
def Blk (w : World) (b : Nat) (t : TypeId) (cs : List Value) : Prop := w.heap[b]? = some (.cells cs.toArray t (0, 0))
theorem Blk.lt {w : World} {b : Nat} {t : TypeId} {cs : List Value} (h : Blk w b t cs) : b < w.heap.size := by
  rcases Nat.lt_or_ge b w.heap.size with hn | hn
  · exact hn
  · simp [Blk, Array.getElem?_eq_none hn] at h
theorem Blk.cell {w : World} {b : Nat} {t : TypeId} {cs : List Value} (h : Blk w b t cs) {k : Nat} {v : Value} (hv : cs[k]? = some v) : w.cell? ⟨b, k, none⟩ = some v := by
  rw [cell_of_row w b k _ t _ h]; simpa using hv
theorem Blk.free {w : World} {b : Nat} {t : TypeId} {cs : List Value} (h : Blk w b t cs) {k : Nat} (hk : k < cs.length) : w.frozen? ⟨b, k, none⟩ = false := by
  unfold Blk at h
  simp [World.frozen?, h]
theorem Blk.set {w : World} {b : Nat} {t : TypeId} {cs : List Value} (h : Blk w b t cs) (k : Nat) (v : Value) : Blk (w.setCell ⟨b, k, none⟩ v) b t (cs.set k v) := by
  unfold Blk at h ⊢
  simp [World.setCell, Array.getElem?_modify, h]
theorem Blk.row {w : World} {b : Nat} {t : TypeId} {cs : List Value} (h : Blk w b t cs) (cs' : List Value) : Blk (w.setRow b cs'.toArray) b t cs' := by
  unfold Blk at h ⊢
  simp [World.setRow, Array.getElem?_modify, h]
theorem Blk.below {w w' : World} {b : Nat} {t : TypeId} {cs : List Value} (h : Blk w b t cs) (hB : Below w.heap.size w w') : Blk w' b t cs := by
  unfold Blk; rw [hB.block b h.lt]; exact h
theorem Blk.chg {X : Nat → Prop} {w w' : World} {b : Nat} {t : TypeId} {cs : List Value} (h : Blk w b t cs) (hB : Chg X w w') (hX : ¬ X b) : Blk w' b t cs := hB.at h hX
theorem Blk.new (w : World) (cs : List Value) (t : TypeId) : Blk (w.alloc (.cells cs.toArray t)) w.heap.size t cs := by
  exact heap_alloc_last w _
theorem Blk.range {w : World} {b : Nat} {t : TypeId} {cs : List Value} (h : Blk w b t cs) : w.rangeAt b 0 cs := fun j v hv => by rw [Nat.zero_add]; exact h.cell hv
theorem heap_setRow_ne (w : World) (b : Nat) (cs : Array Value) (k : Nat) (h : k ≠ b) : (w.setRow b cs).heap[k]? = w.heap[k]? := by
  unfold World.setRow
  rw [Array.getElem?_modify, if_neg (fun e => h e.symm)]
theorem setRow_size (w : World) (b : Nat) (cs : Array Value) : (w.setRow b cs).heap.size = w.heap.size := by simp [World.setRow]
theorem below_setRow {B : Nat} {a w : World} (h : Below B a w) {b : Nat} (hb : B ≤ b) (cs : Array Value) : Below B a (w.setRow b cs) :=
  ⟨h.os, h.tape, h.output, by rw [setRow_size]; exact h.size, fun k hk => by rw [heap_setRow_ne w b cs k (by omega)]; exact h.block k hk⟩
theorem chg_setRow {X : Nat → Prop} (w : World) (b : Nat) (cs : Array Value) (hX : X b) : Chg X w (w.setRow b cs) :=
  ⟨rfl, rfl, rfl, by rw [setRow_size]; exact Nat.le_refl _, fun k _ hn => heap_setRow_ne w b cs k fun e => hn (e ▸ hX)⟩

section
variable {P : Program} {ops : Array Oper} {rest : List Oper} {op : Oper} {a : Act} {w : World} {Q : Exit → Act → World → Prop}
/-- a whole block is read -/
theorem blk_load (b : Nat) (cs : List Value) {t : TypeId} (h : Blk w b t cs) (d : TypeDesc) (hgd : op.guard = none) (ty : TypeId) (x : Operand) (ho : op.op = .load ty x) (hx : a.eval x = .pointer (some ⟨b, 0, none⟩))
    (hu : P.underlying ty = some d) (hd : (match d with | .struct _ | .array _ _ => true | _ => false) = true) (hi : (P.info? ty).map (·.size) = some cs.length)
    (k : wpList P ops Q rest (a.put op.dst (.agg cs.toArray)) w) : wpList P ops Q (op :: rest) a w :=
  wpList_plain hgd fun _ hK => wp_load_row ty x ho b hx t cs.toArray (0, 0) d h hu hd (by simpa using hi) (hK _ _ k)
/-- a whole block is written -/
theorem blk_store (b : Nat) (cs cs' : List Value) {t : TypeId} (h : Blk w b t cs) (hgd : op.guard = none) (ty : TypeId) (x y : Operand) (ho : op.op = .store ty x y) (hx : a.eval x = .pointer (some ⟨b, 0, none⟩))
    (hy : a.eval y = .agg cs'.toArray) (hi : (P.info? ty).map (·.size) = some cs'.length) (hl : cs.length = cs'.length) (h1 : cs'.toArray.all (·.oneCell') = true)
    (k : wpList P ops Q rest (a.put op.dst undef) (w.setRow b cs'.toArray)) : wpList P ops Q (op :: rest) a w :=
  wpList_plain hgd fun _ hK => wp_store_row ty x y ho b cs'.toArray hx hy t cs.toArray h (by simpa using hi) (by simpa using hl) h1 (hK _ _ k)
/-- a literal, as it is built -/
theorem blk_build (cs' : List Value) (hgd : op.guard = none) (t : TypeId) (parts : Array (Nat × Operand)) (ho : op.op = .build t parts)
    (hb : P.built t (parts.map fun (i, x) => (i, a.eval x)).toList = some cs'.toArray)
    (k : wpList P ops Q rest (a.put op.dst (.agg cs'.toArray)) w) : wpList P ops Q (op :: rest) a w :=
  wpList_build hgd t parts ho (by rw [hb]; rfl) (by rw [hb]; exact k)
/-- a result that lies in a block -/
theorem blk_result {fn : Func} {p : Tmp} {ty t : TypeId} {tmps : Array Value} {cs : List Value} {b : Nat} (hr : fn.results = #[.cell p ty]) (hp : tmps.getD p undef = .pointer (some ⟨b, 0, none⟩)) (h : Blk w b t cs) (d : TypeDesc)
    (hu : P.underlying ty = some d) (hd : (match d with | .struct _ | .array _ _ => true | _ => false) = true) (hi : (P.info? ty).map (·.size) = some cs.length) : (results fn tmps).run P w = .ok (.agg cs.toArray) w := by
  have := run_loadVar_row w b t ty cs.toArray (0, 0) d h hu hd (by simpa using hi)
  simp only [Array.getD_eq_getD_getElem?] at hp
  simp [results, hr, Sem.run_bind, Result.andThen, hp, asAddr, this]
end
end Go.Proofs.YtbcjfppdeapamaaDoor
namespace Go.Proofs.YtbcjfppdeapamaaDoor
open Go.RowKit Oct

abbrev PR := List UInt8 × List UInt8
/-- a pair's cells -/
def pcell (p : PR) : List Value := [.string (bs p.1), .string (bs p.2)]
def pcells : List PR → List Value
  | [] => []
  | p :: l => .string (bs p.1) :: .string (bs p.2) :: pcells l
theorem pcells_length : ∀ l : List PR, (pcells l).length = l.length * 2
  | [] => rfl
  | p :: l => by simp [pcells, pcells_length l]; omega
theorem pcells_append : ∀ a b : List PR, pcells (a ++ b) = pcells a ++ pcells b
  | [], _ => rfl
  | p :: a, b => by simp [pcells, pcells_append a b]
theorem pcells_snoc (l : List PR) (p : PR) : pcells l ++ [.string (bs p.1), .string (bs p.2)] = pcells (l ++ [p]) := by rw [pcells_append]; rfl
theorem pcells_key : ∀ (l : List PR) (k : Nat) (h : k < l.length), (pcells l)[k * 2]? = some (.string (bs l[k].1))
  | p :: l, 0, _ => rfl
  | p :: l, k + 1, h => by
    have := pcells_key l k (by simpa using h)
    rw [show (k + 1) * 2 = k * 2 + 2 by omega]
    simpa [pcells] using this
theorem pcells_val : ∀ (l : List PR) (k : Nat) (h : k < l.length), (pcells l)[k * 2 + 1]? = some (.string (bs l[k].2))
  | p :: l, 0, _ => rfl
  | p :: l, k + 1, h => by
    have := pcells_val l k (by simpa using h)
    rw [show (k + 1) * 2 + 1 = k * 2 + 1 + 2 by omega]
    simpa [pcells] using this
theorem pcells_drop : ∀ (l : List PR) (k : Nat), (pcells l).drop (k * 2) = pcells (l.drop k)
  | l, 0 => by simp
  | [], k + 1 => by simp [pcells]
  | p :: l, k + 1 => by
    rw [show (k + 1) * 2 = k * 2 + 2 by omega]
    simp [pcells, pcells_drop l k]
theorem pcells_take : ∀ (l : List PR) (k : Nat), (pcells l).take (k * 2) = pcells (l.take k)
  | l, 0 => by simp [pcells]
  | [], k + 1 => by simp [pcells]
  | p :: l, k + 1 => by
    rw [show (k + 1) * 2 = k * 2 + 2 by omega]
    simp [pcells, pcells_take l k]
theorem pcells_one (l : List PR) : ∀ u ∈ pcells l, u.oneCell' = true := by
  induction l with
  | nil => simp [pcells]
  | cons p l ih => intro u hu; simp [pcells] at hu; rcases hu with rfl | rfl | hu <;> first | rfl | exact ih u hu

/-- the slice value v is a row of pairs -/
def RP (w : World) (v : Value) (l : List PR) : Prop := Reads w v l.length (pcells l) ∧ ∃ a cap, v = .slice a l.length cap ∧ l.length ≤ cap
theorem RP.below {w w' : World} {v : Value} {l : List PR} (h : RP w v l) (hB : Below w.heap.size w w') : RP w' v l := ⟨Reads.below h.1 hB, h.2⟩
theorem RP.nil (w : World) : RP w (.slice none 0 0) [] := ⟨Reads.nil w, none, 0, rfl, Nat.le_refl _⟩
theorem RP.new (w : World) (l : List PR) (e : TypeId) : RP (w.alloc (.cells (pcells l).toArray e)) (.slice (some ⟨w.heap.size, 0, none⟩) l.length l.length) l := ⟨Reads.new w _ _ _ _, _, _, rfl, Nat.le_refl _⟩
/-- a row, opened -/
theorem RP.open {w : World} {v : Value} {l : List PR} (h : RP w v l) : ∃ a cap, v = .slice a l.length cap ∧ l.length ≤ cap ∧
    ∀ k (hk : k < l.length), ∃ b off, a = some ⟨b, off, none⟩ ∧ w.cell? ⟨b, off + k * 2, none⟩ = some (.string (bs l[k].1)) ∧ w.cell? ⟨b, off + k * 2 + 1, none⟩ = some (.string (bs l[k].2)) := by
  obtain ⟨⟨a, cap, rfl, hn, hc⟩, a', cap', hv, hle⟩ := h
  injection hv with _ _ h3
  subst h3
  refine ⟨a, cap, rfl, hle, fun k hk => ?_⟩
  obtain ⟨b, off, rfl, h1⟩ := hc _ _ (pcells_key l k hk)
  obtain ⟨b', off', hb, h2⟩ := hc _ _ (pcells_val l k hk)
  cases hb
  exact ⟨b, off, rfl, h1, h2⟩
theorem Reads.mk {w : World} {a : Option Addr} {n cap : Nat} {xs : List Value} (h1 : a = none → n = 0 ∧ cap = 0) (h2 : ∀ j u, xs[j]? = some u → ∃ b off, a = some ⟨b, off, none⟩ ∧ w.cell? ⟨b, off + j, none⟩ = some u) : Reads w (.slice a n cap) n xs := ⟨a, cap, rfl, h1, h2⟩
theorem none_cap {w : World} {a : Option Addr} {n cap : Nat} {xs : List Value} (h : Reads w (.slice a n cap) n xs) : a = none → n = 0 ∧ cap = 0 := by
  obtain ⟨a', cap', hv, hn, _⟩ := h
  injection hv with h1 _ h3
  subst h1 h3
  exact hn
/-- s[lo:hi], read -/
theorem RP.sub {w : World} {a : Option Addr} {cap : Nat} {l : List PR} (h : RP w (.slice a l.length cap) l) (lo hi : Nat) (h1 : lo ≤ hi) (h2 : hi ≤ l.length) :
    RP w (sliced a lo hi cap 2) ((l.drop lo).take (hi - lo)) := by
  have hlen : ((l.drop lo).take (hi - lo)).length = hi - lo := by simp; omega
  obtain ⟨hr, a', cap', hv, hle⟩ := h
  injection hv with _ _ h3
  subst h3
  have hn := none_cap hr
  obtain ⟨a', cap', hv, _, hc⟩ := hr
  injection hv with e1 _ e3
  subst e1 e3
  unfold sliced
  refine ⟨?_, _, _, by rw [hlen], by rw [hlen]; omega⟩
  rw [hlen]
  refine Reads.mk ?_ ?_
  · intro ha
    by_cases e : cap = lo
    · omega
    · rw [if_neg e] at ha
      have : a = none := by simpa using ha
      have := hn this
      omega
  · intro j u hj
    rw [← pcells_take, ← pcells_drop, List.getElem?_take] at hj
    split at hj
    · rename_i hlt
      rw [List.getElem?_drop] at hj
      obtain ⟨b, off, rfl, hu⟩ := hc _ _ hj
      rw [if_neg (by omega)]
      refine ⟨b, off + lo * 2, ?_, ?_⟩
      · rw [Option.map_some, Addr.add_lit]
      · rw [← hu, Nat.add_assoc]
    · simp at hj
theorem RP.cut {w : World} {a : Option Addr} {cap : Nat} {l : List PR} (h : RP w (.slice a l.length cap) l) (k : Nat) (hk : k ≤ l.length) : RP w (sliced a k l.length cap 2) (l.drop k) := by
  have := h.sub k l.length hk (Nat.le_refl _)
  rwa [List.take_of_length_le (by simp)] at this
theorem RP.head {w : World} {a : Option Addr} {cap : Nat} {l : List PR} (h : RP w (.slice a l.length cap) l) (k : Nat) (hk : k ≤ l.length) : RP w (sliced a 0 k cap 2) (l.take k) := by
  have := h.sub 0 k (by omega) hk
  simpa using this
end Go.Proofs.YtbcjfppdeapamaaDoor
namespace Go.Proofs.YtbcjfppdeapamaaDoor
open Go.RowKit Oct

/-- how a struct lies in memory -/
structure Rec (α : Type) where
  cell : α → List Value
  e : TypeId
  n : Nat
  bytes : Nat
  z : Value
  len : ∀ x, (cell x).length = n
  one : ∀ x, ∀ u ∈ cell x, u.oneCell' = true
  info : (Tryd.prog.info? e).map (fun i => (i.zero, i.size, i.bytes)) = some (some z, n, bytes)
  zs : z.cells.size = n
  pos : 0 < n
  bpos : 0 < bytes

section
variable {α : Type}
def Rec.cells (R : Rec α) : List α → List Value
  | [] => []
  | x :: l => R.cell x ++ R.cells l
theorem Rec.cells_length (R : Rec α) : ∀ l : List α, (R.cells l).length = l.length * R.n
  | [] => by simp [Rec.cells]
  | x :: l => by rw [Rec.cells, List.length_append, R.len, R.cells_length l, List.length_cons, Nat.add_mul]; omega
theorem Rec.cells_append (R : Rec α) : ∀ a b : List α, R.cells (a ++ b) = R.cells a ++ R.cells b
  | [], _ => rfl
  | x :: a, b => by rw [List.cons_append, Rec.cells, Rec.cells, R.cells_append a b, List.append_assoc]
theorem Rec.cells_one (R : Rec α) (l : List α) : ∀ u ∈ R.cells l, u.oneCell' = true := by
  induction l with
  | nil => intro u h; simp [Rec.cells] at h
  | cons x l ih =>
    intro u h
    rw [Rec.cells, List.mem_append] at h
    rcases h with h | h
    · exact R.one x u h
    · exact ih u h
theorem Rec.cells_at (R : Rec α) : ∀ (l : List α) (k : Nat) (h : k < l.length) (j : Nat) (u : Value), (R.cell l[k])[j]? = some u → (R.cells l)[k * R.n + j]? = some u
  | x :: l, 0, _, j, u, hu => by
    rw [List.getElem_cons_zero] at hu
    rw [Nat.zero_mul, Nat.zero_add, Rec.cells, List.getElem?_append_left (List.getElem?_eq_some_iff.1 hu).1]
    exact hu
  | x :: l, k + 1, h, j, u, hu => by
    have := R.cells_at l k (by simpa using h) j u hu
    rw [Rec.cells, List.getElem?_append_right (by rw [R.len, Nat.add_mul]; omega), R.len, show (k + 1) * R.n + j - R.n = k * R.n + j by rw [Nat.add_mul]; omega]
    exact this
theorem Rec.cells_drop (R : Rec α) : ∀ (l : List α) (k : Nat), (R.cells l).drop (k * R.n) = R.cells (l.drop k)
  | l, 0 => by simp
  | [], k + 1 => by simp [Rec.cells]
  | x :: l, k + 1 => by
    rw [List.drop_succ_cons, ← R.cells_drop l k, Rec.cells, show (k + 1) * R.n = (R.cell x).length + k * R.n by rw [R.len, Nat.add_mul]; omega, ← List.drop_drop, List.drop_left]
theorem Rec.cells_take (R : Rec α) : ∀ (l : List α) (k : Nat), (R.cells l).take (k * R.n) = R.cells (l.take k)
  | l, 0 => by simp [Rec.cells]
  | [], k + 1 => by simp [Rec.cells]
  | x :: l, k + 1 => by
    rw [List.take_succ_cons, Rec.cells, Rec.cells, ← R.cells_take l k, show (k + 1) * R.n = (R.cell x).length + k * R.n by rw [R.len, Nat.add_mul]; omega, List.take_length_add_append]

/-- the slice value v is a row -/
def Rec.Row (R : Rec α) (w : World) (v : Value) (l : List α) : Prop := Reads w v l.length (R.cells l) ∧ ∃ a cap, v = .slice a l.length cap ∧ l.length ≤ cap
/-- .. of the call's own -/
def Rec.Own (R : Rec α) (w : World) (base : Nat) (v : Value) (l : List α) : Prop := w.ownsRow base R.e R.n v l.length (R.cells l)
variable {R : Rec α} {w w' : World} {v : Value} {l : List α}
theorem Rec.Row.below (h : R.Row w v l) (hB : Below w.heap.size w w') : R.Row w' v l := ⟨Reads.below h.1 hB, h.2⟩
theorem Rec.Own.row {base : Nat} (h : R.Own w base v l) : R.Row w v l := by
  refine ⟨Reads.owned h, ?_⟩
  rcases h.2 with ⟨hv, h0⟩ | ⟨g, cap, cur, hv, _, _, hc, _⟩
  · exact ⟨none, 0, by rw [hv, h0], by omega⟩
  · exact ⟨_, _, hv, hc⟩
theorem Rec.Own.below {base : Nat} (h : R.Own w base v l) (hB : Below w.heap.size w w') : R.Own w' base v l := ownsRow_below h hB
theorem Rec.Own.mono {base base' : Nat} (h : R.Own w base v l) (hb : base' ≤ base) : R.Own w base' v l := owns_mono h hb
theorem Rec.Row.nil (w : World) : R.Row w (.slice none 0 0) [] := ⟨Reads.nil w, none, 0, rfl, Nat.le_refl _⟩
theorem Rec.Own.nil (w : World) (base : Nat) : R.Own w base (.slice none 0 0) [] := ⟨by simp [Rec.cells], .inl ⟨rfl, rfl⟩⟩
theorem Rec.Row.new (w : World) (l : List α) (e : TypeId) : R.Row (w.alloc (.cells (R.cells l).toArray e)) (.slice (some ⟨w.heap.size, 0, none⟩) l.length l.length) l := ⟨Reads.new w _ _ _ _, _, _, rfl, Nat.le_refl _⟩
/-- a row, opened -/
theorem Rec.Row.open (h : R.Row w v l) : ∃ a cap, v = .slice a l.length cap ∧ l.length ≤ cap ∧
    ∀ k (hk : k < l.length), ∃ b off, a = some ⟨b, off, none⟩ ∧ ∀ j u, (R.cell l[k])[j]? = some u → w.cell? ⟨b, off + k * R.n + j, none⟩ = some u := by
  obtain ⟨⟨a, cap, rfl, hn, hc⟩, a', cap', hv, hle⟩ := h
  injection hv with _ _ h3
  subst h3
  refine ⟨a, cap, rfl, hle, fun k hk => ?_⟩
  obtain ⟨u0, hu0⟩ : ∃ u, (R.cell l[k])[0]? = some u := ⟨_, List.getElem?_eq_getElem (l := R.cell l[k]) (i := 0) (by rw [R.len]; exact R.pos)⟩
  obtain ⟨b, off, rfl, h1⟩ := hc _ _ (R.cells_at l k hk 0 u0 hu0)
  refine ⟨b, off, rfl, fun j u hu => ?_⟩
  obtain ⟨b', off', hb, h2⟩ := hc _ _ (R.cells_at l k hk j u hu)
  cases hb
  rw [Nat.add_assoc]
  exact h2
/-- append(s, x...): s the call's own -/
theorem Rec.append {ops : Array Oper} {rest : List Oper} {o : Oper} {a : Act} {Q : Exit → Act → World → Prop} (R : Rec α) (w : World) (hgd : o.guard = none) (s x : Operand) (t : TypeId)
    (ho : o.op = .call { callee := .builtin .append, args := #[s, x], argTypes := #[t, t] }) (ht : Tryd.prog.underlying t = some (.slice R.e))
    (base : Nat) (v : Value) (xs : List α) (hown : R.Own w base v xs) (hs : a.eval s = v)
    (vx : Value) (ys : List α) (hr : R.Row w vx ys) (hx : a.eval x = vx) (hbytes : (xs.length + ys.length) * R.bytes ≤ 140737488355328) (hbase : base ≤ w.heap.size)
    (h : ∀ v' w', R.Own w' base v' (xs ++ ys) → Below base w w' → wpList Tryd.prog ops Q rest (a.put o.dst v') w') : wpList Tryd.prog ops Q (o :: rest) a w :=
  appendN w (R.cells ys) R.e hgd s x t ho base R.z R.n R.bytes ht R.info R.zs R.pos v xs.length (R.cells xs) hs hown vx ys.length hx hr.1 (R.cells_length ys) (R.cells_one ys) hbytes R.bpos hbase
    (fun v' w' h1 h2 => h v' w' (by unfold Rec.Own; rw [R.cells_append, List.length_append]; exact h1) h2)
theorem Rec.append1 {ops : Array Oper} {rest : List Oper} {o : Oper} {a : Act} {Q : Exit → Act → World → Prop} (R : Rec α) (w : World) (p : α) (hgd : o.guard = none) (s x : Operand) (t : TypeId)
    (ho : o.op = .call { callee := .builtin .append, args := #[s, x], argTypes := #[t, t] }) (ht : Tryd.prog.underlying t = some (.slice R.e))
    (base : Nat) (v : Value) (xs : List α) (hown : R.Own w base v xs) (hs : a.eval s = v) (c : Nat) (hx : a.eval x = .slice (some ⟨w.heap.size, 0, none⟩) 1 c)
    (cs : Array Value) (hcs : cs = (R.cell p).toArray) (e : TypeId) (he : e = R.e)
    (hbytes : (xs.length + 1) * R.bytes ≤ 140737488355328) (hbase : base ≤ w.heap.size)
    (h : ∀ g cap w', R.Own w' base (.slice (some ⟨g, 0, none⟩) (xs.length + 1) cap) (xs ++ [p]) → Below base w w' → wpList Tryd.prog ops Q rest (a.put o.dst (.slice (some ⟨g, 0, none⟩) (xs.length + 1) cap)) w') : wpList Tryd.prog ops Q (o :: rest) a (w.alloc (.cells cs e)) := by
  subst hcs he
  exact Go.Proofs.YtbcjfppdeapamaaDoor.append1 w (R.cell p) R.e hgd s x t ho base R.z R.n R.bytes ht R.info R.zs R.pos v xs.length (R.cells xs) hs hown c hx (R.len p) (R.one p) hbytes R.bpos hbase
    (fun v' w' h1 h2 => by
      obtain ⟨g, cap, rfl⟩ := ownsRow_succ h1
      exact h g cap w' (by unfold Rec.Own; rw [R.cells_append, List.length_append, Rec.cells, Rec.cells, List.append_nil]; exact h1) h2)
theorem Rec.step_append1 {ops : Array Oper} {o : Oper} {a : Act} {K : Act → World → Prop} {Q : Exit → Act → World → Prop} {E : Prop} (R : Rec α) (w : World) (p : α) (hgd : o.guard = none) (s x : Operand) (t : TypeId)
    (ho : o.op = .call { callee := .builtin .append, args := #[s, x], argTypes := #[t, t] }) (ht : Tryd.prog.underlying t = some (.slice R.e))
    (base : Nat) (v : Value) (xs : List α) (hown : R.Own w base v xs) (hs : a.eval s = v) (c : Nat) (hx : a.eval x = .slice (some ⟨w.heap.size, 0, none⟩) 1 c)
    (cs : Array Value) (hcs : cs = (R.cell p).toArray) (e : TypeId) (he : e = R.e)
    (hbytes : (xs.length + 1) * R.bytes ≤ 140737488355328) (hbase : base ≤ w.heap.size)
    (h : ∀ g cap w', R.Own w' base (.slice (some ⟨g, 0, none⟩) (xs.length + 1) cap) (xs ++ [p]) → Below base w w' → K (a.put o.dst (.slice (some ⟨g, 0, none⟩) (xs.length + 1) cap)) w') :
    if Region.wanted o (yielded ops a.tmps) = true then Oper.wp Tryd.prog o a (w.alloc (.cells cs e)) K Q else E := by
  subst hcs he
  exact Go.Proofs.YtbcjfppdeapamaaDoor.step_append1 w (R.cell p) R.e hgd s x t ho base R.z R.n R.bytes ht R.info R.zs R.pos v xs.length (R.cells xs) hs hown c hx (R.len p) (R.one p) hbytes R.bpos hbase
    (fun g cap w' h1 h2 => h g cap w' (by unfold Rec.Own; rw [R.cells_append, List.length_append, Rec.cells, Rec.cells, List.append_nil]; exact h1) h2)
/-- s[lo:hi], read -/
theorem Rec.Row.sub {a : Option Addr} {cap : Nat} (h : R.Row w (.slice a l.length cap) l) (lo hi : Nat) (h1 : lo ≤ hi) (h2 : hi ≤ l.length) :
    R.Row w (sliced a lo hi cap R.n) ((l.drop lo).take (hi - lo)) := by
  have hlen : ((l.drop lo).take (hi - lo)).length = hi - lo := by simp; omega
  obtain ⟨hr, a', cap', hv, hle⟩ := h
  injection hv with _ _ h3
  subst h3
  have hn := none_cap hr
  obtain ⟨a', cap', hv, _, hc⟩ := hr
  injection hv with e1 _ e3
  subst e1 e3
  unfold sliced
  refine ⟨?_, _, _, by rw [hlen], by rw [hlen]; omega⟩
  rw [hlen]
  refine Reads.mk ?_ ?_
  · intro ha
    by_cases e : cap = lo
    · omega
    · rw [if_neg e] at ha
      have : a = none := by simpa using ha
      have := hn this
      omega
  · intro j u hj
    rw [← Rec.cells_take, ← Rec.cells_drop, List.getElem?_take] at hj
    split at hj
    · rename_i hlt
      rw [List.getElem?_drop] at hj
      obtain ⟨b, off, rfl, hu⟩ := hc _ _ hj
      have hne : cap ≠ lo := by
        intro e
        have : hi - lo = 0 := by omega
        rw [this, Nat.zero_mul] at hlt
        omega
      rw [if_neg hne]
      refine ⟨b, off + lo * R.n, ?_, ?_⟩
      · rw [Option.map_some, Addr.add_lit]
      · rw [← hu, Nat.add_assoc]
    · simp at hj
theorem Rec.Row.cut {a : Option Addr} {cap : Nat} (h : R.Row w (.slice a l.length cap) l) (k : Nat) (hk : k ≤ l.length) : R.Row w (sliced a k l.length cap R.n) (l.drop k) := by
  have := h.sub k l.length hk (Nat.le_refl _)
  rwa [List.take_of_length_le (by simp)] at this
theorem Rec.Row.head {a : Option Addr} {cap : Nat} (h : R.Row w (.slice a l.length cap) l) (k : Nat) (hk : k ≤ l.length) : R.Row w (sliced a 0 k cap R.n) (l.take k) := by
  have := h.sub 0 k (by omega) hk
  simpa using this
/-- s[k:], run -/
theorem Rec.Row.cutRun {a : Option Addr} {cap : Nat} (h : R.Row w (.slice a l.length cap) l) (st : TypeId) (hst : Tryd.prog.underlying st = some (.slice (Tryd.prog.elem st))) (hsz : ∀ wx, (sizeOf (Tryd.prog.elem st)).run Tryd.prog wx = .ok R.n wx) (k : Nat) (c : Int) (hc : c = (k : Int)) (hk : k ≤ l.length) :
    ∃ A C, (∀ wx, (Instr.slice st (.slice a l.length cap) (some (.int .i64 c)) none none).run Tryd.prog wx = .ok (.slice A (l.length - k) C) wx) ∧ R.Row w (.slice A (l.length - k) C) (l.drop k) := by
  subst hc
  refine ⟨_, _, fun wx => ?_, h.cut k hk⟩
  rw [run_slice_l wx st a l.length cap hst .i64 k (by omega) (by omega), hsz]
  simp [Result.andThen, sliced]
/-- s[:k], run -/
theorem Rec.Row.headRun {a : Option Addr} {cap : Nat} (h : R.Row w (.slice a l.length cap) l) (st : TypeId) (hst : Tryd.prog.underlying st = some (.slice (Tryd.prog.elem st))) (hsz : ∀ wx, (sizeOf (Tryd.prog.elem st)).run Tryd.prog wx = .ok R.n wx) (k : Nat) (c : Int) (hc : c = (k : Int)) (hk : k ≤ l.length) :
    ∃ A C, (∀ wx, (Instr.slice st (.slice a l.length cap) none (some (.int .i64 c)) none).run Tryd.prog wx = .ok (.slice A k C) wx) ∧ R.Row w (.slice A k C) (l.take k) := by
  subst hc
  obtain ⟨_, a', cap', hv, hle⟩ := id h
  injection hv with _ _ h3
  subst h3
  refine ⟨if cap = 0 then a else a.map (·.add (0 * R.n)), cap - 0, fun wx => ?_, by have := Rec.Row.head h k hk; simpa [sliced] using this⟩
  rw [run_slice_h wx st a l.length cap hst .i64 k (by omega) (by omega), hsz]
  simp [Result.andThen, sliced]
/-- s[lo:hi], run -/
theorem Rec.Row.subRun {a : Option Addr} {cap : Nat} (h : R.Row w (.slice a l.length cap) l) (st : TypeId) (hst : Tryd.prog.underlying st = some (.slice (Tryd.prog.elem st))) (hsz : ∀ wx, (sizeOf (Tryd.prog.elem st)).run Tryd.prog wx = .ok R.n wx) (lo hi : Nat) (h1 : lo ≤ hi) (h2 : hi ≤ l.length) :
    ∃ A C, (∀ wx, (Instr.slice st (.slice a l.length cap) (some (.int .i64 (lo : Int))) (some (.int .i64 (hi : Int))) none).run Tryd.prog wx = .ok (.slice A (hi - lo) C) wx) ∧ R.Row w (.slice A (hi - lo) C) ((l.drop lo).take (hi - lo)) := by
  obtain ⟨_, a', cap', hv, hle⟩ := id h
  injection hv with _ _ h3
  subst h3
  refine ⟨_, _, fun wx => ?_, h.sub lo hi h1 h2⟩
  rw [run_slice_lh wx st a l.length cap hst .i64 .i64 lo hi (by omega) (by omega) (by omega), hsz]
  simp [Result.andThen, sliced]
end
end Go.Proofs.YtbcjfppdeapamaaDoor
namespace Go.Proofs.YtbcjfppdeapamaaDoor
open Go.RowKit Oct

def recS : Rec (List UInt8) where
  cell s := [.string (bs s)]
  e := 9
  n := 1
  bytes := 16
  z := .string ByteArray.empty
  len := fun _ => rfl
  one := by intro x u h; simp at h; subst h; rfl
  info := by kernel_rfl
  zs := rfl
  pos := by decide
  bpos := by decide
theorem recS_open {w : World} {v : Value} {l : List (List UInt8)} (h : recS.Row w v l) : ∃ a cap, v = .slice a l.length cap ∧ l.length ≤ cap ∧ ∀ k (hk : k < l.length), ∃ b off, a = some ⟨b, off, none⟩ ∧ w.cell? ⟨b, off + k, none⟩ = some (.string (bs l[k])) := by
  obtain ⟨a, cap, hv, hle, hc⟩ := h.open
  refine ⟨a, cap, hv, hle, fun k hk => ?_⟩
  obtain ⟨b, off, ha, hu⟩ := hc k hk
  have := hu 0 _ rfl
  rw [show recS.n = 1 from rfl, Nat.mul_one, Nat.add_zero] at this
  exact ⟨b, off, ha, this⟩
/-- is a text an identity? -/
def isId (s : List UInt8) : Bool := s.length == 32
def allIds (l : List (List UInt8)) : Bool := l.all isId
theorem allIds_false {l : List (List UInt8)} (k : Nat) (h : k < l.length) (hk : isId l[k] = false) : allIds l = false := by
  unfold allIds
  rw [List.all_eq_false]
  exact ⟨l[k], List.getElem_mem h, by rw [hk]; simp⟩
theorem allIds_true {l : List (List UInt8)} (h : ∀ k (hk : k < l.length), isId l[k] = true) : allIds l = true := by
  unfold allIds
  rw [List.all_eq_true]
  intro t ht
  obtain ⟨k, hk, rfl⟩ := List.getElem_of_mem ht
  exact h k hk
end Go.Proofs.YtbcjfppdeapamaaDoor
namespace Go.Proofs.YtbcjfppdeapamaaDoor
open Go.RowKit Oct

end Go.Proofs.YtbcjfppdeapamaaDoor
