/- Lemmas for VerifyBlocks, part 1: walks of the functions that it reaches, and the plain laws behind them. -/
import Derived.Test.YtahmacnmphjhgaaDoorRows
import Derived.WalkKit
import Derived.WalkSpells
import Derived.WalkLawsBesides
import Derived.Lib.Strings
import Derived.Lib.Hide
import Derived.Deep.QuietTactic
import Derived.BigQuiet
import Derived.Deep.AppendLies
import Derived.Laws.AppendOwnNone
import Derived.Deep.RegionLaw
import Derived.Lib.Builder
import Derived.Lib.AppendStr
import Derived.Test.YtahmacnmphjhgaaDoorShelf
set_option linter.unusedSimpArgs false
set_option linter.unusedVariables false
namespace Go.Proofs.YtahmacnmphjhgaaDoor

/-- an instruction: what is done, a number with it -/
abbrev VI := UInt8 × UInt8
/-- does an op have a number? -/
def hasArg (op : UInt8) : Bool := op == 1 || op == 2 || op == 3 || op == 17 || op == 18 || op == 22
def insOk (x : VI) : Bool := decide (1 ≤ x.1.toNat) && decide (x.1.toNat ≤ 23) && (x.2 == 0 || hasArg x.1)
/-- may a program be? -/
def mayV (texts : List (List UInt8)) (code : List VI) : Bool := decide (texts.length ≤ 16) && decide (code.length ≤ 256) && texts.all (fun s => decide (s.length ≤ 64)) && code.all insOk
/-- what each op takes and gives -/
def effs : List (List UInt8 × List UInt8) :=
  [([], []), ([], [84]), ([], [78]), ([], [84]), ([84, 84], [84]), ([84], [78]), ([84, 78, 78], [84]), ([84], [78]), ([78], [84]), ([78, 78], [78]), ([78, 78], [78]), ([78, 78], [78]), ([84, 84], [78]), ([78], [78]),
   ([63], []), ([63], [49, 49]), ([63, 63], [50, 49]), ([], [82]), ([82], []), ([78], []), ([], []), ([], []), ([84], []), ([84, 84], [])]
def regV (arg : UInt8) : List UInt8 := if 4 ≤ arg.toNat then [84] else [78]
def replV (s r : List UInt8) : List UInt8 := if s = [82] then r else s
def effV (x : VI) : List UInt8 × List UInt8 := (replV (effs.getD x.1.toNat ([], [])).1 (regV x.2), replV (effs.getD x.1.toNat ([], [])).2 (regV x.2))
/-- an open block -/
structure Vb where
  op : UInt8
  want : List UInt8
  opn : List UInt8
  at_ : Nat
  did : Bool
deriving DecidableEq
/-- where a program's check stands -/
structure Vs where
  kinds : List UInt8
  blocks : List Vb
  seen : List (List UInt8)
  ends : List Int
  deep : Nat
deriving DecidableEq
/-- may an OpElse not stand here? -/
def elseBad : Option Vb → Bool
  | none => true
  | some b => b.op != 19 || b.did
def thereV (nt inp : Nat) (role : UInt8) (blocks : List Vb) (x : VI) : Nat :=
  if (x.1 = 1 ∧ nt ≤ x.2.toNat) ∨ (x.1 = 3 ∧ inp ≤ x.2.toNat) ∨ ((x.1 = 17 ∨ x.1 = 18) ∧ 8 ≤ x.2.toNat) then 3
  else if x.1 = 23 ∧ role ≠ 1 then 133
  else if x.1 = 20 ∧ elseBad blocks.getLast? = true then 132
  else if x.1 = 21 ∧ blocks = [] then 132
  else if (x.1 = 19 ∨ x.1 = 22) ∧ 8 ≤ blocks.length then 132 else 0
/-- do the kinds fit? -/
def fitV : List UInt8 → List UInt8 → Bool
  | [], _ => true
  | _ :: _, [] => false
  | a :: t, b :: u => (a == 63 || a == b) && fitV t u
def givesV (top : List UInt8) (g : List UInt8) : List UInt8 := g.flatMap fun c => if c = 49 then top.take 1 else if c = 50 then (top.drop 1).take 1 else [c]
def valuesV (kinds : List UInt8) (x : VI) : Nat × List UInt8 :=
  if kinds.length < (effV x).1.length then (130, kinds)
  else if fitV (effV x).1 (kinds.drop (kinds.length - (effV x).1.length)) = false then (131, kinds)
  else if (x.1 = 22 ∧ 16 ≤ (kinds.take (kinds.length - (effV x).1.length) ++ givesV (kinds.drop (kinds.length - (effV x).1.length)) (effV x).2).length) ∨ 16 < (kinds.take (kinds.length - (effV x).1.length) ++ givesV (kinds.drop (kinds.length - (effV x).1.length)) (effV x).2).length then (130, kinds)
  else (0, kinds.take (kinds.length - (effV x).1.length) ++ givesV (kinds.drop (kinds.length - (effV x).1.length)) (effV x).2)
def turnsV (i : Nat) (x : VI) (s : Vs) : Nat × Vs :=
  if x.1 = 19 then (0, { s with blocks := s.blocks ++ [⟨19, s.kinds, s.kinds, i, false⟩] })
  else if x.1 = 22 then (0, { s with blocks := s.blocks ++ [⟨22, s.kinds, s.kinds, i, false⟩], kinds := s.kinds ++ [84] })
  else if x.1 = 20 then
    match s.blocks.getLast? with
    | none => (0, s)
    | some b => (0, { s with ends := s.ends.set b.at_ (i : Int), blocks := s.blocks.dropLast ++ [{ b with want := s.kinds, at_ := i, did := true }], kinds := b.opn })
  else if x.1 = 21 then
    match s.blocks.getLast? with
    | none => (0, s)
    | some b => if s.kinds = b.want then (0, { s with ends := s.ends.set b.at_ (i : Int), blocks := s.blocks.dropLast }) else (132, s)
  else (0, s)
def oneV (nt inp : Nat) (role : UInt8) (i : Nat) (x : VI) (s : Vs) : Nat × Vs :=
  if thereV nt inp role s.blocks x ≠ 0 then (thereV nt inp role s.blocks x, { s with seen := s.seen ++ [s.kinds] })
  else if (valuesV s.kinds x).1 ≠ 0 then ((valuesV s.kinds x).1, { s with seen := s.seen ++ [s.kinds] })
  else
    let r := turnsV i x { s with seen := s.seen ++ [s.kinds], kinds := (valuesV s.kinds x).2 }
    (r.1, { r.2 with deep := max s.deep r.2.kinds.length })
def wantV (role : UInt8) : List UInt8 := if role = 1 then [] else [84]
def overV (role : UInt8) (s : Vs) : Nat := if 0 < s.blocks.length then 132 else if s.kinds.length ≠ (wantV role).length then 130 else if s.kinds ≠ wantV role then 131 else 0
/-- the rest of a program, from instruction i on: where it is wrong, what is wrong, what was seen -/
def runV (nt inp : Nat) (role : UInt8) : Nat → List VI → Vs → Nat × Nat × Vs
  | i, [], s => (i, overV role s, s)
  | i, x :: r, s => if (oneV nt inp role i x s).1 = 0 then runV nt inp role (i + 1) r (oneV nt inp role i x s).2 else (i, (oneV nt inp role i x s).1, (oneV nt inp role i x s).2)
def startV (n : Nat) : Vs := ⟨[], [], [], List.replicate n 0, 0⟩
def inputsV (role : UInt8) : Nat := if role = 1 then 1 else 2
def roleOk (role : UInt8) : Bool := decide (1 ≤ role.toNat) && decide (role.toNat ≤ 3)
def throughV (texts : List (List UInt8)) (code : List VI) (role : UInt8) : Nat × Nat × Vs :=
  if (mayV texts code && roleOk role) = true then
    if (runV texts.length (inputsV role) role 0 code (startV code.length)).2.1 = 0 then (0, 0, (runV texts.length (inputsV role) role 0 code (startV code.length)).2.2)
    else runV texts.length (inputsV role) role 0 code (startV code.length)
  else (0, 2, startV code.length)
end Go.Proofs.YtahmacnmphjhgaaDoor
namespace Go.Proofs.YtahmacnmphjhgaaDoor

theorem runV_nil (nt inp : Nat) (role : UInt8) (i : Nat) (s : Vs) : runV nt inp role i [] s = (i, overV role s, s) := rfl
theorem runV_ok {nt inp : Nat} {role : UInt8} {i : Nat} {x : VI} {r : List VI} {s : Vs} (h : (oneV nt inp role i x s).1 = 0) : runV nt inp role i (x :: r) s = runV nt inp role (i + 1) r (oneV nt inp role i x s).2 := by rw [runV, if_pos h]
theorem runV_bad {nt inp : Nat} {role : UInt8} {i : Nat} {x : VI} {r : List VI} {s : Vs} (h : (oneV nt inp role i x s).1 ≠ 0) : runV nt inp role i (x :: r) s = (i, (oneV nt inp role i x s).1, (oneV nt inp role i x s).2) := by rw [runV, if_neg h]
theorem effs_len : effs.length = 24 := by decide
/-- what a kind row is at most -/
theorem eff_small : ∀ n, n < 24 → (effs.getD n ([], [])).1.length ≤ 3 ∧ (effs.getD n ([], [])).2.length ≤ 2 := by decide

/-- another number, where the number is no name -/
def moreV (k : UInt8) (x : VI) : VI := if x.1 = 2 ∨ x.1 = 22 then (x.1, x.2 + k) else x
theorem moreV_fst (k : UInt8) (x : VI) : (moreV k x).1 = x.1 := by unfold moreV; split <;> rfl
theorem effV_more (k : UInt8) (x : VI) : effV (moreV k x) = effV x := by
  unfold moreV
  split
  · rename_i h
    obtain ⟨o, a⟩ := x
    rcases h with h | h <;> (simp only at h; subst h; rfl)
  · rfl
theorem thereV_more (nt inp : Nat) (role : UInt8) (bl : List Vb) (k : UInt8) (x : VI) : thereV nt inp role bl (moreV k x) = thereV nt inp role bl x := by
  unfold moreV
  split
  · rename_i h
    obtain ⟨o, a⟩ := x
    rcases h with h | h <;> (simp only at h; subst h; rfl)
  · rfl
theorem oneV_more (nt inp : Nat) (role : UInt8) (i : Nat) (k : UInt8) (x : VI) (s : Vs) : oneV nt inp role i (moreV k x) s = oneV nt inp role i x s := by
  have h1 : valuesV s.kinds (moreV k x) = valuesV s.kinds x := by unfold valuesV; rw [effV_more, moreV_fst]
  have h2 : ∀ s, turnsV i (moreV k x) s = turnsV i x s := fun s => by unfold turnsV; rw [moreV_fst]
  unfold oneV
  rw [thereV_more, h1, h2]
theorem runV_more (nt inp : Nat) (role : UInt8) (k : UInt8) : ∀ (code : List VI) (i : Nat) (s : Vs), runV nt inp role i (code.map (moreV k)) s = runV nt inp role i code s
  | [], _, _ => rfl
  | x :: r, i, s => by
    rw [List.map_cons, runV, runV, oneV_more]
    split
    · exact runV_more nt inp role k r (i + 1) _
    · rfl
theorem insOk_more (k : UInt8) (x : VI) : insOk (moreV k x) = insOk x := by
  unfold moreV
  split
  · rename_i h
    obtain ⟨o, a⟩ := x
    rcases h with h | h <;> (simp only at h; subst h; simp [insOk, hasArg])
  · rfl
theorem throughV_others {texts texts' : List (List UInt8)} (code : List VI) (k role : UInt8) (hl : texts'.length = texts.length) (h1 : ∀ s ∈ texts, s.length ≤ 64) (h2 : ∀ s ∈ texts', s.length ≤ 64) : throughV texts' (code.map (moreV k)) role = throughV texts code role := by
  have e1 : texts.all (fun s => decide (s.length ≤ 64)) = true := List.all_eq_true.2 fun s hs => decide_eq_true (h1 s hs)
  have e2 : texts'.all (fun s => decide (s.length ≤ 64)) = true := List.all_eq_true.2 fun s hs => decide_eq_true (h2 s hs)
  have e3 : (code.map (moreV k)).all insOk = code.all insOk := by
    rw [List.all_map]; congr 1; funext x; exact insOk_more k x
  have e4 : mayV texts' (code.map (moreV k)) = mayV texts code := by unfold mayV; rw [hl, List.length_map, e1, e2, e3]
  unfold throughV
  rw [e4, List.length_map, runV_more, hl]

/-- from a state that a run reached -/
theorem runV_app {nt inp : Nat} {role : UInt8} : ∀ (a b : List VI) (i : Nat) (s t : Vs) (n : Nat), runV nt inp role i a s = (n, 0, t) → overV role t = 0 → ∃ t', runV nt inp role i (a ++ b) s = runV nt inp role (i + a.length) b t' ∧ t'.kinds = t.kinds ∧ t'.blocks = t.blocks
  | [], b, i, s, t, n, h, _ => by
    rw [runV_nil] at h
    simp only [Prod.mk.injEq] at h
    exact ⟨s, by simp, by rw [h.2.2], by rw [h.2.2]⟩
  | x :: a, b, i, s, t, n, h, ho => by
    by_cases h0 : (oneV nt inp role i x s).1 = 0
    · rw [runV_ok h0] at h
      obtain ⟨t', h1, h2, h3⟩ := runV_app a b (i + 1) _ t n h ho
      exact ⟨t', by rw [List.cons_append, runV_ok h0, h1, List.length_cons]; congr 1; omega, h2, h3⟩
    · rw [runV_bad h0] at h
      simp only [Prod.mk.injEq] at h
      exact absurd h.2.1 h0
end Go.Proofs.YtahmacnmphjhgaaDoor
namespace Go.Proofs.YtahmacnmphjhgaaDoor

/-- what counts of a block -/
def Vb.core (b : Vb) : UInt8 × List UInt8 × List UInt8 × Bool := (b.op, b.want, b.opn, b.did)
theorem last_core {bl bl' : List Vb} (h : bl.map Vb.core = bl'.map Vb.core) : bl.getLast?.map Vb.core = bl'.getLast?.map Vb.core := by
  rw [← List.getLast?_map, ← List.getLast?_map, h]
theorem thereV_core {nt inp : Nat} {role : UInt8} {bl bl' : List Vb} (x : VI) (h : bl.map Vb.core = bl'.map Vb.core) : thereV nt inp role bl x = thereV nt inp role bl' x := by
  have hl : bl.length = bl'.length := by have := congrArg List.length h; simpa using this
  have hn : (bl = []) = (bl' = []) := by
    rw [← List.length_eq_zero_iff, ← List.length_eq_zero_iff, hl]
  have hg : elseBad bl.getLast? = elseBad bl'.getLast? := by
    have hc := last_core h
    cases h1 : bl.getLast? with
    | none => cases h2 : bl'.getLast? with
      | none => rfl
      | some b' => rw [h1, h2] at hc; cases hc
    | some b => cases h2 : bl'.getLast? with
      | none => rw [h1, h2] at hc; cases hc
      | some b' =>
        rw [h1, h2] at hc
        simp only [Option.map_some, Option.some.injEq, Vb.core, Prod.mk.injEq] at hc
        simp only [elseBad, hc.1, hc.2.2.2]
  unfold thereV
  simp only [hl, hn, hg]
/-- two states that go on alike -/
def Alike (s s' : Vs) : Prop := s.kinds = s'.kinds ∧ s.blocks.map Vb.core = s'.blocks.map Vb.core
theorem turnsV_alike {i i' : Nat} {x x' : VI} {s s' : Vs} (hx : x'.1 = x.1) (h : Alike s s') : (turnsV i x s).1 = (turnsV i' x' s').1 ∧ Alike (turnsV i x s).2 (turnsV i' x' s').2 := by
  obtain ⟨h1, h2⟩ := h
  unfold turnsV
  rw [hx]
  split
  · exact ⟨rfl, h1, by simp [h2, h1, Vb.core]⟩
  · split
    · exact ⟨rfl, by simp [h1], by simp [h2, h1, Vb.core]⟩
    · have hc := last_core h2
      have hd : s.blocks.dropLast.map Vb.core = s'.blocks.dropLast.map Vb.core := by rw [List.map_dropLast, List.map_dropLast, h2]
      split
      · cases e1 : s.blocks.getLast? with
        | none => cases e2 : s'.blocks.getLast? with
          | none => exact ⟨rfl, h1, h2⟩
          | some b' => rw [e1, e2] at hc; cases hc
        | some b => cases e2 : s'.blocks.getLast? with
          | none => rw [e1, e2] at hc; cases hc
          | some b' =>
            rw [e1, e2] at hc
            simp only [Option.map_some, Option.some.injEq, Vb.core, Prod.mk.injEq] at hc
            exact ⟨rfl, hc.2.2.1, by simp only [List.map_append, hd, List.map_cons, List.map_nil, Vb.core, hc.1, hc.2.2.1, h1]⟩
      · split
        · cases e1 : s.blocks.getLast? with
          | none => cases e2 : s'.blocks.getLast? with
            | none => exact ⟨rfl, h1, h2⟩
            | some b' => rw [e1, e2] at hc; cases hc
          | some b => cases e2 : s'.blocks.getLast? with
            | none => rw [e1, e2] at hc; cases hc
            | some b' =>
              rw [e1, e2] at hc
              simp only [Option.map_some, Option.some.injEq, Vb.core, Prod.mk.injEq] at hc
              simp only [h1, hc.2.1]
              split
              · exact ⟨rfl, rfl, hd⟩
              · exact ⟨rfl, h1, h2⟩
        · exact ⟨rfl, h1, h2⟩
theorem oneV_alike {nt nt' inp : Nat} {role : UInt8} {i i' : Nat} {x x' : VI} {s s' : Vs} (hx : x'.1 = x.1) (he : effV x' = effV x) (ht : thereV nt' inp role s'.blocks x' = thereV nt inp role s.blocks x) (h : Alike s s') :
    (oneV nt inp role i x s).1 = (oneV nt' inp role i' x' s').1 ∧ Alike (oneV nt inp role i x s).2 (oneV nt' inp role i' x' s').2 := by
  have hv : valuesV s'.kinds x' = valuesV s.kinds x := by unfold valuesV; rw [he, hx, h.1]
  unfold oneV
  rw [ht, hv]
  split
  · exact ⟨rfl, h⟩
  · split
    · exact ⟨rfl, h⟩
    · have := turnsV_alike (i := i) (i' := i') hx (s := { s with seen := s.seen ++ [s.kinds], kinds := (valuesV s.kinds x).2 }) (s' := { s' with seen := s'.seen ++ [s'.kinds], kinds := (valuesV s.kinds x).2 }) ⟨rfl, h.2⟩
      exact ⟨this.1, this.2.1, this.2.2⟩
theorem overV_alike {role : UInt8} {s s' : Vs} (h : Alike s s') : overV role s = overV role s' := by
  have hl : s.blocks.length = s'.blocks.length := by have := congrArg List.length h.2; simpa using this
  unfold overV
  rw [hl, h.1]
/-- texts of another program ahead -/
def shiftV (k : Nat) (x : VI) : VI := if x.1 = 1 then (x.1, x.2 + UInt8.ofNat k) else x
theorem shiftV_fst (k : Nat) (x : VI) : (shiftV k x).1 = x.1 := by unfold shiftV; split <;> rfl
theorem shiftV_eff (k : Nat) (x : VI) : effV (shiftV k x) = effV x := by
  unfold shiftV
  split
  · rename_i h
    obtain ⟨o, a⟩ := x
    simp only at h; subst h; rfl
  · rfl
theorem thereV_ok {nt nt' inp : Nat} {role : UInt8} {bl : List Vb} {x : VI} (hn : nt ≤ nt') (h : thereV nt inp role bl x = 0) : thereV nt' inp role bl x = 0 := by
  unfold thereV at h ⊢
  split at h
  · cases h
  · rename_i h0
    rw [if_neg (fun h1 => h0 ?_)]
    · exact h
    · rcases h1 with h1 | h1 | h1
      · exact .inl ⟨h1.1, by omega⟩
      · exact .inr (.inl h1)
      · exact .inr (.inr h1)
theorem thereV_shift {nt k inp : Nat} {role : UInt8} {bl : List Vb} {x : VI} (hk : nt + k ≤ 16) (h : thereV nt inp role bl x = 0) : thereV (k + nt) inp role bl (shiftV k x) = 0 := by
  unfold shiftV
  split
  · rename_i hx
    obtain ⟨o, a⟩ := x
    simp only at hx
    subst hx
    unfold thereV at h ⊢
    split at h
    · cases h
    · rename_i h0
      have ha : ¬ nt ≤ a.toNat := fun h1 => h0 (.inl ⟨rfl, h1⟩)
      have hs : (a + UInt8.ofNat k).toNat = a.toNat + k := by
        have h1 : (UInt8.ofNat k).toNat = k % 256 := rfl
        rw [UInt8.toNat_add, h1]
        omega
      rw [if_neg]
      · exact h
      · rintro (h1 | h1 | h1)
        · have h2 : k + nt ≤ (a + UInt8.ofNat k).toNat := h1.2
          omega
        · exact absurd (show (1 : UInt8) = 3 from h1.1) (by decide)
        · rcases h1.1 with h2 | h2
          · exact absurd (show (1 : UInt8) = 17 from h2) (by decide)
          · exact absurd (show (1 : UInt8) = 18 from h2) (by decide)
  · exact thereV_ok (by omega) h
theorem oneV_there {nt inp : Nat} {role : UInt8} {i : Nat} {x : VI} {s : Vs} (h : (oneV nt inp role i x s).1 = 0) : thereV nt inp role s.blocks x = 0 := by
  unfold oneV at h
  split at h
  · rename_i h0; exact absurd h h0
  · rename_i h0; simpa using h0
theorem runV_mono {nt nt' inp : Nat} {role : UInt8} (hn : nt ≤ nt') : ∀ (a : List VI) (i n : Nat) (s t : Vs), runV nt inp role i a s = (n, 0, t) → runV nt' inp role i a s = (n, 0, t)
  | [], i, n, s, t, h => h
  | x :: a, i, n, s, t, h => by
    by_cases h0 : (oneV nt inp role i x s).1 = 0
    · rw [runV_ok h0] at h
      have e : oneV nt' inp role i x s = oneV nt inp role i x s := by
        have h1 := oneV_there h0
        have h2 := thereV_ok hn h1
        unfold oneV
        rw [h1, h2]
      rw [runV_ok (by rw [e]; exact h0), e]
      exact runV_mono hn a (i + 1) n _ t h
    · rw [runV_bad h0] at h
      simp only [Prod.mk.injEq] at h
      exact absurd h.2.1 h0
theorem runV_shift {nt k inp : Nat} {role : UInt8} (hk : nt + k ≤ 16) : ∀ (a : List VI) (i j n : Nat) (s s' t : Vs), Alike s s' → runV nt inp role i a s = (n, 0, t) → ∃ m t', runV (k + nt) inp role j (a.map (shiftV k)) s' = (m, 0, t')
  | [], i, j, n, s, s', t, hs, h => by
    rw [runV_nil] at h
    simp only [Prod.mk.injEq] at h
    exact ⟨j, s', by rw [List.map_nil, runV_nil, ← overV_alike hs, h.2.1]⟩
  | x :: a, i, j, n, s, s', t, hs, h => by
    by_cases h0 : (oneV nt inp role i x s).1 = 0
    · rw [runV_ok h0] at h
      have h1 := oneV_there h0
      have h2 := thereV_shift hk h1
      rw [thereV_core (x := shiftV k x) hs.2] at h2
      have h3 := oneV_alike (i := i) (i' := j) (nt := nt) (nt' := k + nt) (shiftV_fst k x) (shiftV_eff k x) (by rw [h1, h2]) hs
      obtain ⟨m, t', h4⟩ := runV_shift hk a (i + 1) (j + 1) n _ _ t h3.2 h
      exact ⟨m, t', by rw [List.map_cons, runV_ok (by rw [← h3.1]; exact h0)]; exact h4⟩
    · rw [runV_bad h0] at h
      simp only [Prod.mk.injEq] at h
      exact absurd h.2.1 h0
theorem throughV_ok {texts : List (List UInt8)} {code : List VI} {role : UInt8} (h : (throughV texts code role).2.1 = 0) : mayV texts code = true ∧ roleOk role = true ∧ ∃ n, runV texts.length (inputsV role) role 0 code (startV code.length) = (n, 0, (throughV texts code role).2.2) := by
  unfold throughV at h ⊢
  split at h
  · rename_i hm
    rw [Bool.and_eq_true] at hm
    refine ⟨hm.1, hm.2, ?_⟩
    rw [if_pos (by rw [hm.1, hm.2]; rfl)]
    split at h
    · rename_i h0
      rw [if_pos h0]
      exact ⟨_, Prod.ext rfl (Prod.ext h0 rfl)⟩
    · rename_i h0
      exact absurd h h0
  · cases h
theorem over_map {s : Vs} (h : overV 1 s = 0) : s.kinds = [] ∧ s.blocks = [] := by
  unfold overV at h
  by_cases hb : 0 < s.blocks.length
  · rw [if_pos hb] at h; cases h
  · rw [if_neg hb] at h
    by_cases hk : s.kinds.length = (wantV 1).length
    · exact ⟨List.eq_nil_of_length_eq_zero hk, List.eq_nil_of_length_eq_zero (by omega)⟩
    · rw [if_pos hk] at h; cases h
/-- of two programs that are let be the program, one behind the other, is let be -/
theorem throughV_both {tp tq : List (List UInt8)} {cp cq : List VI} (ht : tp.length + tq.length ≤ 16) (hc : cp.length + cq.length ≤ 256) (hp : (throughV tp cp 1).2.1 = 0) (hq : (throughV tq cq 1).2.1 = 0) :
    (throughV (tp ++ tq) (cp ++ cq.map (shiftV tp.length)) 1).1 = 0 ∧ (throughV (tp ++ tq) (cp ++ cq.map (shiftV tp.length)) 1).2.1 = 0 := by
  obtain ⟨m1, r1, n1, h1⟩ := throughV_ok hp
  obtain ⟨m2, r2, n2, h2⟩ := throughV_ok hq
  have key : ∃ n t, runV (tp ++ tq).length (inputsV 1) 1 0 (cp ++ cq.map (shiftV tp.length)) (startV (cp ++ cq.map (shiftV tp.length)).length) = (n, 0, t) := by
    have run0 : ∀ (e : List Int) (a : List VI) (i n : Nat) (nt inp : Nat) (role : UInt8) (s t : Vs), runV nt inp role i a s = (n, 0, t) → ∀ s', Alike s s' → ∃ m t', runV nt inp role i a s' = (m, 0, t') ∧ Alike t t' := by
      intro e a
      induction a with
      | nil =>
        intro i n nt inp role s t h s' hs
        rw [runV_nil] at h ⊢
        simp only [Prod.mk.injEq] at h
        exact ⟨i, s', by rw [← overV_alike hs, h.2.1], by rw [← h.2.2]; exact hs⟩
      | cons x a ih =>
        intro i n nt inp role s t h s' hs
        by_cases h0 : (oneV nt inp role i x s).1 = 0
        · rw [runV_ok h0] at h
          have h3 := oneV_alike (i := i) (i' := i) (nt := nt) (nt' := nt) (inp := inp) (role := role) (x := x) rfl rfl (thereV_core x hs.2).symm hs
          obtain ⟨m, t', h4, h5⟩ := ih (i + 1) n nt inp role _ t h _ h3.2
          exact ⟨m, t', by rw [runV_ok (by rw [← h3.1]; exact h0)]; exact h4, h5⟩
        · rw [runV_bad h0] at h
          simp only [Prod.mk.injEq] at h
          exact absurd h.2.1 h0
    obtain ⟨m3, t3, h3, hs3⟩ := run0 [] cp 0 n1 _ _ _ _ _ h1 (startV (cp ++ cq.map (shiftV tp.length)).length) ⟨rfl, rfl⟩
    have h4 := runV_mono (nt' := (tp ++ tq).length) (by simp) cp 0 m3 _ _ h3
    have ho : overV 1 t3 = 0 := by
      have : ∀ (a : List VI) (i n nt inp : Nat) (s t : Vs), runV nt inp 1 i a s = (n, 0, t) → overV 1 t = 0 := by
        intro a
        induction a with
        | nil => intro i n nt inp s t h; rw [runV_nil] at h; simp only [Prod.mk.injEq] at h; rw [← h.2.2]; exact h.2.1
        | cons x a ih =>
          intro i n nt inp s t h
          by_cases h0 : (oneV nt inp 1 i x s).1 = 0
          · rw [runV_ok h0] at h; exact ih _ _ _ _ _ _ h
          · rw [runV_bad h0] at h; simp only [Prod.mk.injEq] at h; exact absurd h.2.1 h0
      exact this _ _ _ _ _ _ _ h4
    obtain ⟨t4, h5, hk, hb⟩ := runV_app cp (cq.map (shiftV tp.length)) 0 _ _ _ h4 ho
    have hal : Alike (startV cq.length) t4 := by
      obtain ⟨hk1, hb1⟩ := over_map ho
      exact ⟨by rw [hk, hk1]; rfl, by rw [hb, hb1]; rfl⟩
    obtain ⟨m6, t6, h6⟩ := runV_shift (k := tp.length) (by omega) cq 0 (0 + cp.length) n2 _ t4 _ hal h2
    rw [h5, List.length_append]
    exact ⟨m6, t6, h6⟩
  obtain ⟨n, t, h⟩ := key
  have hm : mayV (tp ++ tq) (cp ++ cq.map (shiftV tp.length)) = true := by
    unfold mayV at m1 m2 ⊢
    simp only [Bool.and_eq_true, decide_eq_true_eq] at m1 m2 ⊢
    have e : (cq.map (shiftV tp.length)).all insOk = true := by
      rw [List.all_map, List.all_eq_true]
      intro x hx
      have := List.all_eq_true.1 m2.2 x hx
      show insOk (shiftV _ x) = true
      unfold shiftV
      split
      · rename_i h
        obtain ⟨o, a⟩ := x
        simp only at h
        subst h
        simp [insOk, hasArg]
      · exact this
    refine ⟨⟨⟨by simp; omega, by simp; omega⟩, ?_⟩, ?_⟩
    · rw [List.all_append, m1.1.2, m2.1.2]; rfl
    · rw [List.all_append, m1.2, e]; rfl
  unfold throughV
  rw [if_pos (by rw [hm]; rfl), h]
  exact ⟨rfl, rfl⟩
end Go.Proofs.YtahmacnmphjhgaaDoor
namespace Go.Proofs.YtahmacnmphjhgaaDoor

/-- does an instruction open a block, or turn it? -/
def opensV (op : UInt8) : Bool := op == 19 || op == 22 || op == 20
/-- the state ahead of instruction i -/
def stV (nt inp : Nat) (role : UInt8) (code : List VI) : Nat → Vs
  | 0 => startV code.length
  | i + 1 => (oneV nt inp role i (code.getD i (0, 0)) (stV nt inp role code i)).2
theorem runV_st {nt inp : Nat} {role : UInt8} {code : List VI} {n : Nat} {t : Vs} : ∀ (r : List VI) (i : Nat), r = code.drop i → i ≤ code.length → runV nt inp role i r (stV nt inp role code i) = (n, 0, t) →
    (∀ j, i ≤ j → j < code.length → (oneV nt inp role j (code.getD j (0, 0)) (stV nt inp role code j)).1 = 0) ∧ stV nt inp role code code.length = t ∧ overV role t = 0
  | [], i, hr, hi, h => by
    have hl : i = code.length := by
      have := congrArg List.length hr
      simp at this; omega
    subst hl
    rw [runV_nil] at h
    injection h with _ h
    injection h with h1 h2
    exact ⟨fun j h1 h2 => by omega, h2, by rw [← h2]; exact h1⟩
  | x :: r, i, hr, hi, h => by
    have hlt : i < code.length := by
      rcases Nat.lt_or_ge i code.length with h' | h'
      · exact h'
      · rw [List.drop_of_length_le h'] at hr; cases hr
    rw [List.drop_eq_getElem_cons hlt] at hr
    injection hr with hx hr
    have hx' : code.getD i (0, 0) = x := by rw [List.getD, List.getElem?_eq_getElem hlt, hx]; rfl
    by_cases h0 : (oneV nt inp role i x (stV nt inp role code i)).1 = 0
    · rw [runV_ok h0] at h
      have hst : stV nt inp role code (i + 1) = (oneV nt inp role i x (stV nt inp role code i)).2 := by rw [stV, hx']
      rw [← hst] at h
      obtain ⟨g1, g2⟩ := runV_st r (i + 1) hr hlt h
      refine ⟨fun j h1 h2 => ?_, g2⟩
      by_cases e : j = i
      · subst e; rw [hx']; exact h0
      · exact g1 j (by omega) h2
    · rw [runV_bad h0] at h
      injection h with _ h
      injection h with h1 h2
      exact absurd h1 h0
theorem effV_none (x : VI) (h : x.1 = 20 ∨ x.1 = 21) : effV x = ([], []) := by
  obtain ⟨p, a⟩ := x
  rcases h with h | h
  · obtain rfl : p = 20 := h
    rfl
  · obtain rfl : p = 21 := h
    rfl
theorem effV_one (x : VI) (h : x.1 = 19 ∨ x.1 = 22) : (effV x).1.length = 1 ∧ (effV x).2 = [] := by
  obtain ⟨p, a⟩ := x
  rcases h with h | h
  · obtain rfl : p = 19 := h
    exact ⟨rfl, rfl⟩
  · obtain rfl : p = 22 := h
    exact ⟨rfl, rfl⟩
theorem valuesV_none {k : List UInt8} {x : VI} (h : x.1 = 20 ∨ x.1 = 21) : (valuesV k x).2 = k := by
  have he := effV_none x h
  unfold valuesV
  rw [he]
  split
  · rfl
  split
  · rfl
  split
  · rfl
  simp [givesV]
theorem valuesV_one {k : List UInt8} {x : VI} (h : x.1 = 19 ∨ x.1 = 22) (h0 : (valuesV k x).1 = 0) : (valuesV k x).2 = k.take (k.length - min 1 k.length) := by
  obtain ⟨h1, h2⟩ := effV_one x h
  unfold valuesV at h0 ⊢
  rw [h1, h2] at h0 ⊢
  split at h0
  · cases h0
  rename_i hl
  rw [if_neg hl]
  split at h0
  · cases h0
  rename_i hf
  rw [if_neg hf]
  split at h0
  · cases h0
  rename_i hm
  rw [if_neg hm]
  show k.take (k.length - 1) ++ [] = _
  rw [List.append_nil]
  congr 1
  omega
theorem valuesV_le {k : List UInt8} {x : VI} (h0 : (valuesV k x).1 = 0) : (valuesV k x).2.length ≤ 16 ∧ (x.1 = 22 → (valuesV k x).2.length < 16) := by
  unfold valuesV at h0 ⊢
  split at h0
  · cases h0
  rename_i hl
  rw [if_neg hl]
  split at h0
  · cases h0
  rename_i hf
  rw [if_neg hf]
  split at h0
  · cases h0
  rename_i hm
  rw [if_neg hm]
  obtain ⟨r, hr⟩ : ∃ r, r = k.take (k.length - (effV x).1.length) ++ givesV (k.drop (k.length - (effV x).1.length)) (effV x).2 := ⟨_, rfl⟩
  rw [← hr] at hm ⊢
  refine ⟨?_, fun e => ?_⟩
  · show r.length ≤ 16
    omega
  · show r.length < 16
    have : ¬ 16 ≤ r.length := fun h => hm (.inl ⟨e, h⟩)
    omega
/-- what an instruction that is let be makes of the state -/
inductive StepB (i : Nat) (x : VI) (s s' : Vs) : Prop where
  | push (h : x.1 = 19 ∨ x.1 = 22) (k : List UInt8) (hk : k = s.kinds.take (s.kinds.length - min 1 s.kinds.length)) (hb : s'.blocks = s.blocks ++ [⟨x.1, k, k, i, false⟩]) (he : s'.ends = s.ends)
  | turn (h : x.1 = 20) (r : List Vb) (b : Vb) (hl : s.blocks = r ++ [b]) (hb : s'.blocks = r ++ [{ b with want := s.kinds, at_ := i, did := true }]) (he : s'.ends = s.ends.set b.at_ (i : Int))
  | pop (h : x.1 = 21) (r : List Vb) (b : Vb) (hl : s.blocks = r ++ [b]) (hk : s.kinds = b.want) (hb : s'.blocks = r) (he : s'.ends = s.ends.set b.at_ (i : Int))
  | rest (h : opensV x.1 = false ∧ x.1 ≠ 21) (hb : s'.blocks = s.blocks) (he : s'.ends = s.ends)
theorem getLast_split {α : Type} {l : List α} {b : α} (h : l.getLast? = some b) : l = l.dropLast ++ [b] := by
  obtain ⟨ys, rfl⟩ := List.getLast?_eq_some_iff.1 h
  rw [List.dropLast_concat]
theorem oneV_step {nt inp : Nat} {role : UInt8} {i : Nat} {x : VI} {s : Vs} (hk : s.kinds.length ≤ 16) (h0 : (oneV nt inp role i x s).1 = 0) :
    StepB i x s (oneV nt inp role i x s).2 ∧ (oneV nt inp role i x s).2.seen = s.seen ++ [s.kinds] ∧ (oneV nt inp role i x s).2.deep = max s.deep (oneV nt inp role i x s).2.kinds.length := by
  have ht := oneV_there h0
  have hbl : x.1 = 20 ∨ x.1 = 21 → s.blocks ≠ [] := by
    intro e hb
    unfold thereV at ht
    rw [hb] at ht
    rcases e with e | e
    · rw [e] at ht
      revert ht
      simp [elseBad]
    · rw [e] at ht
      revert ht
      simp
  unfold oneV at h0 ⊢
  rw [if_neg (by rw [ht]; simp)] at h0 ⊢
  split at h0
  · rename_i hv; exact absurd h0 hv
  rename_i hv
  rw [if_neg hv]
  have hv0 : (valuesV s.kinds x).1 = 0 := by simpa using hv
  clear hv
  have hcn := @valuesV_none s.kinds x
  have hco : x.1 = 19 ∨ x.1 = 22 → _ := fun h => valuesV_one (k := s.kinds) h hv0
  obtain ⟨k', hk'⟩ : ∃ k', k' = (valuesV s.kinds x).2 := ⟨_, rfl⟩
  rw [← hk'] at hcn hco h0
  simp only [← hk']
  unfold turnsV at h0 ⊢
  by_cases h19 : x.1 = 19
  · simp only [h19, if_true] at h0 ⊢
    exact ⟨.push (.inl h19) k' (hco (.inl h19)) (by rw [h19]) rfl, (by first | trivial | rfl), (by first | trivial | rfl)⟩
  by_cases h22 : x.1 = 22
  · rw [if_neg h19, if_pos h22]
    exact ⟨.push (.inr h22) k' (hco (.inr h22)) (by rw [h22]) rfl, (by first | trivial | rfl), (by first | trivial | rfl)⟩
  rw [if_neg h19, if_neg h22] at h0 ⊢
  by_cases h20 : x.1 = 20
  · have hk2 := hcn (.inl h20)
    have hne := hbl (.inl h20)
    rw [if_pos h20] at h0 ⊢
    cases hb : s.blocks.getLast? with
    | none => exact absurd (List.getLast?_eq_none_iff.1 hb) hne
    | some b =>
      refine ⟨.turn h20 s.blocks.dropLast b (getLast_split hb) ?_ rfl, (by first | trivial | rfl), (by first | trivial | rfl)⟩
      simp only [hk2]
  rw [if_neg h20] at h0 ⊢
  by_cases h21 : x.1 = 21
  · have hk2 := hcn (.inr h21)
    have hne := hbl (.inr h21)
    rw [if_pos h21] at h0 ⊢
    cases hb : s.blocks.getLast? with
    | none => exact absurd (List.getLast?_eq_none_iff.1 hb) hne
    | some b =>
      simp only [hb] at h0 ⊢
      by_cases hw : k' = b.want
      · rw [if_pos hw]
        exact ⟨.pop h21 s.blocks.dropLast b (getLast_split hb) (by rw [← hk2]; exact hw) rfl rfl, (by first | trivial | rfl), (by first | trivial | rfl)⟩
      · rw [if_neg hw] at h0; cases h0
  rw [if_neg h21]
  refine ⟨.rest ⟨?_, h21⟩ rfl rfl, (by first | trivial | rfl), (by first | trivial | rfl)⟩
  unfold opensV
  simp [h19, h22, h20]
end Go.Proofs.YtahmacnmphjhgaaDoor
namespace Go.Proofs.YtahmacnmphjhgaaDoor

/-- the op of instruction j -/
def opV (code : List VI) (j : Nat) : UInt8 := (code.getD j (0, 0)).1
def shortK (k : List UInt8) : List UInt8 := k.take (k.length - min 1 k.length)
structure InvB (code : List VI) (i : Nat) (s : Vs) : Prop where
  sl : s.seen.length = i
  el : s.ends.length = code.length
  sk : ∀ k ∈ s.seen, k.length ≤ 16
  st : (s.blocks.map Vb.at_).Pairwise (· < ·)
  bl : ∀ b ∈ s.blocks, b.at_ < i ∧ opensV (opV code b.at_) = true ∧ (b.did = true ↔ opV code b.at_ = 20) ∧ b.want = (if b.did = true then s.seen.getD b.at_ [] else shortK (s.seen.getD b.at_ []))
  en : ∀ j, j < code.length → (s.ends.getD j 0 = 0 ∧ (j < i → opensV (opV code j) = true → j ∈ s.blocks.map Vb.at_)) ∨ (j < i ∧ opensV (opV code j) = true ∧ (j : Int) < s.ends.getD j 0 ∧ s.ends.getD j 0 < (i : Int) ∧ j ∉ s.blocks.map Vb.at_)
theorem getD_leftB {α : Type} {l r : List α} {j : Nat} {d : α} (h : j < l.length) : (l ++ r).getD j d = l.getD j d := by
  simp [List.getD, List.getElem?_append_left h]
theorem getD_midB {α : Type} {l : List α} {x d : α} : (l ++ [x]).getD l.length d = x := by simp [List.getD]
theorem getD_setNeB {l : List Int} {a j : Nat} {v : Int} (h : a ≠ j) : (l.set a v).getD j 0 = l.getD j 0 := by simp [List.getD, List.getElem?_set, h]
theorem getD_setEqB {l : List Int} {a : Nat} {v : Int} (h : a < l.length) : (l.set a v).getD a 0 = v := by simp [List.getD, h]
theorem InvB.old {code : List VI} {i : Nat} {s : Vs} (h : InvB code i s) {b : Vb} (hb : b ∈ s.blocks) {k : List UInt8} : b.at_ < i + 1 ∧ opensV (opV code b.at_) = true ∧ (b.did = true ↔ opV code b.at_ = 20) ∧ b.want = (if b.did = true then (s.seen ++ [k]).getD b.at_ [] else shortK ((s.seen ++ [k]).getD b.at_ [])) := by
  obtain ⟨h1, h2, h3, h4⟩ := h.bl b hb
  rw [getD_leftB (by rw [h.sl]; exact h1)]
  exact ⟨by omega, h2, h3, h4⟩
theorem st_split {r : List Vb} {b : Vb} (h : ((r ++ [b]).map Vb.at_).Pairwise (· < ·)) : (r.map Vb.at_).Pairwise (· < ·) ∧ ∀ a ∈ r.map Vb.at_, a < b.at_ := by
  rw [List.map_append, List.pairwise_append] at h
  exact ⟨h.1, fun a ha => h.2.2 a ha b.at_ (by simp)⟩
theorem InvB.step {code : List VI} {i : Nat} {s s' : Vs} (h : InvB code i s) (hi : i < code.length) (hk : s.kinds.length ≤ 16) (hs : StepB i (code.getD i (0, 0)) s s') (hseen : s'.seen = s.seen ++ [s.kinds]) : InvB code (i + 1) s' := by
  have hop : opV code i = (code.getD i (0, 0)).1 := rfl
  have hsl : s'.seen.length = i + 1 := by rw [hseen, List.length_append, h.sl]; rfl
  have hsk : ∀ k ∈ s'.seen, k.length ≤ 16 := by
    intro k hk'
    rw [hseen] at hk'
    rcases List.mem_append.1 hk' with h1 | h1
    · exact h.sk k h1
    · rw [List.mem_singleton] at h1; subst h1; exact hk
  have hmid : (s.seen ++ [s.kinds]).getD i [] = s.kinds := by rw [← h.sl]; exact getD_midB
  have hlt : ∀ a ∈ s.blocks.map Vb.at_, a < i := by
    intro a ha
    obtain ⟨b, hb, rfl⟩ := List.mem_map.1 ha
    exact (h.bl b hb).1
  rcases hs with ⟨hx, k, hkk, hb, he⟩ | ⟨hx, r, b, hl, hb, he⟩ | ⟨hx, r, b, hl, hkw, hb, he⟩ | ⟨hx, hb, he⟩
  · refine ⟨hsl, by rw [he]; exact h.el, hsk, ?_, ?_, ?_⟩
    · rw [hb, List.map_append, List.pairwise_append]
      exact ⟨h.st, by simp, fun a ha c hc => by simp at hc; subst hc; exact hlt a ha⟩
    · intro c hc
      rw [hb] at hc
      rw [hseen]
      rcases List.mem_append.1 hc with hc | hc
      · exact h.old hc
      · rw [List.mem_singleton] at hc; subst hc
        refine ⟨Nat.lt_succ_self i, ?_, ?_, ?_⟩
        · show opensV (opV code i) = true
          rw [hop]; unfold opensV; rcases hx with e | e <;> rw [e] <;> rfl
        · show false = true ↔ opV code i = 20
          rw [hop]; rcases hx with e | e <;> rw [e] <;> simp
        · show k = if false = true then _ else shortK ((s.seen ++ [s.kinds]).getD i [])
          rw [hmid, hkk]; rfl
    · intro j hj
      rw [he, hb, List.map_append]
      rcases h.en j hj with ⟨h1, h2⟩ | ⟨h1, h2, h3, h4, h5⟩
      · refine .inl ⟨h1, fun h3 h4 => List.mem_append.2 ?_⟩
        by_cases e : j = i
        · exact .inr (by simp [e])
        · exact .inl (h2 (by omega) h4)
      · refine .inr ⟨by omega, h2, h3, by omega, fun hm => ?_⟩
        rcases List.mem_append.1 hm with hm | hm
        · exact h5 hm
        · simp at hm; omega
  · have hbm : b ∈ s.blocks := by rw [hl]; simp
    obtain ⟨b1, b2, b3, b4⟩ := h.bl b hbm
    obtain ⟨st1, st2⟩ := st_split (by rw [← hl]; exact h.st)
    have hrm : ∀ a ∈ r.map Vb.at_, a ∈ s.blocks.map Vb.at_ := fun a ha => by rw [hl, List.map_append]; exact List.mem_append.2 (.inl ha)
    refine ⟨hsl, by rw [he, List.length_set]; exact h.el, hsk, ?_, ?_, ?_⟩
    · rw [hb, List.map_append, List.pairwise_append]
      exact ⟨st1, by simp, fun a ha c hc => by simp at hc; subst hc; exact hlt a (hrm a ha)⟩
    · intro c hc
      rw [hb] at hc
      rw [hseen]
      rcases List.mem_append.1 hc with hc | hc
      · exact h.old (by rw [hl]; exact List.mem_append.2 (.inl hc))
      · rw [List.mem_singleton] at hc; subst hc
        refine ⟨Nat.lt_succ_self i, ?_, ?_, ?_⟩
        · show opensV (opV code i) = true
          rw [hop, hx]; rfl
        · show true = true ↔ opV code i = 20
          rw [hop, hx]; simp
        · show s.kinds = if true = true then (s.seen ++ [s.kinds]).getD i [] else _
          rw [hmid]; rfl
    · intro j hj
      rw [he, hb, List.map_append]
      by_cases ej : b.at_ = j
      · subst ej
        rw [getD_setEqB (by rw [h.el]; exact hj)]
        refine .inr ⟨by omega, b2, by omega, by omega, fun hm => ?_⟩
        rcases List.mem_append.1 hm with hm | hm
        · have := st2 _ hm; omega
        · simp at hm; omega
      · rw [getD_setNeB ej]
        rcases h.en j hj with ⟨h1, h2⟩ | ⟨h1, h2, h3, h4, h5⟩
        · refine .inl ⟨h1, fun h3 h4 => List.mem_append.2 ?_⟩
          by_cases e : j = i
          · exact .inr (by simp [e])
          · have := h2 (by omega) h4
            rw [hl, List.map_append] at this
            rcases List.mem_append.1 this with hm | hm
            · exact .inl hm
            · simp at hm; exact absurd hm.symm ej
        · refine .inr ⟨by omega, h2, h3, by omega, fun hm => ?_⟩
          rcases List.mem_append.1 hm with hm | hm
          · exact h5 (hrm j hm)
          · simp at hm; omega
  · have hbm : b ∈ s.blocks := by rw [hl]; simp
    obtain ⟨b1, b2, b3, b4⟩ := h.bl b hbm
    obtain ⟨st1, st2⟩ := st_split (by rw [← hl]; exact h.st)
    have hrm : ∀ a ∈ r.map Vb.at_, a ∈ s.blocks.map Vb.at_ := fun a ha => by rw [hl, List.map_append]; exact List.mem_append.2 (.inl ha)
    refine ⟨hsl, by rw [he, List.length_set]; exact h.el, hsk, by rw [hb]; exact st1, ?_, ?_⟩
    · intro c hc
      rw [hb] at hc
      rw [hseen]
      exact h.old (by rw [hl]; exact List.mem_append.2 (.inl hc))
    · intro j hj
      rw [he, hb]
      by_cases ej : b.at_ = j
      · subst ej
        rw [getD_setEqB (by rw [h.el]; exact hj)]
        refine .inr ⟨by omega, b2, by omega, by omega, fun hm => ?_⟩
        have := st2 _ hm; omega
      · rw [getD_setNeB ej]
        rcases h.en j hj with ⟨h1, h2⟩ | ⟨h1, h2, h3, h4, h5⟩
        · refine .inl ⟨h1, fun h3 h4 => ?_⟩
          by_cases e : j = i
          · subst e
            rw [hop, hx] at h4; cases h4
          · have := h2 (by omega) h4
            rw [hl, List.map_append] at this
            rcases List.mem_append.1 this with hm | hm
            · exact hm
            · simp at hm; exact absurd hm.symm ej
        · exact .inr ⟨by omega, h2, h3, by omega, fun hm => h5 (hrm j hm)⟩
  · refine ⟨hsl, by rw [he]; exact h.el, hsk, by rw [hb]; exact h.st, ?_, ?_⟩
    · intro c hc
      rw [hb] at hc
      rw [hseen]
      exact h.old hc
    · intro j hj
      rw [he, hb]
      rcases h.en j hj with ⟨h1, h2⟩ | ⟨h1, h2, h3, h4, h5⟩
      · refine .inl ⟨h1, fun h3 h4 => ?_⟩
        by_cases e : j = i
        · subst e
          rw [hop, hx.1] at h4; cases h4
        · exact h2 (by omega) h4
      · exact .inr ⟨by omega, h2, h3, by omega, h5⟩
/-- what is shut stays as it is -/
theorem StepB.keep {i : Nat} {x : VI} {s s' : Vs} (hs : StepB i x s s') {j : Nat} (hj : j < i) (hn : j ∉ s.blocks.map Vb.at_) : s'.ends.getD j 0 = s.ends.getD j 0 ∧ j ∉ s'.blocks.map Vb.at_ := by
  rcases hs with ⟨_, k, _, hb, he⟩ | ⟨_, r, b, hl, hb, he⟩ | ⟨_, r, b, hl, _, hb, he⟩ | ⟨_, hb, he⟩
  · rw [he, hb, List.map_append]
    refine ⟨rfl, fun hm => ?_⟩
    rcases List.mem_append.1 hm with hm | hm
    · exact hn hm
    · simp at hm; omega
  · rw [hl, List.map_append] at hn
    rw [he, hb, List.map_append]
    refine ⟨getD_setNeB (fun e => hn (List.mem_append.2 (.inr (by simp [e])))), fun hm => ?_⟩
    rcases List.mem_append.1 hm with hm | hm
    · exact hn (List.mem_append.2 (.inl hm))
    · simp at hm; omega
  · rw [hl, List.map_append] at hn
    rw [he, hb]
    exact ⟨getD_setNeB (fun e => hn (List.mem_append.2 (.inr (by simp [e])))), fun hm => hn (List.mem_append.2 (.inl hm))⟩
  · rw [he, hb]
    exact ⟨rfl, hn⟩
end Go.Proofs.YtahmacnmphjhgaaDoor
namespace Go.Proofs.YtahmacnmphjhgaaDoor

theorem startV_inv (code : List VI) : InvB code 0 (startV code.length) := by
  refine ⟨rfl, by simp [startV], fun k hk => by simp [startV] at hk, by simp [startV], fun b hb => by simp [startV] at hb, fun j hj => .inl ⟨?_, fun h => by omega⟩⟩
  simp [startV, List.getD, List.getElem?_replicate, hj]
/-- the kinds behind an instruction that is let be are at most 16 -/
theorem oneV_kinds {nt inp : Nat} {role : UInt8} {i : Nat} {x : VI} {s : Vs} (hw : ∀ b ∈ s.blocks, b.opn.length ≤ 16) (h0 : (oneV nt inp role i x s).1 = 0) :
    (oneV nt inp role i x s).2.kinds.length ≤ 16 ∧ ∀ b ∈ (oneV nt inp role i x s).2.blocks, b.opn.length ≤ 16 := by
  have ht := oneV_there h0
  unfold oneV at h0 ⊢
  rw [if_neg (by rw [ht]; simp)] at h0 ⊢
  split at h0
  · rename_i hv; exact absurd h0 hv
  rename_i hv
  rw [if_neg hv]
  have hv0 : (valuesV s.kinds x).1 = 0 := by simpa using hv
  clear hv
  obtain ⟨hle, hlt⟩ := valuesV_le hv0
  obtain ⟨k', hk'⟩ : ∃ k', k' = (valuesV s.kinds x).2 := ⟨_, rfl⟩
  rw [← hk'] at hle hlt h0
  simp only [← hk']
  unfold turnsV at h0 ⊢
  by_cases h19 : x.1 = 19
  · simp only [h19, if_true] at h0 ⊢
    refine ⟨hle, fun b hb => ?_⟩
    rcases List.mem_append.1 hb with hb | hb
    · exact hw b hb
    · rw [List.mem_singleton] at hb; subst hb; exact hle
  by_cases h22 : x.1 = 22
  · rw [if_neg h19, if_pos h22]
    refine ⟨by have := hlt h22; simp; omega, fun b hb => ?_⟩
    rcases List.mem_append.1 hb with hb | hb
    · exact hw b hb
    · rw [List.mem_singleton] at hb; subst hb; exact hle
  rw [if_neg h19, if_neg h22] at h0 ⊢
  by_cases h20 : x.1 = 20
  · rw [if_pos h20] at h0 ⊢
    cases hb : s.blocks.getLast? with
    | none => exact ⟨hle, hw⟩
    | some b =>
      have hbm : b ∈ s.blocks := by rw [getLast_split hb]; simp
      refine ⟨hw b hbm, fun c hc => ?_⟩
      rcases List.mem_append.1 hc with hc | hc
      · exact hw c (List.dropLast_subset _ hc)
      · rw [List.mem_singleton] at hc; subst hc; exact hw b hbm
  rw [if_neg h20] at h0 ⊢
  by_cases h21 : x.1 = 21
  · rw [if_pos h21] at h0 ⊢
    cases hb : s.blocks.getLast? with
    | none => exact ⟨hle, hw⟩
    | some b =>
      simp only [hb] at h0 ⊢
      by_cases hwb : k' = b.want
      · rw [if_pos hwb]
        exact ⟨hle, fun c hc => hw c (List.dropLast_subset _ hc)⟩
      · rw [if_neg hwb] at h0; cases h0
  rw [if_neg h21]
  exact ⟨hle, hw⟩
structure RunB (nt inp : Nat) (role : UInt8) (code : List VI) (i : Nat) : Prop where
  inv : InvB code i (stV nt inp role code i)
  k : (stV nt inp role code i).kinds.length ≤ 16
  d : (stV nt inp role code i).deep ≤ 16
  w : ∀ b ∈ (stV nt inp role code i).blocks, b.opn.length ≤ 16
theorem stV_run {nt inp : Nat} {role : UInt8} {code : List VI} (hok : ∀ j, j < code.length → (oneV nt inp role j (code.getD j (0, 0)) (stV nt inp role code j)).1 = 0) :
    ∀ i, i ≤ code.length → RunB nt inp role code i
  | 0, _ => ⟨startV_inv code, by simp [stV, startV], by simp [stV, startV], fun b hb => by simp [stV, startV] at hb⟩
  | i + 1, hi => by
    obtain ⟨h1, h2, h3, h4⟩ := stV_run hok i (by omega)
    have h0 := hok i (by omega)
    obtain ⟨hs, hseen, hdeep⟩ := oneV_step h2 h0
    obtain ⟨hk, hw⟩ := oneV_kinds h4 h0
    refine ⟨h1.step (by omega) h2 hs hseen, hk, ?_, hw⟩
    show (oneV nt inp role i (code.getD i (0, 0)) (stV nt inp role code i)).2.deep ≤ 16
    rw [hdeep]
    omega
theorem stV_seen {nt inp : Nat} {role : UInt8} {code : List VI} (hok : ∀ j, j < code.length → (oneV nt inp role j (code.getD j (0, 0)) (stV nt inp role code j)).1 = 0) {i : Nat} (hi : i < code.length) :
    ∀ k, i + 1 + k ≤ code.length → (stV nt inp role code (i + 1 + k)).seen.getD i [] = (stV nt inp role code i).kinds
  | 0, _ => by
    obtain ⟨h1, h2, h3, h4⟩ := stV_run hok i (by omega)
    obtain ⟨hs, hseen, hdeep⟩ := oneV_step h2 (hok i hi)
    show (oneV nt inp role i (code.getD i (0, 0)) (stV nt inp role code i)).2.seen.getD i [] = _
    rw [hseen]
    have := @getD_midB _ (stV nt inp role code i).seen (stV nt inp role code i).kinds []
    rw [h1.sl] at this
    exact this
  | k + 1, hk => by
    have ih := stV_seen hok hi k (by omega)
    obtain ⟨h1, h2, h3, h4⟩ := stV_run hok (i + 1 + k) (by omega)
    obtain ⟨hs, hseen, hdeep⟩ := oneV_step h2 (hok (i + 1 + k) (by omega))
    show (oneV nt inp role (i + 1 + k) (code.getD (i + 1 + k) (0, 0)) (stV nt inp role code (i + 1 + k))).2.seen.getD i [] = _
    rw [hseen, getD_leftB (by rw [h1.sl]; omega), ih]
theorem stV_ends {nt inp : Nat} {role : UInt8} {code : List VI} (hok : ∀ j, j < code.length → (oneV nt inp role j (code.getD j (0, 0)) (stV nt inp role code j)).1 = 0) {i j : Nat} (hj : j < i) (hn : j ∉ (stV nt inp role code i).blocks.map Vb.at_) :
    ∀ k, i + k ≤ code.length → (stV nt inp role code (i + k)).ends.getD j 0 = (stV nt inp role code i).ends.getD j 0 ∧ j ∉ (stV nt inp role code (i + k)).blocks.map Vb.at_
  | 0, _ => ⟨rfl, hn⟩
  | k + 1, hk => by
    obtain ⟨ih1, ih2⟩ := stV_ends hok hj hn k (by omega)
    obtain ⟨h1, h2, h3, h4⟩ := stV_run hok (i + k) (by omega)
    obtain ⟨hs, hseen, hdeep⟩ := oneV_step h2 (hok (i + k) (by omega))
    obtain ⟨g1, g2⟩ := hs.keep (j := j) (by omega) ih2
    exact ⟨g1.trans ih1, g2⟩
/-- what the law of blocks says -/
structure LawB (code : List VI) (K : List (List UInt8)) (L : List Int) (O : Nat → List Nat) : Prop where
  o0 : O 0 = []
  on : O code.length = []
  ol : ∀ i, i ≤ code.length → (O i).length ≤ i
  kl : K.length = code.length
  ll : L.length = code.length
  lk : ∀ i, i < code.length → (K.getD i []).length ≤ 16
  op : ∀ i, i < code.length → opensV (opV code i) = true → (i : Int) < L.getD i 0 ∧ L.getD i 0 < (code.length : Int)
  no : ∀ i, i < code.length → opensV (opV code i) = false → L.getD i 0 = 0
  cl : ∀ i, i < code.length → opV code i = 20 ∨ opV code i = 21 → ∃ r b, O i = r ++ [b] ∧ b < i ∧ L.getD b 0 = (i : Int) ∧ O (i + 1) = r ++ (if opV code i = 20 then [i] else []) ∧
    (opV code i = 21 → K.getD i [] = if opV code b = 20 then K.getD b [] else shortK (K.getD b []))
  st : ∀ i, i < code.length → opV code i ≠ 20 → opV code i ≠ 21 → O (i + 1) = O i ++ (if opensV (opV code i) = true then [i] else [])
theorem throughV_blocks {texts : List (List UInt8)} {code : List VI} {role : UInt8} (h : (throughV texts code role).2.1 = 0) :
    (throughV texts code role).2.2.deep ≤ 16 ∧ ∃ O, LawB code (throughV texts code role).2.2.seen (throughV texts code role).2.2.ends O := by
  obtain ⟨-, -, n, hr⟩ := throughV_ok h
  obtain ⟨t, ht⟩ : ∃ t, t = (throughV texts code role).2.2 := ⟨_, rfl⟩
  rw [← ht] at hr ⊢
  obtain ⟨hok', hst, hov⟩ := runV_st code 0 rfl (Nat.zero_le _) hr
  have hok := fun j hj => hok' j (Nat.zero_le _) hj
  clear hok'
  obtain ⟨f1, f2, f3, f4⟩ := stV_run hok code.length (Nat.le_refl _)
  rw [hst] at f1 f2 f3 f4
  have hbl : t.blocks = [] := by
    unfold overV at hov
    split at hov
    · cases hov
    rename_i hb
    exact List.eq_nil_of_length_eq_zero (by omega)
  have hse : ∀ i, i < code.length → t.seen.getD i [] = (stV texts.length (inputsV role) role code i).kinds := by
    intro i hi
    have := stV_seen hok hi (code.length - (i + 1)) (by omega)
    rw [show i + 1 + (code.length - (i + 1)) = code.length by omega, hst] at this
    exact this
  refine ⟨f3, fun i => (stV texts.length (inputsV role) role code i).blocks.map Vb.at_, rfl, ?_, ?_, f1.sl, f1.el, ?_, ?_, ?_, ?_, ?_⟩
  · show (stV texts.length (inputsV role) role code code.length).blocks.map Vb.at_ = []
    rw [hst, hbl]; rfl
  · intro i hi
    induction i with
    | zero => exact Nat.zero_le _
    | succ i ih =>
      have ih := ih (by omega)
      obtain ⟨h1, h2, h3, h4⟩ := stV_run hok i (by omega)
      obtain ⟨hs, hseen, hdeep⟩ := oneV_step h2 (hok i (by omega))
      rw [List.length_map] at ih ⊢
      show (oneV _ _ role i (code.getD i (0, 0)) (stV _ _ role code i)).2.blocks.length ≤ i + 1
      rcases hs with ⟨_, k, _, hb, he⟩ | ⟨_, r, b, hl, hb, he⟩ | ⟨_, r, b, hl, _, hb, he⟩ | ⟨_, hb, he⟩ <;> rw [hb]
      · simp; omega
      · rw [hl] at ih; simp at ih ⊢; omega
      · rw [hl] at ih; simp at ih ⊢; omega
      · omega
  · intro i hi
    rw [hse i hi]
    exact (stV_run hok i (by omega)).k
  · intro i hi ho
    rcases f1.en i hi with ⟨g1, g2⟩ | ⟨g1, g2, g3, g4, g5⟩
    · have := g2 hi ho
      rw [hbl] at this; simp at this
    · exact ⟨g3, g4⟩
  · intro i hi ho
    rcases f1.en i hi with ⟨g1, g2⟩ | ⟨g1, g2, g3, g4, g5⟩
    · exact g1
    · rw [ho] at g2; cases g2
  · intro i hi hx
    obtain ⟨h1, h2, h3, h4⟩ := stV_run hok i (by omega)
    obtain ⟨hs, hseen, hdeep⟩ := oneV_step h2 (hok i hi)
    have hop : opV code i = (code.getD i (0, 0)).1 := rfl
    have hnx : stV texts.length (inputsV role) role code (i + 1) = (oneV texts.length (inputsV role) role i (code.getD i (0, 0)) (stV texts.length (inputsV role) role code i)).2 := rfl
    rw [← hnx] at hs hseen
    have hend : ∀ b, b < i → b < code.length → b ∉ (stV texts.length (inputsV role) role code (i + 1)).blocks.map Vb.at_ → (stV texts.length (inputsV role) role code (i + 1)).ends.getD b 0 = (i : Int) → t.ends.getD b 0 = (i : Int) := by
      intro b hb _ hn he
      have := (stV_ends hok (i := i + 1) (j := b) (by omega) hn (code.length - (i + 1)) (by omega)).1
      rw [show i + 1 + (code.length - (i + 1)) = code.length by omega, hst] at this
      rw [this, he]
    have hsk : ∀ b, b < i → (stV texts.length (inputsV role) role code i).seen.getD b [] = t.seen.getD b [] := by
      intro b hb
      have := stV_seen hok (i := b) (by omega) (i - (b + 1)) (by omega)
      rw [show b + 1 + (i - (b + 1)) = i by omega] at this
      rw [this, hse b (by omega)]
    rcases hs with ⟨hy, k, hkk, hb, he⟩ | ⟨hy, r, b, hl, hb, he⟩ | ⟨hy, r, b, hl, hkw, hb, he⟩ | ⟨hy, hb, he⟩
    · rw [hop] at hx
      rcases hx with e | e <;> rcases hy with e' | e' <;> rw [e] at e' <;> cases e'
    · have hbm : b ∈ (stV texts.length (inputsV role) role code i).blocks := by rw [hl]; simp
      obtain ⟨b1, b2, b3, b4⟩ := h1.bl b hbm
      obtain ⟨st1, st2⟩ := st_split (by rw [← hl]; exact h1.st)
      refine ⟨r.map Vb.at_, b.at_, by simp only [hl, List.map_append]; rfl, b1, ?_, ?_, ?_⟩
      · refine hend _ b1 (by omega) ?_ ?_
        · rw [hb, List.map_append]
          intro hm
          rcases List.mem_append.1 hm with hm | hm
          · have := st2 _ hm; omega
          · simp at hm; omega
        · rw [he, getD_setEqB (by rw [h1.el]; omega)]
      · show (stV texts.length (inputsV role) role code (i + 1)).blocks.map Vb.at_ = _
        rw [hb, List.map_append, if_pos (by rw [hop]; exact hy)]; rfl
      · intro e
        rw [hop, hy] at e; cases e
    · have hbm : b ∈ (stV texts.length (inputsV role) role code i).blocks := by rw [hl]; simp
      obtain ⟨b1, b2, b3, b4⟩ := h1.bl b hbm
      obtain ⟨st1, st2⟩ := st_split (by rw [← hl]; exact h1.st)
      refine ⟨r.map Vb.at_, b.at_, by simp only [hl, List.map_append]; rfl, b1, ?_, ?_, ?_⟩
      · refine hend _ b1 (by omega) ?_ ?_
        · rw [hb]
          intro hm
          have := st2 _ hm; omega
        · rw [he, getD_setEqB (by rw [h1.el]; omega)]
      · show (stV texts.length (inputsV role) role code (i + 1)).blocks.map Vb.at_ = _
        rw [hb, if_neg (by rw [hop, hy]; decide), List.append_nil]
      · intro _
        rw [hse i hi, hkw, b4, hsk _ b1]
        by_cases hd : b.did = true
        · rw [if_pos hd, if_pos (b3.1 hd)]
        · rw [if_neg hd, if_neg (fun e => hd (b3.2 e))]
    · rw [hop] at hx
      rcases hx with e | e
      · have := hy.1; rw [e] at this; cases this
      · exact absurd e hy.2
  · intro i hi h20 h21
    obtain ⟨h1, h2, h3, h4⟩ := stV_run hok i (by omega)
    obtain ⟨hs, hseen, hdeep⟩ := oneV_step h2 (hok i hi)
    have hop : opV code i = (code.getD i (0, 0)).1 := rfl
    rw [hop] at h20 h21
    show (oneV texts.length (inputsV role) role i (code.getD i (0, 0)) (stV texts.length (inputsV role) role code i)).2.blocks.map Vb.at_ = _
    rcases hs with ⟨hy, k, hkk, hb, he⟩ | ⟨hy, r, b, hl, hb, he⟩ | ⟨hy, r, b, hl, hkw, hb, he⟩ | ⟨hy, hb, he⟩
    · rw [hb, List.map_append, if_pos (by rw [hop]; unfold opensV; rcases hy with e | e <;> rw [e] <;> rfl)]; rfl
    · exact absurd hy h20
    · exact absurd hy h21
    · rw [hb, if_neg (by rw [hop, hy.1]; decide), List.append_nil]
end Go.Proofs.YtahmacnmphjhgaaDoor
namespace Go.Proofs.YtahmacnmphjhgaaDoor.Oct

/-- a text of these bytes -/
def bs (l : List UInt8) : ByteArray := ⟨l.toArray⟩
@[simp] theorem bs_data (l : List UInt8) : (bs l).data.toList = l := by simp [bs]
@[go_sem, simp] theorem bs_size (l : List UInt8) : (bs l).size = l.length := by simp [bs, ByteArray.size]
theorem bs_of (s : ByteArray) : bs s.data.toList = s := by simp [bs]
theorem bs_append (a b : List UInt8) : bs a ++ bs b = bs (a ++ b) := by
  apply ByteArray.ext; simp [bs]
theorem bs_inj {a b : List UInt8} : bs a = bs b ↔ a = b := by
  constructor
  · intro h; have := congrArg (fun s : ByteArray => s.data.toList) h; simpa using this
  · rintro rfl; rfl

/-- the number of bytes, the lowest first -/
def val : List UInt8 → Nat
  | [] => 0
  | c :: l => c.toNat + 256 * val l

theorem val_lt : ∀ l : List UInt8, val l < 256 ^ l.length
  | [] => by simp [val]
  | c :: l => by
    have := val_lt l
    have hc := c.toNat_lt
    simp only [val, List.length_cons, Nat.pow_succ]
    omega

theorem pow256_le {n m : Nat} (h : n ≤ m) : 256 ^ n ≤ 256 ^ m := Nat.pow_le_pow_right (by decide) h
theorem val_lt8 (l : List UInt8) (h : l.length ≤ 8) : val l < 18446744073709551616 :=
  Nat.lt_of_lt_of_le (val_lt l) (by have := pow256_le h; simpa using this)

theorem val_drop (l : List UInt8) (k : Nat) (h : k < l.length) : val (l.drop k) = l[k].toNat + 256 * val (l.drop (k + 1)) := by
  rw [List.drop_eq_getElem_cons h]; rfl

/-- n bytes of a number, the lowest first -/
def num : Nat → Nat → List UInt8
  | _, 0 => []
  | v, n + 1 => UInt8.ofNat (v % 256) :: num (v / 256) n
@[go_sem, simp] theorem num_length : ∀ (n v : Nat), (num v n).length = n
  | 0, _ => rfl
  | n + 1, v => by simp [num, num_length n]
theorem num_snoc : ∀ (n v : Nat), num v (n + 1) = num v n ++ [UInt8.ofNat (v / 256 ^ n % 256)]
  | 0, v => by simp [num]
  | n + 1, v => by
    rw [num, num_snoc n (v / 256), num]
    simp [Nat.pow_succ, Nat.div_div_eq_div_mul, Nat.mul_comm]
theorem val_num : ∀ (n v : Nat), val (num v n) = v % 256 ^ n
  | 0, v => by simp [num, val, Nat.mod_one]
  | n + 1, v => by
    rw [num, val, val_num n]
    have h : (UInt8.ofNat (v % 256)).toNat = v % 256 := by simp
    rw [h, Nat.pow_succ, Nat.mul_comm (256 ^ n) 256, Nat.mod_mul]
theorem num_val : ∀ l : List UInt8, num (val l) l.length = l
  | [] => rfl
  | c :: l => by
    have hc := c.toNat_lt
    have h1 : (c.toNat + 256 * val l) % 256 = c.toNat := by omega
    have h2 : (c.toNat + 256 * val l) / 256 = val l := by omega
    simp [num, val, h1, h2, num_val l]
theorem num_zero (n : Nat) : num 0 n = List.replicate n 0 := by
  induction n with
  | zero => rfl
  | succ n ih => simp [num, ih, List.replicate_succ]

/-- Put -/
def putOk (v n : Int) : Bool := decide (1 ≤ n ∧ n ≤ 8 ∧ v.toNat < 256 ^ n.toNat)
def putS (v n : Int) : List UInt8 × Int := if putOk v n then (num v.toNat n.toNat, 0) else ([], 2)
/-- Get -/
def getS (l : List UInt8) : Int × Int := if 1 ≤ l.length ∧ l.length ≤ 8 then ((val l : Int), 0) else (0, 2)
theorem val_append : ∀ a b : List UInt8, val (a ++ b) = val a + 256 ^ a.length * val b
  | [], b => by simp [val]
  | c :: a, b => by
    simp only [List.cons_append, val, val_append a b, List.length_cons, Nat.pow_succ]
    rw [Nat.mul_add, Nat.mul_comm (256 ^ a.length) 256, Nat.mul_assoc, Nat.add_assoc]
theorem val_take (l : List UInt8) (k : Nat) (h : k < l.length) : val (l.take (k + 1)) = val (l.take k) + l[k].toNat * 256 ^ k := by
  rw [List.take_succ_eq_append_getElem h, val_append]
  simp [val, Nat.min_eq_left (Nat.le_of_lt h), Nat.mul_comm]
theorem wrap_u64_nat (n : Nat) (h : n < 18446744073709551616) : IntKind.u64.wrap (n : Int) = n := IntWalk.u64_in _ (by omega)
/-- low or high -/
theorem or_hi (x c j : Nat) (hj : j < 64) (hx : x < 2 ^ j) (h : c * 2 ^ j < 18446744073709551616) :
    bits .or .u64 (x : Int) (IntKind.u64.wrap (IntKind.u64.wrap (c : Int) * 2 ^ j)) = ((x + c * 2 ^ j : Nat) : Int) := by
  have hp : 0 < 2 ^ j := Nat.two_pow_pos j
  have hc : c ≤ c * 2 ^ j := Nat.le_mul_of_pos_right c hp
  rw [wrap_u64_nat c (by omega)]
  have e : ((c : Int) * 2 ^ j) = ((c * 2 ^ j : Nat) : Int) := by simp
  have hx' : x < 18446744073709551616 := Nat.lt_trans hx (by have := Nat.pow_lt_pow_right (a := 2) (by decide) hj; simpa using this)
  rw [e, wrap_u64_nat _ h, bits_or_u64_nat x (c * 2 ^ j) hx' h, Nat.or_comm, Nat.mul_comm c, ← Nat.two_pow_add_eq_or_of_lt hx, Nat.add_comm]
/-- the short number's bytes, with fuel -/
def shortF : Nat → Nat → List UInt8
  | 0, _ => []
  | f + 1, v => if v < 128 then [UInt8.ofNat v] else (UInt8.ofNat (v % 128) + 128) :: shortF f (v / 128)
def short (v : Nat) : List UInt8 := shortF 10 v
theorem shortF_lt (f v : Nat) (h : v < 128) : shortF (f + 1) v = [UInt8.ofNat v] := by simp [shortF, h]
theorem shortF_ge (f v : Nat) (h : 128 ≤ v) : shortF (f + 1) v = (UInt8.ofNat (v % 128) + 128) :: shortF f (v / 128) := by
  simp [shortF, Nat.not_lt.2 h]
end Go.Proofs.YtahmacnmphjhgaaDoor.Oct
namespace Go.Proofs.YtahmacnmphjhgaaDoor
open Go.RowKit Oct
variable {P : Program}

theorem ret_int {k : IntKind} {a b : Int} (h : a = b) : Ending.returned (.int k a) = .returned (.int k b) := by rw [h]
theorem ret_str {a b : ByteArray} (h : a = b) : Ending.returned (.string a) = .returned (.string b) := by rw [h]
theorem v_int {k : IntKind} {a b : Int} (h : a = b) : Value.int k a = .int k b := by rw [h]
theorem v_str {a b : ByteArray} (h : a = b) : Value.string a = .string b := by rw [h]

/-- string([]byte{x}) -/
theorem conv_one (src dst e : TypeId) (hs : P.underlying src = some (.slice e)) (he : P.underlying e = some (.int .u8)) (hd : P.underlying dst = some .string) (w : World) (x : Int) :
    (convert src dst (.slice (some ⟨w.heap.size, 0, none⟩) 1 1)).run P (w.alloc (.cells #[.int .u8 x] e)) = .ok (.string (bs [UInt8.ofNat x.toNat])) (w.alloc (.cells #[.int .u8 x] e)) := by
  have := run_convert_bytes_arg (P := P) (w.alloc (.cells #[.int .u8 x] e)) src e hs he w.heap.size 0 1 1 [x] rfl (fun i hi => by
    obtain rfl : i = 0 := by omega
    simp [World.cell?_alloc_new]) dst hd
  exact this
@[go_sem] theorem bs_get (l : List UInt8) (k : Nat) (h : k < (bs l).size) : (bs l)[k]'h = l[k]'(by simpa using h) := by
  have e : (bs l)[k]'h = (bs l).data.toList[k]'(by simpa using h) := by simp; rfl
  rw [e]; simp
@[go_sem] theorem bs_extract (l : List UInt8) (a b : Nat) : (bs l).extract a b = bs ((l.drop a).take (b - a)) := by
  rw [Lib.extract_eq, bs_data]; rfl
@[go_sem] theorem take_drop_len (l : List UInt8) (n : Nat) : (l.drop n).take (l.length - n) = l.drop n := List.take_of_length_le (by simp)
@[go_sem] theorem bs_toList (l : List UInt8) : (bs l).toList = l := by rw [ByteArray.toList_eq, bs_data]
@[go_sem] theorem mk_toList (a : Array UInt8) : (ByteArray.mk a).toList = a.toList := by rw [ByteArray.toList_eq]
attribute [go_sem] bs_append
theorem str_ne {a b : ByteArray} (h : a.data.toList ≠ b.data.toList) : (a.toList == b.toList) = false := by
  rw [ByteArray.toList_eq, ByteArray.toList_eq]; exact beq_eq_false_iff_ne.2 h
theorem str_eq {a b : ByteArray} (h : a.data.toList = b.data.toList) : (a.toList == b.toList) = true := by
  rw [ByteArray.toList_eq, ByteArray.toList_eq]; exact beq_iff_eq.2 h

theorem Below.drewN' (w : World) (n : Nat) : Below w.heap.size w (w.drewN n) := ⟨rfl, rfl, rfl, Nat.le_refl _, fun _ _ => rfl⟩

/-- the cells of bytes -/
def bcells (l : List UInt8) : List Value := l.map fun c => .int .u8 (c.toNat : Int)
theorem bcells_snoc (l : List UInt8) (c : UInt8) : bcells l ++ [.int .u8 (c.toNat : Int)] = bcells (l ++ [c]) := by simp [bcells]
theorem bcells_length (l : List UInt8) : (bcells l).length = l.length := by simp [bcells]

/-- string(b), b the call's own -/
theorem conv_own (src dst e : TypeId) (hs : P.underlying src = some (.slice e)) (he : P.underlying e = some (.int .u8)) (hd : P.underlying dst = some .string) (w : World) (base : Nat) (v : Value) (n : Nat) (l : List UInt8)
    (h : w.ownsRow base e 1 v n (bcells l)) : (convert src dst v).run P w = .ok (.string (bs l)) w := by
  obtain ⟨h1, h2⟩ := id h
  rw [bcells_length, Nat.mul_one] at h1
  rcases h2 with ⟨rfl, h3⟩ | ⟨g, cap, cur, rfl, hg, hh, hc⟩
  · have : l = [] := List.eq_nil_of_length_eq_zero (by omega)
    subst this
    exact run_convert_bytes_nil w src e hs he 0 0 dst hd
  · subst h1
    refine run_convert_bytes_back w src dst e ⟨g, 0, none⟩ cap l hs he hd (fun j hj => ?_)
    have hx := World.ownsRow.cells h (g := g) rfl j (.int .u8 (l[j].toNat : Int)) (by simp [bcells, List.getElem?_eq_getElem hj])
    exact hx

/-- append(s, x): one element, s the call's own; its cells 'news' lie in the new block -/
theorem append1 {ops : Array Oper} {rest : List Oper} {o : Oper} {a : Act} {Q : Exit → Act → World → Prop} (wr : World) (news : List Value) (e : TypeId) (hgd : o.guard = none) (s x : Operand) (t : TypeId)
    (ho : o.op = .call { callee := .builtin .append, args := #[s, x], argTypes := #[t, t] })
    (base : Nat) (z : Value) (size bytes : Nat) (ht : P.underlying t = some (.slice e)) (hinfo : (P.info? e).map (fun i => (i.zero, i.size, i.bytes)) = some (some z, size, bytes))
    (hzs : z.cells.size = size) (hsz : 0 < size) (v : Value) (n : Nat) (xs : List Value) (hs : a.eval s = v) (hown : wr.ownsRow base e size v n xs)
    (c : Nat) (hx : a.eval x = .slice (some ⟨wr.heap.size, 0, none⟩) 1 c) (hl : news.length = size) (h1 : ∀ u ∈ news, u.oneCell' = true)
    (hbytes : (n + 1) * bytes ≤ 140737488355328) (hby : 0 < bytes) (hbase : base ≤ wr.heap.size)
    (h : ∀ v' w', w'.ownsRow base e size v' (n + 1) (xs ++ news) → Below base wr w' → wpList P ops Q rest (a.put o.dst v') w') : wpList P ops Q (o :: rest) a (wr.alloc (.cells news.toArray e)) := by
  obtain ⟨i, hi, hz, hi1, hi2⟩ := info_parts hinfo
  have hn : n + 1 ≤ (n + 1) * bytes := Nat.le_mul_of_pos_right _ hby
  refine wpList_append_own _ hgd s x t ho base e i z size bytes ht hi hz hi1 hi2 hzs hsz v n xs hs (hown.alloc _) ⟨wr.heap.size, 0, none⟩ 1 c news hx (by simpa using hl) ?_ h1 (by unfold maxLen; omega) hbytes (by simp; omega) ?_
  · intro j u hj
    have : j < news.length := by
      rcases Nat.lt_or_ge j news.length with h | h
      · exact h
      · simp [List.getElem?_eq_none h] at hj
    rw [Addr.add_lit, Nat.zero_add, World.cell?_alloc_new]
    simpa using hj
  · intro v' w' h2 h3 _
    refine h v' w' h2 (((Below.refl base wr).alloc hbase _).grown h3 (by simp; omega) ?_)
    intro k hk
    exact (hown.lt k hk).1

/-- append(s, x) in a region that draws its order: one element, s the call's own -/
theorem step_append1 {ops : Array Oper} {o : Oper} {a : Act} {K : Act → World → Prop} {Q : Exit → Act → World → Prop} {E : Prop} (wr : World) (news : List Value) (e : TypeId) (hgd : o.guard = none) (s x : Operand) (t : TypeId)
    (ho : o.op = .call { callee := .builtin .append, args := #[s, x], argTypes := #[t, t] })
    (base : Nat) (z : Value) (size bytes : Nat) (ht : P.underlying t = some (.slice e)) (hinfo : (P.info? e).map (fun i => (i.zero, i.size, i.bytes)) = some (some z, size, bytes))
    (hzs : z.cells.size = size) (hsz : 0 < size) (v : Value) (n : Nat) (xs : List Value) (hs : a.eval s = v) (hown : wr.ownsRow base e size v n xs)
    (c : Nat) (hx : a.eval x = .slice (some ⟨wr.heap.size, 0, none⟩) 1 c) (hl : news.length = size) (h1 : ∀ u ∈ news, u.oneCell' = true)
    (hbytes : (n + 1) * bytes ≤ 140737488355328) (hby : 0 < bytes) (hbase : base ≤ wr.heap.size)
    (h : ∀ g cap w', w'.ownsRow base e size (.slice (some ⟨g, 0, none⟩) (n + 1) cap) (n + 1) (xs ++ news) → Below base wr w' → K (a.put o.dst (.slice (some ⟨g, 0, none⟩) (n + 1) cap)) w') :
    if Region.wanted o (yielded ops a.tmps) = true then Oper.wp P o a (wr.alloc (.cells news.toArray e)) K Q else E := by
  obtain ⟨i, hi, hz, hi1, hi2⟩ := info_parts hinfo
  have hn : n + 1 ≤ (n + 1) * bytes := Nat.le_mul_of_pos_right _ hby
  refine step_append_lies _ hgd s x t ho base e i z size bytes ht hi hz hi1 hi2 hzs hsz v n xs hs (hown.alloc _) ⟨wr.heap.size, 0, none⟩ 1 c news hx (by simpa using hl) ?_ h1 (by decide) (by unfold maxLen; omega) hbytes (by simp; omega) _ rfl ?_
  · intro j u hj
    have : j < news.length := by
      rcases Nat.lt_or_ge j news.length with h | h
      · exact h
      · simp [List.getElem?_eq_none h] at hj
    rw [Addr.add_lit, Nat.zero_add, World.cell?_alloc_new]
    simpa using hj
  · intro g cap w' h2 h3 _ _
    refine h g cap w' h2 (((Below.refl base wr).alloc hbase _).grown h3 (by simp; omega) ?_)
    intro k hk
    exact (hown.lt k hk).1

theorem ownsRow_below {w w' : World} {base : Nat} {e : TypeId} {size : Nat} {v : Value} {n : Nat} {xs : List Value} (h : w.ownsRow base e size v n xs) (hB : Below w.heap.size w w') : w'.ownsRow base e size v n xs := by
  obtain ⟨h1, h2⟩ := h
  refine ⟨h1, ?_⟩
  rcases h2 with h2 | ⟨g, cap, cur, hv, hg, hh, r⟩
  · exact Or.inl h2
  · have hlt : g < w.heap.size := by
      rcases Nat.lt_or_ge g w.heap.size with h | h
      · exact h
      · simp [Array.getElem?_eq_none h] at hh
    exact Or.inr ⟨g, cap, cur, hv, hg, (hB.block g hlt).trans hh, r⟩

/-- two calls, one behind the other -/
theorem bt {a b c : World} (h : Below a.heap.size a b) (k : Below b.heap.size b c) : Below a.heap.size a c := h.trans (k.mono h.size)
theorem b_alloc (w : World) (o : Obj) : Below w.heap.size w (w.alloc o) := (Below.refl _ _).alloc (Nat.le_refl _) _
theorem b_drew (w : World) : Below w.heap.size w w.drew := (Below.refl _ _).drew
theorem b_refl (w : World) : Below w.heap.size w w := Below.refl _ _

theorem owns_slice {w : World} {base : Nat} {e : TypeId} {size : Nat} {v : Value} {n : Nat} {xs : List Value} (h : w.ownsRow base e size v n xs) : ∃ a cap, v = .slice a n cap := by
  rcases h.2 with ⟨hv, h0⟩ | ⟨g, cap, cur, hv, _⟩
  · exact ⟨none, 0, by rw [hv, h0]⟩
  · exact ⟨_, _, hv⟩

theorem owns_mono {w : World} {base base' : Nat} {e : TypeId} {size : Nat} {v : Value} {n : Nat} {xs : List Value} (h : w.ownsRow base e size v n xs) (hb : base' ≤ base) : w.ownsRow base' e size v n xs := by
  obtain ⟨h1, h2⟩ := h
  refine ⟨h1, ?_⟩
  rcases h2 with h2 | ⟨g, cap, cur, hv, hg, r⟩
  · exact .inl h2
  · exact .inr ⟨g, cap, cur, hv, Nat.le_trans hb hg, r⟩

/-- two new blocks -/
theorem two_new (w : World) (o p : Obj) : ((w.alloc o).alloc p).heap[w.heap.size]? = some o ∧ ((w.alloc o).alloc p).heap[w.heap.size + 1]? = some p ∧ Below w.heap.size w ((w.alloc o).alloc p) := by
  refine ⟨?_, ?_, ((Below.refl _ _).alloc (Nat.le_refl _) _).alloc (by simp) _⟩
  · show ((w.heap.push o).push p)[w.heap.size]? = some o
    simp [Array.getElem?_push]
  · show ((w.heap.push o).push p)[w.heap.size + 1]? = some p
    rw [Array.getElem?_push, if_pos (by simp)]

/-- a region that draws its order, and that makes memory at most: one walk of the text's order serves -/
theorem region_grow {id : Nat} {Q : Exit → Act → World → Prop} {a : Act} {w : World} {l : List Oper} (hm : P.follows .mixedOrders = true) (hB : Region.lexB .any l.toArray = true)
    (h : wpQuiet P l.toArray (fun w' => Below w.heap.size w w') (fun a' => ∀ w', Below w.heap.size w w' → Q .normal a' w') l a) : (Code.region id l.toArray true).wp P Q a w :=
  wp_region_quiet (C := fun w' => Below w.heap.size w w') hm hB (b_drew w) (by simpa using h)
theorem calls_grow {f : FuncId} {args : Array Value} {w w' : World} {v : Value} (hC : Below w.heap.size w w') (h : Calls P f args w' fun e w'' => e = .returned v ∧ Below w'.heap.size w' w'') :
    Calls P f args w' fun e w'' => e = .returned v ∧ Below w.heap.size w w'' := h.mono fun _ _ ⟨he, hb⟩ => ⟨he, bt hC hb⟩

/-- the slice value v has n elements, whose cells are xs -/
def Reads (w : World) (v : Value) (n : Nat) (xs : List Value) : Prop :=
  ∃ a cap, v = .slice a n cap ∧ (a = none → n = 0 ∧ cap = 0) ∧ ∀ j u, xs[j]? = some u → ∃ b off, a = some ⟨b, off, none⟩ ∧ w.cell? ⟨b, off + j, none⟩ = some u
theorem lt_of_cell {w : World} {a : Addr} {u : Value} (h : w.cell? a = some u) : a.block < w.heap.size := World.block_lt_of_cell? w a h
theorem Below.keeps {w w' : World} (hB : Below w.heap.size w w') {a : Addr} {u : Value} (h : w.cell? a = some u) : w'.cell? a = some u :=
  (hB.cell (p := a) (lt_of_cell h)).trans h
theorem Reads.below {w w' : World} {v : Value} {n : Nat} {xs : List Value} (h : Reads w v n xs) (hB : Below w.heap.size w w') : Reads w' v n xs := by
  obtain ⟨a, cap, hv, hn, hc⟩ := h
  exact ⟨a, cap, hv, hn, fun j u hj => by obtain ⟨b, off, ha, hu⟩ := hc j u hj; exact ⟨b, off, ha, Below.keeps hB hu⟩⟩
theorem Reads.owned {w : World} {base : Nat} {e : TypeId} {size : Nat} {v : Value} {n : Nat} {xs : List Value} (h : w.ownsRow base e size v n xs) : Reads w v n xs := by
  rcases id h.2 with ⟨hv, h0⟩ | ⟨g, cap, cur, hv, _⟩
  · refine ⟨none, 0, by rw [hv, h0], fun _ => ⟨h0, rfl⟩, fun j u hj => ?_⟩
    have := h.1
    rw [h0, Nat.zero_mul] at this
    rw [List.eq_nil_of_length_eq_zero this] at hj
    simp at hj
  · refine ⟨some ⟨g, 0, none⟩, cap, hv, (by simp), fun j u hj => ⟨g, 0, rfl, ?_⟩⟩
    have := World.ownsRow.cells h (g := g) (by rw [hv]; rfl) j u hj
    rwa [Addr.add_lit] at this
theorem Reads.nil (w : World) : Reads w (.slice none 0 0) 0 [] := ⟨none, 0, rfl, fun _ => ⟨rfl, rfl⟩, fun j u hj => by simp at hj⟩
theorem Reads.new (w : World) (xs : List Value) (n : Nat) (e : TypeId) (c : Nat) : Reads (w.alloc (.cells xs.toArray e)) (.slice (some ⟨w.heap.size, 0, none⟩) n c) n xs :=
  ⟨_, _, rfl, (by simp), fun j u hj => ⟨_, _, rfl, by rw [Nat.zero_add, World.cell?_alloc_new]; simpa using hj⟩⟩
/-- append(s, x...): s the call's own, x whatever slice -/
theorem appendN {ops : Array Oper} {rest : List Oper} {o : Oper} {a : Act} {Q : Exit → Act → World → Prop} (w : World) (news : List Value) (e : TypeId) (hgd : o.guard = none) (s x : Operand) (t : TypeId)
    (ho : o.op = .call { callee := .builtin .append, args := #[s, x], argTypes := #[t, t] })
    (base : Nat) (z : Value) (size bytes : Nat) (ht : P.underlying t = some (.slice e)) (hinfo : (P.info? e).map (fun i => (i.zero, i.size, i.bytes)) = some (some z, size, bytes))
    (hzs : z.cells.size = size) (hsz : 0 < size) (v : Value) (n : Nat) (xs : List Value) (hs : a.eval s = v) (hown : w.ownsRow base e size v n xs)
    (vx : Value) (m : Nat) (hx : a.eval x = vx) (hr : Reads w vx m news) (hl : news.length = m * size) (h1 : ∀ u ∈ news, u.oneCell' = true)
    (hbytes : (n + m) * bytes ≤ 140737488355328) (hby : 0 < bytes) (hbase : base ≤ w.heap.size)
    (h : ∀ v' w', w'.ownsRow base e size v' (n + m) (xs ++ news) → Below base w w' → wpList P ops Q rest (a.put o.dst v') w') : wpList P ops Q (o :: rest) a w := by
  obtain ⟨i, hi, hz, hi1, hi2⟩ := info_parts hinfo
  have hn : n + m ≤ (n + m) * bytes := Nat.le_mul_of_pos_right _ hby
  obtain ⟨ax, cap, rfl, hnone, hc⟩ := hr
  cases ax with
  | none =>
    obtain ⟨rfl, rfl⟩ := hnone rfl
    have hnil : news = [] := List.eq_nil_of_length_eq_zero (by simpa using hl)
    subst hnil
    refine wpList_append_own_none hgd s x t ho base e i size ht hi v n xs hs hown hx ?_
    have := h v w (by simpa using hown) (Below.refl _ _)
    exact this
  | some ad =>
    refine wpList_append_own _ hgd s x t ho base e i z size bytes ht hi hz hi1 hi2 hzs hsz v n xs hs hown ad m cap news hx hl ?_ h1 (by unfold maxLen; omega) hbytes hbase ?_
    · intro j u hj
      obtain ⟨b, off, ha, hu⟩ := hc j u hj
      cases ha
      rw [Addr.add_lit]; exact hu
    · intro v' w' h2 h3 _
      refine h v' w' h2 ((Below.refl base w).grown h3 hbase ?_)
      intro k hk
      exact (hown.lt k hk).1

/-- the cells of texts -/
def tcells (r : List (List UInt8)) : List Value := r.map fun l => .string (bs l)
theorem tcells_at (r : List (List UInt8)) (k : Nat) (h : k < r.length) : (tcells r)[k]? = some (.string (bs r[k])) := by simp [tcells, h]
theorem tcells_snoc (r : List (List UInt8)) (l : List UInt8) : tcells r ++ [.string (bs l)] = tcells (r ++ [l]) := by simp [tcells]
theorem tcells_length (r : List (List UInt8)) : (tcells r).length = r.length := by simp [tcells]

end Go.Proofs.YtahmacnmphjhgaaDoor
namespace Go.Proofs.YtahmacnmphjhgaaDoor
open Go.RowKit Oct

theorem infoU8 : (Tryd.prog.info? 5).map (fun i => (i.zero, i.size, i.bytes)) = some (some (.int .u8 0), 1, 1) := by kernel_rfl

theorem conv1 (w : World) (x : Int) : (convert 92 9 (.slice (some ⟨w.heap.size, 0, none⟩) 1 1)).run Tryd.prog (w.alloc (.cells #[.int .u8 x] 5)) = .ok (.string (bs [UInt8.ofNat x.toNat])) (w.alloc (.cells #[.int .u8 x] 5)) := conv_one (P := Tryd.prog) 92 9 5 Tryd.underlying92 Tryd.underlying5 Tryd.underlying9 w x

/-- the cells of the array after k rounds -/
def cb (v k : Nat) : Array Value := ((num v k).map (fun c => Value.int .u8 (c.toNat : Int)) ++ List.replicate (8 - k) (Value.int .u8 0)).toArray
theorem cb_new (v k : Nat) (h : k < 8) : (cb v k)[k]? = some (.int .u8 0) := by
  simp [cb, List.getElem?_append, num_length, List.getElem?_replicate]; omega
theorem cb_at (v k j : Nat) (h : j < k) : (cb v k)[j]? = some (.int .u8 (((num v k)[j]'(by rw [num_length]; exact h)).toNat : Int)) := by
  have hl : j < (num v k).length := by rw [num_length]; exact h
  simp [cb, List.getElem?_append, num_length, h, hl]
theorem num_take (v m n j : Nat) (h : m ≤ n) (hj : j < m) : (num v n)[j]'(by rw [num_length]; omega) = (num v m)[j]'(by rw [num_length]; omega) := by
  induction m generalizing v n j with
  | zero => omega
  | succ m ih =>
    obtain ⟨n, rfl⟩ : ∃ n', n = n' + 1 := ⟨n - 1, by omega⟩
    cases j with
    | zero => simp [num]
    | succ j => simp only [num, List.getElem_cons_succ]; exact ih _ _ _ (by omega) (by omega)
theorem cb_step (v : Int) (k : Nat) (h : k < 8) (h0 : 0 ≤ v) : (cb v.toNat k).setIfInBounds k (Value.int IntKind.u8 (v / 2 ^ (8 * k) % 256)) = cb v.toNat (k + 1) := by
  obtain ⟨v, rfl⟩ := Int.eq_ofNat_of_zero_le h0
  have e : ((v : Int) / 2 ^ (8 * k) % 256) = (((UInt8.ofNat (v / 256 ^ k % 256)).toNat : Nat) : Int) := by
    have : (2 : Int) ^ (8 * k) = ((256 ^ k : Nat) : Int) := by rw [Int.pow_mul]; simp
    rw [this]; simp
  rw [e]
  simp only [cb, Int.toNat_natCast, List.setIfInBounds_toArray, num_snoc, List.map_append, List.append_assoc]
  congr 1
  rw [List.set_append_right _ _ (by simp [num_length])]
  obtain ⟨m, hm⟩ : ∃ m, 8 - k = m + 1 := ⟨7 - k, by omega⟩
  have hm' : 8 - (k + 1) = m := by omega
  simp [num_length, hm, hm', List.replicate_succ]
end Go.Proofs.YtahmacnmphjhgaaDoor
namespace Go.Proofs.YtahmacnmphjhgaaDoor
open Go.RowKit Oct

theorem sizeBuilder : (Tryd.prog.info? 94).map (·.size) = some 2 := by kernel_rfl
theorem liesBuilder : liesAt Tryd.prog Tryd.prog.depth 94 (2 / Tryd.prog.cellsOf 94) 0 94 1 = true := by kernel_rfl

set_option maxHeartbeats 1000000 in
set_option maxRecDepth 100000 in
theorem copyCheck_used (b : Nat) (w : World) (h0 : w.cell? ⟨b, 0, none⟩ = some (.pointer (some ⟨b, 0, none⟩))) :
    Calls Tryd.prog 59 #[.pointer (some ⟨b, 0, none⟩)] w fun e w' => e = .returned (.tuple #[]) ∧ w' = w := by
  obtain ⟨j, hj, _⟩ := Option.map_eq_some_iff.1 sizeBuilder
  go_enter Tryd.func59, Tryd.ntmps59
  go_wp2
  rw [Lib.run_neq_ptr_same w _ Tryd.underlying91 hj]
  go_wp2
  go_end0
  exact ⟨rfl, rfl⟩

set_option maxHeartbeats 1000000 in
set_option maxRecDepth 100000 in
theorem copyCheck_fresh (b : Nat) (w : World) (h0 : w.cell? ⟨b, 0, none⟩ = some (.pointer none)) (hsh : w.shape? b = some (94, 2)) (hfz : w.frozen? ⟨b, 0, none⟩ = false) :
    Calls Tryd.prog 59 #[.pointer (some ⟨b, 0, none⟩)] w fun e w' => e = .returned (.tuple #[]) ∧ w' = w.setCell ⟨b, 0, none⟩ (.pointer (some ⟨b, 0, none⟩)) := by
  obtain ⟨j, hj, hjs⟩ := Option.map_eq_some_iff.1 sizeBuilder
  go_enter Tryd.func59, Tryd.ntmps59
  go_wp2
  rw [Lib.run_to_unsafe w ⟨b, 0, none⟩ Tryd.underlying91 Tryd.underlying106 hj (by rw [hjs]; decide) hsh (Nat.zero_lt_succ 1)]
  simp only [Result.andThen]
  rw [Oper.upon_value]
  go_wp2
  rw [run_callFunc_extern Tryd.func63 (by kernel_rfl) (by kernel_rfl) (by kernel_rfl) (e := Extern.AbiNoEscape.same) (by kernel_rfl)]
  rw [Lib.run_noEscape]
  simp only [Result.andThen]
  rw [Oper.upon_value]
  go_wp2
  rw [Lib.run_from_unsafe w ⟨b, 0, none⟩ Tryd.underlying106 Tryd.underlying91 hj hsh liesBuilder]
  simp only [Result.andThen]
  rw [Oper.upon_value]
  go_wp2
  go_end0
  exact ⟨rfl, rfl⟩

theorem copyCheck_any (B b : Nat) (bs : List Value) (w : World) (h : Lib.IsBuilder 94 5 B b bs w) :
    Calls Tryd.prog 59 #[.pointer (some ⟨b, 0, none⟩)] w fun e w' => e = .returned (.tuple #[]) ∧ (Lib.BuilderAt 94 5 B b (.pointer (some ⟨b, 0, none⟩)) bs w' ∧ Below B w w') := by
  rcases h with h | h
  · refine (copyCheck_fresh b w h.cell0 h.shape h.frozen0).mono ?_
    rintro e w' ⟨rfl, rfl⟩
    exact ⟨rfl, h.used _, (Below.refl B w).setCell (p := ⟨b, 0, none⟩) h.1 _⟩
  · refine (copyCheck_used b w h.cell0).mono ?_
    rintro e w' ⟨rfl, rfl⟩
    exact ⟨rfl, h, Below.refl B _⟩

set_option maxHeartbeats 2000000 in
set_option maxRecDepth 100000 in
theorem WriteString_raw (B b : Nat) (bs : List Value) (s : ByteArray) (w : World) (h : Lib.IsBuilder 94 5 B b bs w) (hlen : bs.length + s.size ≤ 140737488355328) (hBw : B ≤ w.heap.size) :
    Calls Tryd.prog 54 #[.pointer (some ⟨b, 0, none⟩), .string s] w fun e w' => e = .returned (.tuple #[.int .i64 s.size, .nilIface]) ∧ (Lib.BuilderAt 94 5 B b (.pointer (some ⟨b, 0, none⟩)) (bs ++ Lib.strCells s) w' ∧ Below B w w') := by
  obtain ⟨i0, hi, hz0, hz1, hz2⟩ := info_parts infoU8
  go_enter Tryd.func54, Tryd.ntmps54
  go_wp2_with (go_at_call 59; refine (copyCheck_any B b bs _ h).mono ?_)
  rintro e w1 ⟨rfl, h1, hb1⟩
  obtain ⟨hB, v, hbk, hown, hne⟩ := h1
  have c0 : w1.cell? ⟨b, 0, none⟩ = some (.pointer (some ⟨b, 0, none⟩)) := by rw [Lib.cell_of_heap hbk]; rfl
  have c1 : w1.cell? ⟨b, 1, none⟩ = some v := by rw [Lib.cell_of_heap hbk]; rfl
  go_wp2_with (at_builtin; refine Lib.wpList_append_own_string _ rfl _ _ 92 9 rfl B 5 i0 Tryd.underlying92 Tryd.underlying9 hi hz0 hz1 hz2 _ _ _ rfl hown s rfl ?c3 ?c4 ?c5 ?_)
  case c3 => unfold maxLen; omega
  case c4 => omega
  case c5 => have := hb1.size; omega
  intro v' w2 hown' hgrow _
  have hlt : b < w1.heap.size := by
    rcases Nat.lt_or_ge b w1.heap.size with h' | h'
    · exact h'
    · simp [Array.getElem?_eq_none h'] at hbk
  have hb2 : w2.heap[b]? = some (.cells #[.pointer (some ⟨b, 0, none⟩), v] 94 (0, 0)) := by
    rw [hgrow.block b hlt (fun e => hne e.symm)]
    exact hbk
  have d0 : w2.cell? ⟨b, 0, none⟩ = some (.pointer (some ⟨b, 0, none⟩)) := by rw [Lib.cell_of_heap hb2]; rfl
  have d1 : w2.cell? ⟨b, 1, none⟩ = some v := by rw [Lib.cell_of_heap hb2]; rfl
  have f1 : w2.frozen? ⟨b, 1, none⟩ = false := Lib.frozen_of_heap hb2 1
  obtain ⟨ao, n', cap, rfl⟩ : ∃ ao n' cap, v' = .slice ao n' cap := by
    rcases hown'.2 with ⟨hv, _⟩ | ⟨g, cap, cur, hv, _⟩
    · exact ⟨_, _, _, hv⟩
    · exact ⟨_, _, _, hv⟩
  go_wp2
  go_ret2
  refine ⟨rfl, ?_, ?_⟩
  · exact Lib.BuilderAt.put (T := 94) (e := 5) hB hb2 (bs' := bs ++ Lib.strCells s) (by simpa [Lib.strCells_length] using hown') (by decide)
  · exact (hb1.grown hgrow (by have := hb1.size; omega) (fun k hk => (hown.lt k hk).1)).setCell (p := ⟨b, 1, none⟩) hB _

/-- a builder of the call's own (blocks from B on) in block b that holds the bytes l -/
def Bld (B b : Nat) (l : List UInt8) (w : World) : Prop := B ≤ w.heap.size ∧ Lib.IsBuilder 94 5 B b (bcells l) w
theorem Bld.fresh (w : World) : Bld w.heap.size w.heap.size [] (w.alloc (.cells #[.pointer none, .slice none 0 0] 94)) := ⟨by simp, Lib.fresh_isBuilder _ _ w⟩
theorem strCells_bs (l : List UInt8) : Lib.strCells (bs l) = bcells l := by simp [Lib.strCells, bcells, bs]

theorem BuilderAt_below {T e : TypeId} {B b : Nat} {p : Value} {l : List Value} {w w' : World} (h : Lib.BuilderAt T e B b p l w) (hB : Below w.heap.size w w') : Lib.BuilderAt T e B b p l w' := by
  have hlt := h.lt
  obtain ⟨h1, v, h2, h3, h4⟩ := h
  exact ⟨h1, v, (hB.block b hlt).trans h2, ownsRow_below h3 hB, h4⟩
theorem Bld.below {B b : Nat} {l : List UInt8} {w w' : World} (h : Bld B b l w) (hB : Below w.heap.size w w') : Bld B b l w' :=
  ⟨Nat.le_trans h.1 hB.size, h.2.imp (fun h => BuilderAt_below h hB) (fun h => BuilderAt_below h hB)⟩

theorem WriteString_any (B b : Nat) (l m : List UInt8) (w : World) (h : Bld B b l w) (hlen : l.length + m.length ≤ 140737488355328) :
    Calls Tryd.prog 54 #[.pointer (some ⟨b, 0, none⟩), .string (bs m)] w fun e w' => e = .returned (.tuple #[.int .i64 m.length, .nilIface]) ∧ Bld B b (l ++ m) w' ∧ Below B w w' := by
  refine (WriteString_raw B b (bcells l) (bs m) w h.2 (by rw [bcells_length, bs_size]; exact hlen) h.1).mono ?_
  rintro e w' ⟨rfl, h1, h2⟩
  refine ⟨by rw [bs_size], ⟨Nat.le_trans h.1 h2.size, .inr ?_⟩, h2⟩
  rw [strCells_bs] at h1
  simpa [bcells] using h1
theorem BString_any (B b : Nat) (l : List UInt8) (w : World) (h : Bld B b l w) :
    Calls Tryd.prog 56 #[.pointer (some ⟨b, 0, none⟩)] w fun e w' => e = .returned (.string (bs l)) ∧ Below B w w' :=
  Tryd.Builder_String_any B b l w h.2 h.1
end Go.Proofs.YtahmacnmphjhgaaDoor
