/- Arguments that are rows of pairs, and rows of these, opened. -/
import Derived.Test.YtdebgkjekcppmaaO1
import Derived.Test.YtdebgkjekcppmaaQ5
namespace Go.Proofs.Ytdebgkjekcppmaa
open Go.ChangeShapes Go.WideShapes Go.ChangeAt Go.RowKit Oct

section
variable {H : Type} {enc : TypeId × Value → H} {W : World}
/-- a pair's cells, opened -/
def PairAt (cs : List Value) (p : PR) : Prop := cs = [.string (bs p.1), .string (bs p.2)] ∧ p.1.length ≤ 140737488355328 ∧ p.2.length ≤ 140737488355328
theorem opens_pair : Opens enc Try.prog W 52 (fun p => p.1.length + 1 + (p.2.length + 1) + 1) PairAt := by
  refine Opens.imp (opens_struct2 (c0 := 1) (c1 := 1) Try.underlying52 (by kernel_rfl) (by kernel_rfl) (by kernel_rfl) rfl rfl (opens_str Try.underlying9) (opens_str Try.underlying9)) ?_
  rintro cs p ⟨cs0, cs1, rfl, _, _, ⟨rfl, h0⟩, rfl, h1⟩
  exact ⟨rfl, h0, h1⟩
theorem rp_of {v : Value} {xs : List PR} (h : SliceOf W 2 PairAt v xs) : RP W v xs ∧ ∀ p ∈ xs, p.1.length ≤ 140737488355328 ∧ p.2.length ≤ 140737488355328 := by
  obtain ⟨a, cap, rfl, hle, hn, hc⟩ := h
  refine ⟨⟨⟨a, cap, rfl, hn, ?_⟩, a, cap, rfl, hle⟩, ?_⟩
  · intro j u hj
    have hjl : j < xs.length * 2 := by
      rcases Nat.lt_or_ge j (xs.length * 2) with h | h
      · exact h
      · rw [List.getElem?_eq_none (by rw [pcells_length]; exact h)] at hj; cases hj
    have hk : j / 2 < xs.length := by omega
    obtain ⟨b, off, cs, ha, _, hcell, hcs, _⟩ := hc (j / 2) hk
    subst hcs
    refine ⟨b, off, ha, ?_⟩
    rcases Nat.mod_two_eq_zero_or_one j with hm | hm
    · have e : j = j / 2 * 2 := by omega
      rw [e, pcells_key xs _ hk] at hj
      have := hcell 0 _ rfl
      rw [e, ← hj]
      exact this
    · have e : j = j / 2 * 2 + 1 := by omega
      rw [e, pcells_val xs _ hk] at hj
      have := hcell 1 _ rfl
      rw [e, ← hj, ← Nat.add_assoc]
      exact this
  · intro p hp
    obtain ⟨k, hk, rfl⟩ := List.getElem_of_mem hp
    obtain ⟨_, _, _, _, _, _, _, h⟩ := hc k hk
    exact h
/-- a row of pairs -/
def RowAt (W : World) (cs : List Value) (l : List PR) : Prop := ∃ v, cs = [v] ∧ RP W v l ∧ l.length ≤ 4398046511104 ∧ ∀ p ∈ l, p.1.length ≤ 140737488355328 ∧ p.2.length ≤ 140737488355328
/-- how many values and letters a row has -/
def bulkP (l : List PR) : Nat := (l.map fun p : PR => p.1.length + 1 + (p.2.length + 1) + 1).sum + 1
theorem opens_pairs : Opens enc Try.prog W 35 bulkP (RowAt W) := by
  refine Opens.imp (opens_slice (size := 2) Try.underlying35 (by kernel_rfl) (by decide) opens_pair) ?_
  rintro cs l ⟨v, rfl, hs, hb⟩
  have hby : Try.prog.bytesOf 52 = 32 := by kernel_rfl
  rw [hby] at hb
  have h2 := reachBytes_lt
  obtain ⟨h1, h3⟩ := rp_of hs
  exact ⟨v, rfl, h1, by omega, h3⟩
set_option maxRecDepth 100000 in
theorem open_pairs {base j : Nat} {v : Value} {d : DataW H} {ps : List MemPlace} {ts : List TypeId} {ds : List (DataW H)}
    (hv : Value.okWide Try.prog W .any base 35 v) (h : DataW.Trod enc Try.prog W 0 (fun _ => true) true 35 v d ps) (hsz : (DataW.weightsEach Try.prog ts ds).all (· ≤ reachBytes) = true) (hj : ts[j]? = some 35) (hd : ds[j]? = some d) :
    ∃ l : List PR, RP W v l ∧ l.length ≤ 4398046511104 ∧ ∀ p ∈ l, p.1.length ≤ 140737488355328 ∧ p.2.length ≤ 140737488355328 := by
  obtain ⟨l, ⟨v', hcs, h1, h2, h3⟩, _⟩ := open_any opens_pairs h hsz hj hd
  obtain rfl := cells_slice Try.underlying35 hv hcs
  exact ⟨l, h1, h2, h3⟩
/-- a row of rows -/
def RowsAt (W : World) (cs : List Value) (rows : List (List PR)) : Prop := ∃ v, cs = [v] ∧ RR W v rows ∧ rows.length ≤ 5864062014805 ∧ ∀ l ∈ rows, l.length ≤ 4398046511104 ∧ ∀ p ∈ l, p.1.length ≤ 140737488355328 ∧ p.2.length ≤ 140737488355328
def bulkR (rows : List (List PR)) : Nat := (rows.map bulkP).sum + 1
theorem opens_rows : Opens enc Try.prog W 43 bulkR (RowsAt W) := by
  refine Opens.imp (opens_slice (size := 1) Try.underlying43 (by kernel_rfl) (by decide) opens_pairs) ?_
  rintro cs rows ⟨v, rfl, ⟨a, cap, rfl, hle, hn, hc⟩, hb⟩
  have hby : Try.prog.bytesOf 35 = 24 := by kernel_rfl
  rw [hby] at hb
  have h2 := reachBytes_lt
  refine ⟨_, rfl, ⟨a, cap, rfl, hle, hn, ?_⟩, by omega, ?_⟩
  · intro k hk
    obtain ⟨b, off, cs, ha, _, hcell, v, rfl, h1, _⟩ := hc k hk
    refine ⟨b, off, v, ha, ?_, h1⟩
    have := hcell 0 _ rfl
    simpa using this
  · intro l hl
    obtain ⟨k, hk, rfl⟩ := List.getElem_of_mem hl
    obtain ⟨_, _, _, _, _, _, _, _, _, h3, h4⟩ := hc k hk
    exact ⟨h3, h4⟩
set_option maxRecDepth 100000 in
theorem open_rows {base j : Nat} {v : Value} {d : DataW H} {ps : List MemPlace} {ts : List TypeId} {ds : List (DataW H)}
    (hv : Value.okWide Try.prog W .any base 43 v) (h : DataW.Trod enc Try.prog W 0 (fun _ => true) true 43 v d ps) (hsz : (DataW.weightsEach Try.prog ts ds).all (· ≤ reachBytes) = true) (hj : ts[j]? = some 43) (hd : ds[j]? = some d) :
    ∃ rows : List (List PR), RR W v rows ∧ rows.length ≤ 5864062014805 ∧ (∀ l ∈ rows, l.length ≤ 4398046511104 ∧ ∀ p ∈ l, p.1.length ≤ 140737488355328 ∧ p.2.length ≤ 140737488355328) ∧ bulkR rows ≤ Rows.uptoBulk d := by
  obtain ⟨rows, ⟨v', hcs, h1, h2, h3⟩, h4⟩ := open_any opens_rows h hsz hj hd
  obtain rfl := cells_slice Try.underlying43 hv hcs
  exact ⟨rows, h1, h2, h3, h4⟩
end
end Go.Proofs.Ytdebgkjekcppmaa
