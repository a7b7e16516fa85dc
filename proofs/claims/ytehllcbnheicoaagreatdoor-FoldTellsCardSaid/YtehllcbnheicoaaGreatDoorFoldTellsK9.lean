/- Lemmas for FoldTells, part 9: walks of the functions that it reaches, and the plain laws behind them. -/
import Derived.Laws.RangeString
import Derived.Deep.DeepCutAuto
import Derived.Test.YtehllcbnheicoaaGreatDoorFoldTellsK8
set_option linter.unusedSimpArgs false
set_option linter.unusedVariables false
set_option maxRecDepth 100000
set_option maxHeartbeats 16000000
namespace Go.Proofs.YtehllcbnheicoaaGreatDoor
open Go.RowKit Oct
attribute [local irreducible] wpG
theorem run_next_at {P : Program} (w : World) (I : Nat) (s : ByteArray) (pos : Nat) (ty : TypeId) (hI : w.heap[I]? = some (.stringIter s pos)) (h : pos < s.size) (ha : (s[pos]'h).toNat < 128) :
  (Instr.next (.pointer (some ⟨I,0,none⟩)) true ty).run P w = .ok (.tuple #[.bool true,.int .i64 pos,.int .i32 (s[pos]'h).toNat]) (w.putObj I (.stringIter s (pos + 1))):=by
 simp only [Instr.next,getObj,setObj,Sem.run_bind,Sem.run,hI,Result.andThen,h,if_true,decode_ascii s pos h ha]
 simp [goInt,Sem.run,hI,World.putObj]
theorem run_next_out {P : Program} (w : World) (I : Nat) (s : ByteArray) (pos : Nat) (ty : TypeId) (hI : w.heap[I]? = some (.stringIter s pos)) (h : ¬ pos < s.size) :
  (Instr.next (.pointer (some ⟨I,0,none⟩)) true ty).run P w = .ok (.tuple #[.bool false]) w:=by
 simp [Instr.next,getObj,Sem.run,hI,h]
theorem iterPos_at {w : World} {I : Nat} {s : ByteArray} {pos : Nat} (hI : w.heap[I]? = some (.stringIter s pos)) : w.iterPos I = pos:=by
 simp [World.iterPos,hI]
theorem next_bs {P : Program} (w : World) (I : Nat) (l : List UInt8) (pos : Nat) (ty : TypeId) (hI : w.heap[I]? = some (.stringIter (bs l) pos)) (h : pos < l.length) (ha : l[pos].toNat < 128) :
  (Instr.next (.pointer (some ⟨I,0,none⟩)) true ty).run P w = .ok (.tuple #[.bool true,.int .i64 (pos : Int),.int .i32 (l[pos].toNat : Int)]) (w.putObj I (.stringIter (bs l) (pos + 1))):=by
 have hs : pos < (bs l).size:=by rw [bs_size]; exact h
 have:=run_next_at (P:=P) w I (bs l) pos ty hI hs (by rw [bs_get]; exact ha)
 rw [bs_get] at this
 exact this
theorem next_bs_out {P : Program} (w : World) (I : Nat) (l : List UInt8) (pos : Nat) (ty : TypeId) (hI : w.heap[I]? = some (.stringIter (bs l) pos)) (h : ¬ pos < l.length) :
  (Instr.next (.pointer (some ⟨I,0,none⟩)) true ty).run P w = .ok (.tuple #[.bool false]) w:=run_next_out w I (bs l) pos ty hI (by rw [bs_size]; exact h)
def EffM (w : World) : Prop:=∀ k,k < 24 → w.cell? ⟨1,k * 2,none⟩ = some (.string (bs (effs.getD k ([],[])).1)) ∧ w.cell? ⟨1,k * 2 + 1,none⟩ = some (.string (bs (effs.getD k ([],[])).2))
theorem EffM.below {w w' : World} {base : Nat} (h : EffM w) (hB : Below base w w') (hg : 1 < base) : EffM w':=fun k hk => by
 obtain ⟨h1,h2⟩:=h k hk
 exact ⟨(World.cell?_of_block (hB.block _ hg)).trans h1,(World.cell?_of_block (hB.block _ hg)).trans h2⟩
theorem effs_repl : ∀ k,k < 24 → (Lib.countByte (effs.getD k ([],[])).1 82 = 0 ∨ (effs.getD k ([],[])).1 = [82]) ∧ (Lib.countByte (effs.getD k ([],[])).2 82 = 0 ∨ (effs.getD k ([],[])).2 = [82]):=by decide
theorem regV_two (a : UInt8) : regV a = [84] ∨ regV a = [78]:=by unfold regV; split <;> simp
theorem replV_mem {s r : List UInt8} {c : UInt8} (h : c ∈ replV s r) : c ∈ s ∨ (s = [82] ∧ c ∈ r):=by
 unfold replV at h
 split at h
 ·rename_i e; exact .inr ⟨e,h⟩
 ·exact .inl h
theorem effs_f1 : ∀ k,k < 24 → (∀ c ∈ (effs.getD k ([],[])).1,c.toNat < 128):=by decide
theorem effs_f2 : ∀ k,k < 24 → (∀ c ∈ (effs.getD k ([],[])).2,c = 49 ∨ c = 50 ∨ c = 84 ∨ c = 78 ∨ c = 82):=by decide
theorem effs_f3 : ∀ k,k < 24 → (82 ∈ (effs.getD k ([],[])).2 → (effs.getD k ([],[])).2 = [82]):=by decide
theorem effs_f4 : ∀ k,k < 24 → (49 ∈ (effs.getD k ([],[])).2 → 1 ≤ (effs.getD k ([],[])).1.length):=by decide
theorem effs_f5 : ∀ k,k < 24 → (50 ∈ (effs.getD k ([],[])).2 → 2 ≤ (effs.getD k ([],[])).1.length):=by decide
theorem effs_f6 : ∀ k,k < 24 → ((effs.getD k ([],[])).1.length ≤ 3):=by decide
theorem effs_f7 : ∀ k,k < 24 → ((effs.getD k ([],[])).2.length ≤ 2):=by decide
theorem eff_facts (x : VI) (hx : x.1.toNat < 24) : (∀ c ∈ (effV x).1,c.toNat < 128) ∧ (∀ c ∈ (effV x).2,c = 49 ∨ c = 50 ∨ c = 84 ∨ c = 78) ∧ (49 ∈ (effV x).2 → 1 ≤ (effV x).1.length) ∧ (50 ∈ (effV x).2 → 2 ≤ (effV x).1.length) ∧ (effV x).1.length ≤ 3 ∧ (effV x).2.length ≤ 2:=by
 have f1:=effs_f1 x.1.toNat hx
 have f2:=effs_f2 x.1.toNat hx
 have f3:=effs_f3 x.1.toNat hx
 have f4:=effs_f4 x.1.toNat hx
 have f5:=effs_f5 x.1.toNat hx
 have f6:=effs_f6 x.1.toNat hx
 have f7:=effs_f7 x.1.toNat hx
 have hl : ∀ s : List UInt8,(replV s (regV x.2)).length = s.length:=fun s => by
  unfold replV
  split
  ·rename_i h; rw [h]; rcases regV_two x.2 with e | e <;> rw [e] <;> rfl
  ·rfl
 unfold effV
 refine ⟨fun c hc => ?_,fun c hc => ?_,fun hc => ?_,fun hc => ?_,by rw [hl]; exact f6,by rw [hl]; exact f7⟩
 ·rcases replV_mem hc with h | ⟨_,h⟩
  ·exact f1 c h
  ·rcases regV_two x.2 with e | e <;> (rw [e,List.mem_singleton] at h; subst h; decide)
 ·rcases replV_mem hc with h | ⟨_,h⟩
  ·rcases f2 c h with h1 | h1 | h1 | h1 | h1
   ·exact .inl h1
   ·exact .inr (.inl h1)
   ·exact .inr (.inr (.inl h1))
   ·exact .inr (.inr (.inr h1))
   ·exfalso
    subst h1
    have:=f3 h
    unfold replV at hc
    rw [if_pos this] at hc
    rcases regV_two x.2 with e | e <;> (rw [e] at hc; simp at hc)
  ·rcases regV_two x.2 with e | e <;> (rw [e,List.mem_singleton] at h; subst h; simp)
 ·rw [hl]
  rcases replV_mem hc with h | ⟨_,h⟩
  ·exact f4 h
  ·rcases regV_two x.2 with e | e <;> (rw [e] at h; simp at h)
 ·rw [hl]
  rcases replV_mem hc with h | ⟨_,h⟩
  ·exact f5 h
  ·rcases regV_two x.2 with e | e <;> (rw [e] at h; simp at h)
theorem fitV_iff : ∀ (t u : List UInt8),t.length ≤ u.length → (fitV t u = true ↔ ∀ j (h : j < t.length) (h' : j < u.length),t[j] = 63 ∨ t[j] = u[j])
 | [],u,_ => by simp [fitV]
 | a :: t,[],h => by simp at h
 | a :: t,b :: u,h => by
  rw [fitV,Bool.and_eq_true,fitV_iff t u (by simpa using h)]
  constructor
  ·rintro ⟨h1,h2⟩ j hj hj'
   cases j with
   | zero => simpa using h1
   | succ j => exact h2 j (by simpa using hj) (by simpa using hj')
  ·intro h3
   have h4 : a = 63 ∨ a = b:=h3 0 (by simp) (by simp)
   refine ⟨by simpa using h4,fun j hj hj' => ?_⟩
   exact h3 (j + 1) (by simpa using hj) (by simpa using hj')
theorem givesV_succ {top g : List UInt8} {k : Nat} (h : k < g.length) : givesV top (g.take (k + 1)) = givesV top (g.take k) ++ (if g[k] = 49 then top.take 1 else if g[k] = 50 then (top.drop 1).take 1 else [g[k]]):=by
 unfold givesV
 rw [List.take_succ_eq_append_getElem h,List.flatMap_append]
 simp
theorem givesV_len (top : List UInt8) : ∀ g : List UInt8,(givesV top g).length ≤ g.length
 | [] => by simp [givesV]
 | c :: g => by
  have ih:=givesV_len top g
  unfold givesV at ih ⊢
  rw [List.flatMap_cons,List.length_append,List.length_cons]
  have : (if c = 49 then top.take 1 else if c = 50 then (top.drop 1).take 1 else [c]).length ≤ 1:=by
   split
   ·rw [List.length_take]; omega
   ·split
    ·rw [List.length_take]; omega
    ·simp
  omega
end Go.Proofs.YtehllcbnheicoaaGreatDoor
