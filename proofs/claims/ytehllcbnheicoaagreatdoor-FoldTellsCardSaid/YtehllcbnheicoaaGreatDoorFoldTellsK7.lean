/- Lemmas for FoldTells, part 7: walks of the functions that it reaches, and the plain laws behind them. -/
import Derived.Lib.AtoiAll
import Derived.Lib.ItoaLen
import Derived.Lib.ParseIntBTie
import Derived.RowKit
import Derived.Test.YtehllcbnheicoaaGreatDoorFoldTellsK1
import Derived.Test.YtehllcbnheicoaaGreatDoorFoldTellsK6
set_option linter.unusedSimpArgs false
set_option linter.unusedVariables false
set_option maxRecDepth 100000
set_option maxHeartbeats 16000000
namespace Go.Proofs.YtehllcbnheicoaaGreatDoor
open Go.RowKit Oct
structure Pt (base : Nat) where
 fp : Nat → Prop
 P : World → Prop
 frame : ∀ {X : Nat → Prop} {w w' : World},P w → Chg X w w' → (∀ k,fp k → ¬ X k) → P w'
 lt : ∀ {w : World},P w → ∀ k,fp k → base ≤ k ∧ k < w.heap.size
def Sep (base : Nat) (w : World) (L : List (Pt base)) : Prop:=(∀ p ∈ L,p.P w) ∧ L.Pairwise fun p q => ∀ k,p.fp k → ¬ q.fp k
def blkPt {base : Nat} (G : Nat) (hG : base ≤ G) (t : TypeId) (cs : List Value) : Pt base :=
 ⟨fun k => k = G,fun w => Blk w G t cs,fun h hc hX => h.chg hc (hX _ rfl),fun h k hk => by subst hk; exact ⟨hG,h.lt⟩⟩
def ownPt {base : Nat} {α : Type} (R : Rec α) (v : Value) (l : List α) : Pt base :=
 ⟨fun k => v.ownBlock = some k,fun w => R.Own w base v l,fun h hc hX => h.chgV hc hX,fun h k hk => h.ltV k hk⟩
section
variable {base : Nat} {w w' : World} {L : List (Pt base)} {X : Nat → Prop}
theorem Sep.get (h : Sep base w L) {i : Nat} {p : Pt base} (hi : L[i]? = some p) : p.P w:=h.1 p (List.mem_of_getElem? hi)
theorem Sep.apart (h : Sep base w L) {i j : Nat} {p q : Pt base} (hi : L[i]? = some p) (hj : L[j]? = some q) (hij : i ≠ j) : ∀ k,p.fp k → ¬ q.fp k:=by
 obtain ⟨hi',ei⟩:=List.getElem?_eq_some_iff.1 hi
 obtain ⟨hj',ej⟩:=List.getElem?_eq_some_iff.1 hj
 have hp:=List.pairwise_iff_getElem.1 h.2
 rcases Nat.lt_or_gt_of_ne hij with hlt | hlt
 ·have:=hp i j hi' hj' hlt
  rw [ei,ej] at this
  exact this
 ·have:=hp j i hj' hi' hlt
  rw [ei,ej] at this
  exact fun k hk hk' => this k hk' hk
theorem Sep.below (h : Sep base w L) (hB : Below w.heap.size w w') : Sep base w' L :=
 ⟨fun p hp => p.frame (h.1 p hp) (X:=fun _ => False) ⟨hB.os,hB.tape,hB.output,hB.size,fun k hk _ => hB.block k hk⟩ (fun _ _ hx => hx),h.2⟩
theorem Sep.upd (h : Sep base w L) {i : Nat} {p : Pt base} (hi : L[i]? = some p) (hc : Chg X w w') (hX : ∀ k,X k → p.fp k) (q : Pt base) (hq : q.P w') (hf : ∀ k,q.fp k → p.fp k ∨ w.heap.size ≤ k) : Sep base w' (L.set i q):=by
 obtain ⟨hi',ei⟩:=List.getElem?_eq_some_iff.1 hi
 have hp:=List.pairwise_iff_getElem.1 h.2
 refine ⟨fun r hr => ?_,List.pairwise_iff_getElem.2 fun a b ha hb hab => ?_⟩
 ·obtain ⟨j,hj⟩:=List.mem_iff_getElem?.1 hr
  rw [List.getElem?_set] at hj
  split at hj
  ·rename_i hij
   injection hj with hj
   subst hj
   exact hq
  ·rename_i hij
   exact r.frame (h.get hj) hc fun k hk hx => h.apart hj hi (fun e => hij e.symm) k hk (hX k hx)
 ·rw [List.length_set] at ha hb
  rw [List.getElem_set,List.getElem_set]
  have lt : ∀ j (hj : j < L.length),∀ k,(L[j]).fp k → k < w.heap.size:=fun j hj k hk => ((L[j]).lt (h.1 _ (List.getElem_mem hj)) k hk).2
  split
  ·rename_i hia
   rw [if_neg (by omega)]
   intro k hk hk'
   rcases hf k hk with hk | hk
   ·exact h.apart hi (List.getElem?_eq_getElem hb) (by omega) k hk hk'
   ·have:=lt b hb k hk'; omega
  ·rename_i hia
   split
   ·intro k hk hk'
    rcases hf k hk' with hk' | hk'
    ·exact h.apart (List.getElem?_eq_getElem ha) hi (by omega) k hk hk'
    ·have:=lt a ha k hk; omega
   ·exact hp a b ha hb hab
theorem Sep.updB (h : Sep base w L) {i : Nat} {p : Pt base} (hi : L[i]? = some p) (hc : Chg X w w') (hX : ∀ k,X k → p.fp k) (hb : base ≤ w.heap.size) : Below base w w':=by
 refine hc.below (fun k hk => ?_) hb
 exact (p.lt (h.get hi) k (hX k hk)).1
theorem Sep.same (h : Sep base w L) {i : Nat} {p : Pt base} (hi : L[i]? = some p) (q : Pt base) (hq : q.P w) (hf : ∀ k,q.fp k → p.fp k) : Sep base w (L.set i q) :=
 h.upd hi (X:=fun _ => False) (Chg.refl _ _) (fun _ hx => hx.elim) q hq fun k hk => .inl (hf k hk)
theorem Sep.snoc (h : Sep base w L) (hB : Below w.heap.size w w') (p : Pt base) (hp : p.P w') (hf : ∀ k,p.fp k → w.heap.size ≤ k) : Sep base w' (L ++ [p]):=by
 have h':=h.below hB
 refine ⟨fun q hq => ?_,List.pairwise_append.2 ⟨h.2,List.pairwise_singleton _ _,fun a ha b hb k hk hk' => ?_⟩⟩
 ·rcases List.mem_append.1 hq with hq | hq
  ·exact h'.1 q hq
  ·rw [List.mem_singleton] at hq
   subst hq
   exact hp
 ·rw [List.mem_singleton] at hb
  subst hb
  have h1:=(a.lt (h.1 a ha) k hk).2
  have h2:=hf k hk'
  omega
theorem Sep.init {p : List (Pt base)} (h : Sep base w (L ++ p)) : Sep base w L:=⟨fun q hq => h.1 q (List.mem_append_left _ hq),(List.pairwise_append.1 h.2).1⟩
end
end Go.Proofs.YtehllcbnheicoaaGreatDoor
namespace Go.Proofs.YtehllcbnheicoaaGreatDoor
theorem runV_nil (nt inp : Nat) (role : UInt8) (i : Nat) (s : Vs) : runV nt inp role i [] s = (i,overV role s,s):=rfl
theorem runV_ok {nt inp : Nat} {role : UInt8} {i : Nat} {x : VI} {r : List VI} {s : Vs} (h : (oneV nt inp role i x s).1 = 0) : runV nt inp role i (x :: r) s = runV nt inp role (i + 1) r (oneV nt inp role i x s).2:=by rw [runV,if_pos h]
theorem runV_bad {nt inp : Nat} {role : UInt8} {i : Nat} {x : VI} {r : List VI} {s : Vs} (h : (oneV nt inp role i x s).1 ≠ 0) : runV nt inp role i (x :: r) s = (i,(oneV nt inp role i x s).1,(oneV nt inp role i x s).2):=by rw [runV,if_neg h]
theorem effs_len : effs.length = 24:=by decide
theorem oneV_there {nt inp : Nat} {role : UInt8} {i : Nat} {x : VI} {s : Vs} (h : (oneV nt inp role i x s).1 = 0) : thereV nt inp role s.blocks x = 0:=by
 unfold oneV at h
 split at h
 ·rename_i h0; exact absurd h h0
 ·rename_i h0; simpa using h0
theorem throughV_ok {texts : List (List UInt8)} {code : List VI} {role : UInt8} (h : (throughV texts code role).2.1 = 0) : mayV texts code = true ∧ roleOk role = true ∧ ∃ n,runV texts.length (inputsV role) role 0 code (startV code.length) = (n,0,(throughV texts code role).2.2):=by
 unfold throughV at h ⊢
 split at h
 ·rename_i hm
  rw [Bool.and_eq_true] at hm
  refine ⟨hm.1,hm.2,?_⟩
  rw [if_pos (by rw [hm.1,hm.2]; rfl)]
  split at h
  ·rename_i h0
   rw [if_pos h0]
   exact ⟨_,Prod.ext rfl (Prod.ext h0 rfl)⟩
  ·rename_i h0
   exact absurd h h0
 ·cases h
def opensV (op : UInt8) : Bool:=op == 19 || op == 22 || op == 20
def stV (nt inp : Nat) (role : UInt8) (code : List VI) : Nat → Vs
 | 0 => startV code.length
 | i + 1 => (oneV nt inp role i (code.getD i (0,0)) (stV nt inp role code i)).2
theorem runV_st {nt inp : Nat} {role : UInt8} {code : List VI} {n : Nat} {t : Vs} : ∀ (r : List VI) (i : Nat),r = code.drop i → i ≤ code.length → runV nt inp role i r (stV nt inp role code i) = (n,0,t) →
  (∀ j,i ≤ j → j < code.length → (oneV nt inp role j (code.getD j (0,0)) (stV nt inp role code j)).1 = 0) ∧ stV nt inp role code code.length = t ∧ overV role t = 0
 | [],i,hr,hi,h => by
  have hl : i = code.length:=by
   have:=congrArg List.length hr
   simp at this; omega
  subst hl
  rw [runV_nil] at h
  injection h with _ h
  injection h with h1 h2
  exact ⟨fun j h1 h2 => by omega,h2,by rw [← h2]; exact h1⟩
 | x :: r,i,hr,hi,h => by
  have hlt : i < code.length:=by
   rcases Nat.lt_or_ge i code.length with h' | h'
   ·exact h'
   ·rw [List.drop_of_length_le h'] at hr; cases hr
  rw [List.drop_eq_getElem_cons hlt] at hr
  injection hr with hx hr
  have hx' : code.getD i (0,0) = x:=by rw [List.getD,List.getElem?_eq_getElem hlt,hx]; rfl
  by_cases h0 : (oneV nt inp role i x (stV nt inp role code i)).1 = 0
  ·rw [runV_ok h0] at h
   have hst : stV nt inp role code (i + 1) = (oneV nt inp role i x (stV nt inp role code i)).2:=by rw [stV,hx']
   rw [← hst] at h
   obtain ⟨g1,g2⟩:=runV_st r (i + 1) hr hlt h
   refine ⟨fun j h1 h2 => ?_,g2⟩
   by_cases e : j = i
   ·subst e; rw [hx']; exact h0
   ·exact g1 j (by omega) h2
  ·rw [runV_bad h0] at h
   injection h with _ h
   injection h with h1 h2
   exact absurd h1 h0
theorem effV_none (x : VI) (h : x.1 = 20 ∨ x.1 = 21) : effV x = ([],[]):=by
 obtain ⟨p,a⟩:=x
 rcases h with h | h
 ·obtain rfl : p = 20:=h
  rfl
 ·obtain rfl : p = 21:=h
  rfl
theorem effV_one (x : VI) (h : x.1 = 19 ∨ x.1 = 22) : (effV x).1.length = 1 ∧ (effV x).2 = []:=by
 obtain ⟨p,a⟩:=x
 rcases h with h | h
 ·obtain rfl : p = 19:=h
  exact ⟨rfl,rfl⟩
 ·obtain rfl : p = 22:=h
  exact ⟨rfl,rfl⟩
theorem valuesV_none {k : List UInt8} {x : VI} (h : x.1 = 20 ∨ x.1 = 21) : (valuesV k x).2 = k:=by
 have he:=effV_none x h
 unfold valuesV
 rw [he]
 split
 ·rfl
 split
 ·rfl
 split
 ·rfl
 simp [givesV]
theorem valuesV_one {k : List UInt8} {x : VI} (h : x.1 = 19 ∨ x.1 = 22) (h0 : (valuesV k x).1 = 0) : (valuesV k x).2 = k.take (k.length - min 1 k.length):=by
 obtain ⟨h1,h2⟩:=effV_one x h
 unfold valuesV at h0 ⊢
 rw [h1,h2] at h0 ⊢
 split at h0
 ·cases h0
 rename_i hl
 rw [if_neg hl]
 split at h0
 ·cases h0
 rename_i hf
 rw [if_neg hf]
 split at h0
 ·cases h0
 rename_i hm
 rw [if_neg hm]
 show k.take (k.length - 1) ++ [] = _
 rw [List.append_nil]
 congr 1
 omega
theorem valuesV_le {k : List UInt8} {x : VI} (h0 : (valuesV k x).1 = 0) : (valuesV k x).2.length ≤ 16 ∧ (x.1 = 22 → (valuesV k x).2.length < 16):=by
 unfold valuesV at h0 ⊢
 split at h0
 ·cases h0
 rename_i hl
 rw [if_neg hl]
 split at h0
 ·cases h0
 rename_i hf
 rw [if_neg hf]
 split at h0
 ·cases h0
 rename_i hm
 rw [if_neg hm]
 obtain ⟨r,hr⟩ : ∃ r,r = k.take (k.length - (effV x).1.length) ++ givesV (k.drop (k.length - (effV x).1.length)) (effV x).2:=⟨_,rfl⟩
 rw [← hr] at hm ⊢
 refine ⟨?_,fun e => ?_⟩
 ·show r.length ≤ 16
  omega
 ·show r.length < 16
  have : ¬ 16 ≤ r.length:=fun h => hm (.inl ⟨e,h⟩)
  omega
inductive StepB (i : Nat) (x : VI) (s s' : Vs) : Prop where
 | push (h : x.1 = 19 ∨ x.1 = 22) (k : List UInt8) (hk : k = s.kinds.take (s.kinds.length - min 1 s.kinds.length)) (hb : s'.blocks = s.blocks ++ [⟨x.1,k,k,i,false⟩]) (he : s'.ends = s.ends)
 | turn (h : x.1 = 20) (r : List Vb) (b : Vb) (hl : s.blocks = r ++ [b]) (hb : s'.blocks = r ++ [{ b with want:=s.kinds,at_:=i,did:=true }]) (he : s'.ends = s.ends.set b.at_ (i : Int))
 | pop (h : x.1 = 21) (r : List Vb) (b : Vb) (hl : s.blocks = r ++ [b]) (hk : s.kinds = b.want) (hb : s'.blocks = r) (he : s'.ends = s.ends.set b.at_ (i : Int))
 | rest (h : opensV x.1 = false ∧ x.1 ≠ 21) (hb : s'.blocks = s.blocks) (he : s'.ends = s.ends)
theorem getLast_split {α : Type} {l : List α} {b : α} (h : l.getLast? = some b) : l = l.dropLast ++ [b]:=by
 obtain ⟨ys,rfl⟩:=List.getLast?_eq_some_iff.1 h
 rw [List.dropLast_concat]
theorem oneV_step {nt inp : Nat} {role : UInt8} {i : Nat} {x : VI} {s : Vs} (hk : s.kinds.length ≤ 16) (h0 : (oneV nt inp role i x s).1 = 0) :
  StepB i x s (oneV nt inp role i x s).2 ∧ (oneV nt inp role i x s).2.seen = s.seen ++ [s.kinds] ∧ (oneV nt inp role i x s).2.deep = max s.deep (oneV nt inp role i x s).2.kinds.length:=by
 have ht:=oneV_there h0
 have hbl : x.1 = 20 ∨ x.1 = 21 → s.blocks ≠ []:=by
  intro e hb
  unfold thereV at ht
  rw [hb] at ht
  rcases e with e | e
  ·rw [e] at ht
   revert ht
   simp [elseBad]
  ·rw [e] at ht
   revert ht
   simp
 unfold oneV at h0 ⊢
 rw [if_neg (by rw [ht]; simp)] at h0 ⊢
 split at h0
 ·rename_i hv; exact absurd h0 hv
 rename_i hv
 rw [if_neg hv]
 have hv0 : (valuesV s.kinds x).1 = 0:=by simpa using hv
 clear hv
 have hcn:=@valuesV_none s.kinds x
 have hco : x.1 = 19 ∨ x.1 = 22 → _:=fun h => valuesV_one (k:=s.kinds) h hv0
 obtain ⟨k',hk'⟩ : ∃ k',k' = (valuesV s.kinds x).2:=⟨_,rfl⟩
 rw [← hk'] at hcn hco h0
 simp only [← hk']
 unfold turnsV at h0 ⊢
 by_cases h19 : x.1 = 19
 ·simp only [h19,if_true] at h0 ⊢
  exact ⟨.push (.inl h19) k' (hco (.inl h19)) (by rw [h19]) rfl,(by first | trivial | rfl),(by first | trivial | rfl)⟩
 by_cases h22 : x.1 = 22
 ·rw [if_neg h19,if_pos h22]
  exact ⟨.push (.inr h22) k' (hco (.inr h22)) (by rw [h22]) rfl,(by first | trivial | rfl),(by first | trivial | rfl)⟩
 rw [if_neg h19,if_neg h22] at h0 ⊢
 by_cases h20 : x.1 = 20
 ·have hk2:=hcn (.inl h20)
  have hne:=hbl (.inl h20)
  rw [if_pos h20] at h0 ⊢
  cases hb : s.blocks.getLast? with
  | none => exact absurd (List.getLast?_eq_none_iff.1 hb) hne
  | some b =>
   refine ⟨.turn h20 s.blocks.dropLast b (getLast_split hb) ?_ rfl,(by first | trivial | rfl),(by first | trivial | rfl)⟩
   simp only [hk2]
 rw [if_neg h20] at h0 ⊢
 by_cases h21 : x.1 = 21
 ·have hk2:=hcn (.inr h21)
  have hne:=hbl (.inr h21)
  rw [if_pos h21] at h0 ⊢
  cases hb : s.blocks.getLast? with
  | none => exact absurd (List.getLast?_eq_none_iff.1 hb) hne
  | some b =>
   simp only [hb] at h0 ⊢
   by_cases hw : k' = b.want
   ·rw [if_pos hw]
    exact ⟨.pop h21 s.blocks.dropLast b (getLast_split hb) (by rw [← hk2]; exact hw) rfl rfl,(by first | trivial | rfl),(by first | trivial | rfl)⟩
   ·rw [if_neg hw] at h0; cases h0
 rw [if_neg h21]
 refine ⟨.rest ⟨?_,h21⟩ rfl rfl,(by first | trivial | rfl),(by first | trivial | rfl)⟩
 unfold opensV
 simp [h19,h22,h20]
def opV (code : List VI) (j : Nat) : UInt8:=(code.getD j (0,0)).1
def shortK (k : List UInt8) : List UInt8:=k.take (k.length - min 1 k.length)
structure InvB (code : List VI) (i : Nat) (s : Vs) : Prop where
 sl : s.seen.length = i
 el : s.ends.length = code.length
 sk : ∀ k ∈ s.seen,k.length ≤ 16
 st : (s.blocks.map Vb.at_).Pairwise (· < ·)
 bl : ∀ b ∈ s.blocks,b.at_ < i ∧ opensV (opV code b.at_) = true ∧ (b.did = true ↔ opV code b.at_ = 20) ∧ b.want = (if b.did = true then s.seen.getD b.at_ [] else shortK (s.seen.getD b.at_ []))
 en : ∀ j,j < code.length → (s.ends.getD j 0 = 0 ∧ (j < i → opensV (opV code j) = true → j ∈ s.blocks.map Vb.at_)) ∨ (j < i ∧ opensV (opV code j) = true ∧ (j : Int) < s.ends.getD j 0 ∧ s.ends.getD j 0 < (i : Int) ∧ j ∉ s.blocks.map Vb.at_)
theorem getD_leftB {α : Type} {l r : List α} {j : Nat} {d : α} (h : j < l.length) : (l ++ r).getD j d = l.getD j d:=by
 simp [List.getD,List.getElem?_append_left h]
theorem getD_midB {α : Type} {l : List α} {x d : α} : (l ++ [x]).getD l.length d = x:=by simp [List.getD]
theorem getD_setNeB {l : List Int} {a j : Nat} {v : Int} (h : a ≠ j) : (l.set a v).getD j 0 = l.getD j 0:=by simp [List.getD,List.getElem?_set,h]
theorem getD_setEqB {l : List Int} {a : Nat} {v : Int} (h : a < l.length) : (l.set a v).getD a 0 = v:=by simp [List.getD,h]
theorem InvB.old {code : List VI} {i : Nat} {s : Vs} (h : InvB code i s) {b : Vb} (hb : b ∈ s.blocks) {k : List UInt8} : b.at_ < i + 1 ∧ opensV (opV code b.at_) = true ∧ (b.did = true ↔ opV code b.at_ = 20) ∧ b.want = (if b.did = true then (s.seen ++ [k]).getD b.at_ [] else shortK ((s.seen ++ [k]).getD b.at_ [])):=by
 obtain ⟨h1,h2,h3,h4⟩:=h.bl b hb
 rw [getD_leftB (by rw [h.sl]; exact h1)]
 exact ⟨by omega,h2,h3,h4⟩
theorem st_split {r : List Vb} {b : Vb} (h : ((r ++ [b]).map Vb.at_).Pairwise (· < ·)) : (r.map Vb.at_).Pairwise (· < ·) ∧ ∀ a ∈ r.map Vb.at_,a < b.at_:=by
 rw [List.map_append,List.pairwise_append] at h
 exact ⟨h.1,fun a ha => h.2.2 a ha b.at_ (by simp)⟩
theorem InvB.step {code : List VI} {i : Nat} {s s' : Vs} (h : InvB code i s) (hi : i < code.length) (hk : s.kinds.length ≤ 16) (hs : StepB i (code.getD i (0,0)) s s') (hseen : s'.seen = s.seen ++ [s.kinds]) : InvB code (i + 1) s':=by
 have hop : opV code i = (code.getD i (0,0)).1:=rfl
 have hsl : s'.seen.length = i + 1:=by rw [hseen,List.length_append,h.sl]; rfl
 have hsk : ∀ k ∈ s'.seen,k.length ≤ 16:=by
  intro k hk'
  rw [hseen] at hk'
  rcases List.mem_append.1 hk' with h1 | h1
  ·exact h.sk k h1
  ·rw [List.mem_singleton] at h1; subst h1; exact hk
 have hmid : (s.seen ++ [s.kinds]).getD i [] = s.kinds:=by rw [← h.sl]; exact getD_midB
 have hlt : ∀ a ∈ s.blocks.map Vb.at_,a < i:=by
  intro a ha
  obtain ⟨b,hb,rfl⟩:=List.mem_map.1 ha
  exact (h.bl b hb).1
 rcases hs with ⟨hx,k,hkk,hb,he⟩ | ⟨hx,r,b,hl,hb,he⟩ | ⟨hx,r,b,hl,hkw,hb,he⟩ | ⟨hx,hb,he⟩
 ·refine ⟨hsl,by rw [he]; exact h.el,hsk,?_,?_,?_⟩
  ·rw [hb,List.map_append,List.pairwise_append]
   exact ⟨h.st,by simp,fun a ha c hc => by simp at hc; subst hc; exact hlt a ha⟩
  ·intro c hc
   rw [hb] at hc
   rw [hseen]
   rcases List.mem_append.1 hc with hc | hc
   ·exact h.old hc
   ·rw [List.mem_singleton] at hc; subst hc
    refine ⟨Nat.lt_succ_self i,?_,?_,?_⟩
    ·show opensV (opV code i) = true
     rw [hop]; unfold opensV; rcases hx with e | e <;> rw [e] <;> rfl
    ·show false = true ↔ opV code i = 20
     rw [hop]; rcases hx with e | e <;> rw [e] <;> simp
    ·show k = if false = true then _ else shortK ((s.seen ++ [s.kinds]).getD i [])
     rw [hmid,hkk]; rfl
  ·intro j hj
   rw [he,hb,List.map_append]
   rcases h.en j hj with ⟨h1,h2⟩ | ⟨h1,h2,h3,h4,h5⟩
   ·refine .inl ⟨h1,fun h3 h4 => List.mem_append.2 ?_⟩
    by_cases e : j = i
    ·exact .inr (by simp [e])
    ·exact .inl (h2 (by omega) h4)
   ·refine .inr ⟨by omega,h2,h3,by omega,fun hm => ?_⟩
    rcases List.mem_append.1 hm with hm | hm
    ·exact h5 hm
    ·simp at hm; omega
 ·have hbm : b ∈ s.blocks:=by rw [hl]; simp
  obtain ⟨b1,b2,b3,b4⟩:=h.bl b hbm
  obtain ⟨st1,st2⟩:=st_split (by rw [← hl]; exact h.st)
  have hrm : ∀ a ∈ r.map Vb.at_,a ∈ s.blocks.map Vb.at_:=fun a ha => by rw [hl,List.map_append]; exact List.mem_append.2 (.inl ha)
  refine ⟨hsl,by rw [he,List.length_set]; exact h.el,hsk,?_,?_,?_⟩
  ·rw [hb,List.map_append,List.pairwise_append]
   exact ⟨st1,by simp,fun a ha c hc => by simp at hc; subst hc; exact hlt a (hrm a ha)⟩
  ·intro c hc
   rw [hb] at hc
   rw [hseen]
   rcases List.mem_append.1 hc with hc | hc
   ·exact h.old (by rw [hl]; exact List.mem_append.2 (.inl hc))
   ·rw [List.mem_singleton] at hc; subst hc
    refine ⟨Nat.lt_succ_self i,?_,?_,?_⟩
    ·show opensV (opV code i) = true
     rw [hop,hx]; rfl
    ·show true = true ↔ opV code i = 20
     rw [hop,hx]; simp
    ·show s.kinds = if true = true then (s.seen ++ [s.kinds]).getD i [] else _
     rw [hmid]; rfl
  ·intro j hj
   rw [he,hb,List.map_append]
   by_cases ej : b.at_ = j
   ·subst ej
    rw [getD_setEqB (by rw [h.el]; exact hj)]
    refine .inr ⟨by omega,b2,by omega,by omega,fun hm => ?_⟩
    rcases List.mem_append.1 hm with hm | hm
    ·have:=st2 _ hm; omega
    ·simp at hm; omega
   ·rw [getD_setNeB ej]
    rcases h.en j hj with ⟨h1,h2⟩ | ⟨h1,h2,h3,h4,h5⟩
    ·refine .inl ⟨h1,fun h3 h4 => List.mem_append.2 ?_⟩
     by_cases e : j = i
     ·exact .inr (by simp [e])
     ·have:=h2 (by omega) h4
      rw [hl,List.map_append] at this
      rcases List.mem_append.1 this with hm | hm
      ·exact .inl hm
      ·simp at hm; exact absurd hm.symm ej
    ·refine .inr ⟨by omega,h2,h3,by omega,fun hm => ?_⟩
     rcases List.mem_append.1 hm with hm | hm
     ·exact h5 (hrm j hm)
     ·simp at hm; omega
 ·have hbm : b ∈ s.blocks:=by rw [hl]; simp
  obtain ⟨b1,b2,b3,b4⟩:=h.bl b hbm
  obtain ⟨st1,st2⟩:=st_split (by rw [← hl]; exact h.st)
  have hrm : ∀ a ∈ r.map Vb.at_,a ∈ s.blocks.map Vb.at_:=fun a ha => by rw [hl,List.map_append]; exact List.mem_append.2 (.inl ha)
  refine ⟨hsl,by rw [he,List.length_set]; exact h.el,hsk,by rw [hb]; exact st1,?_,?_⟩
  ·intro c hc
   rw [hb] at hc
   rw [hseen]
   exact h.old (by rw [hl]; exact List.mem_append.2 (.inl hc))
  ·intro j hj
   rw [he,hb]
   by_cases ej : b.at_ = j
   ·subst ej
    rw [getD_setEqB (by rw [h.el]; exact hj)]
    refine .inr ⟨by omega,b2,by omega,by omega,fun hm => ?_⟩
    have:=st2 _ hm; omega
   ·rw [getD_setNeB ej]
    rcases h.en j hj with ⟨h1,h2⟩ | ⟨h1,h2,h3,h4,h5⟩
    ·refine .inl ⟨h1,fun h3 h4 => ?_⟩
     by_cases e : j = i
     ·subst e
      rw [hop,hx] at h4; cases h4
     ·have:=h2 (by omega) h4
      rw [hl,List.map_append] at this
      rcases List.mem_append.1 this with hm | hm
      ·exact hm
      ·simp at hm; exact absurd hm.symm ej
    ·exact .inr ⟨by omega,h2,h3,by omega,fun hm => h5 (hrm j hm)⟩
 ·refine ⟨hsl,by rw [he]; exact h.el,hsk,by rw [hb]; exact h.st,?_,?_⟩
  ·intro c hc
   rw [hb] at hc
   rw [hseen]
   exact h.old hc
  ·intro j hj
   rw [he,hb]
   rcases h.en j hj with ⟨h1,h2⟩ | ⟨h1,h2,h3,h4,h5⟩
   ·refine .inl ⟨h1,fun h3 h4 => ?_⟩
    by_cases e : j = i
    ·subst e
     rw [hop,hx.1] at h4; cases h4
    ·exact h2 (by omega) h4
   ·exact .inr ⟨by omega,h2,h3,by omega,h5⟩
theorem StepB.keep {i : Nat} {x : VI} {s s' : Vs} (hs : StepB i x s s') {j : Nat} (hj : j < i) (hn : j ∉ s.blocks.map Vb.at_) : s'.ends.getD j 0 = s.ends.getD j 0 ∧ j ∉ s'.blocks.map Vb.at_:=by
 rcases hs with ⟨_,k,_,hb,he⟩ | ⟨_,r,b,hl,hb,he⟩ | ⟨_,r,b,hl,_,hb,he⟩ | ⟨_,hb,he⟩
 ·rw [he,hb,List.map_append]
  refine ⟨rfl,fun hm => ?_⟩
  rcases List.mem_append.1 hm with hm | hm
  ·exact hn hm
  ·simp at hm; omega
 ·rw [hl,List.map_append] at hn
  rw [he,hb,List.map_append]
  refine ⟨getD_setNeB (fun e => hn (List.mem_append.2 (.inr (by simp [e])))),fun hm => ?_⟩
  rcases List.mem_append.1 hm with hm | hm
  ·exact hn (List.mem_append.2 (.inl hm))
  ·simp at hm; omega
 ·rw [hl,List.map_append] at hn
  rw [he,hb]
  exact ⟨getD_setNeB (fun e => hn (List.mem_append.2 (.inr (by simp [e])))),fun hm => hn (List.mem_append.2 (.inl hm))⟩
 ·rw [he,hb]
  exact ⟨rfl,hn⟩
theorem startV_inv (code : List VI) : InvB code 0 (startV code.length):=by
 refine ⟨rfl,by simp [startV],fun k hk => by simp [startV] at hk,by simp [startV],fun b hb => by simp [startV] at hb,fun j hj => .inl ⟨?_,fun h => by omega⟩⟩
 simp [startV,List.getD,List.getElem?_replicate,hj]
theorem oneV_kinds {nt inp : Nat} {role : UInt8} {i : Nat} {x : VI} {s : Vs} (hw : ∀ b ∈ s.blocks,b.opn.length ≤ 16) (h0 : (oneV nt inp role i x s).1 = 0) :
  (oneV nt inp role i x s).2.kinds.length ≤ 16 ∧ ∀ b ∈ (oneV nt inp role i x s).2.blocks,b.opn.length ≤ 16:=by
 have ht:=oneV_there h0
 unfold oneV at h0 ⊢
 rw [if_neg (by rw [ht]; simp)] at h0 ⊢
 split at h0
 ·rename_i hv; exact absurd h0 hv
 rename_i hv
 rw [if_neg hv]
 have hv0 : (valuesV s.kinds x).1 = 0:=by simpa using hv
 clear hv
 obtain ⟨hle,hlt⟩:=valuesV_le hv0
 obtain ⟨k',hk'⟩ : ∃ k',k' = (valuesV s.kinds x).2:=⟨_,rfl⟩
 rw [← hk'] at hle hlt h0
 simp only [← hk']
 unfold turnsV at h0 ⊢
 by_cases h19 : x.1 = 19
 ·simp only [h19,if_true] at h0 ⊢
  refine ⟨hle,fun b hb => ?_⟩
  rcases List.mem_append.1 hb with hb | hb
  ·exact hw b hb
  ·rw [List.mem_singleton] at hb; subst hb; exact hle
 by_cases h22 : x.1 = 22
 ·rw [if_neg h19,if_pos h22]
  refine ⟨by have:=hlt h22; simp; omega,fun b hb => ?_⟩
  rcases List.mem_append.1 hb with hb | hb
  ·exact hw b hb
  ·rw [List.mem_singleton] at hb; subst hb; exact hle
 rw [if_neg h19,if_neg h22] at h0 ⊢
 by_cases h20 : x.1 = 20
 ·rw [if_pos h20] at h0 ⊢
  cases hb : s.blocks.getLast? with
  | none => exact ⟨hle,hw⟩
  | some b =>
   have hbm : b ∈ s.blocks:=by rw [getLast_split hb]; simp
   refine ⟨hw b hbm,fun c hc => ?_⟩
   rcases List.mem_append.1 hc with hc | hc
   ·exact hw c (List.dropLast_subset _ hc)
   ·rw [List.mem_singleton] at hc; subst hc; exact hw b hbm
 rw [if_neg h20] at h0 ⊢
 by_cases h21 : x.1 = 21
 ·rw [if_pos h21] at h0 ⊢
  cases hb : s.blocks.getLast? with
  | none => exact ⟨hle,hw⟩
  | some b =>
   simp only [hb] at h0 ⊢
   by_cases hwb : k' = b.want
   ·rw [if_pos hwb]
    exact ⟨hle,fun c hc => hw c (List.dropLast_subset _ hc)⟩
   ·rw [if_neg hwb] at h0; cases h0
 rw [if_neg h21]
 exact ⟨hle,hw⟩
structure RunB (nt inp : Nat) (role : UInt8) (code : List VI) (i : Nat) : Prop where
 inv : InvB code i (stV nt inp role code i)
 k : (stV nt inp role code i).kinds.length ≤ 16
 d : (stV nt inp role code i).deep ≤ 16
 w : ∀ b ∈ (stV nt inp role code i).blocks,b.opn.length ≤ 16
theorem stV_run {nt inp : Nat} {role : UInt8} {code : List VI} (hok : ∀ j,j < code.length → (oneV nt inp role j (code.getD j (0,0)) (stV nt inp role code j)).1 = 0) :
  ∀ i,i ≤ code.length → RunB nt inp role code i
 | 0,_ => ⟨startV_inv code,by simp [stV,startV],by simp [stV,startV],fun b hb => by simp [stV,startV] at hb⟩
 | i + 1,hi => by
  obtain ⟨h1,h2,h3,h4⟩:=stV_run hok i (by omega)
  have h0:=hok i (by omega)
  obtain ⟨hs,hseen,hdeep⟩:=oneV_step h2 h0
  obtain ⟨hk,hw⟩:=oneV_kinds h4 h0
  refine ⟨h1.step (by omega) h2 hs hseen,hk,?_,hw⟩
  show (oneV nt inp role i (code.getD i (0,0)) (stV nt inp role code i)).2.deep ≤ 16
  rw [hdeep]
  omega
theorem stV_ends {nt inp : Nat} {role : UInt8} {code : List VI} (hok : ∀ j,j < code.length → (oneV nt inp role j (code.getD j (0,0)) (stV nt inp role code j)).1 = 0) {i j : Nat} (hj : j < i) (hn : j ∉ (stV nt inp role code i).blocks.map Vb.at_) :
  ∀ k,i + k ≤ code.length → (stV nt inp role code (i + k)).ends.getD j 0 = (stV nt inp role code i).ends.getD j 0 ∧ j ∉ (stV nt inp role code (i + k)).blocks.map Vb.at_
 | 0,_ => ⟨rfl,hn⟩
 | k + 1,hk => by
  obtain ⟨ih1,ih2⟩:=stV_ends hok hj hn k (by omega)
  obtain ⟨h1,h2,h3,h4⟩:=stV_run hok (i + k) (by omega)
  obtain ⟨hs,hseen,hdeep⟩:=oneV_step h2 (hok (i + k) (by omega))
  obtain ⟨g1,g2⟩:=hs.keep (j:=j) (by omega) ih2
  exact ⟨g1.trans ih1,g2⟩
end Go.Proofs.YtehllcbnheicoaaGreatDoor
namespace Go.Proofs.YtehllcbnheicoaaGreatDoor
open Go.RowKit
abbrev MV:=Int × List UInt8
structure Mc where
 pc : Nat
 st : List MV
 rg : List MV
 op : List (Nat × List (List UInt8))
 pr : List (List UInt8 × List UInt8)
structure Me where
 tx : List (List UInt8)
 code : List VI
 ins : List (List UInt8)
 ends : List Int
def splitM (c : UInt8) : List UInt8 → List (List UInt8)
 | [] => [[]]
 | x :: r => if x = c then [] :: splitM c r else
  match splitM c r with
  | [] => [[x]]
  | h :: t => (x :: h) :: t
def piecesM (s : List UInt8) (c : UInt8) : List (List UInt8):=if s = [] then [] else splitM c s
def clampM (x : Int) (n : Nat) : Nat:=(min (max x 0) (n : Int)).toNat
def partM (s : List UInt8) (at_ n : Int) : List UInt8:=(s.drop (clampM at_ s.length)).take (clampM n (s.drop (clampM at_ s.length)).length)
def parseM (s : List UInt8) : Int:=match Lib.atoiAll s with
 | .ok v => if Lib.itoa v = s then v else 0
 | _ => 0
def bitM (b : Bool) : MV:=(if b = true then 1 else 0,[])
def loopEnd (E : Me) (i : Nat) : Bool:=(List.range E.code.length).any fun j => (E.code.getD j (0,0)).1 == 22 && E.ends.getD j 0 == (i : Int)
def doN (E : Me) (n : Nat) (y : UInt8) (pc : Nat) (st rg : List MV) (op : List (Nat × List (List UInt8))) (pr : List (List UInt8 × List UInt8)) : Nat × Mc :=
 match n,st with
 | 1,s => (0,⟨pc + 1,(0,E.tx.getD y.toNat []) :: s,rg,op,pr⟩)
 | 2,s => (0,⟨pc + 1,((y.toNat : Int),[]) :: s,rg,op,pr⟩)
 | 3,s => (0,⟨pc + 1,(0,E.ins.getD y.toNat []) :: s,rg,op,pr⟩)
 | 4,b :: a :: s => if 1024 < a.2.length + b.2.length then (5,⟨pc,st,rg,op,pr⟩) else (0,⟨pc + 1,(0,a.2 ++ b.2) :: s,rg,op,pr⟩)
 | 5,a :: s => (0,⟨pc + 1,((a.2.length : Int),[]) :: s,rg,op,pr⟩)
 | 6,n :: a :: t :: s => (0,⟨pc + 1,(0,partM t.2 a.1 n.1) :: s,rg,op,pr⟩)
 | 7,a :: s => (0,⟨pc + 1,(parseM a.2,[]) :: s,rg,op,pr⟩)
 | 8,a :: s => (0,⟨pc + 1,(0,Lib.itoa a.1) :: s,rg,op,pr⟩)
 | 9,b :: a :: s => (0,⟨pc + 1,(wrap64 (a.1 + b.1),[]) :: s,rg,op,pr⟩)
 | 10,b :: a :: s => (0,⟨pc + 1,(wrap64 (a.1 * b.1),[]) :: s,rg,op,pr⟩)
 | 11,b :: a :: s => (0,⟨pc + 1,bitM (decide (a.1 < b.1)) :: s,rg,op,pr⟩)
 | 12,b :: a :: s => (0,⟨pc + 1,bitM (a.2 == b.2) :: s,rg,op,pr⟩)
 | 13,a :: s => (0,⟨pc + 1,bitM (a.1 == 0) :: s,rg,op,pr⟩)
 | 14,_ :: s => (0,⟨pc + 1,s,rg,op,pr⟩)
 | 15,a :: s => (0,⟨pc + 1,a :: a :: s,rg,op,pr⟩)
 | 16,b :: a :: s => (0,⟨pc + 1,a :: b :: s,rg,op,pr⟩)
 | 17,s => (0,⟨pc + 1,rg.getD y.toNat (0,[]) :: s,rg,op,pr⟩)
 | 18,a :: s => (0,⟨pc + 1,s,rg.set y.toNat a,op,pr⟩)
 | 19,a :: s => (0,⟨if a.1 = 0 then (E.ends.getD pc 0).toNat + 1 else pc + 1,s,rg,op,pr⟩)
 | 20,s => (0,⟨(E.ends.getD pc 0).toNat,s,rg,op,pr⟩)
 | 21,s => if loopEnd E pc = true then
   match op with
   | (a,p :: ps) :: o => (0,⟨a + 1,(0,p) :: s,rg,(a,ps) :: o,pr⟩)
   | (_,[]) :: o => (0,⟨pc + 1,s,rg,o,pr⟩)
   | [] => (99,⟨pc,s,rg,op,pr⟩)
  else (0,⟨pc + 1,s,rg,op,pr⟩)
 | 22,a :: s =>
  match piecesM a.2 y with
  | [] => (0,⟨(E.ends.getD pc 0).toNat + 1,s,rg,op,pr⟩)
  | p :: ps => (0,⟨pc + 1,(0,p) :: s,rg,(pc,ps) :: op,pr⟩)
 | 23,v :: k :: s => if 256 ≤ pr.length then (4,⟨pc,st,rg,op,pr⟩) else (0,⟨pc + 1,s,rg,op,pr ++ [(k.2,v.2)]⟩)
 | _,_ => (99,⟨pc,st,rg,op,pr⟩)
def doM (E : Me) (x : VI) (m : Mc) : Nat × Mc:=doN E x.1.toNat x.2 m.pc m.st m.rg m.op m.pr
def xM (E : Me) (m : Mc) : VI:=E.code.getD m.pc (0,0)
def runM (E : Me) : Nat → Mc → Nat × Mc
 | 0,m => if m.pc < E.code.length then (140,m) else (0,m)
 | f + 1,m => if m.pc < E.code.length then (if (doM E (xM E m) m).1 = 0 then runM E f (doM E (xM E m) m).2 else (doM E (xM E m) m)) else (0,m)
def startM : Mc:=⟨0,[],List.replicate 8 (0,[]),[],[]⟩
/-! ## what is let be can be done -/
def loopsB (s : Vs) : List Nat:=((s.blocks.filter fun b => b.op == 22).map Vb.at_).reverse
def vOk (v : MV) : Prop:=-9223372036854775808 ≤ v.1 ∧ v.1 ≤ 9223372036854775807 ∧ v.2.length ≤ 1024
structure OkM (S : Nat → Vs) (E : Me) (m : Mc) : Prop where
 pc : m.pc ≤ E.code.length
 st : m.st.length = (S m.pc).kinds.length
 op : m.op.map (·.1) = loopsB (S m.pc)
 rg : m.rg.length = 8
 sv : ∀ v ∈ m.st,vOk v
 rv : ∀ v ∈ m.rg,vOk v
 ov : ∀ o ∈ m.op,o.2.length ≤ 1024 ∧ ∀ p ∈ o.2,p.length ≤ 1024
 pr : m.pr.length ≤ 256
 pv : ∀ p ∈ m.pr,p.1.length ≤ 1024 ∧ p.2.length ≤ 1024
structure GoodM (nt inp : Nat) (role : UInt8) (E : Me) : Prop where
 may : ∀ x ∈ E.code,insOk x = true
 ok : ∀ j,j < E.code.length → (oneV nt inp role j (E.code.getD j (0,0)) (stV nt inp role E.code j)).1 = 0
 done : (stV nt inp role E.code E.code.length).blocks = []
 ends : E.ends = (stV nt inp role E.code E.code.length).ends
 txl : E.tx.length = nt
 txv : ∀ s ∈ E.tx,s.length ≤ 1024
 inl : E.ins.length = inp
 inv : ∀ s ∈ E.ins,s.length ≤ 1024
theorem parse_syntax {s : List UInt8} (h : Lib.atoiAll s = Lib.NumEnd.syntax) : Lib.itoa 0 ≠ s:=by
 rintro rfl
 rw [show Lib.atoiAll (Lib.itoa 0) = .ok 0 by decide +kernel] at h
 cases h
theorem parse_range {s : List UInt8} (h : Lib.atoiAll s = .range) : Lib.itoa (Lib.atoiSat s) ≠ s:=by
 intro e
 unfold Lib.atoiSat at e
 split at e
 ·rw [← e,show Lib.atoiAll (Lib.itoa (-9223372036854775808)) = .ok (-9223372036854775808) by decide +kernel] at h
  cases h
 ·rw [← e,show Lib.atoiAll (Lib.itoa 9223372036854775807) = .ok 9223372036854775807 by decide +kernel] at h
  cases h
theorem parseM_in (s : List UInt8) : -9223372036854775808 ≤ parseM s ∧ parseM s ≤ 9223372036854775807:=by
 unfold parseM
 cases h : Lib.atoiAll s with
 | ok v =>
  rw [← Lib.parseIntB_64] at h
  have:=Lib.parseIntB_bounds h
  simp only
  split
  ·simp at this; omega
  ·omega
 | _ => simp
theorem splitM_len (c : UInt8) : ∀ s : List UInt8,(splitM c s).length ≤ s.length + 1 ∧ 1 ≤ (splitM c s).length ∧ ∀ p ∈ splitM c s,p.length ≤ s.length
 | [] => by simp [splitM]
 | x :: r => by
  obtain ⟨h1,h2,h3⟩:=splitM_len c r
  unfold splitM
  split
  ·refine ⟨by simp; omega,by simp,fun p hp => ?_⟩
   rcases List.mem_cons.1 hp with rfl | hp
   ·simp
   ·have:=h3 p hp; simp; omega
  ·cases h : splitM c r with
   | nil => rw [h] at h2; simp at h2
   | cons a t =>
    rw [h] at h1 h3
    refine ⟨by simp at h1 ⊢; omega,by simp,fun p hp => ?_⟩
    rcases List.mem_cons.1 hp with rfl | hp
    ·have:=h3 a (List.mem_cons_self ..); simp; omega
    ·have:=h3 p (List.mem_cons_of_mem _ hp); simp; omega
end Go.Proofs.YtehllcbnheicoaaGreatDoor
namespace Go.Proofs.YtehllcbnheicoaaGreatDoor
theorem splitM_none {c : UInt8} : ∀ {s : List UInt8},c ∉ s → splitM c s = [s]
 | [],_ => rfl
 | x :: s,h => by
  have h1 : ¬ x = c:=fun e => h (by rw [e]; exact List.mem_cons_self ..)
  rw [splitM,if_neg h1,splitM_none (fun hm => h (List.mem_cons_of_mem _ hm))]
theorem splitM_at {c : UInt8} : ∀ {a b : List UInt8},c ∉ a → splitM c (a ++ c :: b) = a :: splitM c b
 | [],b,_ => by rw [List.nil_append,splitM,if_pos rfl]
 | x :: a,b,h => by
  have h1 : ¬ x = c:=fun e => h (by rw [e]; exact List.mem_cons_self ..)
  rw [List.cons_append,splitM,if_neg h1,splitM_at (fun hm => h (List.mem_cons_of_mem _ hm))]
structure PInv (s : List UInt8) (c : UInt8) (out : List (List UInt8)) (fr i : Nat) : Prop where
 le : fr ≤ i
 lt : i ≤ s.length
 no : c ∉ (s.drop fr).take (i - fr)
 eq : splitM c s = out ++ splitM c (s.drop fr)
theorem PInv.start (s : List UInt8) (c : UInt8) : PInv s c [] 0 0:=⟨Nat.le_refl _,Nat.zero_le _,by simp,by simp⟩
theorem PInv.drop {s : List UInt8} {c : UInt8} {out : List (List UInt8)} {fr i : Nat} (h : PInv s c out fr i) (hi : i < s.length) : s.drop fr = (s.drop fr).take (i - fr) ++ s[i] :: s.drop (i + 1):=by
 have h1:=h.le
 have e : (s.drop fr).drop (i - fr) = s[i] :: s.drop (i + 1):=by
  rw [List.drop_drop,show fr + (i - fr) = i by omega]
  exact List.drop_eq_getElem_cons hi
 rw [← e,List.take_append_drop]
theorem PInv.cut {s : List UInt8} {c : UInt8} {out : List (List UInt8)} {fr i : Nat} (h : PInv s c out fr i) (hi : i < s.length) (hc : s[i] = c) : PInv s c (out ++ [(s.drop fr).take (i - fr)]) (i + 1) (i + 1):=by
 refine ⟨Nat.le_refl _,hi,by simp,?_⟩
 have:=h.eq
 rw [h.drop hi,hc,splitM_at h.no] at this
 rw [this,List.append_assoc]; rfl
theorem PInv.on {s : List UInt8} {c : UInt8} {out : List (List UInt8)} {fr i : Nat} (h : PInv s c out fr i) (hi : i < s.length) (hc : s[i] ≠ c) : PInv s c out fr (i + 1):=by
 have h1:=h.le
 refine ⟨by omega,hi,?_,h.eq⟩
 rw [show i + 1 - fr = (i - fr) + 1 by omega,List.take_add_one,List.mem_append]
 rintro (hm | hm)
 ·exact h.no hm
 ·rw [List.getElem?_drop,show fr + (i - fr) = i by omega,List.getElem?_eq_getElem hi] at hm
  simp at hm
  exact hc hm.symm
theorem PInv.end {s : List UInt8} {c : UInt8} {out : List (List UInt8)} {fr i : Nat} (h : PInv s c out fr i) (hi : ¬ i < s.length) : splitM c s = out ++ [s.drop fr]:=by
 have h1:=h.lt
 have h2:=h.no
 rw [List.take_of_length_le (by rw [List.length_drop]; omega)] at h2
 rw [h.eq,splitM_none h2]
theorem PInv.len {s : List UInt8} {c : UInt8} {out : List (List UInt8)} {fr i : Nat} (h : PInv s c out fr i) : out.length ≤ s.length + 1:=by
 have:=(splitM_len c s).1
 rw [h.eq,List.length_append] at this
 omega
end Go.Proofs.YtehllcbnheicoaaGreatDoor
