/- Lemmas for FoldTells, part 19: walks of the functions that it reaches, and the plain laws behind them. -/
import Derived.Test.YtehllcbnheicoaaGreatDoorFoldTellsK18
set_option linter.unusedSimpArgs false
set_option linter.unusedVariables false
set_option maxRecDepth 100000
set_option maxHeartbeats 16000000
namespace Go.Proofs.YtehllcbnheicoaaGreatDoor
open Go.RowKit
section
variable {nt inp : Nat} {role : UInt8} {E : Me}
theorem loops_append (s s' : Vs) (b : Vb) (h : s'.blocks = s.blocks ++ [b]) : loopsB s' = (if b.op = 22 then [b.at_] else []) ++ loopsB s:=by
 unfold loopsB
 rw [h,List.filter_append,List.map_append,List.reverse_append]
 by_cases hb : b.op = 22
 ·simp [hb]
 ·simp [hb]
theorem loops_split {s : Vs} {r : List Vb} {b : Vb} (h : s.blocks = r ++ [b]) : loopsB s = (if b.op = 22 then [b.at_] else []) ++ ((r.filter fun b => b.op == 22).map Vb.at_).reverse:=by
 unfold loopsB
 rw [h,List.filter_append,List.map_append,List.reverse_append]
 by_cases hb : b.op = 22
 ·simp [hb]
 ·simp [hb]
theorem loops_eq {s s' : Vs} (h : s'.blocks = s.blocks) : loopsB s' = loopsB s:=by unfold loopsB; rw [h]
structure MatchM (nt inp : Nat) (role : UInt8) (E : Me) (i e : Nat) (r : List Vb) (b : Vb) : Prop where
 lt : i < e
 le : e < E.code.length
 en : E.ends.getD i 0 = (e : Int)
 be : (sM nt inp role E e).blocks = r ++ [b]
 oe : opV E.code e = 20 ∨ opV E.code e = 21
 all : ∀ k,i + 1 ≤ k → k ≤ e → ∃ t,(sM nt inp role E k).blocks = r ++ [b] ++ t
theorem match_of (G : GoodM nt inp role E) {i : Nat} {r : List Vb} {b : Vb} (hi : i < E.code.length) (hb : (sM nt inp role E (i + 1)).blocks = r ++ [b]) (ha : b.at_ = i) : ∃ e,MatchM nt inp role E i e r b:=by
 obtain ⟨e,h1,h2,h3,h4,h5,h6⟩:=open_stays G (r:=r) (b:=b) (i:=i + 1) ⟨[],by rw [hb]; simp⟩ (E.code.length - (i + 1)) (by omega)
 rw [ha] at h5
 exact ⟨e,by omega,h2,h5,h3,h4,h6⟩
theorem behind_open (G : GoodM nt inp role E) {i : Nat} (hi : i < E.code.length) (ho : opV E.code i = 19 ∨ opV E.code i = 22) :
  ∃ e,i < e ∧ e < E.code.length ∧ E.ends.getD i 0 = (e : Int) ∧ (sM nt inp role E (e + 1)).kinds.length = (sM nt inp role E i).kinds.length - 1 ∧ 1 ≤ (sM nt inp role E i).kinds.length ∧ loopsB (sM nt inp role E (e + 1)) = loopsB (sM nt inp role E i) ∧ (opV E.code i = 22 → opV E.code e = 21):=by
 obtain ⟨hs,h1⟩:=G.step hi
 have hx : (E.code.getD i (0,0)).1 = 19 ∨ (E.code.getD i (0,0)).1 = 22:=ho
 have hn : (E.code.getD i (0,0)).1.toNat < 24:=by rcases hx with h | h <;> rw [h] <;> decide
 obtain ⟨l1,l2⟩:=valuesM_len hn h1.vl
 have hins : insN.getD (E.code.getD i (0,0)).1.toNat 0 = 1:=by rcases hx with h | h <;> rw [h] <;> rfl
 have hout : outN.getD (E.code.getD i (0,0)).1.toNat 0 = 0:=by rcases hx with h | h <;> rw [h] <;> rfl
 rw [hins] at l1 l2
 rcases hs with ⟨_,k,hk,hb,_⟩ | ⟨h20,_⟩ | ⟨h21,_⟩ | ⟨hr,_⟩
 ·obtain ⟨e,hm⟩:=match_of G hi hb rfl
  have hkl : k.length = (sM nt inp role E i).kinds.length - 1:=by rw [hk,List.length_take]; omega
  obtain ⟨hse,h1e⟩:=G.step hm.le
  refine ⟨e,hm.lt,hm.le,hm.en,?_,l1,?_,?_⟩
  ·rcases hm.oe with h20 | h21
   ·obtain ⟨r,b,hl,_,_,hkk⟩:=h1e.k20 h20
    rw [hm.be] at hl
    have:=(List.append_inj' hl rfl).2
    simp at this
    rw [hkk,← this]
    exact hkl
   ·rw [h1e.k21 h21]
    rcases hse with ⟨h,_⟩ | ⟨h,_⟩ | ⟨_,r,b,hl,hwant,_,_⟩ | ⟨h,_⟩
    ·rw [show (E.code.getD e (0,0)).1 = 21 from h21] at h; rcases h with h | h <;> exact absurd h (by decide)
    ·rw [show (E.code.getD e (0,0)).1 = 21 from h21] at h; exact absurd h (by decide)
    ·rw [hm.be] at hl
     have:=(List.append_inj' hl rfl).2
     simp at this
     rw [hwant,← this]
     exact hkl
    ·exact absurd h21 h.2
  ·rcases hse with ⟨h,_⟩ | ⟨h,r,b,hl,hb',_⟩ | ⟨h,r,b,hl,_,hb',_⟩ | ⟨h,_⟩
   ·rcases hm.oe with h' | h' <;> rw [show (E.code.getD e (0,0)).1 = _ from h'] at h <;> rcases h with h | h <;> exact absurd h (by decide)
   ·obtain ⟨r',b',hl',hbop,_,_⟩:=h1e.k20 h
    rw [hl] at hl'
    have e1:=List.append_inj' hl' rfl
    rw [hm.be] at hl
    have e2:=List.append_inj' hl rfl
    have hbb : b = b':=by simpa using e1.2
    rw [loops_split hb']
    rw [if_neg (by show ¬ b.op = 22; rw [hbb,hbop]; decide),List.nil_append,← e2.1]
    rfl
   ·rw [hm.be] at hl
    have e2:=List.append_inj' hl rfl
    unfold loopsB
    rw [hb',← e2.1]
   ·rcases hm.oe with h' | h'
    ·rw [show (E.code.getD e (0,0)).1 = _ from h'] at h; exact absurd h.1 (by decide)
    ·exact absurd h' h.2
  ·intro h22
   rcases hm.oe with h20 | h21
   ·obtain ⟨r,b,hl,hbop,_,_⟩:=h1e.k20 h20
    rw [hm.be] at hl
    have:=(List.append_inj' hl rfl).2
    simp at this
    rw [← this] at hbop
    have : (E.code.getD i (0,0)).1 = 19:=hbop
    rw [show (E.code.getD i (0,0)).1 = 22 from h22] at this
    exact absurd this (by decide)
   ·exact h21
 ·rcases hx with h | h <;> rw [h] at h20 <;> exact absurd h20 (by decide)
 ·rcases hx with h | h <;> rw [h] at h21 <;> exact absurd h21 (by decide)
 ·rcases hx with h | h <;> rw [h] at hr <;> exact absurd hr.1 (by decide)
theorem at_else (G : GoodM nt inp role E) {i : Nat} (hi : i < E.code.length) (ho : opV E.code i = 20) :
  ∃ e,i < e ∧ e < E.code.length ∧ E.ends.getD i 0 = (e : Int) ∧ (sM nt inp role E e).kinds.length = (sM nt inp role E i).kinds.length ∧ loopsB (sM nt inp role E e) = loopsB (sM nt inp role E i):=by
 obtain ⟨hs,h1⟩:=G.step hi
 obtain ⟨r0,b0,hl0,hop0,hd0,hk0⟩:=h1.k20 ho
 rcases hs with ⟨h,_⟩ | ⟨_,r,b,hl,hb,_⟩ | ⟨h,_⟩ | ⟨h,_⟩
 ·rw [show (E.code.getD i (0,0)).1 = 20 from ho] at h; rcases h with h | h <;> exact absurd h (by decide)
 ·rw [hl] at hl0
  have e0:=List.append_inj' hl0 rfl
  have hbb : b = b0:=by simpa using e0.2
  obtain ⟨e,hm⟩:=match_of G hi hb rfl
  obtain ⟨hse,h1e⟩:=G.step hm.le
  have h21 : opV E.code e = 21:=by
   rcases hm.oe with h20 | h21
   ·obtain ⟨r',b',hl',_,hdid,_⟩:=h1e.k20 h20
    rw [hm.be] at hl'
    have:=(List.append_inj' hl' rfl).2
    simp at this
    rw [← this] at hdid
    cases hdid
   ·exact h21
  refine ⟨e,hm.lt,hm.le,hm.en,?_,?_⟩
  ·rcases hse with ⟨h,_⟩ | ⟨h,_⟩ | ⟨_,r',b',hl',hwant,_,_⟩ | ⟨h,_⟩
   ·rw [show (E.code.getD e (0,0)).1 = 21 from h21] at h; rcases h with h | h <;> exact absurd h (by decide)
   ·rw [show (E.code.getD e (0,0)).1 = 21 from h21] at h; exact absurd h (by decide)
   ·rw [hm.be] at hl'
    have:=(List.append_inj' hl' rfl).2
    simp at this
    rw [hwant,← this]
   ·exact absurd h21 h.2
  ·rw [loops_split hm.be,loops_split hl,if_neg (by show ¬ b.op = 22; rw [hbb,hop0]; decide),if_neg (by rw [hbb,hop0]; decide)]
 ·rw [show (E.code.getD i (0,0)).1 = 20 from ho] at h; exact absurd h (by decide)
 ·rw [show (E.code.getD i (0,0)).1 = 20 from ho] at h; exact absurd h.1 (by decide)
theorem opened (G : GoodM nt inp role E) {j : Nat} (hj : j < E.code.length) (ho : opensV (opV E.code j) = true) :
  ∃ r b,(sM nt inp role E (j + 1)).blocks = r ++ [b] ∧ b.at_ = j ∧ (opV E.code j = 22 ↔ b.op = 22) ∧ (opV E.code j = 22 → (sM nt inp role E (j + 1)).kinds.length = b.want.length + 1):=by
 obtain ⟨hs,h1⟩:=G.step hj
 rcases hs with ⟨hx,k,hk,hb,_⟩ | ⟨h20,r,b,hl,hb,_⟩ | ⟨h21,_⟩ | ⟨h,_⟩
 ·refine ⟨_,_,hb,rfl,Iff.rfl,fun h22 => ?_⟩
  have h22' : (E.code.getD j (0,0)).1 = 22:=h22
  obtain ⟨l1,l2⟩:=valuesM_len (by rw [h22']; decide) h1.vl
  rw [h22'] at l1 l2
  have e1 : insN.getD (22 : UInt8).toNat 0 = 1:=rfl
  have e2 : outN.getD (22 : UInt8).toNat 0 = 0:=rfl
  rw [e1] at l1 l2
  rw [e2] at l2
  rw [h1.k22 h22',List.length_append,l2]
  show _ = k.length + 1
  rw [hk,List.length_take]
  simp
  omega
 ·obtain ⟨r',b',hl',hop,_,_⟩:=h1.k20 h20
  rw [hl] at hl'
  have hbb : b = b':=by simpa using (List.append_inj' hl' rfl).2
  refine ⟨r,_,hb,rfl,⟨fun h => ?_,fun h => ?_⟩,fun h => ?_⟩
  ·rw [show opV E.code j = 20 from h20] at h; exact absurd h (by decide)
  ·have : b.op = 22:=h
   rw [hbb,hop] at this; exact absurd this (by decide)
  ·rw [show opV E.code j = 20 from h20] at h; exact absurd h (by decide)
 ·rw [show opV E.code j = 21 from h21] at ho; exact absurd ho (by decide)
 ·rw [show opV E.code j = (E.code.getD j (0,0)).1 from rfl,h.1] at ho; cases ho
theorem at_end (G : GoodM nt inp role E) {i : Nat} (hi : i < E.code.length) (ho : opV E.code i = 21) :
  ∃ (j : Nat) (b : Vb),j < i ∧ (opV E.code j = 22 ↔ b.op = 22) ∧ opensV (opV E.code j) = true ∧ E.ends.getD j 0 = (i : Int) ∧ (∀ j',j' < E.code.length → opensV (opV E.code j') = true → E.ends.getD j' 0 = (i : Int) → j' = j) ∧
  loopsB (sM nt inp role E i) = (if b.op = 22 then [j] else []) ++ loopsB (sM nt inp role E (i + 1)) ∧ (sM nt inp role E (i + 1)).kinds = (sM nt inp role E i).kinds ∧
  (b.op = 22 → (sM nt inp role E (j + 1)).kinds.length = (sM nt inp role E i).kinds.length + 1 ∧ loopsB (sM nt inp role E (j + 1)) = loopsB (sM nt inp role E i)):=by
 obtain ⟨hs,h1⟩:=G.step hi
 have hx : (E.code.getD i (0,0)).1 = 21:=ho
 rcases hs with ⟨h,_⟩ | ⟨h,_⟩ | ⟨_,r,b,hl,hwant,hb,_⟩ | ⟨h,_⟩
 ·rw [hx] at h; rcases h with h | h <;> exact absurd h (by decide)
 ·rw [hx] at h; exact absurd h (by decide)
 ·have hrun:=G.run (i:=i) (by omega)
  have hbm : b ∈ (sM nt inp role E i).blocks:=by rw [hl]; simp
  obtain ⟨hji,hoj,-,-⟩:=hrun.inv.bl b hbm
  have hst:=hrun.inv.st
  rw [show (stV nt inp role E.code i).blocks = r ++ [b] from hl] at hst
  have hlt:=(st_split hst).2
  obtain ⟨r1,b1,hb1,ha1,ho1,hk1⟩:=opened G (j:=b.at_) (by omega) hoj
  obtain ⟨e,hm⟩:=match_of G (by omega) hb1 ha1
  have hei : e = i:=by
   rcases Nat.lt_trichotomy e i with h | h | h
   ·exfalso
    obtain ⟨hse,h1e⟩:=G.step hm.le
    have hst1:=(G.run (i:=e) (by omega)).inv.st
    rw [show (stV nt inp role E.code e).blocks = r1 ++ [b1] from hm.be] at hst1
    have hlt1:=(st_split hst1).2
    rw [ha1] at hlt1
    have hno : b.at_ ∉ (stV nt inp role E.code (e + 1)).blocks.map Vb.at_:=by
     show b.at_ ∉ (sM nt inp role E (e + 1)).blocks.map Vb.at_
     intro hmem
     rcases hse with ⟨h,_⟩ | ⟨h20,r',b',hl',hb',_⟩ | ⟨h21,r',b',hl',_,hb',_⟩ | ⟨h,_⟩
     ·rcases hm.oe with h' | h' <;> rw [show (E.code.getD e (0,0)).1 = _ from h'] at h <;> rcases h with h | h <;> exact absurd h (by decide)
     ·rw [hm.be] at hl'
      have e2:=(List.append_inj' hl' rfl).1
      rw [hb',← e2,List.map_append] at hmem
      rcases List.mem_append.1 hmem with hmem | hmem
      ·have:=hlt1 _ hmem; omega
      ·simp at hmem; have:=hm.lt; omega
     ·rw [hm.be] at hl'
      have e2:=(List.append_inj' hl' rfl).1
      rw [hb',← e2] at hmem
      have:=hlt1 _ hmem; omega
     ·rcases hm.oe with h' | h'
      ·rw [show (E.code.getD e (0,0)).1 = _ from h'] at h; exact absurd h.1 (by decide)
      ·exact absurd h' h.2
    have:=(stV_ends G.ok (i:=e + 1) (j:=b.at_) (by have:=hm.lt; omega) hno (i - (e + 1)) (by omega)).2
    rw [show e + 1 + (i - (e + 1)) = i by omega,show (stV nt inp role E.code i).blocks = r ++ [b] from hl] at this
    simp at this
   ·exact h
   ·exfalso
    obtain ⟨t,ht⟩:=hm.all (i + 1) (by omega) (by omega)
    rw [hb] at ht
    have hmem : b1.at_ ∈ r.map Vb.at_:=by rw [ht]; simp
    have:=hlt _ hmem
    omega
  subst hei
  have hbe:=hm.be
  rw [hl] at hbe
  have e1:=List.append_inj' hbe rfl
  have hbb : b = b1:=by simpa using e1.2
  refine ⟨b.at_,b,hji,by rw [hbb]; rw [hbb] at ho1; exact ho1,hoj,hm.en,?_,?_,h1.k21 hx,?_⟩
  ·intro j' hj' ho' he'
   obtain ⟨r2,b2,hb2,ha2,-,-⟩:=opened G hj' ho'
   obtain ⟨e2,hm2⟩:=match_of G hj' hb2 ha2
   have h3:=hm2.en
   rw [he'] at h3
   have h4 : e2 = e:=by omega
   subst h4
   have h5:=hm2.be
   rw [hl] at h5
   have h6 : b = b2:=by simpa using (List.append_inj' h5 rfl).2
   rw [← ha2,← h6]
  ·rw [loops_split hl]
   unfold loopsB
   rw [hb]
  ·intro h22
   have hj22 : opV E.code b.at_ = 22:=by
    rw [hbb] at h22 ⊢
    rw [hbb] at ho1
    exact ho1.2 h22
   refine ⟨by rw [hk1 hj22,hwant,hbb],?_⟩
   rw [loops_split hb1,loops_split hl,e1.1,hbb]
 ·exact absurd hx h.2
end
end Go.Proofs.YtehllcbnheicoaaGreatDoor
namespace Go.Proofs.YtehllcbnheicoaaGreatDoor
open Go.RowKit
theorem one_of {α : Type} {l : List α} (h : 1 ≤ l.length) : ∃ a s,l = a :: s:=by
 match l,h with
 | a :: s,_ => exact ⟨a,s,rfl⟩
theorem two_of {α : Type} {l : List α} (h : 2 ≤ l.length) : ∃ a b s,l = a :: b :: s:=by
 match l,h with
 | a :: b :: s,_ => exact ⟨a,b,s,rfl⟩
 | [_],h => exact absurd h (by simp)
theorem three_of {α : Type} {l : List α} (h : 3 ≤ l.length) : ∃ a b c s,l = a :: b :: c :: s:=by
 match l,h with
 | a :: b :: c :: s,_ => exact ⟨a,b,c,s,rfl⟩
 | [_,_],h => exact absurd h (by simp)
 | [_],h => exact absurd h (by simp)
theorem there_args {nt inp : Nat} {role : UInt8} {bl : List Vb} {x : VI} (h : thereV nt inp role bl x = 0) : (x.1 = 1 → x.2.toNat < nt) ∧ (x.1 = 3 → x.2.toNat < inp) ∧ (x.1 = 17 ∨ x.1 = 18 → x.2.toNat < 8) ∧ (x.1 = 23 → role = 1):=by
 unfold thereV at h
 split at h
 ·cases h
 rename_i h1
 split at h
 ·cases h
 rename_i h2
 refine ⟨fun e => ?_,fun e => ?_,fun e => ?_,fun e => ?_⟩
 ·exact Nat.lt_of_not_le fun hc => h1 (.inl ⟨e,hc⟩)
 ·exact Nat.lt_of_not_le fun hc => h1 (.inr (.inl ⟨e,hc⟩))
 ·exact Nat.lt_of_not_le fun hc => h1 (.inr (.inr ⟨e,hc⟩))
 ·exact Decidable.byContradiction fun hc => h2 ⟨e,hc⟩
theorem wrap64_bounds (n : Int) : -9223372036854775808 ≤ wrap64 n ∧ wrap64 n ≤ 9223372036854775807:=by unfold wrap64; omega
theorem vOk_num {n : Int} (h1 : -9223372036854775808 ≤ n) (h2 : n ≤ 9223372036854775807) : vOk (n,[]):=⟨h1,h2,by simp⟩
theorem vOk_txt {s : List UInt8} (h : s.length ≤ 1024) : vOk (0,s):=⟨by simp,by simp,h⟩
theorem vOk_bit (b : Bool) : vOk (bitM b):=by cases b <;> exact ⟨by decide,by decide,by decide⟩
theorem partM_len (s : List UInt8) (a n : Int) : (partM s a n).length ≤ s.length:=by unfold partM; rw [List.length_take,List.length_drop]; omega
section
variable {nt inp : Nat} {role : UInt8} {E : Me} {S : Nat → Vs} {pc : Nat} {st st' rg : List MV} {op : List (Nat × List (List UInt8))} {pr : List (List UInt8 × List UInt8)}
theorem OkM.next (h : OkM S E ⟨pc,st,rg,op,pr⟩) (hpc : pc < E.code.length) (hk : (S (pc + 1)).kinds.length = st'.length) (hl : loopsB (S (pc + 1)) = loopsB (S pc)) (hv : ∀ v ∈ st',vOk v) : OkM S E ⟨pc + 1,st',rg,op,pr⟩ :=
 ⟨hpc,hk.symm,by rw [h.op]; exact hl.symm,h.rg,hv,h.rv,h.ov,h.pr,h.pv⟩
theorem cons_ok {v : MV} {s : List MV} (h : vOk v) (hs : ∀ v ∈ s,vOk v) : ∀ u ∈ v :: s,vOk u:=fun u hu => by
 rcases List.mem_cons.1 hu with rfl | hu
 ·exact h
 ·exact hs u hu
theorem tail_ok {v : MV} {s : List MV} (h : ∀ u ∈ v :: s,vOk u) : ∀ u ∈ s,vOk u:=fun u hu => h u (List.mem_cons_of_mem _ hu)
theorem head_ok {v : MV} {s : List MV} (h : ∀ u ∈ v :: s,vOk u) : vOk v:=h v (List.mem_cons_self ..)
theorem piecesM_ok {s : List UInt8} (h : s.length ≤ 1024) (c : UInt8) : (piecesM s c).length ≤ 1025 ∧ ∀ p ∈ piecesM s c,p.length ≤ 1024:=by
 obtain ⟨h1,-,h3⟩:=splitM_len c s
 unfold piecesM
 split
 ·simp
 ·exact ⟨by omega,fun p hp => by have:=h3 p hp; omega⟩
theorem getD_ok {α : Type} {P : α → Prop} {l : List α} (h : ∀ x ∈ l,P x) {i : Nat} (hi : i < l.length) (d : α) : P (l.getD i d):=by
 rw [List.getD_eq_getElem?_getD,List.getElem?_eq_getElem hi]
 exact h _ (List.getElem_mem hi)
theorem set_ok {α : Type} {P : α → Prop} {l : List α} (h : ∀ x ∈ l,P x) (i : Nat) {v : α} (hv : P v) : ∀ x ∈ l.set i v,P x:=fun x hx => by
 rcases List.mem_or_eq_of_mem_set hx with hx | rfl
 ·exact h x hx
 ·exact hv
theorem plain_step (G : GoodM nt inp role E) (hpc : pc < E.code.length) {n : Nat} (hn : (E.code.getD pc (0,0)).1.toNat = n) (hn24 : n < 24) (h19 : n ≠ 19) (h20 : n ≠ 20) (h21 : n ≠ 21) (h22 : n ≠ 22) :
  insN.getD n 0 ≤ (sM nt inp role E pc).kinds.length ∧ (sM nt inp role E (pc + 1)).kinds.length = (sM nt inp role E pc).kinds.length - insN.getD n 0 + outN.getD n 0 ∧ loopsB (sM nt inp role E (pc + 1)) = loopsB (sM nt inp role E pc):=by
 obtain ⟨hs,ho⟩:=G.step hpc
 have hne : ∀ k : UInt8,k.toNat ≠ n → (E.code.getD pc (0,0)).1 ≠ k:=fun k hk e => hk (by rw [← e]; exact hn)
 have e19:=hne 19 (by show 19 ≠ n; omega)
 have e20:=hne 20 (by show 20 ≠ n; omega)
 have e21:=hne 21 (by show 21 ≠ n; omega)
 have e22:=hne 22 (by show 22 ≠ n; omega)
 have hop : opensV (E.code.getD pc (0,0)).1 = false:=by unfold opensV; rw [beq_eq_false_iff_ne.2 e19,beq_eq_false_iff_ne.2 e22,beq_eq_false_iff_ne.2 e20]; rfl
 obtain ⟨l1,l2⟩:=valuesM_len (by omega) ho.vl
 rw [hn] at l1 l2
 refine ⟨l1,by rw [ho.pl hop e21]; exact l2,?_⟩
 rcases hs with ⟨h,_⟩ | ⟨h,_⟩ | ⟨h,_⟩ | ⟨_,hb,_⟩
 ·rcases h with h | h
  ·exact absurd h e19
  ·exact absurd h e22
 ·exact absurd h e20
 ·exact absurd h e21
 ·exact loops_eq hb
theorem loopEnd_of {j : Nat} (hle : ∀ j',j' < E.code.length → opensV (opV E.code j') = true → E.ends.getD j' 0 = (pc : Int) → j' = j) (hj : j < E.code.length) (he : E.ends.getD j 0 = (pc : Int)) : loopEnd E pc = (opV E.code j == 22):=by
 unfold loopEnd
 cases h : (opV E.code j == 22) with
 | true =>
  refine List.any_eq_true.2 ⟨j,List.mem_range.2 hj,?_⟩
  rw [Bool.and_eq_true]
  exact ⟨h,by rw [he]; simp⟩
 | false =>
  refine List.any_eq_false.2 fun k hk => ?_
  intro hc
  rw [Bool.and_eq_true] at hc
  have h22 : opV E.code k = 22:=by simpa [opV] using hc.1
  have:=hle k (List.mem_range.1 hk) (by rw [h22]; rfl) (by simpa using hc.2)
  subst this
  rw [h22] at h
  cases h
end
end Go.Proofs.YtehllcbnheicoaaGreatDoor
namespace Go.Proofs.YtehllcbnheicoaaGreatDoor
open Go.RowKit
section
variable {nt inp : Nat} {role : UInt8} {E : Me}
theorem doM_ok (G : GoodM nt inp role E) {m : Mc} (h : OkM (sM nt inp role E) E m) (hpc : m.pc < E.code.length) :
  (doM E (xM E m) m).1 ≠ 99 ∧ ((doM E (xM E m) m).1 = 0 → OkM (sM nt inp role E) E (doM E (xM E m) m).2):=by
 obtain ⟨pc,st,rg,op,pr⟩:=m
 have hpc : pc < E.code.length:=hpc
 have hst : st.length = (sM nt inp role E pc).kinds.length:=h.st
 have hop : op.map (·.1) = loopsB (sM nt inp role E pc):=h.op
 have hsv : ∀ v ∈ st,vOk v:=h.sv
 have hrv : ∀ v ∈ rg,vOk v:=h.rv
 have hrg : rg.length = 8:=h.rg
 have hov : ∀ o ∈ op,o.2.length ≤ 1024 ∧ ∀ p ∈ o.2,p.length ≤ 1024:=h.ov
 have hpr : pr.length ≤ 256:=h.pr
 have hpv : ∀ p ∈ pr,p.1.length ≤ 1024 ∧ p.2.length ≤ 1024:=h.pv
 have hx : insOk (E.code.getD pc (0,0)) = true:=getD_ok (P:=fun x => insOk x = true) G.may hpc _
 have hx1 : 1 ≤ (E.code.getD pc (0,0)).1.toNat ∧ (E.code.getD pc (0,0)).1.toNat ≤ 23:=by
  unfold insOk at hx
  simp at hx
  exact hx.1
 obtain ⟨hs,ho⟩:=G.step hpc
 obtain ⟨g1,g3,g17,g23⟩:=there_args ho.th
 show (doN E (E.code.getD pc (0,0)).1.toNat (E.code.getD pc (0,0)).2 pc st rg op pr).1 ≠ 99 ∧ ((doN E (E.code.getD pc (0,0)).1.toNat (E.code.getD pc (0,0)).2 pc st rg op pr).1 = 0 → OkM (sM nt inp role E) E (doN E (E.code.getD pc (0,0)).1.toNat (E.code.getD pc (0,0)).2 pc st rg op pr).2)
 obtain ⟨n,hn⟩ : ∃ n,(E.code.getD pc (0,0)).1.toNat = n:=⟨_,rfl⟩
 have hu : ∀ k : UInt8,k.toNat = n → (E.code.getD pc (0,0)).1 = k:=fun k hk => UInt8.toNat_inj.1 (hn.trans hk.symm)
 have hpl:=fun (h19 : n ≠ 19) (h20 : n ≠ 20) (h21 : n ≠ 21) (h22 : n ≠ 22) => plain_step G hpc hn (by omega) h19 h20 h21 h22
 rw [hn] at hx1 ⊢
 rw [← hst] at hpl
 obtain ⟨y,hy⟩ : ∃ y,(E.code.getD pc (0,0)).2 = y:=⟨_,rfl⟩
 rw [hy] at g1 g3 g17 ⊢
 have n0 : (0 : Nat) ≠ 99:=by decide
 have n4 : (4 : Nat) ≠ 99:=by decide
 have n5 : (5 : Nat) ≠ 99:=by decide
 have n40 : ¬ (4 : Nat) = 0:=by decide
 have n50 : ¬ (5 : Nat) = 0:=by decide
 clear hx hn
 rcases (show n = 1 ∨ n = 2 ∨ n = 3 ∨ n = 4 ∨ n = 5 ∨ n = 6 ∨ n = 7 ∨ n = 8 ∨ n = 9 ∨ n = 10 ∨ n = 11 ∨ n = 12 ∨ n = 13 ∨ n = 14 ∨ n = 15 ∨ n = 16 ∨ n = 17 ∨ n = 18 ∨ n = 19 ∨ n = 20 ∨ n = 21 ∨ n = 22 ∨ n = 23 by omega) with rfl | rfl | rfl | rfl | rfl | rfl | rfl | rfl | rfl | rfl | rfl | rfl | rfl | rfl | rfl | rfl | rfl | rfl | rfl | rfl | rfl | rfl | rfl
 ·obtain ⟨l1,l2,l3⟩:=hpl (by decide) (by decide) (by decide) (by decide)
  exact ⟨n0,fun _ => h.next (st':=(0,E.tx.getD y.toNat []) :: st) hpc (l2.trans (by simp [insN,outN])) l3 (cons_ok (vOk_txt (getD_ok (P:=fun s : List UInt8 => s.length ≤ 1024) G.txv (by rw [G.txl]; exact g1 (hu 1 rfl)) _)) hsv)⟩
 ·obtain ⟨l1,l2,l3⟩:=hpl (by decide) (by decide) (by decide) (by decide)
  exact ⟨n0,fun _ => h.next (st':=((y.toNat : Int),[]) :: st) hpc (l2.trans (by simp [insN,outN])) l3 (cons_ok (vOk_num (by omega) (by have:=y.toNat_lt; omega)) hsv)⟩
 ·obtain ⟨l1,l2,l3⟩:=hpl (by decide) (by decide) (by decide) (by decide)
  exact ⟨n0,fun _ => h.next (st':=(0,E.ins.getD y.toNat []) :: st) hpc (l2.trans (by simp [insN,outN])) l3 (cons_ok (vOk_txt (getD_ok (P:=fun s : List UInt8 => s.length ≤ 1024) G.inv (by rw [G.inl]; exact g3 (hu 3 rfl)) _)) hsv)⟩
 ·obtain ⟨l1,l2,l3⟩:=hpl (by decide) (by decide) (by decide) (by decide)
  obtain ⟨b,a,s,rfl⟩:=two_of (show 2 ≤ st.length from l1)
  have hd : doN E 4 y pc (b :: a :: s) rg op pr = if 1024 < a.2.length + b.2.length then (5,⟨pc,b :: a :: s,rg,op,pr⟩) else (0,⟨pc + 1,(0,a.2 ++ b.2) :: s,rg,op,pr⟩):=rfl
  rw [hd]
  split
  ·exact ⟨n5,fun h' => absurd h' n50⟩
  ·exact ⟨n0,fun _ => h.next hpc (l2.trans (by simp [insN,outN])) l3 (cons_ok (vOk_txt (by rw [List.length_append]; omega)) (tail_ok (tail_ok hsv)))⟩
 ·obtain ⟨l1,l2,l3⟩:=hpl (by decide) (by decide) (by decide) (by decide)
  obtain ⟨a,s,rfl⟩:=one_of (show 1 ≤ st.length from l1)
  exact ⟨n0,fun _ => h.next (st':=((a.2.length : Int),[]) :: s) hpc (l2.trans (by simp [insN,outN])) l3 (cons_ok (vOk_num (by omega) (by have:=(head_ok hsv).2.2; omega)) (tail_ok hsv))⟩
 ·obtain ⟨l1,l2,l3⟩:=hpl (by decide) (by decide) (by decide) (by decide)
  obtain ⟨n,a,t,s,rfl⟩:=three_of (show 3 ≤ st.length from l1)
  exact ⟨n0,fun _ => h.next (st':=(0,partM t.2 a.1 n.1) :: s) hpc (l2.trans (by simp [insN,outN])) l3 (cons_ok (vOk_txt (Nat.le_trans (partM_len _ _ _) (head_ok (tail_ok (tail_ok hsv))).2.2)) (tail_ok (tail_ok (tail_ok hsv))))⟩
 ·obtain ⟨l1,l2,l3⟩:=hpl (by decide) (by decide) (by decide) (by decide)
  obtain ⟨a,s,rfl⟩:=one_of (show 1 ≤ st.length from l1)
  exact ⟨n0,fun _ => h.next (st':=(parseM a.2,[]) :: s) hpc (l2.trans (by simp [insN,outN])) l3 (cons_ok (vOk_num (parseM_in _).1 (parseM_in _).2) (tail_ok hsv))⟩
 ·obtain ⟨l1,l2,l3⟩:=hpl (by decide) (by decide) (by decide) (by decide)
  obtain ⟨a,s,rfl⟩:=one_of (show 1 ≤ st.length from l1)
  exact ⟨n0,fun _ => h.next (st':=(0,Lib.itoa a.1) :: s) hpc (l2.trans (by simp [insN,outN])) l3 (cons_ok (vOk_txt (Nat.le_trans (Lib.itoa_length_le _ (head_ok hsv).1 (head_ok hsv).2.1) (by decide))) (tail_ok hsv))⟩
 ·obtain ⟨l1,l2,l3⟩:=hpl (by decide) (by decide) (by decide) (by decide)
  obtain ⟨b,a,s,rfl⟩:=two_of (show 2 ≤ st.length from l1)
  exact ⟨n0,fun _ => h.next (st':=(wrap64 (a.1 + b.1),[]) :: s) hpc (l2.trans (by simp [insN,outN])) l3 (cons_ok (vOk_num (wrap64_bounds _).1 (wrap64_bounds _).2) (tail_ok (tail_ok hsv)))⟩
 ·obtain ⟨l1,l2,l3⟩:=hpl (by decide) (by decide) (by decide) (by decide)
  obtain ⟨b,a,s,rfl⟩:=two_of (show 2 ≤ st.length from l1)
  exact ⟨n0,fun _ => h.next (st':=(wrap64 (a.1 * b.1),[]) :: s) hpc (l2.trans (by simp [insN,outN])) l3 (cons_ok (vOk_num (wrap64_bounds _).1 (wrap64_bounds _).2) (tail_ok (tail_ok hsv)))⟩
 ·obtain ⟨l1,l2,l3⟩:=hpl (by decide) (by decide) (by decide) (by decide)
  obtain ⟨b,a,s,rfl⟩:=two_of (show 2 ≤ st.length from l1)
  exact ⟨n0,fun _ => h.next (st':=bitM (decide (a.1 < b.1)) :: s) hpc (l2.trans (by simp [insN,outN])) l3 (cons_ok (vOk_bit _) (tail_ok (tail_ok hsv)))⟩
 ·obtain ⟨l1,l2,l3⟩:=hpl (by decide) (by decide) (by decide) (by decide)
  obtain ⟨b,a,s,rfl⟩:=two_of (show 2 ≤ st.length from l1)
  exact ⟨n0,fun _ => h.next (st':=bitM (a.2 == b.2) :: s) hpc (l2.trans (by simp [insN,outN])) l3 (cons_ok (vOk_bit _) (tail_ok (tail_ok hsv)))⟩
 ·obtain ⟨l1,l2,l3⟩:=hpl (by decide) (by decide) (by decide) (by decide)
  obtain ⟨a,s,rfl⟩:=one_of (show 1 ≤ st.length from l1)
  exact ⟨n0,fun _ => h.next (st':=bitM (a.1 == 0) :: s) hpc (l2.trans (by simp [insN,outN])) l3 (cons_ok (vOk_bit _) (tail_ok hsv))⟩
 ·obtain ⟨l1,l2,l3⟩:=hpl (by decide) (by decide) (by decide) (by decide)
  obtain ⟨a,s,rfl⟩:=one_of (show 1 ≤ st.length from l1)
  exact ⟨n0,fun _ => h.next (st':=s) hpc (l2.trans (by simp [insN,outN])) l3 (tail_ok hsv)⟩
 ·obtain ⟨l1,l2,l3⟩:=hpl (by decide) (by decide) (by decide) (by decide)
  obtain ⟨a,s,rfl⟩:=one_of (show 1 ≤ st.length from l1)
  exact ⟨n0,fun _ => h.next (st':=a :: a :: s) hpc (l2.trans (by simp [insN,outN])) l3 (cons_ok (head_ok hsv) hsv)⟩
 ·obtain ⟨l1,l2,l3⟩:=hpl (by decide) (by decide) (by decide) (by decide)
  obtain ⟨b,a,s,rfl⟩:=two_of (show 2 ≤ st.length from l1)
  exact ⟨n0,fun _ => h.next (st':=a :: b :: s) hpc (l2.trans (by simp [insN,outN])) l3 (cons_ok (head_ok (tail_ok hsv)) (cons_ok (head_ok hsv) (tail_ok (tail_ok hsv))))⟩
 ·obtain ⟨l1,l2,l3⟩:=hpl (by decide) (by decide) (by decide) (by decide)
  exact ⟨n0,fun _ => h.next (st':=rg.getD y.toNat (0,[]) :: st) hpc (l2.trans (by simp [insN,outN])) l3 (cons_ok (getD_ok (P:=vOk) hrv (by rw [hrg]; exact g17 (.inl (hu 17 rfl))) _) hsv)⟩
 ·obtain ⟨l1,l2,l3⟩:=hpl (by decide) (by decide) (by decide) (by decide)
  obtain ⟨a,s,rfl⟩:=one_of (show 1 ≤ st.length from l1)
  refine ⟨n0,fun _ => ⟨hpc,by show s.length = (sM nt inp role E (pc + 1)).kinds.length; rw [l2]; simp [insN,outN],by show op.map (·.1) = _; rw [hop]; exact l3.symm,by show (rg.set y.toNat a).length = 8; rw [List.length_set]; exact hrg,tail_ok hsv,set_ok (P:=vOk) hrv _ (head_ok hsv),hov,hpr,hpv⟩⟩
 ·obtain ⟨e,e1,e2,e3,e4,e5,e6,-⟩:=behind_open G hpc (.inl (hu 19 rfl))
  rw [← hst] at e4 e5
  obtain ⟨a,s,rfl⟩:=one_of e5
  refine ⟨n0,fun _ => ?_⟩
  show OkM (sM nt inp role E) E ⟨if a.1 = 0 then (E.ends.getD pc 0).toNat + 1 else pc + 1,s,rg,op,pr⟩
  by_cases ha : a.1 = 0
  ·rw [if_pos ha,e3]
   exact ⟨by show e + 1 ≤ _; omega,by show s.length = (sM nt inp role E (e + 1)).kinds.length; rw [e4]; simp,by show op.map (·.1) = loopsB (sM nt inp role E (e + 1)); rw [e6]; exact hop,hrg,tail_ok hsv,hrv,hov,hpr,hpv⟩
  ·rw [if_neg ha]
   obtain ⟨l1,l2⟩:=valuesM_len (by rw [hu 19 rfl]; decide) ho.vl
   rw [hu 19 rfl] at l2
   have hk:=ho.k19 (hu 19 rfl)
   refine ⟨hpc,?_,?_,hrg,tail_ok hsv,hrv,hov,hpr,hpv⟩
   ·show s.length = (sM nt inp role E (pc + 1)).kinds.length
    rw [hk,l2,← hst]
    show s.length = (a :: s).length - 1 + 0
    simp
   ·show op.map (·.1) = loopsB (sM nt inp role E (pc + 1))
    rcases hs with ⟨_,k,_,hb,_⟩ | ⟨h',_⟩ | ⟨h',_⟩ | ⟨h',_⟩
    ·rw [loops_append _ _ _ hb,if_neg (by show ¬ (E.code.getD pc (0,0)).1 = 22; rw [hu 19 rfl]; decide)]
     exact hop
    ·rw [hu 19 rfl] at h'; exact absurd h' (by decide)
    ·rw [hu 19 rfl] at h'; exact absurd h' (by decide)
    ·rw [hu 19 rfl] at h'; exact absurd h'.1 (by decide)
 ·obtain ⟨e,e1,e2,e3,e4,e5⟩:=at_else G hpc (hu 20 rfl)
  refine ⟨n0,fun _ => ?_⟩
  show OkM (sM nt inp role E) E ⟨(E.ends.getD pc 0).toNat,st,rg,op,pr⟩
  rw [e3]
  exact ⟨by show e ≤ _; omega,by show st.length = (sM nt inp role E e).kinds.length; rw [e4]; exact hst,by show op.map (·.1) = loopsB (sM nt inp role E e); rw [e5]; exact hop,hrg,hsv,hrv,hov,hpr,hpv⟩
 ·obtain ⟨j,b,e1,e2,e3,e4,e5,e6,e7,e8⟩:=at_end G hpc (hu 21 rfl)
  have hle:=loopEnd_of e5 (by omega) e4
  have hd : doN E 21 y pc st rg op pr = if loopEnd E pc = true then (match op with | (a,p :: ps) :: o => (0,⟨a + 1,(0,p) :: st,rg,(a,ps) :: o,pr⟩) | (_,[]) :: o => (0,⟨pc + 1,st,rg,o,pr⟩) | [] => (99,⟨pc,st,rg,op,pr⟩)) else (0,⟨pc + 1,st,rg,op,pr⟩):=rfl
  rw [hd]
  by_cases hb : b.op = 22
  ·have h22 : opV E.code j = 22:=e2.2 hb
   rw [hle,h22,if_pos (by rfl)]
   rw [if_pos hb] at e6
   obtain ⟨e9,e10⟩:=e8 hb
   rw [e6] at hop
   match op,hop,hov with
   | [],hop,_ => cases hop
   | (a,[]) :: o,hop2,hov =>
    injection hop2 with ha hop2
    exact ⟨n0,fun _ => ⟨hpc,by show st.length = (sM nt inp role E (pc + 1)).kinds.length; rw [e7]; exact hst,hop2,hrg,hsv,hrv,fun o' ho' => hov o' (List.mem_cons_of_mem _ ho'),hpr,hpv⟩⟩
   | (a,p :: ps) :: o,hop2,hov =>
    injection hop2 with ha hop2
    have ha : a = j:=ha
    subst ha
    obtain ⟨q1,q2⟩:=hov _ (List.mem_cons_self ..)
    refine ⟨n0,fun _ => ⟨by show a + 1 ≤ _; omega,?_,?_,hrg,cons_ok (vOk_txt (q2 p (List.mem_cons_self ..))) hsv,hrv,?_,hpr,hpv⟩⟩
    ·show st.length + 1 = (sM nt inp role E (a + 1)).kinds.length
     rw [e9,hst]
    ·show a :: o.map (·.1) = loopsB (sM nt inp role E (a + 1))
     rw [e10,e6,hop2]; rfl
    ·intro o' ho'
     rcases List.mem_cons.1 ho' with rfl | ho'
     ·exact ⟨by simp at q1; show ps.length ≤ 1024; omega,fun p' hp' => q2 p' (List.mem_cons_of_mem _ hp')⟩
     ·exact hov o' (List.mem_cons_of_mem _ ho')
  ·have h22 : ¬ opV E.code j = 22:=fun h' => hb (e2.1 h')
   rw [hle,if_neg (by simpa using h22)]
   rw [if_neg hb] at e6
   exact ⟨n0,fun _ => ⟨hpc,by show st.length = (sM nt inp role E (pc + 1)).kinds.length; rw [e7]; exact hst,by show op.map (·.1) = loopsB (sM nt inp role E (pc + 1)); rw [hop,e6]; rfl,hrg,hsv,hrv,hov,hpr,hpv⟩⟩
 ·obtain ⟨e,e1,e2,e3,e4,e5,e6,-⟩:=behind_open G hpc (.inr (hu 22 rfl))
  rw [← hst] at e4 e5
  obtain ⟨a,s,rfl⟩:=one_of e5
  have hd : doN E 22 y pc (a :: s) rg op pr = (match piecesM a.2 y with | [] => (0,⟨(E.ends.getD pc 0).toNat + 1,s,rg,op,pr⟩) | p :: ps => (0,⟨pc + 1,(0,p) :: s,rg,(pc,ps) :: op,pr⟩)):=rfl
  rw [hd]
  obtain ⟨q1,q2⟩:=piecesM_ok (head_ok hsv).2.2 y
  cases hp : piecesM a.2 y with
  | nil =>
   refine ⟨n0,fun _ => ?_⟩
   show OkM (sM nt inp role E) E ⟨(E.ends.getD pc 0).toNat + 1,s,rg,op,pr⟩
   rw [e3]
   exact ⟨by show e + 1 ≤ _; omega,by show s.length = (sM nt inp role E (e + 1)).kinds.length; rw [e4]; simp,by show op.map (·.1) = loopsB (sM nt inp role E (e + 1)); rw [e6]; exact hop,hrg,tail_ok hsv,hrv,hov,hpr,hpv⟩
  | cons p ps =>
   rw [hp] at q1 q2
   obtain ⟨l1,l2⟩:=valuesM_len (by rw [hu 22 rfl]; decide) ho.vl
   rw [hu 22 rfl] at l2
   have hk:=ho.k22 (hu 22 rfl)
   refine ⟨n0,fun _ => ⟨hpc,?_,?_,hrg,cons_ok (vOk_txt (q2 p (List.mem_cons_self ..))) (tail_ok hsv),hrv,?_,hpr,hpv⟩⟩
   ·show s.length + 1 = (sM nt inp role E (pc + 1)).kinds.length
    rw [hk,List.length_append,l2,← hst]
    show s.length + 1 = (a :: s).length - 1 + 0 + 1
    simp
   ·show pc :: op.map (·.1) = loopsB (sM nt inp role E (pc + 1))
    rcases hs with ⟨_,k,_,hb,_⟩ | ⟨h',_⟩ | ⟨h',_⟩ | ⟨h',_⟩
    ·rw [loops_append _ _ _ hb,if_pos (by show (E.code.getD pc (0,0)).1 = 22; exact hu 22 rfl),hop]; rfl
    ·rw [hu 22 rfl] at h'; exact absurd h' (by decide)
    ·rw [hu 22 rfl] at h'; exact absurd h' (by decide)
    ·rw [hu 22 rfl] at h'; exact absurd h'.1 (by decide)
   ·intro o' ho'
    rcases List.mem_cons.1 ho' with rfl | ho'
    ·exact ⟨by simp at q1; show ps.length ≤ 1024; omega,fun p' hp' => q2 p' (List.mem_cons_of_mem _ hp')⟩
    ·exact hov o' ho'
 ·obtain ⟨l1,l2,l3⟩:=hpl (by decide) (by decide) (by decide) (by decide)
  obtain ⟨v,k,s,rfl⟩:=two_of (show 2 ≤ st.length from l1)
  have hd : doN E 23 y pc (v :: k :: s) rg op pr = if 256 ≤ pr.length then (4,⟨pc,v :: k :: s,rg,op,pr⟩) else (0,⟨pc + 1,s,rg,op,pr ++ [(k.2,v.2)]⟩):=rfl
  rw [hd]
  split
  ·exact ⟨n4,fun h' => absurd h' n40⟩
  ·refine ⟨n0,fun _ => ⟨hpc,by show s.length = (sM nt inp role E (pc + 1)).kinds.length; rw [l2]; simp [insN,outN],by show op.map (·.1) = _; rw [hop]; exact l3.symm,hrg,tail_ok (tail_ok hsv),hrv,hov,by show (pr ++ [(k.2,v.2)]).length ≤ 256; rw [List.length_append,List.length_singleton]; omega,fun p hp => ?_⟩⟩
   rcases List.mem_append.1 hp with hp | hp
   ·exact hpv p hp
   ·rw [List.mem_singleton] at hp
    subst hp
    exact ⟨(head_ok (tail_ok hsv)).2.2,(head_ok hsv).2.2⟩
end
end Go.Proofs.YtehllcbnheicoaaGreatDoor
