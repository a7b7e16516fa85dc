/- Lemmas for FoldTells, part 40: walks of the functions that it reaches, and the plain laws behind them. -/
import Derived.Maps.RangeWalk
import Derived.Test.YtehllcbnheicoaaGreatDoorFoldTellsK39
set_option linter.unusedSimpArgs false
set_option linter.unusedVariables false
set_option maxRecDepth 100000
set_option maxHeartbeats 16000000
namespace Go.Proofs.YtehllcbnheicoaaGreatDoor
open Go.RowKit Oct
def run1 (k : List UInt8) : List PR → Nat
 | [] => 0
 | p :: l => if p.1 = k then run1 k l + 1 else 0
theorem run1_le (k : List UInt8) : ∀ l,run1 k l ≤ l.length
 | [] => Nat.le_refl _
 | p :: l => by have:=run1_le k l; unfold run1; split <;> simp; omega
def head1 : List PR → Nat
 | [] => 0
 | p :: l => run1 p.1 l + 1
theorem head1_pos (l : List PR) (h : 0 < l.length) : 1 ≤ head1 l ∧ head1 l ≤ l.length:=by
 cases l with
 | nil => simp at h
 | cons p l => have:=run1_le p.1 l; simp only [head1,List.length_cons]; omega
theorem head1_in (l : List PR) (h : 0 < l.length) (k : Nat) (hk : k < head1 l) (hl : k < l.length) : l[k].1 = l[0].1:=by
 cases l with
 | nil => simp at h
 | cons p l =>
  have key : ∀ (l : List PR) (k : Nat) (hl : k < l.length),k < run1 p.1 l → l[k].1 = p.1:=by
   intro l
   induction l with
   | nil => intro k hl; simp at hl
   | cons q l ih =>
    intro k hl hk
    unfold run1 at hk
    split at hk
    ·cases k with
     | zero => assumption
     | succ k => exact ih k (by simpa using hl) (by omega)
    ·omega
  cases k with
  | zero => rfl
  | succ k => exact key l k (by simpa using hl) (by simpa [head1] using hk)
theorem head1_out (l : List PR) (h : 0 < l.length) (hl : head1 l < l.length) : l[head1 l].1 ≠ l[0].1:=by
 cases l with
 | nil => simp at h
 | cons p l =>
  have key : ∀ (l : List PR) (hl : run1 p.1 l < l.length),l[run1 p.1 l].1 ≠ p.1:=by
   intro l
   induction l with
   | nil => intro hl; simp at hl
   | cons q l ih =>
    intro hl
    by_cases hq : q.1 = p.1
    ·have e : run1 p.1 (q :: l) = run1 p.1 l + 1:=if_pos hq
     simp only [e,List.getElem_cons_succ]
     exact ih (by rw [e] at hl; simpa using hl)
    ·have e : run1 p.1 (q :: l) = 0:=if_neg hq
     simp only [e,List.getElem_cons_zero]
     exact hq
  simp only [head1,List.getElem_cons_succ,List.getElem_cons_zero]
  exact key l (by simpa [head1] using hl)
theorem head1_eq (l : List PR) (h : 0 < l.length) (k : Nat) (h1 : 1 ≤ k) (hl : k ≤ l.length) (hin : ∀ j (hj : j < k),l[j].1 = l[0].1) (hout : ∀ (hk : k < l.length),l[k].1 ≠ l[0].1) : k = head1 l:=by
 have hp:=head1_pos l h
 rcases Nat.lt_trichotomy k (head1 l) with hlt | he | hgt
 ·exact absurd (head1_in l h k hlt (by omega)) (hout (by omega))
 ·exact he
 ·exact absurd (hin (head1 l) hgt) (head1_out l h (by omega))
def grpF : Nat → List PR → List (List PR)
 | 0,_ => []
 | n + 1,l => if l.length = 0 then [] else l.take (head1 l) :: grpF n (l.drop (head1 l))
def grp (l : List PR) : List (List PR):=grpF l.length l
theorem grpF_more : ∀ (n m : Nat) (l : List PR),l.length ≤ n → l.length ≤ m → grpF n l = grpF m l
 | 0,0,_,_,_ => rfl
 | 0,m + 1,l,h,_ => by simp [grpF,show l.length = 0 by omega]
 | n + 1,0,l,_,h => by simp [grpF,show l.length = 0 by omega]
 | n + 1,m + 1,l,h,h' => by
  unfold grpF
  split
  ·rfl
  ·have:=head1_pos l (by omega)
   rw [grpF_more n m _ (by simp; omega) (by simp; omega)]
theorem grp_nil : grp [] = []:=rfl
theorem grp_step (l : List PR) (h : 0 < l.length) : grp l = l.take (head1 l) :: grp (l.drop (head1 l)):=by
 have hp:=head1_pos l h
 obtain ⟨n,hn⟩ : ∃ n,l.length = n + 1:=⟨l.length - 1,by omega⟩
 unfold grp
 rw [hn,grpF,if_neg (by omega)]
 congr 1
 exact grpF_more _ _ _ (by simp; omega) (by simp)
theorem grp_length_le : ∀ (n : Nat) (l : List PR),l.length ≤ n → (grp l).length ≤ l.length
 | 0,l,h => by
  have : l = []:=List.eq_nil_of_length_eq_zero (by omega)
  subst this; simp [grp_nil]
 | n + 1,l,h => by
  by_cases h0 : 0 < l.length
  ·have hp:=head1_pos l h0
   rw [grp_step l h0]
   have:=grp_length_le n (l.drop (head1 l)) (by simp; omega)
   simp at this ⊢; omega
  ·have : l = []:=List.eq_nil_of_length_eq_zero (by omega)
   subst this; simp [grp_nil]
theorem grp_ne : ∀ (n : Nat) (l : List PR),l.length ≤ n → ∀ g ∈ grp l,0 < g.length
 | 0,l,h => by
  have : l = []:=List.eq_nil_of_length_eq_zero (by omega)
  subst this; simp [grp_nil]
 | n + 1,l,h => by
  by_cases h0 : 0 < l.length
  ·have hp:=head1_pos l h0
   rw [grp_step l h0]
   intro g hg
   rcases List.mem_cons.1 hg with rfl | hg
   ·simp; omega
   ·exact grp_ne n _ (by simp; omega) g hg
  ·have : l = []:=List.eq_nil_of_length_eq_zero (by omega)
   subst this; simp [grp_nil]
def ofKey (k : List UInt8) (l : List PR) : List PR:=l.filter fun p => p.1 == k
theorem ofKey_app (k : List UInt8) (a b : List PR) : ofKey k (a ++ b) = ofKey k a ++ ofKey k b:=by simp [ofKey]
theorem ofKey_none (k : List UInt8) (l : List PR) (h : ∀ p ∈ l,p.1 ≠ k) : ofKey k l = []:=by
 rw [ofKey,List.filter_eq_nil_iff]
 intro p hp
 simpa using h p hp
theorem ofKey_all (k : List UInt8) (l : List PR) (h : ∀ p ∈ l,p.1 = k) : ofKey k l = l:=by
 rw [ofKey,List.filter_eq_self]
 intro p hp
 simpa using h p hp
theorem lt_ne {a b : List UInt8} (h : lt a b = true) : a ≠ b:=by
 rintro rfl
 rw [lt_irr] at h
 cases h
theorem ofKey_ins (k : List UInt8) (p : PR) : ∀ l : List PR,sorted l = true → ofKey k (ins p l) = ofKey k l ++ ofKey k [p]
 | [],_ => by simp [ins,ofKey]
 | q :: l,hs => by
  obtain ⟨h1,h2⟩:=sorted_cons.1 hs
  unfold ins
  split
  ·rename_i hlt
   have e : p :: q :: l = [p] ++ (q :: l):=rfl
   rw [e,ofKey_app]
   by_cases hp : p.1 = k
   ·have : ofKey k (q :: l) = []:=by
     refine ofKey_none _ _ fun y hy => ?_
     rcases List.mem_cons.1 hy with rfl | hy
     ·exact fun e => lt_ne hlt (hp.trans e.symm)
     ·intro e
      have h3:=h1 y hy
      have h4 : lt q.1 p.1 = false:=by
       rw [e,← hp] at h3; exact lt_asymm' hlt
      have h5 : lt y.1 q.1 = true:=by rw [e,← hp]; exact hlt
      rw [h5] at h3
      cases h3
    rw [this,List.append_nil,List.nil_append]
   ·have : ofKey k [p] = []:=ofKey_none _ _ fun y hy => by simp at hy; subst hy; exact hp
    rw [this,List.append_nil,List.nil_append]
  ·have ih:=ofKey_ins k p l h2
   have e1 : q :: ins p l = [q] ++ ins p l:=rfl
   have e2 : q :: l = [q] ++ l:=rfl
   rw [e1,e2,ofKey_app,ofKey_app,ih,List.append_assoc]
theorem ofKey_srt (k : List UInt8) (l : List PR) : ofKey k (srt l) = ofKey k l:=by
 have h : ∀ (l : List PR),ofKey k (srt l.reverse) = ofKey k l.reverse:=by
  intro l
  induction l with
  | nil => rfl
  | cons p l ih => rw [List.reverse_cons,srt_snoc,ofKey_ins _ _ _ (srt_sorted _),ih,ofKey_app]
 have:=h l.reverse
 rwa [List.reverse_reverse] at this
theorem sorted_drop (l : List PR) (k : Nat) (h : sorted l = true) : sorted (l.drop k) = true:=by
 rw [sorted_iff] at h ⊢
 intro j hj
 simp only [List.getElem_drop]
 exact h (k + j) (by simp at hj; omega)
theorem sorted_le (l : List PR) (h : sorted l = true) : ∀ (i j : Nat) (hi : i ≤ j) (hj : j < l.length),lt l[j].1 l[i].1 = false:=by
 intro i j hi hj
 induction j with
 | zero =>
   obtain rfl : i = 0:=by omega
   exact lt_irr _
 | succ j ih =>
  by_cases he : i = j + 1
  ·subst he; exact lt_irr _
  ·have h1:=ih (by omega) (by omega)
   have h2:=(sorted_iff l).1 h j hj
   exact le_trans' h1 h2
theorem lt_of_le_ne {a b : List UInt8} (h : lt b a = false) (hne : a ≠ b) : lt a b = true:=by
 have:=gt_eq b a
 rw [h,Bool.false_or] at this
 have e : (b == a) = false:=by simpa using fun e : b = a => hne e.symm
 rw [e] at this
 simpa using this.symm
theorem head1_key (l : List PR) (h : 0 < l.length) : ∀ p ∈ l.take (head1 l),p.1 = l[0].1:=by
 intro p hp
 obtain ⟨k,hk,rfl⟩:=List.getElem_of_mem hp
 rw [List.getElem_take]
 exact head1_in l h k (by simp at hk; omega) (by simp at hk; omega)
theorem drop_key (l : List PR) (h : 0 < l.length) (hs : sorted l = true) : ∀ p ∈ l.drop (head1 l),lt l[0].1 p.1 = true:=by
 intro p hp
 obtain ⟨k,hk,rfl⟩:=List.getElem_of_mem hp
 rw [List.getElem_drop]
 have hk' : head1 l + k < l.length:=by simp at hk; omega
 have h1:=head1_out l h (by omega)
 have h2:=sorted_le l hs 0 (head1 l) (by omega) (by omega)
 have h3:=sorted_le l hs (head1 l) (head1 l + k) (by omega) hk'
 have h4 : lt l[0].1 l[head1 l].1 = true:=lt_of_le_ne h2 (Ne.symm h1)
 by_cases he : l[head1 l + k].1 = l[head1 l].1
 ·rw [he]; exact h4
 ·exact lt_trans' h4 (lt_of_le_ne h3 (Ne.symm he))
def hk1 : List PR → List UInt8
 | [] => []
 | p :: _ => p.1
def GrpOk (G : List (List PR)) (l : List PR) : Prop:=(∀ g ∈ G,g = ofKey (hk1 g) l ∧ (∃ p ∈ l,hk1 g = p.1)) ∧ ∀ i (h : i + 1 < G.length),lt (hk1 G[i]) (hk1 G[i + 1]) = true
theorem grp_spec : ∀ (n : Nat) (l : List PR),l.length ≤ n → sorted l = true → GrpOk (grp l) l
 | 0,l,hn,_ => by
  have : l = []:=List.eq_nil_of_length_eq_zero (by omega)
  subst this
  rw [grp_nil]
  exact ⟨by simp,fun i h => by simp at h⟩
 | n + 1,l,hn,hs => by
  by_cases h0 : 0 < l.length
  ·have hp:=head1_pos l h0
   obtain ⟨ih1,ih2⟩:=grp_spec n (l.drop (head1 l)) (by simp; omega) (sorted_drop l _ hs)
   have hk0 : hk1 (l.take (head1 l)) = l[0].1:=by
    cases l with
    | nil => simp at h0
    | cons p l =>
      obtain ⟨m,hm⟩ : ∃ m,head1 (p :: l) = m + 1:=⟨head1 (p :: l) - 1,by omega⟩
      rw [hm]; rfl
   have hsplit : ∀ k,ofKey k l = ofKey k (l.take (head1 l)) ++ ofKey k (l.drop (head1 l)):=fun k => by rw [← ofKey_app,List.take_append_drop]
   have hfirst : ∀ g ∈ grp (l.drop (head1 l)),lt l[0].1 (hk1 g) = true:=by
    intro g hg
    obtain ⟨_,p,hp1,hp2⟩:=ih1 g hg
    rw [hp2]
    exact drop_key l h0 hs p hp1
   rw [grp_step l h0]
   refine ⟨fun g hg => ?_,fun i hi => ?_⟩
   ·rcases List.mem_cons.1 hg with rfl | hg
    ·rw [hk0,hsplit,ofKey_all _ _ (head1_key l h0),ofKey_none _ (l.drop (head1 l)) (fun p hp e => lt_ne (drop_key l h0 hs p hp) e.symm),List.append_nil]
     exact ⟨rfl,l[0],List.getElem_mem h0,rfl⟩
    ·obtain ⟨e1,p,hp1,hp2⟩:=ih1 g hg
     refine ⟨?_,p,List.mem_of_mem_drop hp1,hp2⟩
     rw [hsplit,ofKey_none _ (l.take (head1 l)) (fun q hq e => lt_ne (hfirst g hg) (by rw [← e]; exact (head1_key l h0 q hq).symm)),List.nil_append]
     exact e1
   ·cases i with
    | zero =>
     simp only [List.getElem_cons_zero,List.getElem_cons_succ,Nat.zero_add]
     rw [hk0]
     exact hfirst _ (List.getElem_mem _)
    | succ i =>
     simp only [List.getElem_cons_succ]
     exact ih2 i (by simpa using hi)
  ·have : l = []:=List.eq_nil_of_length_eq_zero (by omega)
   subst this
   rw [grp_nil]
   exact ⟨by simp,fun i h => by simp at h⟩
def foldV (j : Jb) : List UInt8 → List (List UInt8) → List UInt8 × Nat
 | s,[] => (s,0)
 | s,v :: r => if (vmV j.jt j.jc 2 [s,v] j.fuel).1 ≠ 0 then ([],(vmV j.jt j.jc 2 [s,v] j.fuel).1) else foldV j (vmV j.jt j.jc 2 [s,v] j.fuel).2.2 r
def valuesJ (j : Jb) (l : List (List UInt8)) : List UInt8 × Nat:=if mayJ j = true ∧ 0 < l.length then foldV j (l.headD []) l.tail else ([],2)
theorem foldV_bad {j : Jb} {s v : List UInt8} {r : List (List UInt8)} (h : (vmV j.jt j.jc 2 [s,v] j.fuel).1 ≠ 0) : foldV j s (v :: r) = ([],(vmV j.jt j.jc 2 [s,v] j.fuel).1):=by rw [foldV,if_pos h]
theorem foldV_on {j : Jb} {s v : List UInt8} {r : List (List UInt8)} (h : (vmV j.jt j.jc 2 [s,v] j.fuel).1 = 0) : foldV j s (v :: r) = foldV j (vmV j.jt j.jc 2 [s,v] j.fuel).2.2 r:=by rw [foldV,if_neg (fun q => q h)]
def rowsV (j : Jb) : List PR → List (List PR) → List PR × List UInt8 × Nat
 | out,[] => (out,[],0)
 | out,g :: gs => if (valuesJ j (g.map (·.2))).2 ≠ 0 then ([],hk1 g,(valuesJ j (g.map (·.2))).2) else rowsV j (out ++ [(hk1 g,(valuesJ j (g.map (·.2))).1)]) gs
def rowsJ (j : Jb) (rows : List (List PR)) : List PR × List UInt8 × Nat:=if mayJ j = true then rowsV j [] (grp (srt rows.flatten)) else ([],[],2)
theorem rowsV_bad {j : Jb} {out : List PR} {g : List PR} {gs : List (List PR)} (h : (valuesJ j (g.map (·.2))).2 ≠ 0) : rowsV j out (g :: gs) = ([],hk1 g,(valuesJ j (g.map (·.2))).2):=by rw [rowsV,if_pos h]
theorem rowsV_on {j : Jb} {out : List PR} {g : List PR} {gs : List (List PR)} (h : (valuesJ j (g.map (·.2))).2 = 0) : rowsV j out (g :: gs) = rowsV j (out ++ [(hk1 g,(valuesJ j (g.map (·.2))).1)]) gs:=by rw [rowsV,if_neg (fun q => q h)]
def ofR (rows : List (List PR)) (k : List UInt8) : List (List UInt8):=(ofKey k rows.flatten).map (·.2)
def keysV (j : Jb) (rows : List (List PR)) : List PR → List (List UInt8) → List PR × List UInt8 × Nat
 | out,[] => (out,[],0)
 | out,k :: ks => if (valuesJ j (ofR rows k)).2 ≠ 0 then ([],k,(valuesJ j (ofR rows k)).2) else keysV j rows (out ++ [(k,(valuesJ j (ofR rows k)).1)]) ks
theorem keysV_bad {j : Jb} {rows : List (List PR)} {out : List PR} {k : List UInt8} {ks : List (List UInt8)} (h : (valuesJ j (ofR rows k)).2 ≠ 0) : keysV j rows out (k :: ks) = ([],k,(valuesJ j (ofR rows k)).2):=by rw [keysV,if_pos h]
theorem keysV_on {j : Jb} {rows : List (List PR)} {out : List PR} {k : List UInt8} {ks : List (List UInt8)} (h : (valuesJ j (ofR rows k)).2 = 0) : keysV j rows out (k :: ks) = keysV j rows (out ++ [(k,(valuesJ j (ofR rows k)).1)]) ks:=by rw [keysV,if_neg (fun q => q h)]
theorem keysV_groups (j : Jb) (rows : List (List PR)) : ∀ (gs : List (List PR)) (out : List PR),(∀ g ∈ gs,g = ofKey (hk1 g) rows.flatten) → keysV j rows out (gs.map hk1) = rowsV j out gs
 | [],out,_ => rfl
 | g :: gs,out,h => by
  have hg : ofR rows (hk1 g) = g.map (·.2):=by unfold ofR; rw [← h g (List.mem_cons_self ..)]
  rw [List.map_cons,keysV,rowsV,hg]
  split
  ·rfl
  ·exact keysV_groups j rows gs _ (fun x hx => h x (List.mem_cons_of_mem _ hx))
theorem keysV_rows (j : Jb) (rows : List (List PR)) : keysV j rows [] ((grp (srt rows.flatten)).map hk1) = rowsV j [] (grp (srt rows.flatten)):=by
 refine keysV_groups j rows _ _ (fun g hg => ?_)
 have h:=((grp_spec (srt rows.flatten).length (srt rows.flatten) (Nat.le_refl _) (srt_sorted _)).1 g hg).1
 rw [ofKey_srt] at h
 exact h
end Go.Proofs.YtehllcbnheicoaaGreatDoor
namespace Go.Proofs.YtehllcbnheicoaaGreatDoor
open Go.RowKit Oct
attribute [local irreducible] wpG
end Go.Proofs.YtehllcbnheicoaaGreatDoor
namespace Go.Proofs.YtehllcbnheicoaaGreatDoor
open Go.RowKit Oct
theorem b_drew' (w : World) (b : Nat) : Below b w w.drew:=(Below.refl _ _).drew
theorem OP.empty (w : World) : OP (w.alloc (.cells #[] 62)) w.heap.size (.slice (some ⟨w.heap.size,0,none⟩) 0 0) [] :=
 ⟨rfl,.inr ⟨w.heap.size,0,#[],rfl,Nat.le_refl _,by show (w.heap.push _)[w.heap.size]? = _; simp,Nat.le_refl _,by decide,rfl,rfl⟩⟩
theorem Clone_any (v : Value) (l : List PR) (w : World) (hr : RP w v l) (hl : l.length * 32 ≤ 140737488355328) :
  Calls Tryz.prog 157 #[v] w fun e w' => ∃ v',e = .returned v' ∧ OP w' w.heap.size v' l ∧ Below w.heap.size w w':=by
 obtain ⟨hr0,a,cap,rfl,hle⟩:=id hr
 have hnil:=none_cap hr0
 cases a with
 | none =>
  obtain ⟨h0,rfl⟩:=hnil rfl
  have hl0 : l = []:=List.eq_nil_of_length_eq_zero h0
  subst hl0
  go_enter Tryz.func157,Tryz.ntmps157
  have q:=fun w : World => Lib.run_eql_slice_nil w 37 62 none 0 0 0 0 Tryz.underlying37
  go_wp2
  go_ret
  exact ⟨_,rfl,OP.nil _ _,Below.refl _ _⟩
 | some ad =>
  have q:=fun w : World => Lib.run_eql_slice_nil w 37 62 (some ad) l.length cap 0 0 Tryz.underlying37
  have H:=Lib.hid hr
  clear hr hr0 hnil
  go_enter Tryz.func157,Tryz.ntmps157
  go_wp2_with (at_builtin; refine appendP _ rfl _ _ _ rfl Tryz.underlying37 w.heap.size _ [] rfl (OP.empty w) _ l rfl (H.out.below (b_alloc _ _)) (by simpa using hl) (by simp) ?_; intro v' w1 hown1 hB1)
  go_ret
  exact ⟨_,rfl,hown1,(b_alloc w _).trans hB1⟩
def slen : Value → Nat
 | .slice _ n _ => n
 | _ => 0
theorem makeP (w : World) (n : Nat) (hb : 32 * n ≤ 281474976710656) : ∃ w',(Instr.makeSlice 37 (.int .i64 0) (.int .i64 (n : Int))).run Tryz.prog w = .ok (.slice (some ⟨w.heap.size,0,none⟩) 0 n) w' ∧
  OP w' w.heap.size (.slice (some ⟨w.heap.size,0,none⟩) 0 n) [] ∧ Below w.heap.size w w':=by
 obtain ⟨i,hi,hz,hi1,hi2⟩:=info_parts infoPair
 obtain ⟨w',h1,h2,h3⟩:=run_make_own (P:=Tryz.prog) w w.heap.size 37 62 i _ 2 Tryz.underlying37 hi hz hi1 .i64 .i64 n (by rw [hi2]; exact hb) (by unfold maxLen; omega) (Nat.le_refl _)
 exact ⟨w',h1,h2,(Below.refl _ _).grown h3 (Nat.le_refl _) (by simp)⟩
theorem merged_any (va vb : Value) (la lb : List PR) (w : World) (ha : RP w va la) (hb : RP w vb lb) (hl : (la.length + lb.length) * 32 ≤ 140737488355328) :
  Calls Tryz.prog 115 #[va,vb,.func (.func 116) #[] #[]] w fun e w' => ∃ v',e = .returned v' ∧ OP w' w.heap.size v' (mrg la lb) ∧ Below w.heap.size w w':=by
 obtain ⟨_,aa,ca,rfl,hca⟩:=id ha
 obtain ⟨_,ab,cb,rfl,hcb⟩:=id hb
 obtain ⟨w1,hmk,hown1,hB1⟩:=makeP w (la.length + lb.length) (by omega)
 rw [Int.natCast_add] at hmk
 have HA:=Lib.hid ha
 have HB:=Lib.hid hb
 clear ha hb
 go_enter Tryz.func115,Tryz.ntmps115
 go_wp2
 go_loopw [7,0,1] (fun vo xa xb wr => ∃ o xs ys,OP wr w.heap.size vo o ∧ RP w xa xs ∧ RP w xb ys ∧ Hid (o ++ mrg xs ys = mrg la lb) ∧ o.length + xs.length + ys.length = la.length + lb.length ∧ Below w.heap.size w wr) (fun vo xa xb _ => slen xa + slen xb)
 case atStart => exact ⟨[],la,lb,hown1,HA.out,HB.out,rfl,by simp,hB1⟩
 case round =>
  obtain ⟨o,xs,ys,hown,hxs,hys,hH,hlen,hB⟩:=hrel
  clear HA HB hown1 hmk hB1
  obtain ⟨a1,c1,rfl,hc1,hx⟩:=hxs.open
  obtain ⟨a2,c2,rfl,hc2,hy⟩:=hys.open
  obtain ⟨ao,co,rfl⟩:=owns_slice hown
  have HXS:=Lib.hid hxs
  have HYS:=Lib.hid hys
  by_cases h1 : 0 < xs.length
  ·by_cases h2 : 0 < ys.length
   ·obtain ⟨b1,o1,rfl,d1,d2⟩:=hx 0 h1
    obtain ⟨b2,o2,rfl,d3,d4⟩:=hy 0 h2
    rw [Nat.zero_mul,Nat.add_zero] at d1 d2 d3 d4
    obtain ⟨A1,C1,s1,hc1'⟩:=hxs.cutRun 1 1 rfl h1
    obtain ⟨A2,C2,s2,hc2'⟩:=hys.cutRun 1 1 rfl h2
    have HC1:=Lib.hid hc1'
    have HC2:=Lib.hid hc2'
    clear hc1' hc2'
    clear hxs hys
    replace d1:=Below.keeps hB d1
    replace d2:=Below.keeps hB d2
    replace d3:=Below.keeps hB d3
    replace d4:=Below.keeps hB d4
    have kk1 : (0 : Int) < (xs.length : Int):=by omega
    have kk2 : (0 : Int) < (ys.length : Int):=by omega
    have kk3 : (1 : Int) ≤ (xs.length : Int):=by omega
    have kk4 : (1 : Int) ≤ (ys.length : Int):=by omega
    have hX : xs = xs[0] :: xs.drop 1:=by cases xs with | nil => simp at h1 | cons x xs => rfl
    have hY : ys = ys[0] :: ys.drop 1:=by cases ys with | nil => simp at h2 | cons x xs => rfl
    have HX:=Lib.hid hX; have HY:=Lib.hid hY
    clear hX hY hx hy
    cases hlt : lt ys[0].1 xs[0].1
    ·have HL:=Lib.hid hlt; clear hlt
     go_wp2
     go_region_with (go_at_call 116; refine (less_any _ _ _).mono ?_; rw [HL.out]; rintro e w2 ⟨rfl,hB2⟩)
     all_goals
      have hB2' : Below wr.heap.size wr w2:=(b_drew wr).trans hB2
      have e1:=Below.keeps hB2' d1
      have e2:=Below.keeps hB2' d2
      have hown2:=World.ownsRow.drew (hown.below hB2')
      have hby : (o.length + 1) * 32 ≤ 140737488355328:=by omega
      have hbase : w.heap.size ≤ w2.drew.heap.size:=by have:=hB.size; have:=hB2'.size; show w.heap.size ≤ w2.heap.size; omega
      clear hown d1 d2 d3 d4
      go_wp2
      go_region_law (refine step_append1P w2.drew xs[0] rfl _ _ 37 rfl Tryz.underlying37 w.heap.size _ o rfl hown2 _ rfl hby hbase ?_; intro g cap w3 hown3 hB3)
      all_goals
       simp only [List.getElem_toArray,List.getElem_cons_succ,List.getElem_cons_zero]
       go_frame
       go_wp2
       go_roundw
       case rel =>
        refine ⟨o ++ [xs[0]],xs.drop 1,ys,hown3,HC1.out,HYS.out,?_,by simp; omega,hB.trans ((hB2'.mono hB.size).trans ((b_drew' w2 _).trans hB3))⟩
        have hh:=hH.out
        rw [HX.out,HY.out,mrg_cons,if_neg (by rw [HL.out]; simp),← HY.out] at hh
        unfold Hid
        rw [← hh]
        simp
       case measure => simp [slen]; omega
    ·have HL:=Lib.hid hlt; clear hlt
     go_wp2
     go_region_with (go_at_call 116; refine (less_any _ _ _).mono ?_; rw [HL.out]; rintro e w2 ⟨rfl,hB2⟩)
     all_goals
      have hB2' : Below wr.heap.size wr w2:=(b_drew wr).trans hB2
      have e1:=Below.keeps hB2' d3
      have e2:=Below.keeps hB2' d4
      have hown2:=World.ownsRow.drew (hown.below hB2')
      have hby : (o.length + 1) * 32 ≤ 140737488355328:=by omega
      have hbase : w.heap.size ≤ w2.drew.heap.size:=by have:=hB.size; have:=hB2'.size; show w.heap.size ≤ w2.heap.size; omega
      clear hown d1 d2 d3 d4
      go_wp2
      go_region_law (refine step_append1P w2.drew ys[0] rfl _ _ 37 rfl Tryz.underlying37 w.heap.size _ o rfl hown2 _ rfl hby hbase ?_; intro g cap w3 hown3 hB3)
      all_goals
       simp only [List.getElem_toArray,List.getElem_cons_succ,List.getElem_cons_zero]
       go_frame
       go_wp2
       go_roundw
       case rel =>
        refine ⟨o ++ [ys[0]],xs,ys.drop 1,hown3,HXS.out,HC2.out,?_,by simp; omega,hB.trans ((hB2'.mono hB.size).trans ((b_drew' w2 _).trans hB3))⟩
        have hh:=hH.out
        rw [HX.out,HY.out,mrg_cons,if_pos HL.out,← HX.out] at hh
        unfold Hid
        rw [← hh]
        simp
       case measure => simp [slen]; omega
   ·obtain rfl : ys = []:=List.eq_nil_of_length_eq_zero (by omega)
    have kk1 : (0 : Int) < (xs.length : Int):=by omega
    clear hx hy hxs hys
    have hby : (o.length + xs.length) * 32 ≤ 140737488355328:=by simp at hlen; omega
    have hby2 : ((o ++ xs).length + 0) * 32 ≤ 140737488355328:=by simp at hlen ⊢; omega
    have hbase:=hB.size
    have hx:=HXS.out.below hB
    go_wp2_with (first | (at_builtin; refine appendP w2 rfl _ _ _ rfl Tryz.underlying37 w.heap.size _ (o ++ xs) rfl hown2 _ [] rfl (HYS.out.below hB2') hby2 hB2'.size ?_; intro v3 w3 hown3 hB3) | (at_builtin; refine appendP wr rfl _ _ _ rfl Tryz.underlying37 w.heap.size _ o rfl hown _ xs rfl hx hby hbase ?_; intro v2 w2 hown2 hB2; have hB2':=hB.trans hB2))
    go_ret
    have hh:=hH.out
    rw [mrg_nil_r] at hh
    rw [hh,List.append_nil] at hown3
    exact ⟨_,rfl,hown3,hB2'.trans hB3⟩
  ·obtain rfl : xs = []:=List.eq_nil_of_length_eq_zero (by omega)
   clear hx hy hxs hys
   have hby : (o.length + 0) * 32 ≤ 140737488355328:=by simp at hlen; omega
   have hby2 : ((o ++ []).length + ys.length) * 32 ≤ 140737488355328:=by simp at hlen ⊢; omega
   have hbase:=hB.size
   have hx:=HXS.out.below hB
   go_wp2_with (first | (at_builtin; refine appendP w2 rfl _ _ _ rfl Tryz.underlying37 w.heap.size _ (o ++ []) rfl hown2 _ ys rfl (HYS.out.below hB2') hby2 hB2'.size ?_; intro v3 w3 hown3 hB3) | (at_builtin; refine appendP wr rfl _ _ _ rfl Tryz.underlying37 w.heap.size _ o rfl hown _ [] rfl hx hby hbase ?_; intro v2 w2 hown2 hB2; have hB2':=hB.trans hB2))
   go_ret
   have hh:=hH.out
   rw [mrg_nil_l] at hh
   rw [List.append_nil,hh] at hown3
   exact ⟨_,rfl,hown3,hB2'.trans hB3⟩
theorem OP.mono {w : World} {base base' : Nat} {v : Value} {l : List PR} (h : OP w base v l) (hb : base' ≤ base) : OP w base' v l:=owns_mono h hb
theorem owns_two {w : World} {base : Nat} {v : Value} {p q : PR} (h : OP w base v [p,q]) : ∃ g cap,v = .slice (some ⟨g,0,none⟩) 2 cap ∧ base ≤ g:=by
 rcases h.2 with ⟨_,h0⟩ | ⟨g',cap',cur,hv,hg,_⟩
 ·simp at h0
 ·exact ⟨g',cap',hv,hg⟩
theorem owns_cells2 {w : World} {base g cap : Nat} {p q : PR} (h : OP w base (.slice (some ⟨g,0,none⟩) 2 cap) [p,q]) :
  w.cell? ⟨g,0,none⟩ = some (.string (bs p.1)) ∧ w.cell? ⟨g,1,none⟩ = some (.string (bs p.2)) ∧ w.cell? ⟨g,2,none⟩ = some (.string (bs q.1)) ∧ w.cell? ⟨g,3,none⟩ = some (.string (bs q.2)) ∧
  w.frozen? ⟨g,0,none⟩ = false ∧ w.frozen? ⟨g,1,none⟩ = false ∧ w.frozen? ⟨g,2,none⟩ = false ∧ w.frozen? ⟨g,3,none⟩ = false:=by
 have hc:=World.ownsRow.cells (g:=g) h rfl
 have hf : ∀ j,w.frozen? ⟨g,j,none⟩ = false:=by
  rcases h.2 with ⟨hv,_⟩ | ⟨g',cap',cur,hv,_,hh,_⟩
  ·simp at hv
  ·simp only [Value.slice.injEq,Option.some.injEq,Addr.mk.injEq,and_true,true_and] at hv
   obtain ⟨rfl,_,rfl⟩:=hv
   intro j
   simp [World.frozen?,hh]
 refine ⟨?_,?_,?_,?_,hf _,hf _,hf _,hf _⟩
 ·have:=hc 0 _ rfl; rwa [Addr.add_lit] at this
 ·have:=hc 1 _ rfl; rwa [Addr.add_lit] at this
 ·have:=hc 2 _ rfl; rwa [Addr.add_lit] at this
 ·have:=hc 3 _ rfl; rwa [Addr.add_lit] at this
theorem owns_swap {w : World} {base g cap : Nat} {p q : PR} (h : OP w base (.slice (some ⟨g,0,none⟩) 2 cap) [p,q]) (hb : base ≤ g) (hs : base ≤ w.heap.size) :
  OP ((((w.setCell ⟨g,0,none⟩ (.string (bs q.1))).setCell ⟨g,1,none⟩ (.string (bs q.2))).setCell ⟨g,2,none⟩ (.string (bs p.1))).setCell ⟨g,3,none⟩ (.string (bs p.2))).drew base (.slice (some ⟨g,0,none⟩) 2 cap) [q,p] ∧
  Below base w ((((w.setCell ⟨g,0,none⟩ (.string (bs q.1))).setCell ⟨g,1,none⟩ (.string (bs q.2))).setCell ⟨g,2,none⟩ (.string (bs p.1))).setCell ⟨g,3,none⟩ (.string (bs p.2))).drew:=by
 have h1:=(World.ownsRow.stored h 0 (.string (bs q.1))).1
 have h2:=(World.ownsRow.stored h1 1 (.string (bs q.2))).1
 have h3:=(World.ownsRow.stored h2 2 (.string (bs p.1))).1
 have h4:=(World.ownsRow.stored h3 3 (.string (bs p.2))).1
 exact ⟨World.ownsRow.drew h4,(((((Below.refl base w).setCell hb _).setCell hb _).setCell hb _).setCell hb _).drew⟩
theorem Sort_two (v : Value) (p q : PR) (w : World) (hr : RP w v [p,q]) (hl : [p,q].length * 32 ≤ 140737488355328) :
  Calls Tryz.prog 114 #[v] w fun e w' => ∃ v',e = .returned v' ∧ OP w' w.heap.size v' (srt [p,q]) ∧ Below w.heap.size w w':=by
 rw [srt_two]
 cases hlt : lt q.1 p.1
 ·skip
  have HL:=Lib.hid hlt; clear hlt
  go_enter Tryz.func114,Tryz.ntmps114
  go_wp2_with (go_at_call 157; refine (Clone_any _ [p,q] _ hr hl).mono ?_; rintro e w1 ⟨vc,rfl,hown,hB1⟩; obtain ⟨g,cc,rfl,hgb⟩:=owns_two hown; obtain ⟨c0,c1,c2,c3,f0,f1,f2,f3⟩:=owns_cells2 hown)
  have HO:=Lib.hid hown
  clear hown
  go_region_with (go_at_call 116; refine (less_any _ _ _).mono ?_; rw [HL.out]; rintro e w2 ⟨rfl,hB2⟩)
  all_goals
   have hB3:=(b_drew w1).trans hB2
   go_wp2
   go_ret
   exact ⟨_,rfl,HO.out.below hB3,bt hB1 hB3⟩
 ·skip
  have HL:=Lib.hid hlt; clear hlt
  go_enter Tryz.func114,Tryz.ntmps114
  go_wp2_with (go_at_call 157; refine (Clone_any _ [p,q] _ hr hl).mono ?_; rintro e w1 ⟨vc,rfl,hown,hB1⟩; obtain ⟨g,cc,rfl,hgb⟩:=owns_two hown; obtain ⟨c0,c1,c2,c3,f0,f1,f2,f3⟩:=owns_cells2 hown)
  have HO:=Lib.hid hown
  clear hown
  go_region_with (go_at_call 116; refine (less_any _ _ _).mono ?_; rw [HL.out]; rintro e w2 ⟨rfl,hB2⟩)
  all_goals
   have hB3:=(b_drew w1).trans hB2
   have ho2:=HO.out.below hB3
   clear c0 c1 c2 c3 f0 f1 f2 f3 HO
   obtain ⟨c0,c1,c2,c3,f0,f1,f2,f3⟩:=owns_cells2 ho2
   have HO2:=Lib.hid ho2
   clear ho2
   go_wp2
   go_region
   all_goals
    go_wp2
    go_ret
    obtain ⟨k1,k2⟩:=owns_swap (HO2.out) hgb ((bt hB1 hB3).size)
    exact ⟨_,rfl,k1,(bt hB1 hB3).trans k2⟩
theorem Sort_any : ∀ (n : Nat) (v : Value) (l : List PR) (w : World),l.length ≤ n → RP w v l → l.length * 32 ≤ 140737488355328 →
  Calls Tryz.prog 114 #[v] w fun e w' => ∃ v',e = .returned v' ∧ OP w' w.heap.size v' (srt l) ∧ Below w.heap.size w w':=by
 intro n
 induction n with
 | zero =>
  intro v l w hn hr hl
  obtain rfl : l = []:=List.eq_nil_of_length_eq_zero (by omega)
  go_enter Tryz.func114,Tryz.ntmps114
  go_wp2_with (go_at_call 157; refine (Clone_any _ _ _ hr hl).mono ?_; rintro e w1 ⟨vc,rfl,hown,hB1⟩; obtain ⟨ac,cc,rfl⟩:=owns_slice hown)
  go_ret
  exact ⟨_,rfl,hown,hB1⟩
 | succ n ih =>
  intro v l w hn hr hl
  by_cases h1 : l.length < 2
  ·have hi1 : (l.length : Int) < 2:=by omega
   have hs : srt l = l:=by
    match l,h1 with
    | [],_ => rfl
    | [p],_ => rfl
   have HS:=Lib.hid hs
   clear hs
   go_enter Tryz.func114,Tryz.ntmps114
   go_wp2_with (go_at_call 157; refine (Clone_any _ l _ hr hl).mono ?_; rintro e w1 ⟨vc,rfl,hown,hB1⟩; obtain ⟨ac,cc,rfl⟩:=owns_slice hown)
   go_ret
   exact ⟨_,rfl,by rw [HS.out]; exact hown,hB1⟩
  ·by_cases h2 : l.length = 2
   ·obtain ⟨p,q,rfl⟩ : ∃ p q,l = [p,q]:=by
     match l,h2 with
     | [p,q],_ => exact ⟨p,q,rfl⟩
    exact Sort_two v p q w hr hl
   ·have hi1 : ¬ (l.length : Int) < 2:=by omega
    have hi2 : ((l.length : Int) == 2) = false:=by rw [beq_eq_false_iff_ne]; omega
    clear h1 h2
    go_enter Tryz.func114,Tryz.ntmps114
    go_wp2_with (go_at_call 157; refine (Clone_any _ l _ hr hl).mono ?_; rintro e w1 ⟨vc,rfl,hown,hB1⟩; obtain ⟨ac,cc,rfl⟩:=owns_slice hown)
    have hrp:=hown.reads
    obtain ⟨A1,C1,s1,r1⟩:=hrp.headRun (l.length / 2) ((l.length : Int) / 2) (by omega) (by omega)
    obtain ⟨A2,C2,s2,r2⟩:=hrp.cutRun (l.length / 2) ((l.length : Int) / 2) (by omega) (by omega)
    have R1:=Lib.hid r1
    have R2:=Lib.hid r2
    have hn1 : (l.take (l.length / 2)).length ≤ n:=by simp; omega
    have hn2 : (l.drop (l.length / 2)).length ≤ n:=by simp; omega
    have hl1 : (l.take (l.length / 2)).length * 32 ≤ 140737488355328:=by simp; omega
    have hl2 : (l.drop (l.length / 2)).length * 32 ≤ 140737488355328:=by simp; omega
    have hl3 : ((srt (l.take (l.length / 2))).length + (srt (l.drop (l.length / 2))).length) * 32 ≤ 140737488355328:=by rw [srt_length,srt_length]; simp; omega
    clear r1 r2 hown hrp
    go_region_with (first
     | (go_at_call 115; refine (merged_any _ _ _ _ _ ha3 hb3 hl3).mono ?_; rintro e w4 ⟨v4,rfl,hown4,hB4⟩)
     | (go_at_call 114; refine (ih _ (l.drop (l.length / 2)) w2 hn2 (R2.out.below hB2') hl2).mono ?_; rintro e w3 ⟨vb,rfl,hown3,hB3⟩; have ha3:=hown2.reads.below hB3; have hb3:=hown3.reads; have hB3':=bt hB2' hB3; obtain ⟨ab,cb,rfl⟩:=owns_slice hown3)
     | (go_at_call 114; refine (ih _ (l.take (l.length / 2)) w1.drew hn1 (R1.out.below (b_drew w1)) hl1).mono ?_; rintro e w2 ⟨va,rfl,hown2,hB2⟩; have hB2' : Below w1.heap.size w1 w2:=(b_drew w1).trans hB2; obtain ⟨aa,ca,rfl⟩:=owns_slice hown2))
    all_goals
     go_wp2
     go_ret
     rw [mrg_srt,List.take_append_drop] at hown4
     have hB5:=bt hB1 (bt hB3' hB4)
     exact ⟨_,rfl,hown4.mono (bt hB1 hB3').size,hB5⟩
def RR (w : World) (v : Value) (rows : List (List PR)) : Prop:=∃ a cap,v = .slice a rows.length cap ∧ rows.length ≤ cap ∧ (a = none → rows.length = 0 ∧ cap = 0) ∧
 ∀ k (hk : k < rows.length),∃ b off u,a = some ⟨b,off,none⟩ ∧ w.cell? ⟨b,off + k,none⟩ = some u ∧ RP w u rows[k]
theorem RR.below {w w' : World} {v : Value} {rows : List (List PR)} (h : RR w v rows) (hB : Below w.heap.size w w') : RR w' v rows:=by
 obtain ⟨a,cap,hv,hle,hn,hc⟩:=h
 refine ⟨a,cap,hv,hle,hn,fun k hk => ?_⟩
 obtain ⟨b,off,u,ha,hu,hr⟩:=hc k hk
 exact ⟨b,off,u,ha,Below.keeps hB hu,hr.below hB⟩
theorem flat_take (rows : List (List PR)) (k : Nat) (h : k < rows.length) : (rows.take (k + 1)).flatten = (rows.take k).flatten ++ rows[k]:=by
 rw [List.take_succ_eq_append_getElem h,List.flatten_append]; simp only [List.flatten_cons,List.flatten_nil,List.append_nil]
theorem flat_le (rows : List (List PR)) (k : Nat) : (rows.take k).flatten.length ≤ rows.flatten.length:=by
 have h : rows.flatten = (rows.take k).flatten ++ (rows.drop k).flatten:=by rw [← List.flatten_append,List.take_append_drop]
 rw [h,List.length_append]; omega
theorem Merge_any (v : Value) (rows : List (List PR)) (w : World) (hr : RR w v rows) (hn : rows.length ≤ 140737488355328) (hl : rows.flatten.length * 32 ≤ 140737488355328) :
  Calls Tryz.prog 70 #[v] w fun e w' => ∃ v',e = .returned v' ∧ OP w' w.heap.size v' (srt rows.flatten) ∧ Below w.heap.size w w':=by
 obtain ⟨a,cap,rfl,_,_,hc⟩:=hr
 go_enter Tryz.func70,Tryz.ntmps70
 go_wp2
 go_loopw [2,7] (fun out i wr => ∃ (k : Nat) (o : List PR),k ≤ rows.length ∧ i = .int .i64 k ∧ OP wr w.heap.size out o ∧ Hid (o = srt (rows.take k).flatten) ∧ Below w.heap.size w wr) (fun _ i _ => rows.length - (intOf i).toNat)
 case atStart => exact ⟨0,[],by omega,rfl,OP.nil _ _,rfl,Below.refl _ _⟩
 case round =>
  obtain ⟨k,o,hk,rfl,hown,hH,hB⟩:=hrel
  obtain ⟨ao,co,rfl⟩:=owns_slice hown
  have hO:=Lib.hid hown
  clear hown
  by_cases h0 : k < rows.length
  ·obtain ⟨b,off,u,rfl,hu,hru⟩:=hc k h0
   obtain ⟨ar,cr,rfl,_,_⟩:=hru.open
   replace hu:=Below.keeps hB hu
   have kk1 : (k : Int) < (rows.length : Int):=by omega
   have hru2:=hru.below hB
   have hf:=flat_take rows k h0
   have hf2:=flat_le rows (k + 1)
   rw [hf,List.length_append] at hf2
   have hl1 : rows[k].length * 32 ≤ 140737488355328:=by omega
   have hl2 : (o.length + (srt rows[k]).length) * 32 ≤ 140737488355328:=by rw [hH.out,srt_length,srt_length]; omega
   have HF:=Lib.hid hf
   clear hf hru hc hf2
   go_wp2_with (first
    | (go_at_call 115; refine (merged_any _ _ _ _ _ (hO.out.below hB2).reads hown2.reads hl2).mono ?_; rintro e w3 ⟨v3,rfl,hown3,hB3⟩)
    | (go_at_call 114; refine (Sort_any _ _ rows[k] wr (Nat.le_refl _) hru2 hl1).mono ?_; rintro e w2 ⟨vb,rfl,hown2,hB2⟩; obtain ⟨ab,cb,rfl⟩:=owns_slice hown2))
   go_roundw
   case rel =>
    have hB4:=bt hB hB2
    refine ⟨k + 1,_,by omega,by go_num,hown3.mono hB4.size,?_,bt hB4 hB3⟩
    unfold Hid
    rw [HF.out,hH.out,mrg_srt]
   case measure => simp [intOf]; omega
  ·obtain rfl : k = rows.length:=by omega
   go_wp2
   go_ret
   have:=hH.out
   rw [List.take_length] at this
   exact ⟨_,rfl,by rw [← this]; exact hO.out,hB⟩
end Go.Proofs.YtehllcbnheicoaaGreatDoor
