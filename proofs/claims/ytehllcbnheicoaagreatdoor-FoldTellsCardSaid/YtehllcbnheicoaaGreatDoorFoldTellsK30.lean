/- Lemmas for FoldTells, part 30: walks of the functions that it reaches, and the plain laws behind them. -/
import Derived.Test.YtehllcbnheicoaaGreatDoorFoldTellsK27
import Derived.Test.YtehllcbnheicoaaGreatDoorFoldTellsK29
set_option linter.unusedSimpArgs false
set_option linter.unusedVariables false
set_option maxRecDepth 100000
set_option maxHeartbeats 16000000
namespace Go.Proofs.YtehllcbnheicoaaGreatDoor
open Go.RowKit Oct
def opsL (los : List Lo) : List (Nat × List (List UInt8)):=los.reverse.map fun e => (e.at_,e.ps)
theorem opsL_snoc (los : List Lo) (e : Lo) : opsL (los ++ [e]) = (e.at_,e.ps) :: opsL los:=by unfold opsL; rw [List.reverse_append]; rfl
theorem opsL_length (los : List Lo) : (opsL los).length = los.length:=by unfold opsL; simp
theorem opsL_cons {los : List Lo} {a : Nat} {ps : List (List UInt8)} {o : List (Nat × List (List UInt8))} (h : opsL los = (a,ps) :: o) : ∃ l e,los = l ++ [e] ∧ e.at_ = a ∧ e.ps = ps ∧ opsL l = o:=by
 rcases List.eq_nil_or_concat los with rfl | ⟨l,e,rfl⟩
 ·cases h
 ·rw [List.concat_eq_append,opsL_snoc] at h
  injection h with h1 h2
  injection h1 with h3 h4
  exact ⟨l,e,by rw [List.concat_eq_append],h3,h4,h2⟩
def stS (at_ : Int) (st rg : List MV) (op : List (Nat × List (List UInt8))) (pr : List (List UInt8 × List UInt8)) : StR:=fun a s r l p => a = at_ ∧ s.map (·.2) = st ∧ r.map (·.2) = rg ∧ opsL l = op ∧ p = pr
structure EnvR (w : World) (E : Me) (tv cv iv ev ow : Value) (own : List Int) : Prop where
 t : recS.Row w tv E.tx
 c : recIns.Row w cv E.code
 i : recS.Row w iv E.ins
 e : recJ.Row w ev E.ends
 o : recJ.Row w ow own
 g : GlobV w
structure OwnOk (E : Me) (own : List Int) : Prop where
 len : own.length = E.code.length
 at_ : ∀ i,i < E.code.length → opV E.code i = 21 → ∃ j : Nat,own.getD i 0 = (j : Int) ∧ j < E.code.length ∧ (opV E.code j = 22 ↔ loopEnd E i = true)
section
variable {base G n : Nat} {y : UInt8} {w0 w w' : World} {f : Rf} {φ : StR}
theorem noneA (hn : n ≠ 1 ∧ n ≠ 2 ∧ n ≠ 3 ∧ n ≠ 14 ∧ n ≠ 15 ∧ n ≠ 16 ∧ n ≠ 17 ∧ n ≠ 18) : Does base G f 180 n y w0 φ φ :=
 fun w1 X _ h => (rany_none n y w1 hn).mono fun r w' ⟨hr,hB⟩ => ⟨hr,h.below hB,hB.mono h.size⟩
theorem noneN (hn : n ≠ 8 ∧ n ≠ 13 ∧ n ≠ 9 ∧ n ≠ 10 ∧ n ≠ 11) : Does base G f 181 n y w0 φ φ :=
 fun w1 X _ h => (rnumbers_none n y w1 hn).mono fun r w' ⟨hr,hB⟩ => ⟨hr,h.below hB,hB.mono h.size⟩
theorem noneT (hn : n ≠ 4 ∧ n ≠ 5 ∧ n ≠ 6 ∧ n ≠ 7 ∧ n ≠ 12 ∧ n ≠ 23) : ∀ (w1 : World) (X : List (Pt base)),Below base w0 w1 → RS base w1 G f X φ → Calls Tryz.prog 182 #[.pointer (some ⟨G,0,none⟩),.agg #[.int .u8 (n : Int),.int .u8 (y.toNat : Int)]] w1 fun r w' => r = .returned (.int .i64 ((0 : Nat) : Int)) ∧ ((0 : Nat) = 0 → RS base w' G f X φ) ∧ Below base w1 w' :=
 fun w1 X _ h => (rtexts_none n y w1 hn).mono fun r w' ⟨hr,hB⟩ => ⟨hr,fun _ => h.below hB,hB.mono h.size⟩
theorem noneB (hn : n ≠ 19 ∧ n ≠ 20 ∧ n ≠ 22 ∧ n ≠ 21) : Does base G f 183 n y w0 φ φ :=
 fun w1 X _ h => by
  obtain ⟨a,s,r,l,p,sv,lv,prv,h1,h2⟩:=h
  exact (rblocks_none n y h1 hn).mono fun r' w' ⟨hr,hB⟩ => ⟨hr,⟨a,s,r,l,p,sv,lv,prv,h1.below hB,h2⟩,hB.mono h1.size⟩
end
section
variable {nt inp : Nat} {role : UInt8} {E : Me}
theorem getD_map2 (l : List RV) (i : Nat) : (l.map (·.2)).getD i (0,[]) = (l.getD i (false,0,[])).2:=by
 simp only [List.getD_eq_getElem?_getD,List.getElem?_map]
 cases l[i]? <;> rfl
theorem map_set2 (l : List RV) (i : Nat) (v : RV) : (l.set i v).map (·.2) = (l.map (·.2)).set i v.2:=List.map_set
theorem map_ok {st : List RV} (h : ∀ v ∈ st.map (·.2),vOk v) : ∀ v ∈ st,vOk v.2:=fun v hv => h v.2 (List.mem_map_of_mem hv)
theorem rstep_any {base Gb : Nat} {w : World} {tv cv iv ev ow : Value} {own : List Int} {pc : Nat} {st rg : List MV} {op : List (Nat × List (List UInt8))} {pr : List (List UInt8 × List UInt8)} {n : Nat} {y : UInt8} {X : List (Pt base)}
  (G : GoodM nt inp role E) (hnt : nt ≤ 1000) (hinp : inp ≤ 1000) (hcl : E.code.length ≤ 256) (h : OkM (sM nt inp role E) E ⟨pc,st,rg,op,pr⟩) (hpc : pc < E.code.length) (hn : (E.code.getD pc (0,0)).1.toNat = n) (hy : (E.code.getD pc (0,0)).2 = y)
  (hM : RS base w Gb ⟨tv,cv,iv,ev,ow⟩ X (stS (pc : Int) st rg op pr)) (hE : ∀ w',Below base w w' → EnvR w' E tv cv iv ev ow own) (hown : OwnOk E own) :
  Calls Tryz.prog 153 #[.pointer (some ⟨Gb,0,none⟩)] w fun r w' => r = .returned (.int .i64 ((doN E n y pc st rg op pr).1 : Int)) ∧
   ((doN E n y pc st rg op pr).1 = 0 → RS base w' Gb ⟨tv,cv,iv,ev,ow⟩ X (stS ((doN E n y pc st rg op pr).2.pc : Int) (doN E n y pc st rg op pr).2.st (doN E n y pc st rg op pr).2.rg (doN E n y pc st rg op pr).2.op (doN E n y pc st rg op pr).2.pr)) ∧ Below base w w':=by
 obtain ⟨at_,s0,r0,los,pr0,sv,lv,prv,hm,hat,hs,hr,hlo,hpr0⟩:=hM
 subst hat hs hr hlo hpr0
 have hst : (s0.map (·.2)).length = (sM nt inp role E pc).kinds.length:=h.st
 have hopl : (opsL los).map (·.1) = loopsB (sM nt inp role E pc):=h.op
 have hsv : ∀ v ∈ s0,vOk v.2:=map_ok h.sv
 have hov : ∀ o ∈ opsL los,o.2.length ≤ 1024 ∧ ∀ p ∈ o.2,p.length ≤ 1024:=h.ov
 have hpr : pr0.length ≤ 256:=h.pr
 have hk16:=(G.run (Nat.le_of_lt hpc)).k
 have hl16 : s0.length ≤ 16:=by rw [← List.length_map (f:=(·.2)),hst]; exact hk16
 have hel:=ends_len G
 have hrl:=hm.rl
 have heo : los.length ≤ 256:=by
  have h1:=loops_le G (Nat.le_of_lt hpc)
  rw [← hopl,List.length_map,opsL_length] at h1
  omega
 have hx : insOk (E.code.getD pc (0,0)) = true:=getD_ok (P:=fun x => insOk x = true) G.may hpc _
 have hx1 : 1 ≤ (E.code.getD pc (0,0)).1.toNat ∧ (E.code.getD pc (0,0)).1.toNat ≤ 23:=by
  unfold insOk at hx
  simp at hx
  exact hx.1
 obtain ⟨hs,ho⟩:=G.step hpc
 obtain ⟨g1,g3,g17,g23⟩:=there_args ho.th
 have hu : ∀ k : UInt8,k.toNat = n → (E.code.getD pc (0,0)).1 = k:=fun k hk => UInt8.toNat_inj.1 (hn.trans hk.symm)
 have hpl:=fun (h19 : n ≠ 19) (h20 : n ≠ 20) (h21 : n ≠ 21) (h22 : n ≠ 22) => plain_step G hpc hn (by omega) h19 h20 h21 h22
 have hge : E.code.getD pc (0,0) = E.code[pc]:=by rw [List.getD_eq_getElem?_getD,List.getElem?_eq_getElem hpc]; rfl
 rw [hn] at hx1
 rw [← hst,List.length_map] at hpl
 rw [hy] at g1 g3 g17
 rw [hge] at hn hy
 have hEw:=hE w (Below.refl _ _)
 have hGl : ∀ w1 w',Below base w w1 → Below base w1 w' → GlobV w':=fun w1 w' h1 h2 => (hE w' (h1.trans h2)).g
 have hJ : ∀ w1 w',Below base w w1 → Below base w1 w' → recJ.Row w' ev E.ends:=fun w1 w' h1 h2 => (hE w' (h1.trans h2)).e
 have hp0 : -1 ≤ (pc : Int) ∧ (pc : Int) ≤ 1000:=by omega
 have hgen:=fun (c : Nat) {φ1 φ2 φ3 φ4 : StR} => rStep_gen (φ1:=φ1) (φ2:=φ2) (φ3:=φ3) (φ4:=φ4) pc n y c hm hEw.c hpc (by omega) hn.symm hy.symm
 clear hx
 rcases (show n = 1 ∨ n = 2 ∨ n = 3 ∨ n = 4 ∨ n = 5 ∨ n = 6 ∨ n = 7 ∨ n = 8 ∨ n = 9 ∨ n = 10 ∨ n = 11 ∨ n = 12 ∨ n = 13 ∨ n = 14 ∨ n = 15 ∨ n = 16 ∨ n = 17 ∨ n = 18 ∨ n = 19 ∨ n = 20 ∨ n = 21 ∨ n = 22 ∨ n = 23 by omega) with rfl | rfl | rfl | rfl | rfl | rfl | rfl | rfl | rfl | rfl | rfl | rfl | rfl | rfl | rfl | rfl | rfl | rfl | rfl | rfl | rfl | rfl | rfl
 ·obtain ⟨l1,l2,l3⟩:=hpl (by decide) (by decide) (by decide) (by decide)
  have hd : doN E 1 y pc (s0.map (·.2)) (r0.map (·.2)) (opsL los) pr0 = (0,⟨pc + 1,(0,E.tx.getD y.toNat []) :: s0.map (·.2),r0.map (·.2),opsL los,pr0⟩):=rfl
  rw [hd]
  refine (hgen 0 (φ4:=eqS (pc : Int) ((true,0,E.tx.getD y.toNat []) :: s0) r0 los pr0) (fun w1 X hB hR => by
   obtain ⟨_,_,_,_,_,sv1,lv1,pv1,h1,rfl,rfl,rfl,rfl,rfl⟩:=hR
   refine (rtextOp_any y h1 (by omega) (hE w1 hB).t (by rw [G.txl]; exact g1 (hu 1 rfl)) (by rw [G.txl]; omega)).mono ?_
   rintro r w' ⟨hr,⟨sv',hm'⟩,hB'⟩
   exact ⟨hr,⟨_,_,_,_,_,_,_,_,hm',rfl,rfl,rfl,rfl,rfl⟩,hB'⟩) (noneN (by decide)) (noneT (by decide)) (fun _ => noneB (by decide)) (fun a' _ _ _ _ h => by rw [h.1]; exact hp0)).mono ?_
  rintro r w' ⟨hr,hM',hB'⟩
  refine ⟨hr,fun _ => ?_,hB'⟩
  obtain ⟨a1,s1,r1,l1,p1,sv',lv',pv',hm',q1,q2,q3,q4,q5⟩:=hM' rfl
  subst q2 q3 q4 q5
  exact ⟨a1,_,_,_,_,_,_,_,hm',by show a1 = ((pc + 1 : Nat) : Int); omega,by rfl,rfl,rfl,rfl⟩
 ·obtain ⟨l1,l2,l3⟩:=hpl (by decide) (by decide) (by decide) (by decide)
  have hd : doN E 2 y pc (s0.map (·.2)) (r0.map (·.2)) (opsL los) pr0 = (0,⟨pc + 1,((y.toNat : Int),[]) :: s0.map (·.2),r0.map (·.2),opsL los,pr0⟩):=rfl
  rw [hd]
  refine (hgen 0 (φ4:=eqS (pc : Int) ((false,(y.toNat : Int),[]) :: s0) r0 los pr0) (fun w1 X hB hR => by
   obtain ⟨_,_,_,_,_,sv1,lv1,pv1,h1,rfl,rfl,rfl,rfl,rfl⟩:=hR
   refine (rnumOp_any y h1 (by omega)).mono ?_
   rintro r w' ⟨hr,⟨sv',hm'⟩,hB'⟩
   exact ⟨hr,⟨_,_,_,_,_,_,_,_,hm',rfl,rfl,rfl,rfl,rfl⟩,hB'⟩) (noneN (by decide)) (noneT (by decide)) (fun _ => noneB (by decide)) (fun a' _ _ _ _ h => by rw [h.1]; exact hp0)).mono ?_
  rintro r w' ⟨hr,hM',hB'⟩
  refine ⟨hr,fun _ => ?_,hB'⟩
  obtain ⟨a1,s1,r1,l1,p1,sv',lv',pv',hm',q1,q2,q3,q4,q5⟩:=hM' rfl
  subst q2 q3 q4 q5
  exact ⟨a1,_,_,_,_,_,_,_,hm',by show a1 = ((pc + 1 : Nat) : Int); omega,rfl,rfl,rfl,rfl⟩
 ·obtain ⟨l1,l2,l3⟩:=hpl (by decide) (by decide) (by decide) (by decide)
  have hd : doN E 3 y pc (s0.map (·.2)) (r0.map (·.2)) (opsL los) pr0 = (0,⟨pc + 1,(0,E.ins.getD y.toNat []) :: s0.map (·.2),r0.map (·.2),opsL los,pr0⟩):=rfl
  rw [hd]
  refine (hgen 0 (φ4:=eqS (pc : Int) ((true,0,E.ins.getD y.toNat []) :: s0) r0 los pr0) (fun w1 X hB hR => by
   obtain ⟨_,_,_,_,_,sv1,lv1,pv1,h1,rfl,rfl,rfl,rfl,rfl⟩:=hR
   refine (rinputOp_any y h1 (by omega) (hE w1 hB).i (by rw [G.inl]; exact g3 (hu 3 rfl)) (by rw [G.inl]; omega)).mono ?_
   rintro r w' ⟨hr,⟨sv',hm'⟩,hB'⟩
   exact ⟨hr,⟨_,_,_,_,_,_,_,_,hm',rfl,rfl,rfl,rfl,rfl⟩,hB'⟩) (noneN (by decide)) (noneT (by decide)) (fun _ => noneB (by decide)) (fun a' _ _ _ _ h => by rw [h.1]; exact hp0)).mono ?_
  rintro r w' ⟨hr,hM',hB'⟩
  refine ⟨hr,fun _ => ?_,hB'⟩
  obtain ⟨a1,s1,r1,l1,p1,sv',lv',pv',hm',q1,q2,q3,q4,q5⟩:=hM' rfl
  subst q2 q3 q4 q5
  exact ⟨a1,_,_,_,_,_,_,_,hm',by show a1 = ((pc + 1 : Nat) : Int); omega,rfl,rfl,rfl,rfl⟩
 ·obtain ⟨l1,l2,l3⟩:=hpl (by decide) (by decide) (by decide) (by decide)
  obtain ⟨b,a,s,rfl⟩:=two_of (show 2 ≤ s0.length from l1)
  have hd : doN E 4 y pc ((b :: a :: s).map (·.2)) (r0.map (·.2)) (opsL los) pr0 = if 1024 < a.2.2.length + b.2.2.length then (5,⟨pc,(b :: a :: s).map (·.2),r0.map (·.2),opsL los,pr0⟩) else (0,⟨pc + 1,(0,a.2.2 ++ b.2.2) :: s.map (·.2),r0.map (·.2),opsL los,pr0⟩):=rfl
  rw [hd]
  by_cases hc : 1024 < a.2.2.length + b.2.2.length
  ·rw [if_pos hc]
   refine (hgen 5 (φ3:=eqS (pc : Int) s r0 los pr0) (φ4:=eqS (pc : Int) s r0 los pr0) (noneA (by decide)) (noneN (by decide)) (fun w1 X hB hR => by
    obtain ⟨_,_,_,_,_,sv1,lv1,pv1,h1,rfl,rfl,rfl,rfl,rfl⟩:=hR
    exact (rcat_long y a b h1 (by simp at hl16; omega) (hsv a (by simp)).2.2 (hsv b (by simp)).2.2 hc).mono fun r w' ⟨hr,hB'⟩ => ⟨hr,fun h => absurd h (by decide),hB'⟩) (fun h => absurd h (by decide)) (fun a' _ _ _ _ h => by rw [h.1]; exact hp0)).mono ?_
   rintro r w' ⟨hr,-,hB'⟩
   exact ⟨hr,fun h => absurd h (by simp),hB'⟩
  ·rw [if_neg hc]
   refine (hgen 0 (φ4:=eqS (pc : Int) ((true,0,a.2.2 ++ b.2.2) :: s) r0 los pr0) (noneA (by decide)) (noneN (by decide)) (fun w1 X hB hR => by
    obtain ⟨_,_,_,_,_,sv1,lv1,pv1,h1,rfl,rfl,rfl,rfl,rfl⟩:=hR
    refine (rcat_any y a b h1 (by simp at hl16; omega) (hsv a (by simp)).2.2 (hsv b (by simp)).2.2 hc).mono ?_
    rintro r w' ⟨hr,⟨sv',hm'⟩,hB'⟩
    exact ⟨hr,fun _ => ⟨_,_,_,_,_,_,_,_,hm',rfl,rfl,rfl,rfl,rfl⟩,hB'⟩) (fun _ => noneB (by decide)) (fun a' _ _ _ _ h => by rw [h.1]; exact hp0)).mono ?_
   rintro r w' ⟨hr,hM',hB'⟩
   refine ⟨hr,fun _ => ?_,hB'⟩
   obtain ⟨a1,s1,r1,l1,p1,sv',lv',pv',hm',q1,q2,q3,q4,q5⟩:=hM' rfl
   subst q2 q3 q4 q5
   exact ⟨a1,_,_,_,_,_,_,_,hm',by show a1 = ((pc + 1 : Nat) : Int); omega,rfl,rfl,rfl,rfl⟩
 ·obtain ⟨l1,l2,l3⟩:=hpl (by decide) (by decide) (by decide) (by decide)
  obtain ⟨a,s,rfl⟩:=one_of (show 1 ≤ s0.length from l1)
  have hd : doN E 5 y pc ((a :: s).map (·.2)) (r0.map (·.2)) (opsL los) pr0 = (0,⟨pc + 1,((a.2.2.length : Int),[]) :: s.map (·.2),r0.map (·.2),opsL los,pr0⟩):=rfl
  rw [hd]
  refine (hgen 0 (φ4:=eqS (pc : Int) ((false,(a.2.2.length : Int),[]) :: s) r0 los pr0) (noneA (by decide)) (noneN (by decide)) (fun w1 X hB hR => by
   obtain ⟨_,_,_,_,_,sv1,lv1,pv1,h1,rfl,rfl,rfl,rfl,rfl⟩:=hR
   refine (rlen_any y a h1 (by simp at hl16; omega) (hsv a (by simp)).2.2).mono ?_
   rintro r w' ⟨hr,⟨sv',hm'⟩,hB'⟩
   exact ⟨hr,fun _ => ⟨_,_,_,_,_,_,_,_,hm',rfl,rfl,rfl,rfl,rfl⟩,hB'⟩) (fun _ => noneB (by decide)) (fun a' _ _ _ _ h => by rw [h.1]; exact hp0)).mono ?_
  rintro r w' ⟨hr,hM',hB'⟩
  refine ⟨hr,fun _ => ?_,hB'⟩
  obtain ⟨a1,s1,r1,l1,p1,sv',lv',pv',hm',q1,q2,q3,q4,q5⟩:=hM' rfl
  subst q2 q3 q4 q5
  exact ⟨a1,_,_,_,_,_,_,_,hm',by show a1 = ((pc + 1 : Nat) : Int); omega,rfl,rfl,rfl,rfl⟩
 ·obtain ⟨l1,l2,l3⟩:=hpl (by decide) (by decide) (by decide) (by decide)
  obtain ⟨b,a,t,s,rfl⟩:=three_of (show 3 ≤ s0.length from l1)
  have hd : doN E 6 y pc ((b :: a :: t :: s).map (·.2)) (r0.map (·.2)) (opsL los) pr0 = (0,⟨pc + 1,(0,partM t.2.2 a.2.1 b.2.1) :: s.map (·.2),r0.map (·.2),opsL los,pr0⟩):=rfl
  rw [hd]
  refine (hgen 0 (φ4:=eqS (pc : Int) ((true,0,partM t.2.2 a.2.1 b.2.1) :: s) r0 los pr0) (noneA (by decide)) (noneN (by decide)) (fun w1 X hB hR => by
   obtain ⟨_,_,_,_,_,sv1,lv1,pv1,h1,rfl,rfl,rfl,rfl,rfl⟩:=hR
   refine (rpartOp_any y b a t h1 (by simp at hl16; omega) (hsv b (by simp)) (hsv a (by simp)) (hsv t (by simp))).mono ?_
   rintro r w' ⟨hr,⟨sv',hm'⟩,hB'⟩
   exact ⟨hr,fun _ => ⟨_,_,_,_,_,_,_,_,hm',rfl,rfl,rfl,rfl,rfl⟩,hB'⟩) (fun _ => noneB (by decide)) (fun a' _ _ _ _ h => by rw [h.1]; exact hp0)).mono ?_
  rintro r w' ⟨hr,hM',hB'⟩
  refine ⟨hr,fun _ => ?_,hB'⟩
  obtain ⟨a1,s1,r1,l1,p1,sv',lv',pv',hm',q1,q2,q3,q4,q5⟩:=hM' rfl
  subst q2 q3 q4 q5
  exact ⟨a1,_,_,_,_,_,_,_,hm',by show a1 = ((pc + 1 : Nat) : Int); omega,rfl,rfl,rfl,rfl⟩
 ·obtain ⟨l1,l2,l3⟩:=hpl (by decide) (by decide) (by decide) (by decide)
  obtain ⟨a,s,rfl⟩:=one_of (show 1 ≤ s0.length from l1)
  have hd : doN E 7 y pc ((a :: s).map (·.2)) (r0.map (·.2)) (opsL los) pr0 = (0,⟨pc + 1,(parseM a.2.2,[]) :: s.map (·.2),r0.map (·.2),opsL los,pr0⟩):=rfl
  rw [hd]
  refine (hgen 0 (φ4:=eqS (pc : Int) ((false,parseM a.2.2,[]) :: s) r0 los pr0) (noneA (by decide)) (noneN (by decide)) (fun w1 X hB hR => by
   obtain ⟨_,_,_,_,_,sv1,lv1,pv1,h1,rfl,rfl,rfl,rfl,rfl⟩:=hR
   refine (rparseOp_any y a h1 (by simp at hl16; omega) (hsv a (by simp)).2.2 (fun w' h2 => hGl w1 w' hB h2)).mono ?_
   rintro r w' ⟨hr,⟨sv',hm'⟩,hB'⟩
   exact ⟨hr,fun _ => ⟨_,_,_,_,_,_,_,_,hm',rfl,rfl,rfl,rfl,rfl⟩,hB'⟩) (fun _ => noneB (by decide)) (fun a' _ _ _ _ h => by rw [h.1]; exact hp0)).mono ?_
  rintro r w' ⟨hr,hM',hB'⟩
  refine ⟨hr,fun _ => ?_,hB'⟩
  obtain ⟨a1,s1,r1,l1,p1,sv',lv',pv',hm',q1,q2,q3,q4,q5⟩:=hM' rfl
  subst q2 q3 q4 q5
  exact ⟨a1,_,_,_,_,_,_,_,hm',by show a1 = ((pc + 1 : Nat) : Int); omega,rfl,rfl,rfl,rfl⟩
 ·obtain ⟨l1,l2,l3⟩:=hpl (by decide) (by decide) (by decide) (by decide)
  obtain ⟨a,s,rfl⟩:=one_of (show 1 ≤ s0.length from l1)
  have hd : doN E 8 y pc ((a :: s).map (·.2)) (r0.map (·.2)) (opsL los) pr0 = (0,⟨pc + 1,(0,Lib.itoa a.2.1) :: s.map (·.2),r0.map (·.2),opsL los,pr0⟩):=rfl
  rw [hd]
  refine (hgen 0 (φ4:=eqS (pc : Int) ((true,0,Lib.itoa a.2.1) :: s) r0 los pr0) (noneA (by decide)) (fun w1 X hB hR => by
   obtain ⟨_,_,_,_,_,sv1,lv1,pv1,h1,rfl,rfl,rfl,rfl,rfl⟩:=hR
   refine (rshow_any y a h1 (by simp at hl16; omega) (hsv a (by simp)) (fun w' h2 => hGl w1 w' hB h2)).mono ?_
   rintro r w' ⟨hr,⟨sv',hm'⟩,hB'⟩
   exact ⟨hr,⟨_,_,_,_,_,_,_,_,hm',rfl,rfl,rfl,rfl,rfl⟩,hB'⟩) (noneT (by decide)) (fun _ => noneB (by decide)) (fun a' _ _ _ _ h => by rw [h.1]; exact hp0)).mono ?_
  rintro r w' ⟨hr,hM',hB'⟩
  refine ⟨hr,fun _ => ?_,hB'⟩
  obtain ⟨a1,s1,r1,l1,p1,sv',lv',pv',hm',q1,q2,q3,q4,q5⟩:=hM' rfl
  subst q2 q3 q4 q5
  exact ⟨a1,_,_,_,_,_,_,_,hm',by show a1 = ((pc + 1 : Nat) : Int); omega,rfl,rfl,rfl,rfl⟩
 ·obtain ⟨l1,l2,l3⟩:=hpl (by decide) (by decide) (by decide) (by decide)
  obtain ⟨b,a,s,rfl⟩:=two_of (show 2 ≤ s0.length from l1)
  have hd : doN E 9 y pc ((b :: a :: s).map (·.2)) (r0.map (·.2)) (opsL los) pr0 = (0,⟨pc + 1,(wrap64 (a.2.1 + b.2.1),[]) :: s.map (·.2),r0.map (·.2),opsL los,pr0⟩):=rfl
  rw [hd]
  refine (hgen 0 (φ4:=eqS (pc : Int) ((false,wrap64 (a.2.1 + b.2.1),[]) :: s) r0 los pr0) (noneA (by decide)) (fun w1 X hB hR => by
   obtain ⟨_,_,_,_,_,sv1,lv1,pv1,h1,rfl,rfl,rfl,rfl,rfl⟩:=hR
   refine (radd_any y a b h1 (by simp at hl16; omega)).mono ?_
   rintro r w' ⟨hr,⟨sv',hm'⟩,hB'⟩
   exact ⟨hr,⟨_,_,_,_,_,_,_,_,hm',rfl,rfl,rfl,rfl,rfl⟩,hB'⟩) (noneT (by decide)) (fun _ => noneB (by decide)) (fun a' _ _ _ _ h => by rw [h.1]; exact hp0)).mono ?_
  rintro r w' ⟨hr,hM',hB'⟩
  refine ⟨hr,fun _ => ?_,hB'⟩
  obtain ⟨a1,s1,r1,l1,p1,sv',lv',pv',hm',q1,q2,q3,q4,q5⟩:=hM' rfl
  subst q2 q3 q4 q5
  exact ⟨a1,_,_,_,_,_,_,_,hm',by show a1 = ((pc + 1 : Nat) : Int); omega,rfl,rfl,rfl,rfl⟩
 ·obtain ⟨l1,l2,l3⟩:=hpl (by decide) (by decide) (by decide) (by decide)
  obtain ⟨b,a,s,rfl⟩:=two_of (show 2 ≤ s0.length from l1)
  have hd : doN E 10 y pc ((b :: a :: s).map (·.2)) (r0.map (·.2)) (opsL los) pr0 = (0,⟨pc + 1,(wrap64 (a.2.1 * b.2.1),[]) :: s.map (·.2),r0.map (·.2),opsL los,pr0⟩):=rfl
  rw [hd]
  refine (hgen 0 (φ4:=eqS (pc : Int) ((false,wrap64 (a.2.1 * b.2.1),[]) :: s) r0 los pr0) (noneA (by decide)) (fun w1 X hB hR => by
   obtain ⟨_,_,_,_,_,sv1,lv1,pv1,h1,rfl,rfl,rfl,rfl,rfl⟩:=hR
   refine (rmul_any y a b h1 (by simp at hl16; omega)).mono ?_
   rintro r w' ⟨hr,⟨sv',hm'⟩,hB'⟩
   exact ⟨hr,⟨_,_,_,_,_,_,_,_,hm',rfl,rfl,rfl,rfl,rfl⟩,hB'⟩) (noneT (by decide)) (fun _ => noneB (by decide)) (fun a' _ _ _ _ h => by rw [h.1]; exact hp0)).mono ?_
  rintro r w' ⟨hr,hM',hB'⟩
  refine ⟨hr,fun _ => ?_,hB'⟩
  obtain ⟨a1,s1,r1,l1,p1,sv',lv',pv',hm',q1,q2,q3,q4,q5⟩:=hM' rfl
  subst q2 q3 q4 q5
  exact ⟨a1,_,_,_,_,_,_,_,hm',by show a1 = ((pc + 1 : Nat) : Int); omega,rfl,rfl,rfl,rfl⟩
 ·obtain ⟨l1,l2,l3⟩:=hpl (by decide) (by decide) (by decide) (by decide)
  obtain ⟨b,a,s,rfl⟩:=two_of (show 2 ≤ s0.length from l1)
  have hd : doN E 11 y pc ((b :: a :: s).map (·.2)) (r0.map (·.2)) (opsL los) pr0 = (0,⟨pc + 1,bitM (decide (a.2.1 < b.2.1)) :: s.map (·.2),r0.map (·.2),opsL los,pr0⟩):=rfl
  rw [hd]
  refine (hgen 0 (φ4:=eqS (pc : Int) ((false,bitM (decide (a.2.1 < b.2.1))) :: s) r0 los pr0) (noneA (by decide)) (fun w1 X hB hR => by
   obtain ⟨_,_,_,_,_,sv1,lv1,pv1,h1,rfl,rfl,rfl,rfl,rfl⟩:=hR
   refine (rless_any y a b h1 (by simp at hl16; omega)).mono ?_
   rintro r w' ⟨hr,⟨sv',hm'⟩,hB'⟩
   exact ⟨hr,⟨_,_,_,_,_,_,_,_,hm',rfl,rfl,rfl,rfl,rfl⟩,hB'⟩) (noneT (by decide)) (fun _ => noneB (by decide)) (fun a' _ _ _ _ h => by rw [h.1]; exact hp0)).mono ?_
  rintro r w' ⟨hr,hM',hB'⟩
  refine ⟨hr,fun _ => ?_,hB'⟩
  obtain ⟨a1,s1,r1,l1,p1,sv',lv',pv',hm',q1,q2,q3,q4,q5⟩:=hM' rfl
  subst q2 q3 q4 q5
  exact ⟨a1,_,_,_,_,_,_,_,hm',by show a1 = ((pc + 1 : Nat) : Int); omega,rfl,rfl,rfl,rfl⟩
 ·obtain ⟨l1,l2,l3⟩:=hpl (by decide) (by decide) (by decide) (by decide)
  obtain ⟨b,a,s,rfl⟩:=two_of (show 2 ≤ s0.length from l1)
  have hd : doN E 12 y pc ((b :: a :: s).map (·.2)) (r0.map (·.2)) (opsL los) pr0 = (0,⟨pc + 1,bitM (a.2.2 == b.2.2) :: s.map (·.2),r0.map (·.2),opsL los,pr0⟩):=rfl
  rw [hd]
  refine (hgen 0 (φ4:=eqS (pc : Int) ((false,bitM (a.2.2 == b.2.2)) :: s) r0 los pr0) (noneA (by decide)) (noneN (by decide)) (fun w1 X hB hR => by
   obtain ⟨_,_,_,_,_,sv1,lv1,pv1,h1,rfl,rfl,rfl,rfl,rfl⟩:=hR
   refine (rsame_any y a b h1 (by simp at hl16; omega)).mono ?_
   rintro r w' ⟨hr,⟨sv',hm'⟩,hB'⟩
   exact ⟨hr,fun _ => ⟨_,_,_,_,_,_,_,_,hm',rfl,rfl,rfl,rfl,rfl⟩,hB'⟩) (fun _ => noneB (by decide)) (fun a' _ _ _ _ h => by rw [h.1]; exact hp0)).mono ?_
  rintro r w' ⟨hr,hM',hB'⟩
  refine ⟨hr,fun _ => ?_,hB'⟩
  obtain ⟨a1,s1,r1,l1,p1,sv',lv',pv',hm',q1,q2,q3,q4,q5⟩:=hM' rfl
  subst q2 q3 q4 q5
  exact ⟨a1,_,_,_,_,_,_,_,hm',by show a1 = ((pc + 1 : Nat) : Int); omega,rfl,rfl,rfl,rfl⟩
 ·obtain ⟨l1,l2,l3⟩:=hpl (by decide) (by decide) (by decide) (by decide)
  obtain ⟨a,s,rfl⟩:=one_of (show 1 ≤ s0.length from l1)
  have hd : doN E 13 y pc ((a :: s).map (·.2)) (r0.map (·.2)) (opsL los) pr0 = (0,⟨pc + 1,bitM (a.2.1 == 0) :: s.map (·.2),r0.map (·.2),opsL los,pr0⟩):=rfl
  rw [hd]
  refine (hgen 0 (φ4:=eqS (pc : Int) ((false,bitM (a.2.1 == 0)) :: s) r0 los pr0) (noneA (by decide)) (fun w1 X hB hR => by
   obtain ⟨_,_,_,_,_,sv1,lv1,pv1,h1,rfl,rfl,rfl,rfl,rfl⟩:=hR
   refine (rnot_any y a h1 (by simp at hl16; omega)).mono ?_
   rintro r w' ⟨hr,⟨sv',hm'⟩,hB'⟩
   exact ⟨hr,⟨_,_,_,_,_,_,_,_,hm',rfl,rfl,rfl,rfl,rfl⟩,hB'⟩) (noneT (by decide)) (fun _ => noneB (by decide)) (fun a' _ _ _ _ h => by rw [h.1]; exact hp0)).mono ?_
  rintro r w' ⟨hr,hM',hB'⟩
  refine ⟨hr,fun _ => ?_,hB'⟩
  obtain ⟨a1,s1,r1,l1,p1,sv',lv',pv',hm',q1,q2,q3,q4,q5⟩:=hM' rfl
  subst q2 q3 q4 q5
  exact ⟨a1,_,_,_,_,_,_,_,hm',by show a1 = ((pc + 1 : Nat) : Int); omega,rfl,rfl,rfl,rfl⟩
 ·obtain ⟨l1,l2,l3⟩:=hpl (by decide) (by decide) (by decide) (by decide)
  obtain ⟨a,s,rfl⟩:=one_of (show 1 ≤ s0.length from l1)
  have hd : doN E 14 y pc ((a :: s).map (·.2)) (r0.map (·.2)) (opsL los) pr0 = (0,⟨pc + 1,s.map (·.2),r0.map (·.2),opsL los,pr0⟩):=rfl
  rw [hd]
  refine (hgen 0 (φ4:=eqS (pc : Int) (s) r0 los pr0) (fun w1 X hB hR => by
   obtain ⟨_,_,_,_,_,sv1,lv1,pv1,h1,rfl,rfl,rfl,rfl,rfl⟩:=hR
   refine (rdropOp_any y a h1 (by simp at hl16; omega)).mono ?_
   rintro r w' ⟨hr,⟨sv',hm'⟩,hB'⟩
   exact ⟨hr,⟨_,_,_,_,_,_,_,_,hm',rfl,rfl,rfl,rfl,rfl⟩,hB'⟩) (noneN (by decide)) (noneT (by decide)) (fun _ => noneB (by decide)) (fun a' _ _ _ _ h => by rw [h.1]; exact hp0)).mono ?_
  rintro r w' ⟨hr,hM',hB'⟩
  refine ⟨hr,fun _ => ?_,hB'⟩
  obtain ⟨a1,s1,r1,l1,p1,sv',lv',pv',hm',q1,q2,q3,q4,q5⟩:=hM' rfl
  subst q2 q3 q4 q5
  exact ⟨a1,_,_,_,_,_,_,_,hm',by show a1 = ((pc + 1 : Nat) : Int); omega,rfl,rfl,rfl,rfl⟩
 ·obtain ⟨l1,l2,l3⟩:=hpl (by decide) (by decide) (by decide) (by decide)
  obtain ⟨a,s,rfl⟩:=one_of (show 1 ≤ s0.length from l1)
  have hd : doN E 15 y pc ((a :: s).map (·.2)) (r0.map (·.2)) (opsL los) pr0 = (0,⟨pc + 1,a.2 :: a.2 :: s.map (·.2),r0.map (·.2),opsL los,pr0⟩):=rfl
  rw [hd]
  refine (hgen 0 (φ4:=eqS (pc : Int) (a :: a :: s) r0 los pr0) (fun w1 X hB hR => by
   obtain ⟨_,_,_,_,_,sv1,lv1,pv1,h1,rfl,rfl,rfl,rfl,rfl⟩:=hR
   refine (rdupOp_any y a h1 (by simp at hl16; omega)).mono ?_
   rintro r w' ⟨hr,⟨sv',hm'⟩,hB'⟩
   exact ⟨hr,⟨_,_,_,_,_,_,_,_,hm',rfl,rfl,rfl,rfl,rfl⟩,hB'⟩) (noneN (by decide)) (noneT (by decide)) (fun _ => noneB (by decide)) (fun a' _ _ _ _ h => by rw [h.1]; exact hp0)).mono ?_
  rintro r w' ⟨hr,hM',hB'⟩
  refine ⟨hr,fun _ => ?_,hB'⟩
  obtain ⟨a1,s1,r1,l1,p1,sv',lv',pv',hm',q1,q2,q3,q4,q5⟩:=hM' rfl
  subst q2 q3 q4 q5
  exact ⟨a1,_,_,_,_,_,_,_,hm',by show a1 = ((pc + 1 : Nat) : Int); omega,rfl,rfl,rfl,rfl⟩
 ·obtain ⟨l1,l2,l3⟩:=hpl (by decide) (by decide) (by decide) (by decide)
  obtain ⟨b,a,s,rfl⟩:=two_of (show 2 ≤ s0.length from l1)
  have hd : doN E 16 y pc ((b :: a :: s).map (·.2)) (r0.map (·.2)) (opsL los) pr0 = (0,⟨pc + 1,a.2 :: b.2 :: s.map (·.2),r0.map (·.2),opsL los,pr0⟩):=rfl
  rw [hd]
  refine (hgen 0 (φ4:=eqS (pc : Int) (a :: b :: s) r0 los pr0) (fun w1 X hB hR => by
   obtain ⟨_,_,_,_,_,sv1,lv1,pv1,h1,rfl,rfl,rfl,rfl,rfl⟩:=hR
   refine (rswapOp_any y a b h1 (by simp at hl16; omega)).mono ?_
   rintro r w' ⟨hr,⟨sv',hm'⟩,hB'⟩
   exact ⟨hr,⟨_,_,_,_,_,_,_,_,hm',rfl,rfl,rfl,rfl,rfl⟩,hB'⟩) (noneN (by decide)) (noneT (by decide)) (fun _ => noneB (by decide)) (fun a' _ _ _ _ h => by rw [h.1]; exact hp0)).mono ?_
  rintro r w' ⟨hr,hM',hB'⟩
  refine ⟨hr,fun _ => ?_,hB'⟩
  obtain ⟨a1,s1,r1,l1,p1,sv',lv',pv',hm',q1,q2,q3,q4,q5⟩:=hM' rfl
  subst q2 q3 q4 q5
  exact ⟨a1,_,_,_,_,_,_,_,hm',by show a1 = ((pc + 1 : Nat) : Int); omega,rfl,rfl,rfl,rfl⟩
 ·obtain ⟨l1,l2,l3⟩:=hpl (by decide) (by decide) (by decide) (by decide)
  have hd : doN E 17 y pc (s0.map (·.2)) (r0.map (·.2)) (opsL los) pr0 = (0,⟨pc + 1,(r0.map (·.2)).getD y.toNat (0,[]) :: s0.map (·.2),r0.map (·.2),opsL los,pr0⟩):=rfl
  rw [hd]
  refine (hgen 0 (φ4:=eqS (pc : Int) (r0.getD y.toNat (false,0,[]) :: s0) r0 los pr0) (fun w1 X hB hR => by
   obtain ⟨_,_,_,_,_,sv1,lv1,pv1,h1,rfl,rfl,rfl,rfl,rfl⟩:=hR
   refine (rgetOp_any y (g17 (.inl (hu 17 rfl))) h1 (by omega)).mono ?_
   rintro r w' ⟨hr,⟨sv',hm'⟩,hB'⟩
   exact ⟨hr,⟨_,_,_,_,_,_,_,_,hm',rfl,rfl,rfl,rfl,rfl⟩,hB'⟩) (noneN (by decide)) (noneT (by decide)) (fun _ => noneB (by decide)) (fun a' _ _ _ _ h => by rw [h.1]; exact hp0)).mono ?_
  rintro r w' ⟨hr,hM',hB'⟩
  refine ⟨hr,fun _ => ?_,hB'⟩
  obtain ⟨a1,s1,r1,l1,p1,sv',lv',pv',hm',q1,q2,q3,q4,q5⟩:=hM' rfl
  subst q2 q3 q4 q5
  exact ⟨a1,_,_,_,_,_,_,_,hm',by show a1 = ((pc + 1 : Nat) : Int); omega,by rw [List.map_cons,getD_map2],rfl,rfl,rfl⟩
 ·obtain ⟨l1,l2,l3⟩:=hpl (by decide) (by decide) (by decide) (by decide)
  obtain ⟨a,s,rfl⟩:=one_of (show 1 ≤ s0.length from l1)
  have hd : doN E 18 y pc ((a :: s).map (·.2)) (r0.map (·.2)) (opsL los) pr0 = (0,⟨pc + 1,s.map (·.2),(r0.map (·.2)).set y.toNat a.2,opsL los,pr0⟩):=rfl
  rw [hd]
  refine (hgen 0 (φ4:=eqS (pc : Int) (s) (r0.set y.toNat a) los pr0) (fun w1 X hB hR => by
   obtain ⟨_,_,_,_,_,sv1,lv1,pv1,h1,rfl,rfl,rfl,rfl,rfl⟩:=hR
   refine (rsetOp_any y (g17 (.inr (hu 18 rfl))) a h1 (by simp at hl16; omega)).mono ?_
   rintro r w' ⟨hr,⟨sv',hm'⟩,hB'⟩
   exact ⟨hr,⟨_,_,_,_,_,_,_,_,hm',rfl,rfl,rfl,rfl,rfl⟩,hB'⟩) (noneN (by decide)) (noneT (by decide)) (fun _ => noneB (by decide)) (fun a' _ _ _ _ h => by rw [h.1]; exact hp0)).mono ?_
  rintro r w' ⟨hr,hM',hB'⟩
  refine ⟨hr,fun _ => ?_,hB'⟩
  obtain ⟨a1,s1,r1,l1,p1,sv',lv',pv',hm',q1,q2,q3,q4,q5⟩:=hM' rfl
  subst q2 q3 q4 q5
  exact ⟨a1,_,_,_,_,_,_,_,hm',by show a1 = ((pc + 1 : Nat) : Int); omega,rfl,by rw [map_set2],rfl,rfl⟩
 ·obtain ⟨e,e1,e2,e3,e4,e5,e6,-⟩:=behind_open G hpc (.inl (hu 19 rfl))
  rw [← hst,List.length_map] at e5
  obtain ⟨a,s,rfl⟩:=one_of e5
  have hd : doN E 19 y pc ((a :: s).map (·.2)) (r0.map (·.2)) (opsL los) pr0 = (0,⟨if a.2.1 = 0 then (E.ends.getD pc 0).toNat + 1 else pc + 1,s.map (·.2),r0.map (·.2),opsL los,pr0⟩):=rfl
  rw [hd]
  have hpe : pc < E.ends.length:=by rw [hel]; exact hpc
  have hgd : E.ends.getD pc 0 = E.ends[pc]:=by rw [List.getD_eq_getElem?_getD,List.getElem?_eq_getElem hpe]; rfl
  have hv : (if a.2.1 = 0 then E.ends[pc] else (pc : Int)) + 1 = ((if a.2.1 = 0 then (E.ends.getD pc 0).toNat + 1 else pc + 1 : Nat) : Int):=by
   split
   ·rw [e3] at hgd ⊢; rw [← hgd]; simp
   ·simp
  have hb : -1 ≤ (if a.2.1 = 0 then E.ends[pc] else (pc : Int)) ∧ (if a.2.1 = 0 then E.ends[pc] else (pc : Int)) ≤ 1000:=by
   split
   ·rw [← hgd,e3]; omega
   ·exact hp0
  refine (hgen 0 (φ4:=eqS (if a.2.1 = 0 then E.ends[pc] else (pc : Int)) s r0 los pr0) (noneA (by decide)) (noneN (by decide)) (noneT (by decide)) (fun _ => fun w1 X hB hR => by
   obtain ⟨_,_,_,_,_,sv1,lv1,pv1,h1,rfl,rfl,rfl,rfl,rfl⟩:=hR
   refine (rifOp_any y a pc h1 (by simp at hl16; omega) (fun w' h2 => hJ w1 w' hB h2) hpe (by omega)).mono ?_
   rintro r w' ⟨hr,⟨sv',hm'⟩,hB'⟩
   exact ⟨hr,⟨_,_,_,_,_,_,_,_,hm',rfl,rfl,rfl,rfl,rfl⟩,hB'⟩) (fun a' _ _ _ _ h => by rw [h.1]; exact hb)).mono ?_
  rintro r w' ⟨hr,hM',hB'⟩
  refine ⟨hr,fun _ => ?_,hB'⟩
  obtain ⟨a1,s1,r1,l1,p1,sv',lv',pv',hm',q1,q2,q3,q4,q5⟩:=hM' rfl
  subst q2 q3 q4 q5
  exact ⟨a1,_,_,_,_,_,_,_,hm',by rw [← hv,← q1]; omega,rfl,rfl,rfl,rfl⟩
 ·obtain ⟨e,e1,e2,e3,e4,e5⟩:=at_else G hpc (hu 20 rfl)
  have hd : doN E 20 y pc (s0.map (·.2)) (r0.map (·.2)) (opsL los) pr0 = (0,⟨(E.ends.getD pc 0).toNat,s0.map (·.2),r0.map (·.2),opsL los,pr0⟩):=rfl
  rw [hd]
  have hpe : pc < E.ends.length:=by rw [hel]; exact hpc
  have hgd : E.ends.getD pc 0 = E.ends[pc]:=by rw [List.getD_eq_getElem?_getD,List.getElem?_eq_getElem hpe]; rfl
  rw [e3] at hgd
  refine (hgen 0 (φ4:=eqS (E.ends[pc] - 1) s0 r0 los pr0) (noneA (by decide)) (noneN (by decide)) (noneT (by decide)) (fun _ => fun w1 X hB hR => by
   obtain ⟨_,_,_,_,_,sv1,lv1,pv1,h1,rfl,rfl,rfl,rfl,rfl⟩:=hR
   refine (relseOp_any y pc h1 (hE w1 hB).e hpe (by omega) (by rw [← hgd]; omega)).mono ?_
   rintro r w' ⟨hr,hm',hB'⟩
   exact ⟨hr,⟨_,_,_,_,_,_,_,_,hm',rfl,rfl,rfl,rfl,rfl⟩,hB'⟩) (fun a' _ _ _ _ h => by rw [h.1,← hgd]; omega)).mono ?_
  rintro r w' ⟨hr,hM',hB'⟩
  refine ⟨hr,fun _ => ?_,hB'⟩
  obtain ⟨a1,s1,r1,l1,p1,sv',lv',pv',hm',q1,q2,q3,q4,q5⟩:=hM' rfl
  subst q2 q3 q4 q5
  exact ⟨a1,_,_,_,_,_,_,_,hm',by show a1 = (((E.ends.getD pc 0).toNat : Nat) : Int); rw [e3]; rw [← hgd] at q1; omega,rfl,rfl,rfl,rfl⟩
 ·have hd : doN E 21 y pc (s0.map (·.2)) (r0.map (·.2)) (opsL los) pr0 = if loopEnd E pc = true then (match opsL los with | (a,p :: ps) :: o => (0,⟨a + 1,(0,p) :: s0.map (·.2),r0.map (·.2),(a,ps) :: o,pr0⟩) | (_,[]) :: o => (0,⟨pc + 1,s0.map (·.2),r0.map (·.2),o,pr0⟩) | [] => (99,⟨pc,s0.map (·.2),r0.map (·.2),opsL los,pr0⟩)) else (0,⟨pc + 1,s0.map (·.2),r0.map (·.2),opsL los,pr0⟩):=rfl
  rw [hd]
  have hop21 : opV E.code pc = 21:=hu 21 rfl
  obtain ⟨j,hj1,hj2,hj3⟩:=hown.at_ pc hpc hop21
  have hpo : pc < own.length:=by rw [hown.len]; exact hpc
  have hgo : own[pc] = (j : Int):=by rw [← hj1,List.getD_eq_getElem?_getD,List.getElem?_eq_getElem hpo]; rfl
  have hjc : opV E.code j = E.code[j].1:=by unfold opV; rw [List.getD_eq_getElem?_getD,List.getElem?_eq_getElem hj2]; rfl
  rw [hjc] at hj3
  have hol : own.length ≤ 1000:=by rw [hown.len]; omega
  cases hle : loopEnd E pc with
  | false =>
   rw [if_neg (by simp)]
   have hne : E.code[j].1 ≠ 22:=fun hh => by rw [hj3.1 hh] at hle; cases hle
   refine (hgen 0 (φ4:=eqS (pc : Int) s0 r0 los pr0) (noneA (by decide)) (noneN (by decide)) (noneT (by decide)) (fun _ => fun w1 X hB hR => by
    obtain ⟨_,_,_,_,_,sv1,lv1,pv1,h1,rfl,rfl,rfl,rfl,rfl⟩:=hR
    refine (rendOp_not y pc j h1 (hE w1 hB).o (hE w1 hB).c hpo hol (by omega) hgo hj2 hne).mono ?_
    rintro r w' ⟨hr,hB'⟩
    exact ⟨hr,⟨_,_,_,_,_,_,_,_,h1.below hB',rfl,rfl,rfl,rfl,rfl⟩,hB'.mono h1.size⟩) (fun a' _ _ _ _ h => by rw [h.1]; exact hp0)).mono ?_
   rintro r w' ⟨hr,hM',hB'⟩
   refine ⟨hr,fun _ => ?_,hB'⟩
   obtain ⟨a1,s1,r1,l1,p1,sv',lv',pv',hm',q1,q2,q3,q4,q5⟩:=hM' rfl
   subst q2 q3 q4 q5
   exact ⟨a1,_,_,_,_,_,_,_,hm',by show a1 = ((pc + 1 : Nat) : Int); omega,rfl,rfl,rfl,rfl⟩
  | true =>
   rw [if_pos rfl]
   have h22 : E.code[j].1 = 22:=hj3.2 hle
   obtain ⟨j',b',e1,e2,e3,e4,e5,e6,e7,e8⟩:=at_end G hpc (hu 21 rfl)
   have hle2:=loopEnd_of e5 (by omega) e4
   rw [hle] at hle2
   rw [if_pos (e2.1 (by simpa using hle2.symm))] at e6
   rw [e6] at hopl
   cases hops : opsL los with
   | nil => rw [hops] at hopl; cases hopl
   | cons x o =>
    obtain ⟨a,ps0⟩:=x
    obtain ⟨l,e,rfl,ha,hps,ho2⟩:=opsL_cons hops
    rw [hops] at hov
    have hpl2 : e.ps.length ≤ 1024:=by rw [hps]; exact (hov _ (List.mem_cons_self ..)).1
    have hal : a = j':=by rw [hops] at hopl; injection hopl
    subst ha hps
    have hat0 : e.at_ ≤ 1000:=by omega
    cases hpse : e.ps with
    | nil =>
     refine (hgen 0 (φ4:=eqS (pc : Int) s0 r0 l pr0) (noneA (by decide)) (noneN (by decide)) (noneT (by decide)) (fun _ => fun w1 X hB hR => by
      obtain ⟨_,_,_,_,_,sv1,lv1,pv1,h1,rfl,rfl,rfl,rfl,rfl⟩:=hR
      refine (rendOp_loop y pc j h1 (by omega) (by simp at heo; omega) (by omega) (hE w1 hB).o (hE w1 hB).c hpo hol (by omega) hgo hj2 h22).mono ?_
      rintro r w' ⟨hr,(⟨-,lv',hm'⟩ | ⟨p,ps,hpp,-⟩),hB'⟩
      ·exact ⟨hr,⟨_,_,_,_,_,_,_,_,hm',rfl,rfl,rfl,rfl,rfl⟩,hB'⟩
      ·rw [hpse] at hpp; cases hpp) (fun a' _ _ _ _ h => by rw [h.1]; exact hp0)).mono ?_
     rintro r w' ⟨hr,hM',hB'⟩
     refine ⟨hr,fun _ => ?_,hB'⟩
     obtain ⟨a1,s1,r1,l1,p1,sv',lv',pv',hm',q1,q2,q3,q4,q5⟩:=hM' rfl
     subst q2 q3 q4 q5
     exact ⟨a1,_,_,_,_,_,_,_,hm',by show a1 = ((pc + 1 : Nat) : Int); omega,rfl,rfl,ho2,rfl⟩
    | cons p ps =>
     refine (hgen 0 (φ4:=fun a' s' r' l' p' => a' = (e.at_ : Int) ∧ s' = (true,0,p) :: s0 ∧ r' = r0 ∧ opsL l' = (e.at_,ps) :: opsL l ∧ p' = pr0) (noneA (by decide)) (noneN (by decide)) (noneT (by decide)) (fun _ => fun w1 X hB hR => by
      obtain ⟨_,_,_,_,_,sv1,lv1,pv1,h1,rfl,rfl,rfl,rfl,rfl⟩:=hR
      refine (rendOp_loop y pc j h1 (by omega) (by simp at heo; omega) (by omega) (hE w1 hB).o (hE w1 hB).c hpo hol (by omega) hgo hj2 h22).mono ?_
      rintro r w' ⟨hr,(⟨hpp,-⟩ | ⟨p',ps',hpp,sv',lv',e',he1,he2,hm'⟩),hB'⟩
      ·rw [hpse] at hpp; cases hpp
      ·rw [hpse] at hpp
       injection hpp with hp1 hp2
       subst hp1 hp2
       exact ⟨hr,⟨_,_,_,_,_,_,_,_,hm',rfl,rfl,rfl,by rw [opsL_snoc,he1,he2],rfl⟩,hB'⟩) (fun a' _ _ _ _ h => by rw [h.1]; omega)).mono ?_
     rintro r w' ⟨hr,hM',hB'⟩
     refine ⟨hr,fun _ => ?_,hB'⟩
     obtain ⟨a1,s1,r1,l1,p1,sv',lv',pv',hm',q1,q2,q3,q4,q5⟩:=hM' rfl
     subst q2 q3 q5
     exact ⟨a1,_,_,_,_,_,_,_,hm',by show a1 = ((e.at_ + 1 : Nat) : Int); omega,rfl,rfl,by rw [q4,ho2],rfl⟩
 ·obtain ⟨e,e1,e2,e3,e4,e5,e6,-⟩:=behind_open G hpc (.inr (hu 22 rfl))
  rw [← hst,List.length_map] at e5
  obtain ⟨a,s,rfl⟩:=one_of e5
  have hd : doN E 22 y pc ((a :: s).map (·.2)) (r0.map (·.2)) (opsL los) pr0 = (match piecesM a.2.2 y with | [] => (0,⟨(E.ends.getD pc 0).toNat + 1,s.map (·.2),r0.map (·.2),opsL los,pr0⟩) | p :: ps => (0,⟨pc + 1,(0,p) :: s.map (·.2),r0.map (·.2),(pc,ps) :: opsL los,pr0⟩)):=rfl
  rw [hd]
  have hpe : pc < E.ends.length:=by rw [hel]; exact hpc
  have hgd : E.ends.getD pc 0 = E.ends[pc]:=by rw [List.getD_eq_getElem?_getD,List.getElem?_eq_getElem hpe]; rfl
  rw [e3] at hgd
  cases hpi : piecesM a.2.2 y with
  | nil =>
   refine (hgen 0 (φ4:=eqS E.ends[pc] s r0 los pr0) (noneA (by decide)) (noneN (by decide)) (noneT (by decide)) (fun _ => fun w1 X hB hR => by
    obtain ⟨_,_,_,_,_,sv1,lv1,pv1,h1,rfl,rfl,rfl,rfl,rfl⟩:=hR
    refine (reachOp_any y a pc h1 (by simp at hl16; omega) (by omega) (hsv a (by simp)).2.2 (fun w' h2 => hJ w1 w' hB h2) hpe (by omega)).mono ?_
    rintro r w' ⟨hr,(⟨-,sv',hm'⟩ | ⟨p,ps,hpp,-⟩),hB'⟩
    ·exact ⟨hr,⟨_,_,_,_,_,_,_,_,hm',rfl,rfl,rfl,rfl,rfl⟩,hB'⟩
    ·rw [hpi] at hpp; cases hpp) (fun a' _ _ _ _ h => by rw [h.1,← hgd]; omega)).mono ?_
   rintro r w' ⟨hr,hM',hB'⟩
   refine ⟨hr,fun _ => ?_,hB'⟩
   obtain ⟨a1,s1,r1,l1,p1,sv',lv',pv',hm',q1,q2,q3,q4,q5⟩:=hM' rfl
   subst q2 q3 q4 q5
   exact ⟨a1,_,_,_,_,_,_,_,hm',by show a1 = (((E.ends.getD pc 0).toNat + 1 : Nat) : Int); rw [e3]; rw [← hgd] at q1; omega,rfl,rfl,rfl,rfl⟩
  | cons p ps =>
   refine (hgen 0 (φ4:=fun a' s' r' l' p' => a' = (pc : Int) ∧ s' = (true,0,p) :: s ∧ r' = r0 ∧ opsL l' = (pc,ps) :: opsL los ∧ p' = pr0) (noneA (by decide)) (noneN (by decide)) (noneT (by decide)) (fun _ => fun w1 X hB hR => by
    obtain ⟨_,_,_,_,_,sv1,lv1,pv1,h1,rfl,rfl,rfl,rfl,rfl⟩:=hR
    refine (reachOp_any y a pc h1 (by simp at hl16; omega) (by omega) (hsv a (by simp)).2.2 (fun w' h2 => hJ w1 w' hB h2) hpe (by omega)).mono ?_
    rintro r w' ⟨hr,(⟨hpp,-⟩ | ⟨p',ps',hpp,sv',lv',e',he1,he2,hm'⟩),hB'⟩
    ·rw [hpi] at hpp; cases hpp
    ·rw [hpi] at hpp
     injection hpp with hp1 hp2
     subst hp1 hp2
     exact ⟨hr,⟨_,_,_,_,_,_,_,_,hm',rfl,rfl,rfl,by rw [opsL_snoc,he1,he2],rfl⟩,hB'⟩) (fun a' _ _ _ _ h => by rw [h.1]; exact hp0)).mono ?_
   rintro r w' ⟨hr,hM',hB'⟩
   refine ⟨hr,fun _ => ?_,hB'⟩
   obtain ⟨a1,s1,r1,l1,p1,sv',lv',pv',hm',q1,q2,q3,q4,q5⟩:=hM' rfl
   subst q2 q3 q5
   exact ⟨a1,_,_,_,_,_,_,_,hm',by show a1 = ((pc + 1 : Nat) : Int); omega,rfl,rfl,q4,rfl⟩
 ·obtain ⟨l1,l2,l3⟩:=hpl (by decide) (by decide) (by decide) (by decide)
  obtain ⟨b,a,s,rfl⟩:=two_of (show 2 ≤ s0.length from l1)
  have hd : doN E 23 y pc ((b :: a :: s).map (·.2)) (r0.map (·.2)) (opsL los) pr0 = if 256 ≤ pr0.length then (4,⟨pc,(b :: a :: s).map (·.2),r0.map (·.2),opsL los,pr0⟩) else (0,⟨pc + 1,s.map (·.2),r0.map (·.2),opsL los,pr0 ++ [(a.2.2,b.2.2)]⟩):=rfl
  rw [hd]
  by_cases hc : 256 ≤ pr0.length
  ·rw [if_pos hc]
   refine (hgen 4 (φ3:=eqS (pc : Int) s r0 los pr0) (φ4:=eqS (pc : Int) s r0 los pr0) (noneA (by decide)) (noneN (by decide)) (fun w1 X hB hR => by
    obtain ⟨_,_,_,_,_,sv1,lv1,pv1,h1,rfl,rfl,rfl,rfl,rfl⟩:=hR
    exact (remit_full y h1 hc hpr).mono fun r w' ⟨hr,hB'⟩ => ⟨hr,fun h => absurd h (by decide),hB'⟩) (fun h => absurd h (by decide)) (fun a' _ _ _ _ h => by rw [h.1]; exact hp0)).mono ?_
   rintro r w' ⟨hr,-,hB'⟩
   exact ⟨hr,fun h => absurd h (by simp),hB'⟩
  ·rw [if_neg hc]
   refine (hgen 0 (φ4:=eqS (pc : Int) (s) r0 los (pr0 ++ [(a.2.2,b.2.2)])) (noneA (by decide)) (noneN (by decide)) (fun w1 X hB hR => by
    obtain ⟨_,_,_,_,_,sv1,lv1,pv1,h1,rfl,rfl,rfl,rfl,rfl⟩:=hR
    refine (remit_any y a b h1 (by simp at hl16; omega) hc).mono ?_
    rintro r w' ⟨hr,⟨sv',pv',hm'⟩,hB'⟩
    exact ⟨hr,fun _ => ⟨_,_,_,_,_,_,_,_,hm',rfl,rfl,rfl,rfl,rfl⟩,hB'⟩) (fun _ => noneB (by decide)) (fun a' _ _ _ _ h => by rw [h.1]; exact hp0)).mono ?_
   rintro r w' ⟨hr,hM',hB'⟩
   refine ⟨hr,fun _ => ?_,hB'⟩
   obtain ⟨a1,s1,r1,l1,p1,sv',lv',pv',hm',q1,q2,q3,q4,q5⟩:=hM' rfl
   subst q2 q3 q4 q5
   exact ⟨a1,_,_,_,_,_,_,_,hm',by show a1 = ((pc + 1 : Nat) : Int); omega,rfl,rfl,rfl,rfl⟩
end
end Go.Proofs.YtehllcbnheicoaaGreatDoor
