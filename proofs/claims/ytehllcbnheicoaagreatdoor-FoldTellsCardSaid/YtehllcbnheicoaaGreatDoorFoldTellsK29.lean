/- Lemmas for FoldTells, part 29: walks of the functions that it reaches, and the plain laws behind them. -/
import Derived.Test.YtehllcbnheicoaaGreatDoorFoldTellsK28
set_option linter.unusedSimpArgs false
set_option linter.unusedVariables false
set_option maxRecDepth 100000
set_option maxHeartbeats 16000000
namespace Go.Proofs.YtehllcbnheicoaaGreatDoor
open Go.RowKit Oct
def doesL : List FuncId:=[0,270,271,272,273,274,275,276,277,278,279,280,281,282,283,284,285,286,287,288,289,290,291,292]
theorem asc_len : ∀ (l : List Nat) (a n : Nat),l.Pairwise (· < ·) → (∀ x ∈ l,a ≤ x ∧ x < n) → l.length ≤ n - a
 | [],_,_,_,_ => Nat.zero_le _
 | x :: l,a,n,hp,h => by
  obtain ⟨h1,h2⟩:=List.pairwise_cons.1 hp
  obtain ⟨h3,h4⟩:=h x (List.mem_cons_self ..)
  have:=asc_len l (x + 1) n h2 (fun y hy => ⟨h1 y hy,(h y (List.mem_cons_of_mem _ hy)).2⟩)
  rw [List.length_cons]
  omega
theorem does_call : ∀ n,1 ≤ n → n ≤ 23 → ∀ (args : Array Value) (w : World),(callFunc (doesL.getD n 0) args).run Tryz.prog w = .ok (.enter (doesL.getD n 0) args) w:=by
 intro n h1 h2
 rcases (show n = 1 ∨ n = 2 ∨ n = 3 ∨ n = 4 ∨ n = 5 ∨ n = 6 ∨ n = 7 ∨ n = 8 ∨ n = 9 ∨ n = 10 ∨ n = 11 ∨ n = 12 ∨ n = 13 ∨ n = 14 ∨ n = 15 ∨ n = 16 ∨ n = 17 ∨ n = 18 ∨ n = 19 ∨ n = 20 ∨ n = 21 ∨ n = 22 ∨ n = 23 by omega) with rfl | rfl | rfl | rfl | rfl | rfl | rfl | rfl | rfl | rfl | rfl | rfl | rfl | rfl | rfl | rfl | rfl | rfl | rfl | rfl | rfl | rfl | rfl <;> (intro args w; kernel_rfl)
structure EnvV (w : World) (E : Me) (tv cv iv ev : Value) : Prop where
 t : recS.Row w tv E.tx
 c : recIns.Row w cv E.code
 i : recS.Row w iv E.ins
 e : recJ.Row w ev E.ends
 g : GlobV w
 d : ∀ k,1 ≤ k → k ≤ 23 → w.cell? ⟨0,k,none⟩ = some (.func (.func (doesL.getD k 0)) #[] #[])
def mapPq {base : Nat} (M : Nat) (n : Nat) (c : Int → Nat) : Pt base :=
 ⟨fun k => k = M,fun w => base ≤ M ∧ mapI w M n c,fun h hc hX => ⟨h.1,h.2.block (hc.block _ h.2.lt (hX _ rfl))⟩,fun h k hk => by subst hk; exact ⟨h.1,h.2.lt⟩⟩
def MS (base : Nat) (w : World) (G M : Nat) (E : Me) (tv cv iv ev : Value) (tr : List Int) (at_ : Int) (st rg : List MV) (op : List (Nat × List (List UInt8))) (pr : List (List UInt8 × List UInt8)) : Prop :=
 ∃ eos stv opv prv trv,MR base w G ⟨tv,cv,iv,ev,.map (some M),[],0⟩ at_ st rg eos pr tr stv opv prv trv [mapPq M E.code.length (cntEnd E.code E.ends E.code.length)] ∧ opsOf eos = op ∧ ∀ e ∈ eos,e.rest.length ≤ 1024
section
variable {nt inp : Nat} {role : UInt8} {E : Me}
theorem loops_le (G : GoodM nt inp role E) {i : Nat} (hi : i ≤ E.code.length) : (loopsB (sM nt inp role E i)).length ≤ i:=by
 have hr:=(G.run hi).inv
 unfold loopsB
 rw [List.length_reverse,List.length_map]
 refine Nat.le_trans (List.length_filter_le _ _) ?_
 have:=asc_len _ 0 i hr.st (fun x hx => by
  obtain ⟨b,hb,rfl⟩:=List.mem_map.1 hx
  exact ⟨Nat.zero_le _,(hr.bl b hb).1⟩)
 rw [List.length_map] at this
 omega
theorem ends_len (G : GoodM nt inp role E) : E.ends.length = E.code.length:=by
 rw [G.ends]; exact (G.run (Nat.le_refl _)).inv.el
theorem step_any {base Gb M : Nat} {w : World} {tv cv iv ev : Value} {tr : List Int} {pc : Nat} {st rg : List MV} {op : List (Nat × List (List UInt8))} {pr : List (List UInt8 × List UInt8)} {n : Nat} {y : UInt8}
  (G : GoodM nt inp role E) (hnt : nt ≤ 1000) (hinp : inp ≤ 1000) (hcl : E.code.length ≤ 256) (h : OkM (sM nt inp role E) E ⟨pc,st,rg,op,pr⟩) (hpc : pc < E.code.length) (hn : (E.code.getD pc (0,0)).1.toNat = n) (hy : (E.code.getD pc (0,0)).2 = y)
  (hM : MS base w Gb M E tv cv iv ev tr (pc : Int) st rg op pr) (hE : ∀ w',Below base w w' → EnvV w' E tv cv iv ev) :
  Calls Tryz.prog (doesL.getD n 0) #[.pointer (some ⟨Gb,0,none⟩),.int .u8 (y.toNat : Int)] w fun r w' => r = .returned (.int .i64 ((doN E n y pc st rg op pr).1 : Int)) ∧
   ((doN E n y pc st rg op pr).1 = 0 → MS base w' Gb M E tv cv iv ev tr (((doN E n y pc st rg op pr).2.pc : Int) - 1) (doN E n y pc st rg op pr).2.st (doN E n y pc st rg op pr).2.rg (doN E n y pc st rg op pr).2.op (doN E n y pc st rg op pr).2.pr) ∧ Below base w w':=by
 have hst : st.length = (sM nt inp role E pc).kinds.length:=h.st
 have hopl : op.map (·.1) = loopsB (sM nt inp role E pc):=h.op
 have hsv : ∀ v ∈ st,vOk v:=h.sv
 have hpr : pr.length ≤ 256:=h.pr
 have hk16:=(G.run (Nat.le_of_lt hpc)).k
 have hl16 : st.length ≤ 16:=by rw [hst]; exact hk16
 have hel:=ends_len G
 obtain ⟨eos,stv,opv,prv,trv,hm,hop,hre⟩:=hM
 have heo : eos.length ≤ 256:=by
  have h1:=loops_le G (Nat.le_of_lt hpc)
  rw [← hopl,List.length_map,← hop,opsOf_length] at h1
  omega
 have hx : insOk (E.code.getD pc (0,0)) = true:=getD_ok (P:=fun x => insOk x = true) G.may hpc _
 have hx1 : 1 ≤ (E.code.getD pc (0,0)).1.toNat ∧ (E.code.getD pc (0,0)).1.toNat ≤ 23:=by
  unfold insOk at hx
  simp at hx
  exact hx.1
 obtain ⟨hs,ho⟩:=G.step hpc
 obtain ⟨g1,g3,g17,g23⟩:=there_args ho.th
 have hu : ∀ k : UInt8,k.toNat = n → (E.code.getD pc (0,0)).1 = k:=fun k hk => UInt8.toNat_inj.1 (hn.trans hk.symm)
 have hpl:=fun (h19 : n ≠ 19) (h20 : n ≠ 20) (h21 : n ≠ 21) (h22 : n ≠ 22) => plain_step G hpc hn (by omega) h19 h20 h21 h22
 rw [hn] at hx1
 rw [← hst] at hpl
 rw [hy] at g1 g3 g17
 have hp1 : ((pc + 1 : Nat) : Int) - 1 = (pc : Int):=by omega
 have hEw:=hE w (Below.refl _ _)
 have hGl : ∀ w',Below base w w' → GlobV w':=fun w' hB => (hE w' hB).g
 have hJ : ∀ w',Below base w w' → recJ.Row w' ev E.ends:=fun w' hB => (hE w' hB).e
 clear hx hn
 rcases (show n = 1 ∨ n = 2 ∨ n = 3 ∨ n = 4 ∨ n = 5 ∨ n = 6 ∨ n = 7 ∨ n = 8 ∨ n = 9 ∨ n = 10 ∨ n = 11 ∨ n = 12 ∨ n = 13 ∨ n = 14 ∨ n = 15 ∨ n = 16 ∨ n = 17 ∨ n = 18 ∨ n = 19 ∨ n = 20 ∨ n = 21 ∨ n = 22 ∨ n = 23 by omega) with rfl | rfl | rfl | rfl | rfl | rfl | rfl | rfl | rfl | rfl | rfl | rfl | rfl | rfl | rfl | rfl | rfl | rfl | rfl | rfl | rfl | rfl | rfl
 ·obtain ⟨l1,l2,l3⟩:=hpl (by decide) (by decide) (by decide) (by decide)
  have hd : doN E 1 y pc (st) rg op pr = (0,⟨pc + 1,(0,E.tx.getD y.toNat []) :: st,rg,op,pr⟩):=rfl
  rw [hd]
  refine (vtext_any y hm (by omega) hEw.t (by rw [G.txl]; exact g1 (hu 1 rfl)) (by rw [G.txl]; omega)).mono ?_
  rintro r w' ⟨rfl,⟨sv,hm'⟩,hB⟩
  exact ⟨rfl,fun _ => ⟨eos,_,_,_,_,by show MR base w' Gb _ (((pc + 1 : Nat) : Int) - 1) _ _ eos pr tr _ _ _ _ _; rw [hp1]; exact hm',hop,hre⟩,hB⟩
 ·obtain ⟨l1,l2,l3⟩:=hpl (by decide) (by decide) (by decide) (by decide)
  have hd : doN E 2 y pc (st) rg op pr = (0,⟨pc + 1,((y.toNat : Int),[]) :: st,rg,op,pr⟩):=rfl
  rw [hd]
  refine (vnum_any y hm (by omega)).mono ?_
  rintro r w' ⟨rfl,⟨sv,hm'⟩,hB⟩
  exact ⟨rfl,fun _ => ⟨eos,_,_,_,_,by show MR base w' Gb _ (((pc + 1 : Nat) : Int) - 1) _ _ eos pr tr _ _ _ _ _; rw [hp1]; exact hm',hop,hre⟩,hB⟩
 ·obtain ⟨l1,l2,l3⟩:=hpl (by decide) (by decide) (by decide) (by decide)
  have hd : doN E 3 y pc (st) rg op pr = (0,⟨pc + 1,(0,E.ins.getD y.toNat []) :: st,rg,op,pr⟩):=rfl
  rw [hd]
  refine (vinput_any y hm (by omega) hEw.i (by rw [G.inl]; exact g3 (hu 3 rfl)) (by rw [G.inl]; omega)).mono ?_
  rintro r w' ⟨rfl,⟨sv,hm'⟩,hB⟩
  exact ⟨rfl,fun _ => ⟨eos,_,_,_,_,by show MR base w' Gb _ (((pc + 1 : Nat) : Int) - 1) _ _ eos pr tr _ _ _ _ _; rw [hp1]; exact hm',hop,hre⟩,hB⟩
 ·obtain ⟨l1,l2,l3⟩:=hpl (by decide) (by decide) (by decide) (by decide)
  obtain ⟨b,a,s,rfl⟩:=two_of (show 2 ≤ st.length from l1)
  have hd : doN E 4 y pc (b :: a :: s) rg op pr = if 1024 < a.2.length + b.2.length then (5,⟨pc,b :: a :: s,rg,op,pr⟩) else (0,⟨pc + 1,(0,a.2 ++ b.2) :: s,rg,op,pr⟩):=rfl
  rw [hd]
  refine (vcat_any y a b hm (by simp at hl16; omega) (head_ok (tail_ok hsv)).2.2 (head_ok hsv).2.2).mono ?_
  rintro r w' ⟨(⟨hc,rfl⟩ | ⟨hc,rfl,sv,hm'⟩),hB⟩
  ·rw [if_pos hc]
   exact ⟨rfl,fun h0 => absurd h0 (by simp),hB⟩
  ·rw [if_neg hc]
   exact ⟨rfl,fun _ => ⟨eos,_,_,_,_,by show MR base w' Gb _ (((pc + 1 : Nat) : Int) - 1) _ rg eos pr tr _ _ _ _ _; rw [hp1]; exact hm',hop,hre⟩,hB⟩
 ·obtain ⟨l1,l2,l3⟩:=hpl (by decide) (by decide) (by decide) (by decide)
  obtain ⟨a,s,rfl⟩:=one_of (show 1 ≤ st.length from l1)
  have hd : doN E 5 y pc (a :: s) rg op pr = (0,⟨pc + 1,((a.2.length : Int),[]) :: s,rg,op,pr⟩):=rfl
  rw [hd]
  refine (vsize_any y a hm (by simp at hl16; omega) (head_ok hsv).2.2).mono ?_
  rintro r w' ⟨rfl,⟨sv,hm'⟩,hB⟩
  exact ⟨rfl,fun _ => ⟨eos,_,_,_,_,by show MR base w' Gb _ (((pc + 1 : Nat) : Int) - 1) _ _ eos pr tr _ _ _ _ _; rw [hp1]; exact hm',hop,hre⟩,hB⟩
 ·obtain ⟨l1,l2,l3⟩:=hpl (by decide) (by decide) (by decide) (by decide)
  obtain ⟨n,a,t,s,rfl⟩:=three_of (show 3 ≤ st.length from l1)
  have hd : doN E 6 y pc (n :: a :: t :: s) rg op pr = (0,⟨pc + 1,(0,partM t.2 a.1 n.1) :: s,rg,op,pr⟩):=rfl
  rw [hd]
  refine (vpart_any y n a t hm (by simp at hl16; omega) (head_ok hsv) (head_ok (tail_ok hsv)) (head_ok (tail_ok (tail_ok hsv)))).mono ?_
  rintro r w' ⟨rfl,⟨sv,hm'⟩,hB⟩
  exact ⟨rfl,fun _ => ⟨eos,_,_,_,_,by show MR base w' Gb _ (((pc + 1 : Nat) : Int) - 1) _ _ eos pr tr _ _ _ _ _; rw [hp1]; exact hm',hop,hre⟩,hB⟩
 ·obtain ⟨l1,l2,l3⟩:=hpl (by decide) (by decide) (by decide) (by decide)
  obtain ⟨a,s,rfl⟩:=one_of (show 1 ≤ st.length from l1)
  have hd : doN E 7 y pc (a :: s) rg op pr = (0,⟨pc + 1,(parseM a.2,[]) :: s,rg,op,pr⟩):=rfl
  rw [hd]
  refine (vparse_any y a hm (by simp at hl16; omega) (head_ok hsv) hGl).mono ?_
  rintro r w' ⟨rfl,⟨sv,hm'⟩,hB⟩
  exact ⟨rfl,fun _ => ⟨eos,_,_,_,_,by show MR base w' Gb _ (((pc + 1 : Nat) : Int) - 1) _ _ eos pr tr _ _ _ _ _; rw [hp1]; exact hm',hop,hre⟩,hB⟩
 ·obtain ⟨l1,l2,l3⟩:=hpl (by decide) (by decide) (by decide) (by decide)
  obtain ⟨a,s,rfl⟩:=one_of (show 1 ≤ st.length from l1)
  have hd : doN E 8 y pc (a :: s) rg op pr = (0,⟨pc + 1,(0,Lib.itoa a.1) :: s,rg,op,pr⟩):=rfl
  rw [hd]
  refine (vshow_any y a hm (by simp at hl16; omega) (head_ok hsv) (fun w' hB => (hGl w' hB).tab)).mono ?_
  rintro r w' ⟨rfl,⟨sv,hm'⟩,hB⟩
  exact ⟨rfl,fun _ => ⟨eos,_,_,_,_,by show MR base w' Gb _ (((pc + 1 : Nat) : Int) - 1) _ _ eos pr tr _ _ _ _ _; rw [hp1]; exact hm',hop,hre⟩,hB⟩
 ·obtain ⟨l1,l2,l3⟩:=hpl (by decide) (by decide) (by decide) (by decide)
  obtain ⟨b,a,s,rfl⟩:=two_of (show 2 ≤ st.length from l1)
  have hd : doN E 9 y pc (b :: a :: s) rg op pr = (0,⟨pc + 1,(wrap64 (a.1 + b.1),[]) :: s,rg,op,pr⟩):=rfl
  rw [hd]
  refine (vadd_any y a b hm (by simp at hl16; omega)).mono ?_
  rintro r w' ⟨rfl,⟨sv,hm'⟩,hB⟩
  exact ⟨rfl,fun _ => ⟨eos,_,_,_,_,by show MR base w' Gb _ (((pc + 1 : Nat) : Int) - 1) _ _ eos pr tr _ _ _ _ _; rw [hp1]; exact hm',hop,hre⟩,hB⟩
 ·obtain ⟨l1,l2,l3⟩:=hpl (by decide) (by decide) (by decide) (by decide)
  obtain ⟨b,a,s,rfl⟩:=two_of (show 2 ≤ st.length from l1)
  have hd : doN E 10 y pc (b :: a :: s) rg op pr = (0,⟨pc + 1,(wrap64 (a.1 * b.1),[]) :: s,rg,op,pr⟩):=rfl
  rw [hd]
  refine (vmul_any y a b hm (by simp at hl16; omega)).mono ?_
  rintro r w' ⟨rfl,⟨sv,hm'⟩,hB⟩
  exact ⟨rfl,fun _ => ⟨eos,_,_,_,_,by show MR base w' Gb _ (((pc + 1 : Nat) : Int) - 1) _ _ eos pr tr _ _ _ _ _; rw [hp1]; exact hm',hop,hre⟩,hB⟩
 ·obtain ⟨l1,l2,l3⟩:=hpl (by decide) (by decide) (by decide) (by decide)
  obtain ⟨b,a,s,rfl⟩:=two_of (show 2 ≤ st.length from l1)
  have hd : doN E 11 y pc (b :: a :: s) rg op pr = (0,⟨pc + 1,bitM (decide (a.1 < b.1)) :: s,rg,op,pr⟩):=rfl
  rw [hd]
  refine (vless_any y a b hm (by simp at hl16; omega)).mono ?_
  rintro r w' ⟨rfl,⟨sv,hm'⟩,hB⟩
  exact ⟨rfl,fun _ => ⟨eos,_,_,_,_,by show MR base w' Gb _ (((pc + 1 : Nat) : Int) - 1) _ _ eos pr tr _ _ _ _ _; rw [hp1]; exact hm',hop,hre⟩,hB⟩
 ·obtain ⟨l1,l2,l3⟩:=hpl (by decide) (by decide) (by decide) (by decide)
  obtain ⟨b,a,s,rfl⟩:=two_of (show 2 ≤ st.length from l1)
  have hd : doN E 12 y pc (b :: a :: s) rg op pr = (0,⟨pc + 1,bitM (a.2 == b.2) :: s,rg,op,pr⟩):=rfl
  rw [hd]
  refine (vsame_any y a b hm (by simp at hl16; omega)).mono ?_
  rintro r w' ⟨rfl,⟨sv,hm'⟩,hB⟩
  exact ⟨rfl,fun _ => ⟨eos,_,_,_,_,by show MR base w' Gb _ (((pc + 1 : Nat) : Int) - 1) _ _ eos pr tr _ _ _ _ _; rw [hp1]; exact hm',hop,hre⟩,hB⟩
 ·obtain ⟨l1,l2,l3⟩:=hpl (by decide) (by decide) (by decide) (by decide)
  obtain ⟨a,s,rfl⟩:=one_of (show 1 ≤ st.length from l1)
  have hd : doN E 13 y pc (a :: s) rg op pr = (0,⟨pc + 1,bitM (a.1 == 0) :: s,rg,op,pr⟩):=rfl
  rw [hd]
  refine (vnot_any y a hm (by simp at hl16; omega)).mono ?_
  rintro r w' ⟨rfl,⟨sv,hm'⟩,hB⟩
  exact ⟨rfl,fun _ => ⟨eos,_,_,_,_,by show MR base w' Gb _ (((pc + 1 : Nat) : Int) - 1) _ _ eos pr tr _ _ _ _ _; rw [hp1]; exact hm',hop,hre⟩,hB⟩
 ·obtain ⟨l1,l2,l3⟩:=hpl (by decide) (by decide) (by decide) (by decide)
  obtain ⟨a,s,rfl⟩:=one_of (show 1 ≤ st.length from l1)
  have hd : doN E 14 y pc (a :: s) rg op pr = (0,⟨pc + 1,s,rg,op,pr⟩):=rfl
  rw [hd]
  refine (vdrop_any y a hm (by simp at hl16; omega)).mono ?_
  rintro r w' ⟨rfl,⟨sv,hm'⟩,hB⟩
  exact ⟨rfl,fun _ => ⟨eos,_,_,_,_,by show MR base w' Gb _ (((pc + 1 : Nat) : Int) - 1) _ _ eos pr tr _ _ _ _ _; rw [hp1]; exact hm',hop,hre⟩,hB⟩
 ·obtain ⟨l1,l2,l3⟩:=hpl (by decide) (by decide) (by decide) (by decide)
  obtain ⟨a,s,rfl⟩:=one_of (show 1 ≤ st.length from l1)
  have hd : doN E 15 y pc (a :: s) rg op pr = (0,⟨pc + 1,a :: a :: s,rg,op,pr⟩):=rfl
  rw [hd]
  refine (vdup_any y a hm (by simp at hl16; omega)).mono ?_
  rintro r w' ⟨rfl,⟨sv,hm'⟩,hB⟩
  exact ⟨rfl,fun _ => ⟨eos,_,_,_,_,by show MR base w' Gb _ (((pc + 1 : Nat) : Int) - 1) _ _ eos pr tr _ _ _ _ _; rw [hp1]; exact hm',hop,hre⟩,hB⟩
 ·obtain ⟨l1,l2,l3⟩:=hpl (by decide) (by decide) (by decide) (by decide)
  obtain ⟨b,a,s,rfl⟩:=two_of (show 2 ≤ st.length from l1)
  have hd : doN E 16 y pc (b :: a :: s) rg op pr = (0,⟨pc + 1,a :: b :: s,rg,op,pr⟩):=rfl
  rw [hd]
  refine (vswap_any y a b hm (by simp at hl16; omega)).mono ?_
  rintro r w' ⟨rfl,⟨sv,hm'⟩,hB⟩
  exact ⟨rfl,fun _ => ⟨eos,_,_,_,_,by show MR base w' Gb _ (((pc + 1 : Nat) : Int) - 1) _ _ eos pr tr _ _ _ _ _; rw [hp1]; exact hm',hop,hre⟩,hB⟩
 ·obtain ⟨l1,l2,l3⟩:=hpl (by decide) (by decide) (by decide) (by decide)
  have hd : doN E 17 y pc (st) rg op pr = (0,⟨pc + 1,rg.getD y.toNat (0,[]) :: st,rg,op,pr⟩):=rfl
  rw [hd]
  refine (vget_any y (g17 (.inl (hu 17 rfl))) hm (by omega)).mono ?_
  rintro r w' ⟨rfl,⟨sv,hm'⟩,hB⟩
  exact ⟨rfl,fun _ => ⟨eos,_,_,_,_,by show MR base w' Gb _ (((pc + 1 : Nat) : Int) - 1) _ _ eos pr tr _ _ _ _ _; rw [hp1]; exact hm',hop,hre⟩,hB⟩
 ·obtain ⟨l1,l2,l3⟩:=hpl (by decide) (by decide) (by decide) (by decide)
  obtain ⟨a,s,rfl⟩:=one_of (show 1 ≤ st.length from l1)
  have hd : doN E 18 y pc (a :: s) rg op pr = (0,⟨pc + 1,s,rg.set y.toNat a,op,pr⟩):=rfl
  rw [hd]
  refine (vset_any y (g17 (.inr (hu 18 rfl))) a hm (by simp at hl16; omega)).mono ?_
  rintro r w' ⟨rfl,⟨sv,hm'⟩,hB⟩
  exact ⟨rfl,fun _ => ⟨eos,_,_,_,_,by show MR base w' Gb _ (((pc + 1 : Nat) : Int) - 1) _ _ eos pr tr _ _ _ _ _; rw [hp1]; exact hm',hop,hre⟩,hB⟩
 ·obtain ⟨e,e1,e2,e3,e4,e5,e6,-⟩:=behind_open G hpc (.inl (hu 19 rfl))
  rw [← hst] at e5
  obtain ⟨a,s,rfl⟩:=one_of e5
  have hd : doN E 19 y pc (a :: s) rg op pr = (0,⟨if a.1 = 0 then (E.ends.getD pc 0).toNat + 1 else pc + 1,s,rg,op,pr⟩):=rfl
  rw [hd]
  have hpe : pc < E.ends.length:=by rw [hel]; exact hpc
  have hge : E.ends.getD pc 0 = E.ends[pc]:=by rw [List.getD_eq_getElem?_getD,List.getElem?_eq_getElem hpe]; rfl
  refine (vbranch_any y a pc hm (by simp at hl16; omega) hJ hpe (by omega)).mono ?_
  rintro r w' ⟨rfl,⟨sv,hm'⟩,hB⟩
  refine ⟨rfl,fun _ => ⟨eos,sv,opv,prv,trv,?_,hop,hre⟩,hB⟩
  have hv : ((if a.1 = 0 then (E.ends.getD pc 0).toNat + 1 else pc + 1 : Nat) : Int) - 1 = if a.1 = 0 then E.ends[pc] else (pc : Int):=by
   split
   ·rw [e3] at hge ⊢; rw [← hge]; simp
   ·exact hp1
  show MR base w' Gb _ (((if a.1 = 0 then (E.ends.getD pc 0).toNat + 1 else pc + 1 : Nat) : Int) - 1) s rg eos pr tr sv _ _ _ _
  rw [hv]
  exact hm'
 ·obtain ⟨e,e1,e2,e3,e4,e5⟩:=at_else G hpc (hu 20 rfl)
  have hd : doN E 20 y pc st rg op pr = (0,⟨(E.ends.getD pc 0).toNat,st,rg,op,pr⟩):=rfl
  rw [hd]
  have hpe : pc < E.ends.length:=by rw [hel]; exact hpc
  have hge : E.ends.getD pc 0 = E.ends[pc]:=by rw [List.getD_eq_getElem?_getD,List.getElem?_eq_getElem hpe]; rfl
  rw [e3] at hge
  refine (vturn_any y pc hm hEw.e hpe (by omega) (by rw [← hge]; omega)).mono ?_
  rintro r w' ⟨rfl,hm',hB⟩
  refine ⟨rfl,fun _ => ⟨eos,stv,opv,prv,trv,?_,hop,hre⟩,hB⟩
  rw [← hge] at hm'
  show MR base w' Gb _ (((E.ends.getD pc 0).toNat : Int) - 1) st rg eos pr tr _ _ _ _ _
  rw [e3]
  exact hm'
 ·have hd : doN E 21 y pc st rg op pr = if loopEnd E pc = true then (match op with | (a,p :: ps) :: o => (0,⟨a + 1,(0,p) :: st,rg,(a,ps) :: o,pr⟩) | (_,[]) :: o => (0,⟨pc + 1,st,rg,o,pr⟩) | [] => (99,⟨pc,st,rg,op,pr⟩)) else (0,⟨pc + 1,st,rg,op,pr⟩):=rfl
  rw [hd]
  have hmp : base ≤ M ∧ mapI w M E.code.length (cntEnd E.code E.ends E.code.length):=hm.loc (p:=mapPq M E.code.length (cntEnd E.code E.ends E.code.length)) (by simp)
  have hz:=cntEnd_zero E pc
  cases hle : loopEnd E pc with
  | false =>
   rw [if_neg (by simp)]
   refine (vend_not y pc _ _ hm hmp.2 (hz.2 hle) (by omega)).mono ?_
   rintro r w' ⟨rfl,hB⟩
   exact ⟨rfl,fun _ => ⟨eos,_,_,_,_,by show MR base w' Gb _ (((pc + 1 : Nat) : Int) - 1) st rg eos pr tr _ _ _ _ _; rw [hp1]; exact hm.below hB,hop,hre⟩,hB.mono hm.size⟩
  | true =>
   rw [if_pos rfl]
   have hne : cntEnd E.code E.ends E.code.length (pc : Int) ≠ 0:=fun h0 => by rw [hz.1 h0] at hle; cases hle
   obtain ⟨j,b,e1,e2,e3,e4,e5,e6,e7,e8⟩:=at_end G hpc (hu 21 rfl)
   have hle2:=loopEnd_of e5 (by omega) e4
   rw [hle] at hle2
   have h22 : b.op = 22:=e2.1 (by simpa using hle2.symm)
   rw [if_pos h22] at e6
   rw [e6] at hopl
   match op,hop,hopl with
   | [],_,hopl => cases hopl
   | (a,ps0) :: o,hop,_ =>
    obtain ⟨l,e,rfl,ha,hps,ho2⟩:=opsOf_cons hop
    subst ha hps
    refine (vend_loop y pc _ _ hm hmp.2 hne (by omega) (by omega) (by simp at heo; omega) (hre e (by simp)) hGl).mono ?_
    rintro r w' ⟨rfl,(⟨hno,ov',hm'⟩ | ⟨p,ps,hps,sv',e',he1,he2,he3,hm'⟩),hB⟩
    ·rw [hno]
     exact ⟨rfl,fun _ => ⟨l,_,_,_,_,by show MR base w' Gb _ (((pc + 1 : Nat) : Int) - 1) st rg l pr tr _ _ _ _ _; rw [hp1]; exact hm',ho2,fun x hx => hre x (by simp [hx])⟩,hB⟩
    ·rw [hps]
     refine ⟨rfl,fun _ => ⟨l ++ [e'],_,_,_,_,by show MR base w' Gb _ (((e.at_ + 1 : Nat) : Int) - 1) ((0,p) :: st) rg (l ++ [e']) pr tr _ _ _ _ _; rw [show ((e.at_ + 1 : Nat) : Int) - 1 = (e.at_ : Int) by omega]; exact hm',by rw [opsOf_snoc,he1,he2,ho2],fun x hx => ?_⟩,hB⟩
     rcases List.mem_append.1 hx with hx | hx
     ·exact hre x (by simp [hx])
     ·rw [List.mem_singleton] at hx; subst hx; exact he3
 ·obtain ⟨e,e1,e2,e3,e4,e5,e6,-⟩:=behind_open G hpc (.inr (hu 22 rfl))
  rw [← hst] at e5
  obtain ⟨a,s,rfl⟩:=one_of e5
  have hd : doN E 22 y pc (a :: s) rg op pr = (match piecesM a.2 y with | [] => (0,⟨(E.ends.getD pc 0).toNat + 1,s,rg,op,pr⟩) | p :: ps => (0,⟨pc + 1,(0,p) :: s,rg,(pc,ps) :: op,pr⟩)):=rfl
  rw [hd]
  have hpe : pc < E.ends.length:=by rw [hel]; exact hpc
  have hge : E.ends.getD pc 0 = E.ends[pc]:=by rw [List.getD_eq_getElem?_getD,List.getElem?_eq_getElem hpe]; rfl
  refine (veach_any a y pc hm (by simp at hl16; omega) (by omega) (head_ok hsv).2.2 hGl hJ hpe (by omega)).mono ?_
  rintro r w' ⟨rfl,(⟨hno,sv',hm'⟩ | ⟨p,ps,hps,sv',ov',e',he1,he2,he3,hm'⟩),hB⟩
  ·have hpn : piecesM a.2 y = []:=by rw [hno]; rfl
   rw [hpn]
   refine ⟨rfl,fun _ => ⟨eos,sv',opv,prv,trv,?_,hop,hre⟩,hB⟩
   show MR base w' Gb _ ((((E.ends.getD pc 0).toNat + 1 : Nat) : Int) - 1) s rg eos pr tr _ _ _ _ _
   rw [← hge] at hm'
   rw [e3] at hm' ⊢
   rw [show (((e : Int).toNat + 1 : Nat) : Int) - 1 = (e : Int) by omega]
   exact hm'
  ·rw [hps]
   refine ⟨rfl,fun _ => ⟨eos ++ [e'],_,_,_,_,by show MR base w' Gb _ (((pc + 1 : Nat) : Int) - 1) ((0,p) :: s) rg (eos ++ [e']) pr tr _ _ _ _ _; rw [hp1]; exact hm',by rw [opsOf_snoc,he1,he2,hop],fun x hx => ?_⟩,hB⟩
   rcases List.mem_append.1 hx with hx | hx
   ·exact hre x hx
   ·rw [List.mem_singleton] at hx; subst hx; exact he3
 ·obtain ⟨l1,l2,l3⟩:=hpl (by decide) (by decide) (by decide) (by decide)
  obtain ⟨b,a,s,rfl⟩:=two_of (show 2 ≤ st.length from l1)
  have hd : doN E 23 y pc (b :: a :: s) rg op pr = if 256 ≤ pr.length then (4,⟨pc,b :: a :: s,rg,op,pr⟩) else (0,⟨pc + 1,s,rg,op,pr ++ [(a.2,b.2)]⟩):=rfl
  rw [hd]
  refine (vemit_any y a b hm (by simp at hl16; omega) hpr).mono ?_
  rintro r w' ⟨(⟨hc,rfl⟩ | ⟨hc,rfl,sv,pv,hm'⟩),hB⟩
  ·rw [if_pos hc]
   exact ⟨rfl,fun h0 => absurd h0 (by simp),hB⟩
  ·rw [if_neg hc]
   exact ⟨rfl,fun _ => ⟨eos,_,_,_,_,by show MR base w' Gb _ (((pc + 1 : Nat) : Int) - 1) _ rg eos _ tr _ _ _ _ _; rw [hp1]; exact hm',hop,hre⟩,hB⟩
end
end Go.Proofs.YtehllcbnheicoaaGreatDoor
