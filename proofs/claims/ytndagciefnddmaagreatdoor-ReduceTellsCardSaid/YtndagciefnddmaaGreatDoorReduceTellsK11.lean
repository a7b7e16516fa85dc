/- Lemmas for ReduceTells, part 11: walks of the functions that it reaches, and the plain laws behind them. -/
import Derived.Test.YtndagciefnddmaaGreatDoorReduceTellsK5
import Derived.Test.YtndagciefnddmaaGreatDoorReduceTellsK7
import Derived.Test.YtndagciefnddmaaGreatDoorReduceTellsK10
set_option linter.unusedSimpArgs false
set_option linter.unusedVariables false
namespace Go.Proofs.YtndagciefnddmaaGreatDoor
open Go.RowKit Oct
def doesL : List FuncId := [0, 211, 212, 213, 214, 215, 216, 217, 218, 219, 220, 221, 222, 223, 224, 225, 226, 227, 228, 229, 230, 231, 232, 233]
theorem asc_len : ∀ (l : List Nat) (a n : Nat), l.Pairwise (· < ·) → (∀ x ∈ l, a ≤ x ∧ x < n) → l.length ≤ n - a
  | [], _, _, _, _ => Nat.zero_le _
  | x :: l, a, n, hp, h => by
    obtain ⟨h1, h2⟩ := List.pairwise_cons.1 hp
    obtain ⟨h3, h4⟩ := h x (List.mem_cons_self ..)
    have := asc_len l (x + 1) n h2 (fun y hy => ⟨h1 y hy, (h y (List.mem_cons_of_mem _ hy)).2⟩)
    rw [List.length_cons]
    omega
set_option maxRecDepth 100000 in
theorem does_call : ∀ n, 1 ≤ n → n ≤ 23 → ∀ (args : Array Value) (w : World), (callFunc (doesL.getD n 0) args).run Tryz.prog w = .ok (.enter (doesL.getD n 0) args) w := by
  intro n h1 h2
  rcases (show n = 1 ∨ n = 2 ∨ n = 3 ∨ n = 4 ∨ n = 5 ∨ n = 6 ∨ n = 7 ∨ n = 8 ∨ n = 9 ∨ n = 10 ∨ n = 11 ∨ n = 12 ∨ n = 13 ∨ n = 14 ∨ n = 15 ∨ n = 16 ∨ n = 17 ∨ n = 18 ∨ n = 19 ∨ n = 20 ∨ n = 21 ∨ n = 22 ∨ n = 23 by omega) with rfl | rfl | rfl | rfl | rfl | rfl | rfl | rfl | rfl | rfl | rfl | rfl | rfl | rfl | rfl | rfl | rfl | rfl | rfl | rfl | rfl | rfl | rfl <;> (intro args w; kernel_rfl)
structure EnvV (w : World) (E : Me) (tv cv iv ev : Value) : Prop where
  t : recS.Row w tv E.tx
  c : recIns.Row w cv E.code
  i : recS.Row w iv E.ins
  e : recJ.Row w ev E.ends
  g : GlobV w
  d : ∀ k, 1 ≤ k → k ≤ 23 → w.cell? ⟨0, k, none⟩ = some (.func (.func (doesL.getD k 0)) #[] #[])
def mapPq {base : Nat} (M : Nat) (n : Nat) (c : Int → Nat) : Pt base :=
  ⟨fun k => k = M, fun w => base ≤ M ∧ mapI w M n c, fun h hc hX => ⟨h.1, h.2.block (hc.block _ h.2.lt (hX _ rfl))⟩, fun h k hk => by subst hk; exact ⟨h.1, h.2.lt⟩⟩
def MS (base : Nat) (w : World) (G M : Nat) (E : Me) (tv cv iv ev : Value) (tr : List Int) (at_ : Int) (st rg : List MV) (op : List (Nat × List (List UInt8))) (pr : List (List UInt8 × List UInt8)) : Prop :=
  ∃ eos stv opv prv trv, MR base w G ⟨tv, cv, iv, ev, .map (some M), [], 0⟩ at_ st rg eos pr tr stv opv prv trv [mapPq M E.code.length (cntEnd E.code E.ends E.code.length)] ∧ opsOf eos = op ∧ ∀ e ∈ eos, e.rest.length ≤ 1024
section
variable {nt inp : Nat} {role : UInt8} {E : Me}
theorem loops_le (G : GoodM nt inp role E) {i : Nat} (hi : i ≤ E.code.length) : (loopsB (sM nt inp role E i)).length ≤ i := by
  have hr := (G.run hi).inv
  unfold loopsB
  rw [List.length_reverse, List.length_map]
  refine Nat.le_trans (List.length_filter_le _ _) ?_
  have := asc_len _ 0 i hr.st (fun x hx => by
    obtain ⟨b, hb, rfl⟩ := List.mem_map.1 hx
    exact ⟨Nat.zero_le _, (hr.bl b hb).1⟩)
  rw [List.length_map] at this
  omega
theorem ends_len (G : GoodM nt inp role E) : E.ends.length = E.code.length := by
  rw [G.ends]; exact (G.run (Nat.le_refl _)).inv.el
set_option maxRecDepth 100000 in
set_option maxHeartbeats 4000000 in
theorem step_any {base Gb M : Nat} {w : World} {tv cv iv ev : Value} {tr : List Int} {pc : Nat} {st rg : List MV} {op : List (Nat × List (List UInt8))} {pr : List (List UInt8 × List UInt8)} {n : Nat} {y : UInt8}
    (G : GoodM nt inp role E) (hnt : nt ≤ 1000) (hinp : inp ≤ 1000) (hcl : E.code.length ≤ 256) (h : OkM (sM nt inp role E) E ⟨pc, st, rg, op, pr⟩) (hpc : pc < E.code.length) (hn : (E.code.getD pc (0, 0)).1.toNat = n) (hy : (E.code.getD pc (0, 0)).2 = y)
    (hM : MS base w Gb M E tv cv iv ev tr (pc : Int) st rg op pr) (hE : ∀ w', Below base w w' → EnvV w' E tv cv iv ev) :
    Calls Tryz.prog (doesL.getD n 0) #[.pointer (some ⟨Gb, 0, none⟩), .int .u8 (y.toNat : Int)] w fun r w' => r = .returned (.int .i64 ((doN E n y pc st rg op pr).1 : Int)) ∧
      ((doN E n y pc st rg op pr).1 = 0 → MS base w' Gb M E tv cv iv ev tr (((doN E n y pc st rg op pr).2.pc : Int) - 1) (doN E n y pc st rg op pr).2.st (doN E n y pc st rg op pr).2.rg (doN E n y pc st rg op pr).2.op (doN E n y pc st rg op pr).2.pr) ∧ Below base w w' := by
  have hst : st.length = (sM nt inp role E pc).kinds.length := h.st
  have hopl : op.map (·.1) = loopsB (sM nt inp role E pc) := h.op
  have hsv : ∀ v ∈ st, vOk v := h.sv
  have hpr : pr.length ≤ 256 := h.pr
  have hk16 := (G.run (Nat.le_of_lt hpc)).k
  have hl16 : st.length ≤ 16 := by rw [hst]; exact hk16
  have hel := ends_len G
  obtain ⟨eos, stv, opv, prv, trv, hm, hop, hre⟩ := hM
  have heo : eos.length ≤ 256 := by
    have h1 := loops_le G (Nat.le_of_lt hpc)
    rw [← hopl, List.length_map, ← hop, opsOf_length] at h1
    omega
  have hx : insOk (E.code.getD pc (0, 0)) = true := getD_ok (P := fun x => insOk x = true) G.may hpc _
  have hx1 : 1 ≤ (E.code.getD pc (0, 0)).1.toNat ∧ (E.code.getD pc (0, 0)).1.toNat ≤ 23 := by
    unfold insOk at hx
    simp at hx
    exact hx.1
  obtain ⟨hs, ho⟩ := G.step hpc
  obtain ⟨g1, g3, g17, g23⟩ := there_args ho.th
  have hu : ∀ k : UInt8, k.toNat = n → (E.code.getD pc (0, 0)).1 = k := fun k hk => UInt8.toNat_inj.1 (hn.trans hk.symm)
  have hpl := fun (h19 : n ≠ 19) (h20 : n ≠ 20) (h21 : n ≠ 21) (h22 : n ≠ 22) => plain_step G hpc hn (by omega) h19 h20 h21 h22
  rw [hn] at hx1
  rw [← hst] at hpl
  rw [hy] at g1 g3 g17
  have hp1 : ((pc + 1 : Nat) : Int) - 1 = (pc : Int) := by omega
  have hEw := hE w (Below.refl _ _)
  have hGl : ∀ w', Below base w w' → GlobV w' := fun w' hB => (hE w' hB).g
  have hJ : ∀ w', Below base w w' → recJ.Row w' ev E.ends := fun w' hB => (hE w' hB).e
  clear hx hn
  rcases (show n = 1 ∨ n = 2 ∨ n = 3 ∨ n = 4 ∨ n = 5 ∨ n = 6 ∨ n = 7 ∨ n = 8 ∨ n = 9 ∨ n = 10 ∨ n = 11 ∨ n = 12 ∨ n = 13 ∨ n = 14 ∨ n = 15 ∨ n = 16 ∨ n = 17 ∨ n = 18 ∨ n = 19 ∨ n = 20 ∨ n = 21 ∨ n = 22 ∨ n = 23 by omega) with rfl | rfl | rfl | rfl | rfl | rfl | rfl | rfl | rfl | rfl | rfl | rfl | rfl | rfl | rfl | rfl | rfl | rfl | rfl | rfl | rfl | rfl | rfl
  · obtain ⟨l1, l2, l3⟩ := hpl (by decide) (by decide) (by decide) (by decide)
    have hd : doN E 1 y pc (st) rg op pr = (0, ⟨pc + 1, (0, E.tx.getD y.toNat []) :: st, rg, op, pr⟩) := rfl
    rw [hd]
    refine (vtext_any y hm (by omega) hEw.t (by rw [G.txl]; exact g1 (hu 1 rfl)) (by rw [G.txl]; omega)).mono ?_
    rintro r w' ⟨rfl, ⟨sv, hm'⟩, hB⟩
    exact ⟨rfl, fun _ => ⟨eos, _, _, _, _, by show MR base w' Gb _ (((pc + 1 : Nat) : Int) - 1) _ _ eos pr tr _ _ _ _ _; rw [hp1]; exact hm', hop, hre⟩, hB⟩
  · obtain ⟨l1, l2, l3⟩ := hpl (by decide) (by decide) (by decide) (by decide)
    have hd : doN E 2 y pc (st) rg op pr = (0, ⟨pc + 1, ((y.toNat : Int), []) :: st, rg, op, pr⟩) := rfl
    rw [hd]
    refine (vnum_any y hm (by omega)).mono ?_
    rintro r w' ⟨rfl, ⟨sv, hm'⟩, hB⟩
    exact ⟨rfl, fun _ => ⟨eos, _, _, _, _, by show MR base w' Gb _ (((pc + 1 : Nat) : Int) - 1) _ _ eos pr tr _ _ _ _ _; rw [hp1]; exact hm', hop, hre⟩, hB⟩
  · obtain ⟨l1, l2, l3⟩ := hpl (by decide) (by decide) (by decide) (by decide)
    have hd : doN E 3 y pc (st) rg op pr = (0, ⟨pc + 1, (0, E.ins.getD y.toNat []) :: st, rg, op, pr⟩) := rfl
    rw [hd]
    refine (vinput_any y hm (by omega) hEw.i (by rw [G.inl]; exact g3 (hu 3 rfl)) (by rw [G.inl]; omega)).mono ?_
    rintro r w' ⟨rfl, ⟨sv, hm'⟩, hB⟩
    exact ⟨rfl, fun _ => ⟨eos, _, _, _, _, by show MR base w' Gb _ (((pc + 1 : Nat) : Int) - 1) _ _ eos pr tr _ _ _ _ _; rw [hp1]; exact hm', hop, hre⟩, hB⟩
  · obtain ⟨l1, l2, l3⟩ := hpl (by decide) (by decide) (by decide) (by decide)
    obtain ⟨b, a, s, rfl⟩ := two_of (show 2 ≤ st.length from l1)
    have hd : doN E 4 y pc (b :: a :: s) rg op pr = if 1024 < a.2.length + b.2.length then (5, ⟨pc, b :: a :: s, rg, op, pr⟩) else (0, ⟨pc + 1, (0, a.2 ++ b.2) :: s, rg, op, pr⟩) := rfl
    rw [hd]
    refine (vcat_any y a b hm (by simp at hl16; omega) (head_ok (tail_ok hsv)).2.2 (head_ok hsv).2.2).mono ?_
    rintro r w' ⟨(⟨hc, rfl⟩ | ⟨hc, rfl, sv, hm'⟩), hB⟩
    · rw [if_pos hc]
      exact ⟨rfl, fun h0 => absurd h0 (by simp), hB⟩
    · rw [if_neg hc]
      exact ⟨rfl, fun _ => ⟨eos, _, _, _, _, by show MR base w' Gb _ (((pc + 1 : Nat) : Int) - 1) _ rg eos pr tr _ _ _ _ _; rw [hp1]; exact hm', hop, hre⟩, hB⟩
  · obtain ⟨l1, l2, l3⟩ := hpl (by decide) (by decide) (by decide) (by decide)
    obtain ⟨a, s, rfl⟩ := one_of (show 1 ≤ st.length from l1)
    have hd : doN E 5 y pc (a :: s) rg op pr = (0, ⟨pc + 1, ((a.2.length : Int), []) :: s, rg, op, pr⟩) := rfl
    rw [hd]
    refine (vsize_any y a hm (by simp at hl16; omega) (head_ok hsv).2.2).mono ?_
    rintro r w' ⟨rfl, ⟨sv, hm'⟩, hB⟩
    exact ⟨rfl, fun _ => ⟨eos, _, _, _, _, by show MR base w' Gb _ (((pc + 1 : Nat) : Int) - 1) _ _ eos pr tr _ _ _ _ _; rw [hp1]; exact hm', hop, hre⟩, hB⟩
  · obtain ⟨l1, l2, l3⟩ := hpl (by decide) (by decide) (by decide) (by decide)
    obtain ⟨n, a, t, s, rfl⟩ := three_of (show 3 ≤ st.length from l1)
    have hd : doN E 6 y pc (n :: a :: t :: s) rg op pr = (0, ⟨pc + 1, (0, partM t.2 a.1 n.1) :: s, rg, op, pr⟩) := rfl
    rw [hd]
    refine (vpart_any y n a t hm (by simp at hl16; omega) (head_ok hsv) (head_ok (tail_ok hsv)) (head_ok (tail_ok (tail_ok hsv)))).mono ?_
    rintro r w' ⟨rfl, ⟨sv, hm'⟩, hB⟩
    exact ⟨rfl, fun _ => ⟨eos, _, _, _, _, by show MR base w' Gb _ (((pc + 1 : Nat) : Int) - 1) _ _ eos pr tr _ _ _ _ _; rw [hp1]; exact hm', hop, hre⟩, hB⟩
  · obtain ⟨l1, l2, l3⟩ := hpl (by decide) (by decide) (by decide) (by decide)
    obtain ⟨a, s, rfl⟩ := one_of (show 1 ≤ st.length from l1)
    have hd : doN E 7 y pc (a :: s) rg op pr = (0, ⟨pc + 1, (parseM a.2, []) :: s, rg, op, pr⟩) := rfl
    rw [hd]
    refine (vparse_any y a hm (by simp at hl16; omega) (head_ok hsv) hGl).mono ?_
    rintro r w' ⟨rfl, ⟨sv, hm'⟩, hB⟩
    exact ⟨rfl, fun _ => ⟨eos, _, _, _, _, by show MR base w' Gb _ (((pc + 1 : Nat) : Int) - 1) _ _ eos pr tr _ _ _ _ _; rw [hp1]; exact hm', hop, hre⟩, hB⟩
  · obtain ⟨l1, l2, l3⟩ := hpl (by decide) (by decide) (by decide) (by decide)
    obtain ⟨a, s, rfl⟩ := one_of (show 1 ≤ st.length from l1)
    have hd : doN E 8 y pc (a :: s) rg op pr = (0, ⟨pc + 1, (0, Lib.itoa a.1) :: s, rg, op, pr⟩) := rfl
    rw [hd]
    refine (vshow_any y a hm (by simp at hl16; omega) (head_ok hsv) (fun w' hB => (hGl w' hB).tab)).mono ?_
    rintro r w' ⟨rfl, ⟨sv, hm'⟩, hB⟩
    exact ⟨rfl, fun _ => ⟨eos, _, _, _, _, by show MR base w' Gb _ (((pc + 1 : Nat) : Int) - 1) _ _ eos pr tr _ _ _ _ _; rw [hp1]; exact hm', hop, hre⟩, hB⟩
  · obtain ⟨l1, l2, l3⟩ := hpl (by decide) (by decide) (by decide) (by decide)
    obtain ⟨b, a, s, rfl⟩ := two_of (show 2 ≤ st.length from l1)
    have hd : doN E 9 y pc (b :: a :: s) rg op pr = (0, ⟨pc + 1, (wrap64 (a.1 + b.1), []) :: s, rg, op, pr⟩) := rfl
    rw [hd]
    refine (vadd_any y a b hm (by simp at hl16; omega)).mono ?_
    rintro r w' ⟨rfl, ⟨sv, hm'⟩, hB⟩
    exact ⟨rfl, fun _ => ⟨eos, _, _, _, _, by show MR base w' Gb _ (((pc + 1 : Nat) : Int) - 1) _ _ eos pr tr _ _ _ _ _; rw [hp1]; exact hm', hop, hre⟩, hB⟩
  · obtain ⟨l1, l2, l3⟩ := hpl (by decide) (by decide) (by decide) (by decide)
    obtain ⟨b, a, s, rfl⟩ := two_of (show 2 ≤ st.length from l1)
    have hd : doN E 10 y pc (b :: a :: s) rg op pr = (0, ⟨pc + 1, (wrap64 (a.1 * b.1), []) :: s, rg, op, pr⟩) := rfl
    rw [hd]
    refine (vmul_any y a b hm (by simp at hl16; omega)).mono ?_
    rintro r w' ⟨rfl, ⟨sv, hm'⟩, hB⟩
    exact ⟨rfl, fun _ => ⟨eos, _, _, _, _, by show MR base w' Gb _ (((pc + 1 : Nat) : Int) - 1) _ _ eos pr tr _ _ _ _ _; rw [hp1]; exact hm', hop, hre⟩, hB⟩
  · obtain ⟨l1, l2, l3⟩ := hpl (by decide) (by decide) (by decide) (by decide)
    obtain ⟨b, a, s, rfl⟩ := two_of (show 2 ≤ st.length from l1)
    have hd : doN E 11 y pc (b :: a :: s) rg op pr = (0, ⟨pc + 1, bitM (decide (a.1 < b.1)) :: s, rg, op, pr⟩) := rfl
    rw [hd]
    refine (vless_any y a b hm (by simp at hl16; omega)).mono ?_
    rintro r w' ⟨rfl, ⟨sv, hm'⟩, hB⟩
    exact ⟨rfl, fun _ => ⟨eos, _, _, _, _, by show MR base w' Gb _ (((pc + 1 : Nat) : Int) - 1) _ _ eos pr tr _ _ _ _ _; rw [hp1]; exact hm', hop, hre⟩, hB⟩
  · obtain ⟨l1, l2, l3⟩ := hpl (by decide) (by decide) (by decide) (by decide)
    obtain ⟨b, a, s, rfl⟩ := two_of (show 2 ≤ st.length from l1)
    have hd : doN E 12 y pc (b :: a :: s) rg op pr = (0, ⟨pc + 1, bitM (a.2 == b.2) :: s, rg, op, pr⟩) := rfl
    rw [hd]
    refine (vsame_any y a b hm (by simp at hl16; omega)).mono ?_
    rintro r w' ⟨rfl, ⟨sv, hm'⟩, hB⟩
    exact ⟨rfl, fun _ => ⟨eos, _, _, _, _, by show MR base w' Gb _ (((pc + 1 : Nat) : Int) - 1) _ _ eos pr tr _ _ _ _ _; rw [hp1]; exact hm', hop, hre⟩, hB⟩
  · obtain ⟨l1, l2, l3⟩ := hpl (by decide) (by decide) (by decide) (by decide)
    obtain ⟨a, s, rfl⟩ := one_of (show 1 ≤ st.length from l1)
    have hd : doN E 13 y pc (a :: s) rg op pr = (0, ⟨pc + 1, bitM (a.1 == 0) :: s, rg, op, pr⟩) := rfl
    rw [hd]
    refine (vnot_any y a hm (by simp at hl16; omega)).mono ?_
    rintro r w' ⟨rfl, ⟨sv, hm'⟩, hB⟩
    exact ⟨rfl, fun _ => ⟨eos, _, _, _, _, by show MR base w' Gb _ (((pc + 1 : Nat) : Int) - 1) _ _ eos pr tr _ _ _ _ _; rw [hp1]; exact hm', hop, hre⟩, hB⟩
  · obtain ⟨l1, l2, l3⟩ := hpl (by decide) (by decide) (by decide) (by decide)
    obtain ⟨a, s, rfl⟩ := one_of (show 1 ≤ st.length from l1)
    have hd : doN E 14 y pc (a :: s) rg op pr = (0, ⟨pc + 1, s, rg, op, pr⟩) := rfl
    rw [hd]
    refine (vdrop_any y a hm (by simp at hl16; omega)).mono ?_
    rintro r w' ⟨rfl, ⟨sv, hm'⟩, hB⟩
    exact ⟨rfl, fun _ => ⟨eos, _, _, _, _, by show MR base w' Gb _ (((pc + 1 : Nat) : Int) - 1) _ _ eos pr tr _ _ _ _ _; rw [hp1]; exact hm', hop, hre⟩, hB⟩
  · obtain ⟨l1, l2, l3⟩ := hpl (by decide) (by decide) (by decide) (by decide)
    obtain ⟨a, s, rfl⟩ := one_of (show 1 ≤ st.length from l1)
    have hd : doN E 15 y pc (a :: s) rg op pr = (0, ⟨pc + 1, a :: a :: s, rg, op, pr⟩) := rfl
    rw [hd]
    refine (vdup_any y a hm (by simp at hl16; omega)).mono ?_
    rintro r w' ⟨rfl, ⟨sv, hm'⟩, hB⟩
    exact ⟨rfl, fun _ => ⟨eos, _, _, _, _, by show MR base w' Gb _ (((pc + 1 : Nat) : Int) - 1) _ _ eos pr tr _ _ _ _ _; rw [hp1]; exact hm', hop, hre⟩, hB⟩
  · obtain ⟨l1, l2, l3⟩ := hpl (by decide) (by decide) (by decide) (by decide)
    obtain ⟨b, a, s, rfl⟩ := two_of (show 2 ≤ st.length from l1)
    have hd : doN E 16 y pc (b :: a :: s) rg op pr = (0, ⟨pc + 1, a :: b :: s, rg, op, pr⟩) := rfl
    rw [hd]
    refine (vswap_any y a b hm (by simp at hl16; omega)).mono ?_
    rintro r w' ⟨rfl, ⟨sv, hm'⟩, hB⟩
    exact ⟨rfl, fun _ => ⟨eos, _, _, _, _, by show MR base w' Gb _ (((pc + 1 : Nat) : Int) - 1) _ _ eos pr tr _ _ _ _ _; rw [hp1]; exact hm', hop, hre⟩, hB⟩
  · obtain ⟨l1, l2, l3⟩ := hpl (by decide) (by decide) (by decide) (by decide)
    have hd : doN E 17 y pc (st) rg op pr = (0, ⟨pc + 1, rg.getD y.toNat (0, []) :: st, rg, op, pr⟩) := rfl
    rw [hd]
    refine (vget_any y (g17 (.inl (hu 17 rfl))) hm (by omega)).mono ?_
    rintro r w' ⟨rfl, ⟨sv, hm'⟩, hB⟩
    exact ⟨rfl, fun _ => ⟨eos, _, _, _, _, by show MR base w' Gb _ (((pc + 1 : Nat) : Int) - 1) _ _ eos pr tr _ _ _ _ _; rw [hp1]; exact hm', hop, hre⟩, hB⟩
  · obtain ⟨l1, l2, l3⟩ := hpl (by decide) (by decide) (by decide) (by decide)
    obtain ⟨a, s, rfl⟩ := one_of (show 1 ≤ st.length from l1)
    have hd : doN E 18 y pc (a :: s) rg op pr = (0, ⟨pc + 1, s, rg.set y.toNat a, op, pr⟩) := rfl
    rw [hd]
    refine (vset_any y (g17 (.inr (hu 18 rfl))) a hm (by simp at hl16; omega)).mono ?_
    rintro r w' ⟨rfl, ⟨sv, hm'⟩, hB⟩
    exact ⟨rfl, fun _ => ⟨eos, _, _, _, _, by show MR base w' Gb _ (((pc + 1 : Nat) : Int) - 1) _ _ eos pr tr _ _ _ _ _; rw [hp1]; exact hm', hop, hre⟩, hB⟩
  · obtain ⟨e, e1, e2, e3, e4, e5, e6, -⟩ := behind_open G hpc (.inl (hu 19 rfl))
    rw [← hst] at e5
    obtain ⟨a, s, rfl⟩ := one_of e5
    have hd : doN E 19 y pc (a :: s) rg op pr = (0, ⟨if a.1 = 0 then (E.ends.getD pc 0).toNat + 1 else pc + 1, s, rg, op, pr⟩) := rfl
    rw [hd]
    have hpe : pc < E.ends.length := by rw [hel]; exact hpc
    have hge : E.ends.getD pc 0 = E.ends[pc] := by rw [List.getD_eq_getElem?_getD, List.getElem?_eq_getElem hpe]; rfl
    refine (vbranch_any y a pc hm (by simp at hl16; omega) hJ hpe (by omega)).mono ?_
    rintro r w' ⟨rfl, ⟨sv, hm'⟩, hB⟩
    refine ⟨rfl, fun _ => ⟨eos, sv, opv, prv, trv, ?_, hop, hre⟩, hB⟩
    have hv : ((if a.1 = 0 then (E.ends.getD pc 0).toNat + 1 else pc + 1 : Nat) : Int) - 1 = if a.1 = 0 then E.ends[pc] else (pc : Int) := by
      split
      · rw [e3] at hge ⊢; rw [← hge]; simp
      · exact hp1
    show MR base w' Gb _ (((if a.1 = 0 then (E.ends.getD pc 0).toNat + 1 else pc + 1 : Nat) : Int) - 1) s rg eos pr tr sv _ _ _ _
    rw [hv]
    exact hm'
  · obtain ⟨e, e1, e2, e3, e4, e5⟩ := at_else G hpc (hu 20 rfl)
    have hd : doN E 20 y pc st rg op pr = (0, ⟨(E.ends.getD pc 0).toNat, st, rg, op, pr⟩) := rfl
    rw [hd]
    have hpe : pc < E.ends.length := by rw [hel]; exact hpc
    have hge : E.ends.getD pc 0 = E.ends[pc] := by rw [List.getD_eq_getElem?_getD, List.getElem?_eq_getElem hpe]; rfl
    rw [e3] at hge
    refine (vturn_any y pc hm hEw.e hpe (by omega) (by rw [← hge]; omega)).mono ?_
    rintro r w' ⟨rfl, hm', hB⟩
    refine ⟨rfl, fun _ => ⟨eos, stv, opv, prv, trv, ?_, hop, hre⟩, hB⟩
    rw [← hge] at hm'
    show MR base w' Gb _ (((E.ends.getD pc 0).toNat : Int) - 1) st rg eos pr tr _ _ _ _ _
    rw [e3]
    exact hm'
  · have hd : doN E 21 y pc st rg op pr = if loopEnd E pc = true then (match op with | (a, p :: ps) :: o => (0, ⟨a + 1, (0, p) :: st, rg, (a, ps) :: o, pr⟩) | (_, []) :: o => (0, ⟨pc + 1, st, rg, o, pr⟩) | [] => (99, ⟨pc, st, rg, op, pr⟩)) else (0, ⟨pc + 1, st, rg, op, pr⟩) := rfl
    rw [hd]
    have hmp : base ≤ M ∧ mapI w M E.code.length (cntEnd E.code E.ends E.code.length) := hm.loc (p := mapPq M E.code.length (cntEnd E.code E.ends E.code.length)) (by simp)
    have hz := cntEnd_zero E pc
    cases hle : loopEnd E pc with
    | false =>
      rw [if_neg (by simp)]
      refine (vend_not y pc _ _ hm hmp.2 (hz.2 hle) (by omega)).mono ?_
      rintro r w' ⟨rfl, hB⟩
      exact ⟨rfl, fun _ => ⟨eos, _, _, _, _, by show MR base w' Gb _ (((pc + 1 : Nat) : Int) - 1) st rg eos pr tr _ _ _ _ _; rw [hp1]; exact hm.below hB, hop, hre⟩, hB.mono hm.size⟩
    | true =>
      rw [if_pos rfl]
      have hne : cntEnd E.code E.ends E.code.length (pc : Int) ≠ 0 := fun h0 => by rw [hz.1 h0] at hle; cases hle
      obtain ⟨j, b, e1, e2, e3, e4, e5, e6, e7, e8⟩ := at_end G hpc (hu 21 rfl)
      have hle2 := loopEnd_of e5 (by omega) e4
      rw [hle] at hle2
      have h22 : b.op = 22 := e2.1 (by simpa using hle2.symm)
      rw [if_pos h22] at e6
      rw [e6] at hopl
      match op, hop, hopl with
      | [], _, hopl => cases hopl
      | (a, ps0) :: o, hop, _ =>
        obtain ⟨l, e, rfl, ha, hps, ho2⟩ := opsOf_cons hop
        subst ha hps
        refine (vend_loop y pc _ _ hm hmp.2 hne (by omega) (by omega) (by simp at heo; omega) (hre e (by simp)) hGl).mono ?_
        rintro r w' ⟨rfl, (⟨hno, ov', hm'⟩ | ⟨p, ps, hps, sv', e', he1, he2, he3, hm'⟩), hB⟩
        · rw [hno]
          exact ⟨rfl, fun _ => ⟨l, _, _, _, _, by show MR base w' Gb _ (((pc + 1 : Nat) : Int) - 1) st rg l pr tr _ _ _ _ _; rw [hp1]; exact hm', ho2, fun x hx => hre x (by simp [hx])⟩, hB⟩
        · rw [hps]
          refine ⟨rfl, fun _ => ⟨l ++ [e'], _, _, _, _, by show MR base w' Gb _ (((e.at_ + 1 : Nat) : Int) - 1) ((0, p) :: st) rg (l ++ [e']) pr tr _ _ _ _ _; rw [show ((e.at_ + 1 : Nat) : Int) - 1 = (e.at_ : Int) by omega]; exact hm', by rw [opsOf_snoc, he1, he2, ho2], fun x hx => ?_⟩, hB⟩
          rcases List.mem_append.1 hx with hx | hx
          · exact hre x (by simp [hx])
          · rw [List.mem_singleton] at hx; subst hx; exact he3
  · obtain ⟨e, e1, e2, e3, e4, e5, e6, -⟩ := behind_open G hpc (.inr (hu 22 rfl))
    rw [← hst] at e5
    obtain ⟨a, s, rfl⟩ := one_of e5
    have hd : doN E 22 y pc (a :: s) rg op pr = (match piecesM a.2 y with | [] => (0, ⟨(E.ends.getD pc 0).toNat + 1, s, rg, op, pr⟩) | p :: ps => (0, ⟨pc + 1, (0, p) :: s, rg, (pc, ps) :: op, pr⟩)) := rfl
    rw [hd]
    have hpe : pc < E.ends.length := by rw [hel]; exact hpc
    have hge : E.ends.getD pc 0 = E.ends[pc] := by rw [List.getD_eq_getElem?_getD, List.getElem?_eq_getElem hpe]; rfl
    refine (veach_any a y pc hm (by simp at hl16; omega) (by omega) (head_ok hsv).2.2 hGl hJ hpe (by omega)).mono ?_
    rintro r w' ⟨rfl, (⟨hno, sv', hm'⟩ | ⟨p, ps, hps, sv', ov', e', he1, he2, he3, hm'⟩), hB⟩
    · have hpn : piecesM a.2 y = [] := by rw [hno]; rfl
      rw [hpn]
      refine ⟨rfl, fun _ => ⟨eos, sv', opv, prv, trv, ?_, hop, hre⟩, hB⟩
      show MR base w' Gb _ ((((E.ends.getD pc 0).toNat + 1 : Nat) : Int) - 1) s rg eos pr tr _ _ _ _ _
      rw [← hge] at hm'
      rw [e3] at hm' ⊢
      rw [show (((e : Int).toNat + 1 : Nat) : Int) - 1 = (e : Int) by omega]
      exact hm'
    · rw [hps]
      refine ⟨rfl, fun _ => ⟨eos ++ [e'], _, _, _, _, by show MR base w' Gb _ (((pc + 1 : Nat) : Int) - 1) ((0, p) :: s) rg (eos ++ [e']) pr tr _ _ _ _ _; rw [hp1]; exact hm', by rw [opsOf_snoc, he1, he2, hop], fun x hx => ?_⟩, hB⟩
      rcases List.mem_append.1 hx with hx | hx
      · exact hre x hx
      · rw [List.mem_singleton] at hx; subst hx; exact he3
  · obtain ⟨l1, l2, l3⟩ := hpl (by decide) (by decide) (by decide) (by decide)
    obtain ⟨b, a, s, rfl⟩ := two_of (show 2 ≤ st.length from l1)
    have hd : doN E 23 y pc (b :: a :: s) rg op pr = if 256 ≤ pr.length then (4, ⟨pc, b :: a :: s, rg, op, pr⟩) else (0, ⟨pc + 1, s, rg, op, pr ++ [(a.2, b.2)]⟩) := rfl
    rw [hd]
    refine (vemit_any y a b hm (by simp at hl16; omega) hpr).mono ?_
    rintro r w' ⟨(⟨hc, rfl⟩ | ⟨hc, rfl, sv, pv, hm'⟩), hB⟩
    · rw [if_pos hc]
      exact ⟨rfl, fun h0 => absurd h0 (by simp), hB⟩
    · rw [if_neg hc]
      exact ⟨rfl, fun _ => ⟨eos, _, _, _, _, by show MR base w' Gb _ (((pc + 1 : Nat) : Int) - 1) _ rg eos _ tr _ _ _ _ _; rw [hp1]; exact hm', hop, hre⟩, hB⟩
end
end Go.Proofs.YtndagciefnddmaaGreatDoor
namespace Go.Proofs.YtndagciefnddmaaGreatDoor
open Go.RowKit Oct
def opsL (los : List Lo) : List (Nat × List (List UInt8)) := los.reverse.map fun e => (e.at_, e.ps)
theorem opsL_snoc (los : List Lo) (e : Lo) : opsL (los ++ [e]) = (e.at_, e.ps) :: opsL los := by unfold opsL; rw [List.reverse_append]; rfl
theorem opsL_length (los : List Lo) : (opsL los).length = los.length := by unfold opsL; simp
theorem opsL_cons {los : List Lo} {a : Nat} {ps : List (List UInt8)} {o : List (Nat × List (List UInt8))} (h : opsL los = (a, ps) :: o) : ∃ l e, los = l ++ [e] ∧ e.at_ = a ∧ e.ps = ps ∧ opsL l = o := by
  rcases List.eq_nil_or_concat los with rfl | ⟨l, e, rfl⟩
  · cases h
  · rw [List.concat_eq_append, opsL_snoc] at h
    injection h with h1 h2
    injection h1 with h3 h4
    exact ⟨l, e, by rw [List.concat_eq_append], h3, h4, h2⟩
def stS (at_ : Int) (st rg : List MV) (op : List (Nat × List (List UInt8))) (pr : List (List UInt8 × List UInt8)) : StR := fun a s r l p => a = at_ ∧ s.map (·.2) = st ∧ r.map (·.2) = rg ∧ opsL l = op ∧ p = pr
structure EnvR (w : World) (E : Me) (tv cv iv ev ow : Value) (own : List Int) : Prop where
  t : recS.Row w tv E.tx
  c : recIns.Row w cv E.code
  i : recS.Row w iv E.ins
  e : recJ.Row w ev E.ends
  o : recJ.Row w ow own
  g : GlobV w
structure OwnOk (E : Me) (own : List Int) : Prop where
  len : own.length = E.code.length
  at_ : ∀ i, i < E.code.length → opV E.code i = 21 → ∃ j : Nat, own.getD i 0 = (j : Int) ∧ j < E.code.length ∧ (opV E.code j = 22 ↔ loopEnd E i = true)
section
variable {base G n : Nat} {y : UInt8} {w0 w w' : World} {f : Rf} {φ : StR}
theorem noneA (hn : n ≠ 1 ∧ n ≠ 2 ∧ n ≠ 3 ∧ n ≠ 14 ∧ n ≠ 15 ∧ n ≠ 16 ∧ n ≠ 17 ∧ n ≠ 18) : Does base G f 118 n y w0 φ φ :=
  fun w1 X _ h => (rany_none n y w1 hn).mono fun r w' ⟨hr, hB⟩ => ⟨hr, h.below hB, hB.mono h.size⟩
theorem noneN (hn : n ≠ 8 ∧ n ≠ 13 ∧ n ≠ 9 ∧ n ≠ 10 ∧ n ≠ 11) : Does base G f 119 n y w0 φ φ :=
  fun w1 X _ h => (rnumbers_none n y w1 hn).mono fun r w' ⟨hr, hB⟩ => ⟨hr, h.below hB, hB.mono h.size⟩
theorem noneT (hn : n ≠ 4 ∧ n ≠ 5 ∧ n ≠ 6 ∧ n ≠ 7 ∧ n ≠ 12 ∧ n ≠ 23) : ∀ (w1 : World) (X : List (Pt base)), Below base w0 w1 → RS base w1 G f X φ → Calls Tryz.prog 120 #[.pointer (some ⟨G, 0, none⟩), .agg #[.int .u8 (n : Int), .int .u8 (y.toNat : Int)]] w1 fun r w' => r = .returned (.int .i64 ((0 : Nat) : Int)) ∧ ((0 : Nat) = 0 → RS base w' G f X φ) ∧ Below base w1 w' :=
  fun w1 X _ h => (rtexts_none n y w1 hn).mono fun r w' ⟨hr, hB⟩ => ⟨hr, fun _ => h.below hB, hB.mono h.size⟩
theorem noneB (hn : n ≠ 19 ∧ n ≠ 20 ∧ n ≠ 22 ∧ n ≠ 21) : Does base G f 121 n y w0 φ φ :=
  fun w1 X _ h => by
    obtain ⟨a, s, r, l, p, sv, lv, prv, h1, h2⟩ := h
    exact (rblocks_none n y h1 hn).mono fun r' w' ⟨hr, hB⟩ => ⟨hr, ⟨a, s, r, l, p, sv, lv, prv, h1.below hB, h2⟩, hB.mono h1.size⟩
end
section
variable {nt inp : Nat} {role : UInt8} {E : Me}
theorem getD_map2 (l : List RV) (i : Nat) : (l.map (·.2)).getD i (0, []) = (l.getD i (false, 0, [])).2 := by
  simp only [List.getD_eq_getElem?_getD, List.getElem?_map]
  cases l[i]? <;> rfl
theorem map_set2 (l : List RV) (i : Nat) (v : RV) : (l.set i v).map (·.2) = (l.map (·.2)).set i v.2 := List.map_set
theorem map_ok {st : List RV} (h : ∀ v ∈ st.map (·.2), vOk v) : ∀ v ∈ st, vOk v.2 := fun v hv => h v.2 (List.mem_map_of_mem hv)
set_option maxRecDepth 100000 in
set_option maxHeartbeats 4000000 in
theorem rstep_any {base Gb : Nat} {w : World} {tv cv iv ev ow : Value} {own : List Int} {pc : Nat} {st rg : List MV} {op : List (Nat × List (List UInt8))} {pr : List (List UInt8 × List UInt8)} {n : Nat} {y : UInt8} {X : List (Pt base)}
    (G : GoodM nt inp role E) (hnt : nt ≤ 1000) (hinp : inp ≤ 1000) (hcl : E.code.length ≤ 256) (h : OkM (sM nt inp role E) E ⟨pc, st, rg, op, pr⟩) (hpc : pc < E.code.length) (hn : (E.code.getD pc (0, 0)).1.toNat = n) (hy : (E.code.getD pc (0, 0)).2 = y)
    (hM : RS base w Gb ⟨tv, cv, iv, ev, ow⟩ X (stS (pc : Int) st rg op pr)) (hE : ∀ w', Below base w w' → EnvR w' E tv cv iv ev ow own) (hown : OwnOk E own) :
    Calls Tryz.prog 96 #[.pointer (some ⟨Gb, 0, none⟩)] w fun r w' => r = .returned (.int .i64 ((doN E n y pc st rg op pr).1 : Int)) ∧
      ((doN E n y pc st rg op pr).1 = 0 → RS base w' Gb ⟨tv, cv, iv, ev, ow⟩ X (stS ((doN E n y pc st rg op pr).2.pc : Int) (doN E n y pc st rg op pr).2.st (doN E n y pc st rg op pr).2.rg (doN E n y pc st rg op pr).2.op (doN E n y pc st rg op pr).2.pr)) ∧ Below base w w' := by
  obtain ⟨at_, s0, r0, los, pr0, sv, lv, prv, hm, hat, hs, hr, hlo, hpr0⟩ := hM
  subst hat hs hr hlo hpr0
  have hst : (s0.map (·.2)).length = (sM nt inp role E pc).kinds.length := h.st
  have hopl : (opsL los).map (·.1) = loopsB (sM nt inp role E pc) := h.op
  have hsv : ∀ v ∈ s0, vOk v.2 := map_ok h.sv
  have hov : ∀ o ∈ opsL los, o.2.length ≤ 1024 ∧ ∀ p ∈ o.2, p.length ≤ 1024 := h.ov
  have hpr : pr0.length ≤ 256 := h.pr
  have hk16 := (G.run (Nat.le_of_lt hpc)).k
  have hl16 : s0.length ≤ 16 := by rw [← List.length_map (f := (·.2)), hst]; exact hk16
  have hel := ends_len G
  have hrl := hm.rl
  have heo : los.length ≤ 256 := by
    have h1 := loops_le G (Nat.le_of_lt hpc)
    rw [← hopl, List.length_map, opsL_length] at h1
    omega
  have hx : insOk (E.code.getD pc (0, 0)) = true := getD_ok (P := fun x => insOk x = true) G.may hpc _
  have hx1 : 1 ≤ (E.code.getD pc (0, 0)).1.toNat ∧ (E.code.getD pc (0, 0)).1.toNat ≤ 23 := by
    unfold insOk at hx
    simp at hx
    exact hx.1
  obtain ⟨hs, ho⟩ := G.step hpc
  obtain ⟨g1, g3, g17, g23⟩ := there_args ho.th
  have hu : ∀ k : UInt8, k.toNat = n → (E.code.getD pc (0, 0)).1 = k := fun k hk => UInt8.toNat_inj.1 (hn.trans hk.symm)
  have hpl := fun (h19 : n ≠ 19) (h20 : n ≠ 20) (h21 : n ≠ 21) (h22 : n ≠ 22) => plain_step G hpc hn (by omega) h19 h20 h21 h22
  have hge : E.code.getD pc (0, 0) = E.code[pc] := by rw [List.getD_eq_getElem?_getD, List.getElem?_eq_getElem hpc]; rfl
  rw [hn] at hx1
  rw [← hst, List.length_map] at hpl
  rw [hy] at g1 g3 g17
  rw [hge] at hn hy
  have hEw := hE w (Below.refl _ _)
  have hGl : ∀ w1 w', Below base w w1 → Below base w1 w' → GlobV w' := fun w1 w' h1 h2 => (hE w' (h1.trans h2)).g
  have hJ : ∀ w1 w', Below base w w1 → Below base w1 w' → recJ.Row w' ev E.ends := fun w1 w' h1 h2 => (hE w' (h1.trans h2)).e
  have hp0 : -1 ≤ (pc : Int) ∧ (pc : Int) ≤ 1000 := by omega
  have hgen := fun (c : Nat) {φ1 φ2 φ3 φ4 : StR} => rStep_gen (φ1 := φ1) (φ2 := φ2) (φ3 := φ3) (φ4 := φ4) pc n y c hm hEw.c hpc (by omega) hn.symm hy.symm
  clear hx
  rcases (show n = 1 ∨ n = 2 ∨ n = 3 ∨ n = 4 ∨ n = 5 ∨ n = 6 ∨ n = 7 ∨ n = 8 ∨ n = 9 ∨ n = 10 ∨ n = 11 ∨ n = 12 ∨ n = 13 ∨ n = 14 ∨ n = 15 ∨ n = 16 ∨ n = 17 ∨ n = 18 ∨ n = 19 ∨ n = 20 ∨ n = 21 ∨ n = 22 ∨ n = 23 by omega) with rfl | rfl | rfl | rfl | rfl | rfl | rfl | rfl | rfl | rfl | rfl | rfl | rfl | rfl | rfl | rfl | rfl | rfl | rfl | rfl | rfl | rfl | rfl
  · obtain ⟨l1, l2, l3⟩ := hpl (by decide) (by decide) (by decide) (by decide)
    have hd : doN E 1 y pc (s0.map (·.2)) (r0.map (·.2)) (opsL los) pr0 = (0, ⟨pc + 1, (0, E.tx.getD y.toNat []) :: s0.map (·.2), r0.map (·.2), opsL los, pr0⟩) := rfl
    rw [hd]
    refine (hgen 0 (φ4 := eqS (pc : Int) ((true, 0, E.tx.getD y.toNat []) :: s0) r0 los pr0) (fun w1 X hB hR => by
      obtain ⟨_, _, _, _, _, sv1, lv1, pv1, h1, rfl, rfl, rfl, rfl, rfl⟩ := hR
      refine (rtextOp_any y h1 (by omega) (hE w1 hB).t (by rw [G.txl]; exact g1 (hu 1 rfl)) (by rw [G.txl]; omega)).mono ?_
      rintro r w' ⟨hr, ⟨sv', hm'⟩, hB'⟩
      exact ⟨hr, ⟨_, _, _, _, _, _, _, _, hm', rfl, rfl, rfl, rfl, rfl⟩, hB'⟩) (noneN (by decide)) (noneT (by decide)) (fun _ => noneB (by decide)) (fun a' _ _ _ _ h => by rw [h.1]; exact hp0)).mono ?_
    rintro r w' ⟨hr, hM', hB'⟩
    refine ⟨hr, fun _ => ?_, hB'⟩
    obtain ⟨a1, s1, r1, l1, p1, sv', lv', pv', hm', q1, q2, q3, q4, q5⟩ := hM' rfl
    subst q2 q3 q4 q5
    exact ⟨a1, _, _, _, _, _, _, _, hm', by show a1 = ((pc + 1 : Nat) : Int); omega, by rfl, rfl, rfl, rfl⟩
  · obtain ⟨l1, l2, l3⟩ := hpl (by decide) (by decide) (by decide) (by decide)
    have hd : doN E 2 y pc (s0.map (·.2)) (r0.map (·.2)) (opsL los) pr0 = (0, ⟨pc + 1, ((y.toNat : Int), []) :: s0.map (·.2), r0.map (·.2), opsL los, pr0⟩) := rfl
    rw [hd]
    refine (hgen 0 (φ4 := eqS (pc : Int) ((false, (y.toNat : Int), []) :: s0) r0 los pr0) (fun w1 X hB hR => by
      obtain ⟨_, _, _, _, _, sv1, lv1, pv1, h1, rfl, rfl, rfl, rfl, rfl⟩ := hR
      refine (rnumOp_any y h1 (by omega)).mono ?_
      rintro r w' ⟨hr, ⟨sv', hm'⟩, hB'⟩
      exact ⟨hr, ⟨_, _, _, _, _, _, _, _, hm', rfl, rfl, rfl, rfl, rfl⟩, hB'⟩) (noneN (by decide)) (noneT (by decide)) (fun _ => noneB (by decide)) (fun a' _ _ _ _ h => by rw [h.1]; exact hp0)).mono ?_
    rintro r w' ⟨hr, hM', hB'⟩
    refine ⟨hr, fun _ => ?_, hB'⟩
    obtain ⟨a1, s1, r1, l1, p1, sv', lv', pv', hm', q1, q2, q3, q4, q5⟩ := hM' rfl
    subst q2 q3 q4 q5
    exact ⟨a1, _, _, _, _, _, _, _, hm', by show a1 = ((pc + 1 : Nat) : Int); omega, rfl, rfl, rfl, rfl⟩
  · obtain ⟨l1, l2, l3⟩ := hpl (by decide) (by decide) (by decide) (by decide)
    have hd : doN E 3 y pc (s0.map (·.2)) (r0.map (·.2)) (opsL los) pr0 = (0, ⟨pc + 1, (0, E.ins.getD y.toNat []) :: s0.map (·.2), r0.map (·.2), opsL los, pr0⟩) := rfl
    rw [hd]
    refine (hgen 0 (φ4 := eqS (pc : Int) ((true, 0, E.ins.getD y.toNat []) :: s0) r0 los pr0) (fun w1 X hB hR => by
      obtain ⟨_, _, _, _, _, sv1, lv1, pv1, h1, rfl, rfl, rfl, rfl, rfl⟩ := hR
      refine (rinputOp_any y h1 (by omega) (hE w1 hB).i (by rw [G.inl]; exact g3 (hu 3 rfl)) (by rw [G.inl]; omega)).mono ?_
      rintro r w' ⟨hr, ⟨sv', hm'⟩, hB'⟩
      exact ⟨hr, ⟨_, _, _, _, _, _, _, _, hm', rfl, rfl, rfl, rfl, rfl⟩, hB'⟩) (noneN (by decide)) (noneT (by decide)) (fun _ => noneB (by decide)) (fun a' _ _ _ _ h => by rw [h.1]; exact hp0)).mono ?_
    rintro r w' ⟨hr, hM', hB'⟩
    refine ⟨hr, fun _ => ?_, hB'⟩
    obtain ⟨a1, s1, r1, l1, p1, sv', lv', pv', hm', q1, q2, q3, q4, q5⟩ := hM' rfl
    subst q2 q3 q4 q5
    exact ⟨a1, _, _, _, _, _, _, _, hm', by show a1 = ((pc + 1 : Nat) : Int); omega, rfl, rfl, rfl, rfl⟩
  · obtain ⟨l1, l2, l3⟩ := hpl (by decide) (by decide) (by decide) (by decide)
    obtain ⟨b, a, s, rfl⟩ := two_of (show 2 ≤ s0.length from l1)
    have hd : doN E 4 y pc ((b :: a :: s).map (·.2)) (r0.map (·.2)) (opsL los) pr0 = if 1024 < a.2.2.length + b.2.2.length then (5, ⟨pc, (b :: a :: s).map (·.2), r0.map (·.2), opsL los, pr0⟩) else (0, ⟨pc + 1, (0, a.2.2 ++ b.2.2) :: s.map (·.2), r0.map (·.2), opsL los, pr0⟩) := rfl
    rw [hd]
    by_cases hc : 1024 < a.2.2.length + b.2.2.length
    · rw [if_pos hc]
      refine (hgen 5 (φ3 := eqS (pc : Int) s r0 los pr0) (φ4 := eqS (pc : Int) s r0 los pr0) (noneA (by decide)) (noneN (by decide)) (fun w1 X hB hR => by
        obtain ⟨_, _, _, _, _, sv1, lv1, pv1, h1, rfl, rfl, rfl, rfl, rfl⟩ := hR
        exact (rcat_long y a b h1 (by simp at hl16; omega) (hsv a (by simp)).2.2 (hsv b (by simp)).2.2 hc).mono fun r w' ⟨hr, hB'⟩ => ⟨hr, fun h => absurd h (by decide), hB'⟩) (fun h => absurd h (by decide)) (fun a' _ _ _ _ h => by rw [h.1]; exact hp0)).mono ?_
      rintro r w' ⟨hr, -, hB'⟩
      exact ⟨hr, fun h => absurd h (by simp), hB'⟩
    · rw [if_neg hc]
      refine (hgen 0 (φ4 := eqS (pc : Int) ((true, 0, a.2.2 ++ b.2.2) :: s) r0 los pr0) (noneA (by decide)) (noneN (by decide)) (fun w1 X hB hR => by
        obtain ⟨_, _, _, _, _, sv1, lv1, pv1, h1, rfl, rfl, rfl, rfl, rfl⟩ := hR
        refine (rcat_any y a b h1 (by simp at hl16; omega) (hsv a (by simp)).2.2 (hsv b (by simp)).2.2 hc).mono ?_
        rintro r w' ⟨hr, ⟨sv', hm'⟩, hB'⟩
        exact ⟨hr, fun _ => ⟨_, _, _, _, _, _, _, _, hm', rfl, rfl, rfl, rfl, rfl⟩, hB'⟩) (fun _ => noneB (by decide)) (fun a' _ _ _ _ h => by rw [h.1]; exact hp0)).mono ?_
      rintro r w' ⟨hr, hM', hB'⟩
      refine ⟨hr, fun _ => ?_, hB'⟩
      obtain ⟨a1, s1, r1, l1, p1, sv', lv', pv', hm', q1, q2, q3, q4, q5⟩ := hM' rfl
      subst q2 q3 q4 q5
      exact ⟨a1, _, _, _, _, _, _, _, hm', by show a1 = ((pc + 1 : Nat) : Int); omega, rfl, rfl, rfl, rfl⟩
  · obtain ⟨l1, l2, l3⟩ := hpl (by decide) (by decide) (by decide) (by decide)
    obtain ⟨a, s, rfl⟩ := one_of (show 1 ≤ s0.length from l1)
    have hd : doN E 5 y pc ((a :: s).map (·.2)) (r0.map (·.2)) (opsL los) pr0 = (0, ⟨pc + 1, ((a.2.2.length : Int), []) :: s.map (·.2), r0.map (·.2), opsL los, pr0⟩) := rfl
    rw [hd]
    refine (hgen 0 (φ4 := eqS (pc : Int) ((false, (a.2.2.length : Int), []) :: s) r0 los pr0) (noneA (by decide)) (noneN (by decide)) (fun w1 X hB hR => by
      obtain ⟨_, _, _, _, _, sv1, lv1, pv1, h1, rfl, rfl, rfl, rfl, rfl⟩ := hR
      refine (rlen_any y a h1 (by simp at hl16; omega) (hsv a (by simp)).2.2).mono ?_
      rintro r w' ⟨hr, ⟨sv', hm'⟩, hB'⟩
      exact ⟨hr, fun _ => ⟨_, _, _, _, _, _, _, _, hm', rfl, rfl, rfl, rfl, rfl⟩, hB'⟩) (fun _ => noneB (by decide)) (fun a' _ _ _ _ h => by rw [h.1]; exact hp0)).mono ?_
    rintro r w' ⟨hr, hM', hB'⟩
    refine ⟨hr, fun _ => ?_, hB'⟩
    obtain ⟨a1, s1, r1, l1, p1, sv', lv', pv', hm', q1, q2, q3, q4, q5⟩ := hM' rfl
    subst q2 q3 q4 q5
    exact ⟨a1, _, _, _, _, _, _, _, hm', by show a1 = ((pc + 1 : Nat) : Int); omega, rfl, rfl, rfl, rfl⟩
  · obtain ⟨l1, l2, l3⟩ := hpl (by decide) (by decide) (by decide) (by decide)
    obtain ⟨b, a, t, s, rfl⟩ := three_of (show 3 ≤ s0.length from l1)
    have hd : doN E 6 y pc ((b :: a :: t :: s).map (·.2)) (r0.map (·.2)) (opsL los) pr0 = (0, ⟨pc + 1, (0, partM t.2.2 a.2.1 b.2.1) :: s.map (·.2), r0.map (·.2), opsL los, pr0⟩) := rfl
    rw [hd]
    refine (hgen 0 (φ4 := eqS (pc : Int) ((true, 0, partM t.2.2 a.2.1 b.2.1) :: s) r0 los pr0) (noneA (by decide)) (noneN (by decide)) (fun w1 X hB hR => by
      obtain ⟨_, _, _, _, _, sv1, lv1, pv1, h1, rfl, rfl, rfl, rfl, rfl⟩ := hR
      refine (rpartOp_any y b a t h1 (by simp at hl16; omega) (hsv b (by simp)) (hsv a (by simp)) (hsv t (by simp))).mono ?_
      rintro r w' ⟨hr, ⟨sv', hm'⟩, hB'⟩
      exact ⟨hr, fun _ => ⟨_, _, _, _, _, _, _, _, hm', rfl, rfl, rfl, rfl, rfl⟩, hB'⟩) (fun _ => noneB (by decide)) (fun a' _ _ _ _ h => by rw [h.1]; exact hp0)).mono ?_
    rintro r w' ⟨hr, hM', hB'⟩
    refine ⟨hr, fun _ => ?_, hB'⟩
    obtain ⟨a1, s1, r1, l1, p1, sv', lv', pv', hm', q1, q2, q3, q4, q5⟩ := hM' rfl
    subst q2 q3 q4 q5
    exact ⟨a1, _, _, _, _, _, _, _, hm', by show a1 = ((pc + 1 : Nat) : Int); omega, rfl, rfl, rfl, rfl⟩
  · obtain ⟨l1, l2, l3⟩ := hpl (by decide) (by decide) (by decide) (by decide)
    obtain ⟨a, s, rfl⟩ := one_of (show 1 ≤ s0.length from l1)
    have hd : doN E 7 y pc ((a :: s).map (·.2)) (r0.map (·.2)) (opsL los) pr0 = (0, ⟨pc + 1, (parseM a.2.2, []) :: s.map (·.2), r0.map (·.2), opsL los, pr0⟩) := rfl
    rw [hd]
    refine (hgen 0 (φ4 := eqS (pc : Int) ((false, parseM a.2.2, []) :: s) r0 los pr0) (noneA (by decide)) (noneN (by decide)) (fun w1 X hB hR => by
      obtain ⟨_, _, _, _, _, sv1, lv1, pv1, h1, rfl, rfl, rfl, rfl, rfl⟩ := hR
      refine (rparseOp_any y a h1 (by simp at hl16; omega) (hsv a (by simp)).2.2 (fun w' h2 => hGl w1 w' hB h2)).mono ?_
      rintro r w' ⟨hr, ⟨sv', hm'⟩, hB'⟩
      exact ⟨hr, fun _ => ⟨_, _, _, _, _, _, _, _, hm', rfl, rfl, rfl, rfl, rfl⟩, hB'⟩) (fun _ => noneB (by decide)) (fun a' _ _ _ _ h => by rw [h.1]; exact hp0)).mono ?_
    rintro r w' ⟨hr, hM', hB'⟩
    refine ⟨hr, fun _ => ?_, hB'⟩
    obtain ⟨a1, s1, r1, l1, p1, sv', lv', pv', hm', q1, q2, q3, q4, q5⟩ := hM' rfl
    subst q2 q3 q4 q5
    exact ⟨a1, _, _, _, _, _, _, _, hm', by show a1 = ((pc + 1 : Nat) : Int); omega, rfl, rfl, rfl, rfl⟩
  · obtain ⟨l1, l2, l3⟩ := hpl (by decide) (by decide) (by decide) (by decide)
    obtain ⟨a, s, rfl⟩ := one_of (show 1 ≤ s0.length from l1)
    have hd : doN E 8 y pc ((a :: s).map (·.2)) (r0.map (·.2)) (opsL los) pr0 = (0, ⟨pc + 1, (0, Lib.itoa a.2.1) :: s.map (·.2), r0.map (·.2), opsL los, pr0⟩) := rfl
    rw [hd]
    refine (hgen 0 (φ4 := eqS (pc : Int) ((true, 0, Lib.itoa a.2.1) :: s) r0 los pr0) (noneA (by decide)) (fun w1 X hB hR => by
      obtain ⟨_, _, _, _, _, sv1, lv1, pv1, h1, rfl, rfl, rfl, rfl, rfl⟩ := hR
      refine (rshow_any y a h1 (by simp at hl16; omega) (hsv a (by simp)) (fun w' h2 => hGl w1 w' hB h2)).mono ?_
      rintro r w' ⟨hr, ⟨sv', hm'⟩, hB'⟩
      exact ⟨hr, ⟨_, _, _, _, _, _, _, _, hm', rfl, rfl, rfl, rfl, rfl⟩, hB'⟩) (noneT (by decide)) (fun _ => noneB (by decide)) (fun a' _ _ _ _ h => by rw [h.1]; exact hp0)).mono ?_
    rintro r w' ⟨hr, hM', hB'⟩
    refine ⟨hr, fun _ => ?_, hB'⟩
    obtain ⟨a1, s1, r1, l1, p1, sv', lv', pv', hm', q1, q2, q3, q4, q5⟩ := hM' rfl
    subst q2 q3 q4 q5
    exact ⟨a1, _, _, _, _, _, _, _, hm', by show a1 = ((pc + 1 : Nat) : Int); omega, rfl, rfl, rfl, rfl⟩
  · obtain ⟨l1, l2, l3⟩ := hpl (by decide) (by decide) (by decide) (by decide)
    obtain ⟨b, a, s, rfl⟩ := two_of (show 2 ≤ s0.length from l1)
    have hd : doN E 9 y pc ((b :: a :: s).map (·.2)) (r0.map (·.2)) (opsL los) pr0 = (0, ⟨pc + 1, (wrap64 (a.2.1 + b.2.1), []) :: s.map (·.2), r0.map (·.2), opsL los, pr0⟩) := rfl
    rw [hd]
    refine (hgen 0 (φ4 := eqS (pc : Int) ((false, wrap64 (a.2.1 + b.2.1), []) :: s) r0 los pr0) (noneA (by decide)) (fun w1 X hB hR => by
      obtain ⟨_, _, _, _, _, sv1, lv1, pv1, h1, rfl, rfl, rfl, rfl, rfl⟩ := hR
      refine (radd_any y a b h1 (by simp at hl16; omega)).mono ?_
      rintro r w' ⟨hr, ⟨sv', hm'⟩, hB'⟩
      exact ⟨hr, ⟨_, _, _, _, _, _, _, _, hm', rfl, rfl, rfl, rfl, rfl⟩, hB'⟩) (noneT (by decide)) (fun _ => noneB (by decide)) (fun a' _ _ _ _ h => by rw [h.1]; exact hp0)).mono ?_
    rintro r w' ⟨hr, hM', hB'⟩
    refine ⟨hr, fun _ => ?_, hB'⟩
    obtain ⟨a1, s1, r1, l1, p1, sv', lv', pv', hm', q1, q2, q3, q4, q5⟩ := hM' rfl
    subst q2 q3 q4 q5
    exact ⟨a1, _, _, _, _, _, _, _, hm', by show a1 = ((pc + 1 : Nat) : Int); omega, rfl, rfl, rfl, rfl⟩
  · obtain ⟨l1, l2, l3⟩ := hpl (by decide) (by decide) (by decide) (by decide)
    obtain ⟨b, a, s, rfl⟩ := two_of (show 2 ≤ s0.length from l1)
    have hd : doN E 10 y pc ((b :: a :: s).map (·.2)) (r0.map (·.2)) (opsL los) pr0 = (0, ⟨pc + 1, (wrap64 (a.2.1 * b.2.1), []) :: s.map (·.2), r0.map (·.2), opsL los, pr0⟩) := rfl
    rw [hd]
    refine (hgen 0 (φ4 := eqS (pc : Int) ((false, wrap64 (a.2.1 * b.2.1), []) :: s) r0 los pr0) (noneA (by decide)) (fun w1 X hB hR => by
      obtain ⟨_, _, _, _, _, sv1, lv1, pv1, h1, rfl, rfl, rfl, rfl, rfl⟩ := hR
      refine (rmul_any y a b h1 (by simp at hl16; omega)).mono ?_
      rintro r w' ⟨hr, ⟨sv', hm'⟩, hB'⟩
      exact ⟨hr, ⟨_, _, _, _, _, _, _, _, hm', rfl, rfl, rfl, rfl, rfl⟩, hB'⟩) (noneT (by decide)) (fun _ => noneB (by decide)) (fun a' _ _ _ _ h => by rw [h.1]; exact hp0)).mono ?_
    rintro r w' ⟨hr, hM', hB'⟩
    refine ⟨hr, fun _ => ?_, hB'⟩
    obtain ⟨a1, s1, r1, l1, p1, sv', lv', pv', hm', q1, q2, q3, q4, q5⟩ := hM' rfl
    subst q2 q3 q4 q5
    exact ⟨a1, _, _, _, _, _, _, _, hm', by show a1 = ((pc + 1 : Nat) : Int); omega, rfl, rfl, rfl, rfl⟩
  · obtain ⟨l1, l2, l3⟩ := hpl (by decide) (by decide) (by decide) (by decide)
    obtain ⟨b, a, s, rfl⟩ := two_of (show 2 ≤ s0.length from l1)
    have hd : doN E 11 y pc ((b :: a :: s).map (·.2)) (r0.map (·.2)) (opsL los) pr0 = (0, ⟨pc + 1, bitM (decide (a.2.1 < b.2.1)) :: s.map (·.2), r0.map (·.2), opsL los, pr0⟩) := rfl
    rw [hd]
    refine (hgen 0 (φ4 := eqS (pc : Int) ((false, bitM (decide (a.2.1 < b.2.1))) :: s) r0 los pr0) (noneA (by decide)) (fun w1 X hB hR => by
      obtain ⟨_, _, _, _, _, sv1, lv1, pv1, h1, rfl, rfl, rfl, rfl, rfl⟩ := hR
      refine (rless_any y a b h1 (by simp at hl16; omega)).mono ?_
      rintro r w' ⟨hr, ⟨sv', hm'⟩, hB'⟩
      exact ⟨hr, ⟨_, _, _, _, _, _, _, _, hm', rfl, rfl, rfl, rfl, rfl⟩, hB'⟩) (noneT (by decide)) (fun _ => noneB (by decide)) (fun a' _ _ _ _ h => by rw [h.1]; exact hp0)).mono ?_
    rintro r w' ⟨hr, hM', hB'⟩
    refine ⟨hr, fun _ => ?_, hB'⟩
    obtain ⟨a1, s1, r1, l1, p1, sv', lv', pv', hm', q1, q2, q3, q4, q5⟩ := hM' rfl
    subst q2 q3 q4 q5
    exact ⟨a1, _, _, _, _, _, _, _, hm', by show a1 = ((pc + 1 : Nat) : Int); omega, rfl, rfl, rfl, rfl⟩
  · obtain ⟨l1, l2, l3⟩ := hpl (by decide) (by decide) (by decide) (by decide)
    obtain ⟨b, a, s, rfl⟩ := two_of (show 2 ≤ s0.length from l1)
    have hd : doN E 12 y pc ((b :: a :: s).map (·.2)) (r0.map (·.2)) (opsL los) pr0 = (0, ⟨pc + 1, bitM (a.2.2 == b.2.2) :: s.map (·.2), r0.map (·.2), opsL los, pr0⟩) := rfl
    rw [hd]
    refine (hgen 0 (φ4 := eqS (pc : Int) ((false, bitM (a.2.2 == b.2.2)) :: s) r0 los pr0) (noneA (by decide)) (noneN (by decide)) (fun w1 X hB hR => by
      obtain ⟨_, _, _, _, _, sv1, lv1, pv1, h1, rfl, rfl, rfl, rfl, rfl⟩ := hR
      refine (rsame_any y a b h1 (by simp at hl16; omega)).mono ?_
      rintro r w' ⟨hr, ⟨sv', hm'⟩, hB'⟩
      exact ⟨hr, fun _ => ⟨_, _, _, _, _, _, _, _, hm', rfl, rfl, rfl, rfl, rfl⟩, hB'⟩) (fun _ => noneB (by decide)) (fun a' _ _ _ _ h => by rw [h.1]; exact hp0)).mono ?_
    rintro r w' ⟨hr, hM', hB'⟩
    refine ⟨hr, fun _ => ?_, hB'⟩
    obtain ⟨a1, s1, r1, l1, p1, sv', lv', pv', hm', q1, q2, q3, q4, q5⟩ := hM' rfl
    subst q2 q3 q4 q5
    exact ⟨a1, _, _, _, _, _, _, _, hm', by show a1 = ((pc + 1 : Nat) : Int); omega, rfl, rfl, rfl, rfl⟩
  · obtain ⟨l1, l2, l3⟩ := hpl (by decide) (by decide) (by decide) (by decide)
    obtain ⟨a, s, rfl⟩ := one_of (show 1 ≤ s0.length from l1)
    have hd : doN E 13 y pc ((a :: s).map (·.2)) (r0.map (·.2)) (opsL los) pr0 = (0, ⟨pc + 1, bitM (a.2.1 == 0) :: s.map (·.2), r0.map (·.2), opsL los, pr0⟩) := rfl
    rw [hd]
    refine (hgen 0 (φ4 := eqS (pc : Int) ((false, bitM (a.2.1 == 0)) :: s) r0 los pr0) (noneA (by decide)) (fun w1 X hB hR => by
      obtain ⟨_, _, _, _, _, sv1, lv1, pv1, h1, rfl, rfl, rfl, rfl, rfl⟩ := hR
      refine (rnot_any y a h1 (by simp at hl16; omega)).mono ?_
      rintro r w' ⟨hr, ⟨sv', hm'⟩, hB'⟩
      exact ⟨hr, ⟨_, _, _, _, _, _, _, _, hm', rfl, rfl, rfl, rfl, rfl⟩, hB'⟩) (noneT (by decide)) (fun _ => noneB (by decide)) (fun a' _ _ _ _ h => by rw [h.1]; exact hp0)).mono ?_
    rintro r w' ⟨hr, hM', hB'⟩
    refine ⟨hr, fun _ => ?_, hB'⟩
    obtain ⟨a1, s1, r1, l1, p1, sv', lv', pv', hm', q1, q2, q3, q4, q5⟩ := hM' rfl
    subst q2 q3 q4 q5
    exact ⟨a1, _, _, _, _, _, _, _, hm', by show a1 = ((pc + 1 : Nat) : Int); omega, rfl, rfl, rfl, rfl⟩
  · obtain ⟨l1, l2, l3⟩ := hpl (by decide) (by decide) (by decide) (by decide)
    obtain ⟨a, s, rfl⟩ := one_of (show 1 ≤ s0.length from l1)
    have hd : doN E 14 y pc ((a :: s).map (·.2)) (r0.map (·.2)) (opsL los) pr0 = (0, ⟨pc + 1, s.map (·.2), r0.map (·.2), opsL los, pr0⟩) := rfl
    rw [hd]
    refine (hgen 0 (φ4 := eqS (pc : Int) (s) r0 los pr0) (fun w1 X hB hR => by
      obtain ⟨_, _, _, _, _, sv1, lv1, pv1, h1, rfl, rfl, rfl, rfl, rfl⟩ := hR
      refine (rdropOp_any y a h1 (by simp at hl16; omega)).mono ?_
      rintro r w' ⟨hr, ⟨sv', hm'⟩, hB'⟩
      exact ⟨hr, ⟨_, _, _, _, _, _, _, _, hm', rfl, rfl, rfl, rfl, rfl⟩, hB'⟩) (noneN (by decide)) (noneT (by decide)) (fun _ => noneB (by decide)) (fun a' _ _ _ _ h => by rw [h.1]; exact hp0)).mono ?_
    rintro r w' ⟨hr, hM', hB'⟩
    refine ⟨hr, fun _ => ?_, hB'⟩
    obtain ⟨a1, s1, r1, l1, p1, sv', lv', pv', hm', q1, q2, q3, q4, q5⟩ := hM' rfl
    subst q2 q3 q4 q5
    exact ⟨a1, _, _, _, _, _, _, _, hm', by show a1 = ((pc + 1 : Nat) : Int); omega, rfl, rfl, rfl, rfl⟩
  · obtain ⟨l1, l2, l3⟩ := hpl (by decide) (by decide) (by decide) (by decide)
    obtain ⟨a, s, rfl⟩ := one_of (show 1 ≤ s0.length from l1)
    have hd : doN E 15 y pc ((a :: s).map (·.2)) (r0.map (·.2)) (opsL los) pr0 = (0, ⟨pc + 1, a.2 :: a.2 :: s.map (·.2), r0.map (·.2), opsL los, pr0⟩) := rfl
    rw [hd]
    refine (hgen 0 (φ4 := eqS (pc : Int) (a :: a :: s) r0 los pr0) (fun w1 X hB hR => by
      obtain ⟨_, _, _, _, _, sv1, lv1, pv1, h1, rfl, rfl, rfl, rfl, rfl⟩ := hR
      refine (rdupOp_any y a h1 (by simp at hl16; omega)).mono ?_
      rintro r w' ⟨hr, ⟨sv', hm'⟩, hB'⟩
      exact ⟨hr, ⟨_, _, _, _, _, _, _, _, hm', rfl, rfl, rfl, rfl, rfl⟩, hB'⟩) (noneN (by decide)) (noneT (by decide)) (fun _ => noneB (by decide)) (fun a' _ _ _ _ h => by rw [h.1]; exact hp0)).mono ?_
    rintro r w' ⟨hr, hM', hB'⟩
    refine ⟨hr, fun _ => ?_, hB'⟩
    obtain ⟨a1, s1, r1, l1, p1, sv', lv', pv', hm', q1, q2, q3, q4, q5⟩ := hM' rfl
    subst q2 q3 q4 q5
    exact ⟨a1, _, _, _, _, _, _, _, hm', by show a1 = ((pc + 1 : Nat) : Int); omega, rfl, rfl, rfl, rfl⟩
  · obtain ⟨l1, l2, l3⟩ := hpl (by decide) (by decide) (by decide) (by decide)
    obtain ⟨b, a, s, rfl⟩ := two_of (show 2 ≤ s0.length from l1)
    have hd : doN E 16 y pc ((b :: a :: s).map (·.2)) (r0.map (·.2)) (opsL los) pr0 = (0, ⟨pc + 1, a.2 :: b.2 :: s.map (·.2), r0.map (·.2), opsL los, pr0⟩) := rfl
    rw [hd]
    refine (hgen 0 (φ4 := eqS (pc : Int) (a :: b :: s) r0 los pr0) (fun w1 X hB hR => by
      obtain ⟨_, _, _, _, _, sv1, lv1, pv1, h1, rfl, rfl, rfl, rfl, rfl⟩ := hR
      refine (rswapOp_any y a b h1 (by simp at hl16; omega)).mono ?_
      rintro r w' ⟨hr, ⟨sv', hm'⟩, hB'⟩
      exact ⟨hr, ⟨_, _, _, _, _, _, _, _, hm', rfl, rfl, rfl, rfl, rfl⟩, hB'⟩) (noneN (by decide)) (noneT (by decide)) (fun _ => noneB (by decide)) (fun a' _ _ _ _ h => by rw [h.1]; exact hp0)).mono ?_
    rintro r w' ⟨hr, hM', hB'⟩
    refine ⟨hr, fun _ => ?_, hB'⟩
    obtain ⟨a1, s1, r1, l1, p1, sv', lv', pv', hm', q1, q2, q3, q4, q5⟩ := hM' rfl
    subst q2 q3 q4 q5
    exact ⟨a1, _, _, _, _, _, _, _, hm', by show a1 = ((pc + 1 : Nat) : Int); omega, rfl, rfl, rfl, rfl⟩
  · obtain ⟨l1, l2, l3⟩ := hpl (by decide) (by decide) (by decide) (by decide)
    have hd : doN E 17 y pc (s0.map (·.2)) (r0.map (·.2)) (opsL los) pr0 = (0, ⟨pc + 1, (r0.map (·.2)).getD y.toNat (0, []) :: s0.map (·.2), r0.map (·.2), opsL los, pr0⟩) := rfl
    rw [hd]
    refine (hgen 0 (φ4 := eqS (pc : Int) (r0.getD y.toNat (false, 0, []) :: s0) r0 los pr0) (fun w1 X hB hR => by
      obtain ⟨_, _, _, _, _, sv1, lv1, pv1, h1, rfl, rfl, rfl, rfl, rfl⟩ := hR
      refine (rgetOp_any y (g17 (.inl (hu 17 rfl))) h1 (by omega)).mono ?_
      rintro r w' ⟨hr, ⟨sv', hm'⟩, hB'⟩
      exact ⟨hr, ⟨_, _, _, _, _, _, _, _, hm', rfl, rfl, rfl, rfl, rfl⟩, hB'⟩) (noneN (by decide)) (noneT (by decide)) (fun _ => noneB (by decide)) (fun a' _ _ _ _ h => by rw [h.1]; exact hp0)).mono ?_
    rintro r w' ⟨hr, hM', hB'⟩
    refine ⟨hr, fun _ => ?_, hB'⟩
    obtain ⟨a1, s1, r1, l1, p1, sv', lv', pv', hm', q1, q2, q3, q4, q5⟩ := hM' rfl
    subst q2 q3 q4 q5
    exact ⟨a1, _, _, _, _, _, _, _, hm', by show a1 = ((pc + 1 : Nat) : Int); omega, by rw [List.map_cons, getD_map2], rfl, rfl, rfl⟩
  · obtain ⟨l1, l2, l3⟩ := hpl (by decide) (by decide) (by decide) (by decide)
    obtain ⟨a, s, rfl⟩ := one_of (show 1 ≤ s0.length from l1)
    have hd : doN E 18 y pc ((a :: s).map (·.2)) (r0.map (·.2)) (opsL los) pr0 = (0, ⟨pc + 1, s.map (·.2), (r0.map (·.2)).set y.toNat a.2, opsL los, pr0⟩) := rfl
    rw [hd]
    refine (hgen 0 (φ4 := eqS (pc : Int) (s) (r0.set y.toNat a) los pr0) (fun w1 X hB hR => by
      obtain ⟨_, _, _, _, _, sv1, lv1, pv1, h1, rfl, rfl, rfl, rfl, rfl⟩ := hR
      refine (rsetOp_any y (g17 (.inr (hu 18 rfl))) a h1 (by simp at hl16; omega)).mono ?_
      rintro r w' ⟨hr, ⟨sv', hm'⟩, hB'⟩
      exact ⟨hr, ⟨_, _, _, _, _, _, _, _, hm', rfl, rfl, rfl, rfl, rfl⟩, hB'⟩) (noneN (by decide)) (noneT (by decide)) (fun _ => noneB (by decide)) (fun a' _ _ _ _ h => by rw [h.1]; exact hp0)).mono ?_
    rintro r w' ⟨hr, hM', hB'⟩
    refine ⟨hr, fun _ => ?_, hB'⟩
    obtain ⟨a1, s1, r1, l1, p1, sv', lv', pv', hm', q1, q2, q3, q4, q5⟩ := hM' rfl
    subst q2 q3 q4 q5
    exact ⟨a1, _, _, _, _, _, _, _, hm', by show a1 = ((pc + 1 : Nat) : Int); omega, rfl, by rw [map_set2], rfl, rfl⟩
  · obtain ⟨e, e1, e2, e3, e4, e5, e6, -⟩ := behind_open G hpc (.inl (hu 19 rfl))
    rw [← hst, List.length_map] at e5
    obtain ⟨a, s, rfl⟩ := one_of e5
    have hd : doN E 19 y pc ((a :: s).map (·.2)) (r0.map (·.2)) (opsL los) pr0 = (0, ⟨if a.2.1 = 0 then (E.ends.getD pc 0).toNat + 1 else pc + 1, s.map (·.2), r0.map (·.2), opsL los, pr0⟩) := rfl
    rw [hd]
    have hpe : pc < E.ends.length := by rw [hel]; exact hpc
    have hgd : E.ends.getD pc 0 = E.ends[pc] := by rw [List.getD_eq_getElem?_getD, List.getElem?_eq_getElem hpe]; rfl
    have hv : (if a.2.1 = 0 then E.ends[pc] else (pc : Int)) + 1 = ((if a.2.1 = 0 then (E.ends.getD pc 0).toNat + 1 else pc + 1 : Nat) : Int) := by
      split
      · rw [e3] at hgd ⊢; rw [← hgd]; simp
      · simp
    have hb : -1 ≤ (if a.2.1 = 0 then E.ends[pc] else (pc : Int)) ∧ (if a.2.1 = 0 then E.ends[pc] else (pc : Int)) ≤ 1000 := by
      split
      · rw [← hgd, e3]; omega
      · exact hp0
    refine (hgen 0 (φ4 := eqS (if a.2.1 = 0 then E.ends[pc] else (pc : Int)) s r0 los pr0) (noneA (by decide)) (noneN (by decide)) (noneT (by decide)) (fun _ => fun w1 X hB hR => by
      obtain ⟨_, _, _, _, _, sv1, lv1, pv1, h1, rfl, rfl, rfl, rfl, rfl⟩ := hR
      refine (rifOp_any y a pc h1 (by simp at hl16; omega) (fun w' h2 => hJ w1 w' hB h2) hpe (by omega)).mono ?_
      rintro r w' ⟨hr, ⟨sv', hm'⟩, hB'⟩
      exact ⟨hr, ⟨_, _, _, _, _, _, _, _, hm', rfl, rfl, rfl, rfl, rfl⟩, hB'⟩) (fun a' _ _ _ _ h => by rw [h.1]; exact hb)).mono ?_
    rintro r w' ⟨hr, hM', hB'⟩
    refine ⟨hr, fun _ => ?_, hB'⟩
    obtain ⟨a1, s1, r1, l1, p1, sv', lv', pv', hm', q1, q2, q3, q4, q5⟩ := hM' rfl
    subst q2 q3 q4 q5
    exact ⟨a1, _, _, _, _, _, _, _, hm', by rw [← hv, ← q1]; omega, rfl, rfl, rfl, rfl⟩
  · obtain ⟨e, e1, e2, e3, e4, e5⟩ := at_else G hpc (hu 20 rfl)
    have hd : doN E 20 y pc (s0.map (·.2)) (r0.map (·.2)) (opsL los) pr0 = (0, ⟨(E.ends.getD pc 0).toNat, s0.map (·.2), r0.map (·.2), opsL los, pr0⟩) := rfl
    rw [hd]
    have hpe : pc < E.ends.length := by rw [hel]; exact hpc
    have hgd : E.ends.getD pc 0 = E.ends[pc] := by rw [List.getD_eq_getElem?_getD, List.getElem?_eq_getElem hpe]; rfl
    rw [e3] at hgd
    refine (hgen 0 (φ4 := eqS (E.ends[pc] - 1) s0 r0 los pr0) (noneA (by decide)) (noneN (by decide)) (noneT (by decide)) (fun _ => fun w1 X hB hR => by
      obtain ⟨_, _, _, _, _, sv1, lv1, pv1, h1, rfl, rfl, rfl, rfl, rfl⟩ := hR
      refine (relseOp_any y pc h1 (hE w1 hB).e hpe (by omega) (by rw [← hgd]; omega)).mono ?_
      rintro r w' ⟨hr, hm', hB'⟩
      exact ⟨hr, ⟨_, _, _, _, _, _, _, _, hm', rfl, rfl, rfl, rfl, rfl⟩, hB'⟩) (fun a' _ _ _ _ h => by rw [h.1, ← hgd]; omega)).mono ?_
    rintro r w' ⟨hr, hM', hB'⟩
    refine ⟨hr, fun _ => ?_, hB'⟩
    obtain ⟨a1, s1, r1, l1, p1, sv', lv', pv', hm', q1, q2, q3, q4, q5⟩ := hM' rfl
    subst q2 q3 q4 q5
    exact ⟨a1, _, _, _, _, _, _, _, hm', by show a1 = (((E.ends.getD pc 0).toNat : Nat) : Int); rw [e3]; rw [← hgd] at q1; omega, rfl, rfl, rfl, rfl⟩
  · have hd : doN E 21 y pc (s0.map (·.2)) (r0.map (·.2)) (opsL los) pr0 = if loopEnd E pc = true then (match opsL los with | (a, p :: ps) :: o => (0, ⟨a + 1, (0, p) :: s0.map (·.2), r0.map (·.2), (a, ps) :: o, pr0⟩) | (_, []) :: o => (0, ⟨pc + 1, s0.map (·.2), r0.map (·.2), o, pr0⟩) | [] => (99, ⟨pc, s0.map (·.2), r0.map (·.2), opsL los, pr0⟩)) else (0, ⟨pc + 1, s0.map (·.2), r0.map (·.2), opsL los, pr0⟩) := rfl
    rw [hd]
    have hop21 : opV E.code pc = 21 := hu 21 rfl
    obtain ⟨j, hj1, hj2, hj3⟩ := hown.at_ pc hpc hop21
    have hpo : pc < own.length := by rw [hown.len]; exact hpc
    have hgo : own[pc] = (j : Int) := by rw [← hj1, List.getD_eq_getElem?_getD, List.getElem?_eq_getElem hpo]; rfl
    have hjc : opV E.code j = E.code[j].1 := by unfold opV; rw [List.getD_eq_getElem?_getD, List.getElem?_eq_getElem hj2]; rfl
    rw [hjc] at hj3
    have hol : own.length ≤ 1000 := by rw [hown.len]; omega
    cases hle : loopEnd E pc with
    | false =>
      rw [if_neg (by simp)]
      have hne : E.code[j].1 ≠ 22 := fun hh => by rw [hj3.1 hh] at hle; cases hle
      refine (hgen 0 (φ4 := eqS (pc : Int) s0 r0 los pr0) (noneA (by decide)) (noneN (by decide)) (noneT (by decide)) (fun _ => fun w1 X hB hR => by
        obtain ⟨_, _, _, _, _, sv1, lv1, pv1, h1, rfl, rfl, rfl, rfl, rfl⟩ := hR
        refine (rendOp_not y pc j h1 (hE w1 hB).o (hE w1 hB).c hpo hol (by omega) hgo hj2 hne).mono ?_
        rintro r w' ⟨hr, hB'⟩
        exact ⟨hr, ⟨_, _, _, _, _, _, _, _, h1.below hB', rfl, rfl, rfl, rfl, rfl⟩, hB'.mono h1.size⟩) (fun a' _ _ _ _ h => by rw [h.1]; exact hp0)).mono ?_
      rintro r w' ⟨hr, hM', hB'⟩
      refine ⟨hr, fun _ => ?_, hB'⟩
      obtain ⟨a1, s1, r1, l1, p1, sv', lv', pv', hm', q1, q2, q3, q4, q5⟩ := hM' rfl
      subst q2 q3 q4 q5
      exact ⟨a1, _, _, _, _, _, _, _, hm', by show a1 = ((pc + 1 : Nat) : Int); omega, rfl, rfl, rfl, rfl⟩
    | true =>
      rw [if_pos rfl]
      have h22 : E.code[j].1 = 22 := hj3.2 hle
      obtain ⟨j', b', e1, e2, e3, e4, e5, e6, e7, e8⟩ := at_end G hpc (hu 21 rfl)
      have hle2 := loopEnd_of e5 (by omega) e4
      rw [hle] at hle2
      rw [if_pos (e2.1 (by simpa using hle2.symm))] at e6
      rw [e6] at hopl
      cases hops : opsL los with
      | nil => rw [hops] at hopl; cases hopl
      | cons x o =>
        obtain ⟨a, ps0⟩ := x
        obtain ⟨l, e, rfl, ha, hps, ho2⟩ := opsL_cons hops
        rw [hops] at hov
        have hpl2 : e.ps.length ≤ 1024 := by rw [hps]; exact (hov _ (List.mem_cons_self ..)).1
        have hal : a = j' := by rw [hops] at hopl; injection hopl
        subst ha hps
        have hat0 : e.at_ ≤ 1000 := by omega
        cases hpse : e.ps with
        | nil =>
          refine (hgen 0 (φ4 := eqS (pc : Int) s0 r0 l pr0) (noneA (by decide)) (noneN (by decide)) (noneT (by decide)) (fun _ => fun w1 X hB hR => by
            obtain ⟨_, _, _, _, _, sv1, lv1, pv1, h1, rfl, rfl, rfl, rfl, rfl⟩ := hR
            refine (rendOp_loop y pc j h1 (by omega) (by simp at heo; omega) (by omega) (hE w1 hB).o (hE w1 hB).c hpo hol (by omega) hgo hj2 h22).mono ?_
            rintro r w' ⟨hr, (⟨-, lv', hm'⟩ | ⟨p, ps, hpp, -⟩), hB'⟩
            · exact ⟨hr, ⟨_, _, _, _, _, _, _, _, hm', rfl, rfl, rfl, rfl, rfl⟩, hB'⟩
            · rw [hpse] at hpp; cases hpp) (fun a' _ _ _ _ h => by rw [h.1]; exact hp0)).mono ?_
          rintro r w' ⟨hr, hM', hB'⟩
          refine ⟨hr, fun _ => ?_, hB'⟩
          obtain ⟨a1, s1, r1, l1, p1, sv', lv', pv', hm', q1, q2, q3, q4, q5⟩ := hM' rfl
          subst q2 q3 q4 q5
          exact ⟨a1, _, _, _, _, _, _, _, hm', by show a1 = ((pc + 1 : Nat) : Int); omega, rfl, rfl, ho2, rfl⟩
        | cons p ps =>
          refine (hgen 0 (φ4 := fun a' s' r' l' p' => a' = (e.at_ : Int) ∧ s' = (true, 0, p) :: s0 ∧ r' = r0 ∧ opsL l' = (e.at_, ps) :: opsL l ∧ p' = pr0) (noneA (by decide)) (noneN (by decide)) (noneT (by decide)) (fun _ => fun w1 X hB hR => by
            obtain ⟨_, _, _, _, _, sv1, lv1, pv1, h1, rfl, rfl, rfl, rfl, rfl⟩ := hR
            refine (rendOp_loop y pc j h1 (by omega) (by simp at heo; omega) (by omega) (hE w1 hB).o (hE w1 hB).c hpo hol (by omega) hgo hj2 h22).mono ?_
            rintro r w' ⟨hr, (⟨hpp, -⟩ | ⟨p', ps', hpp, sv', lv', e', he1, he2, hm'⟩), hB'⟩
            · rw [hpse] at hpp; cases hpp
            · rw [hpse] at hpp
              injection hpp with hp1 hp2
              subst hp1 hp2
              exact ⟨hr, ⟨_, _, _, _, _, _, _, _, hm', rfl, rfl, rfl, by rw [opsL_snoc, he1, he2], rfl⟩, hB'⟩) (fun a' _ _ _ _ h => by rw [h.1]; omega)).mono ?_
          rintro r w' ⟨hr, hM', hB'⟩
          refine ⟨hr, fun _ => ?_, hB'⟩
          obtain ⟨a1, s1, r1, l1, p1, sv', lv', pv', hm', q1, q2, q3, q4, q5⟩ := hM' rfl
          subst q2 q3 q5
          exact ⟨a1, _, _, _, _, _, _, _, hm', by show a1 = ((e.at_ + 1 : Nat) : Int); omega, rfl, rfl, by rw [q4, ho2], rfl⟩
  · obtain ⟨e, e1, e2, e3, e4, e5, e6, -⟩ := behind_open G hpc (.inr (hu 22 rfl))
    rw [← hst, List.length_map] at e5
    obtain ⟨a, s, rfl⟩ := one_of e5
    have hd : doN E 22 y pc ((a :: s).map (·.2)) (r0.map (·.2)) (opsL los) pr0 = (match piecesM a.2.2 y with | [] => (0, ⟨(E.ends.getD pc 0).toNat + 1, s.map (·.2), r0.map (·.2), opsL los, pr0⟩) | p :: ps => (0, ⟨pc + 1, (0, p) :: s.map (·.2), r0.map (·.2), (pc, ps) :: opsL los, pr0⟩)) := rfl
    rw [hd]
    have hpe : pc < E.ends.length := by rw [hel]; exact hpc
    have hgd : E.ends.getD pc 0 = E.ends[pc] := by rw [List.getD_eq_getElem?_getD, List.getElem?_eq_getElem hpe]; rfl
    rw [e3] at hgd
    cases hpi : piecesM a.2.2 y with
    | nil =>
      refine (hgen 0 (φ4 := eqS E.ends[pc] s r0 los pr0) (noneA (by decide)) (noneN (by decide)) (noneT (by decide)) (fun _ => fun w1 X hB hR => by
        obtain ⟨_, _, _, _, _, sv1, lv1, pv1, h1, rfl, rfl, rfl, rfl, rfl⟩ := hR
        refine (reachOp_any y a pc h1 (by simp at hl16; omega) (by omega) (hsv a (by simp)).2.2 (fun w' h2 => hJ w1 w' hB h2) hpe (by omega)).mono ?_
        rintro r w' ⟨hr, (⟨-, sv', hm'⟩ | ⟨p, ps, hpp, -⟩), hB'⟩
        · exact ⟨hr, ⟨_, _, _, _, _, _, _, _, hm', rfl, rfl, rfl, rfl, rfl⟩, hB'⟩
        · rw [hpi] at hpp; cases hpp) (fun a' _ _ _ _ h => by rw [h.1, ← hgd]; omega)).mono ?_
      rintro r w' ⟨hr, hM', hB'⟩
      refine ⟨hr, fun _ => ?_, hB'⟩
      obtain ⟨a1, s1, r1, l1, p1, sv', lv', pv', hm', q1, q2, q3, q4, q5⟩ := hM' rfl
      subst q2 q3 q4 q5
      exact ⟨a1, _, _, _, _, _, _, _, hm', by show a1 = (((E.ends.getD pc 0).toNat + 1 : Nat) : Int); rw [e3]; rw [← hgd] at q1; omega, rfl, rfl, rfl, rfl⟩
    | cons p ps =>
      refine (hgen 0 (φ4 := fun a' s' r' l' p' => a' = (pc : Int) ∧ s' = (true, 0, p) :: s ∧ r' = r0 ∧ opsL l' = (pc, ps) :: opsL los ∧ p' = pr0) (noneA (by decide)) (noneN (by decide)) (noneT (by decide)) (fun _ => fun w1 X hB hR => by
        obtain ⟨_, _, _, _, _, sv1, lv1, pv1, h1, rfl, rfl, rfl, rfl, rfl⟩ := hR
        refine (reachOp_any y a pc h1 (by simp at hl16; omega) (by omega) (hsv a (by simp)).2.2 (fun w' h2 => hJ w1 w' hB h2) hpe (by omega)).mono ?_
        rintro r w' ⟨hr, (⟨hpp, -⟩ | ⟨p', ps', hpp, sv', lv', e', he1, he2, hm'⟩), hB'⟩
        · rw [hpi] at hpp; cases hpp
        · rw [hpi] at hpp
          injection hpp with hp1 hp2
          subst hp1 hp2
          exact ⟨hr, ⟨_, _, _, _, _, _, _, _, hm', rfl, rfl, rfl, by rw [opsL_snoc, he1, he2], rfl⟩, hB'⟩) (fun a' _ _ _ _ h => by rw [h.1]; exact hp0)).mono ?_
      rintro r w' ⟨hr, hM', hB'⟩
      refine ⟨hr, fun _ => ?_, hB'⟩
      obtain ⟨a1, s1, r1, l1, p1, sv', lv', pv', hm', q1, q2, q3, q4, q5⟩ := hM' rfl
      subst q2 q3 q5
      exact ⟨a1, _, _, _, _, _, _, _, hm', by show a1 = ((pc + 1 : Nat) : Int); omega, rfl, rfl, q4, rfl⟩
  · obtain ⟨l1, l2, l3⟩ := hpl (by decide) (by decide) (by decide) (by decide)
    obtain ⟨b, a, s, rfl⟩ := two_of (show 2 ≤ s0.length from l1)
    have hd : doN E 23 y pc ((b :: a :: s).map (·.2)) (r0.map (·.2)) (opsL los) pr0 = if 256 ≤ pr0.length then (4, ⟨pc, (b :: a :: s).map (·.2), r0.map (·.2), opsL los, pr0⟩) else (0, ⟨pc + 1, s.map (·.2), r0.map (·.2), opsL los, pr0 ++ [(a.2.2, b.2.2)]⟩) := rfl
    rw [hd]
    by_cases hc : 256 ≤ pr0.length
    · rw [if_pos hc]
      refine (hgen 4 (φ3 := eqS (pc : Int) s r0 los pr0) (φ4 := eqS (pc : Int) s r0 los pr0) (noneA (by decide)) (noneN (by decide)) (fun w1 X hB hR => by
        obtain ⟨_, _, _, _, _, sv1, lv1, pv1, h1, rfl, rfl, rfl, rfl, rfl⟩ := hR
        exact (remit_full y h1 hc hpr).mono fun r w' ⟨hr, hB'⟩ => ⟨hr, fun h => absurd h (by decide), hB'⟩) (fun h => absurd h (by decide)) (fun a' _ _ _ _ h => by rw [h.1]; exact hp0)).mono ?_
      rintro r w' ⟨hr, -, hB'⟩
      exact ⟨hr, fun h => absurd h (by simp), hB'⟩
    · rw [if_neg hc]
      refine (hgen 0 (φ4 := eqS (pc : Int) (s) r0 los (pr0 ++ [(a.2.2, b.2.2)])) (noneA (by decide)) (noneN (by decide)) (fun w1 X hB hR => by
        obtain ⟨_, _, _, _, _, sv1, lv1, pv1, h1, rfl, rfl, rfl, rfl, rfl⟩ := hR
        refine (remit_any y a b h1 (by simp at hl16; omega) hc).mono ?_
        rintro r w' ⟨hr, ⟨sv', pv', hm'⟩, hB'⟩
        exact ⟨hr, fun _ => ⟨_, _, _, _, _, _, _, _, hm', rfl, rfl, rfl, rfl, rfl⟩, hB'⟩) (fun _ => noneB (by decide)) (fun a' _ _ _ _ h => by rw [h.1]; exact hp0)).mono ?_
      rintro r w' ⟨hr, hM', hB'⟩
      refine ⟨hr, fun _ => ?_, hB'⟩
      obtain ⟨a1, s1, r1, l1, p1, sv', lv', pv', hm', q1, q2, q3, q4, q5⟩ := hM' rfl
      subst q2 q3 q4 q5
      exact ⟨a1, _, _, _, _, _, _, _, hm', by show a1 = ((pc + 1 : Nat) : Int); omega, rfl, rfl, rfl, rfl⟩
end
end Go.Proofs.YtndagciefnddmaaGreatDoor
namespace Go.Proofs.YtndagciefnddmaaGreatDoor
open Go.RowKit Oct
attribute [local irreducible] wpG
def slenW : Option Value → Nat
  | some (.slice _ n _) => n
  | _ => 0
section
variable {nt inp : Nat} {role : UInt8} {E : Me}
theorem MS.mr {base : Nat} {w : World} {Gb M : Nat} {tv cv iv ev : Value} {tr : List Int} {at_ : Int} {st rg : List MV} {op : List (Nat × List (List UInt8))} {pr : List (List UInt8 × List UInt8)} (h : MS base w Gb M E tv cv iv ev tr at_ st rg op pr) :
    ∃ eos stv opv prv a c, MR base w Gb ⟨tv, cv, iv, ev, .map (some M), [], 0⟩ at_ st rg eos pr tr stv opv prv (.slice a tr.length c) [mapPq M E.code.length (cntEnd E.code E.ends E.code.length)] ∧ opsOf eos = op ∧ ∀ e ∈ eos, e.rest.length ≤ 1024 := by
  obtain ⟨eos, stv, opv, prv, trv, hm, h1, h2⟩ := h
  obtain ⟨_, _, _, a, c, rfl⟩ := hm.slices
  exact ⟨eos, stv, opv, prv, a, c, hm, h1, h2⟩
def RunAt (nt inp : Nat) (role : UInt8) (base : Nat) (w0 w : World) (Gb M : Nat) (E : Me) (tv cv iv ev : Value) (F : Nat) (tr : List Int) (m : Mc) : Prop :=
  tr.length ≤ F ∧ MS base w Gb M E tv cv iv ev tr (m.pc : Int) m.st m.rg m.op m.pr ∧ OkM (sM nt inp role E) E m ∧ runM E (F - tr.length) m = runM E F startM ∧ Below base w0 w
set_option maxRecDepth 100000 in
set_option maxHeartbeats 8000000 in
theorem vrun_any {base Gb M : Nat} {w : World} {tv cv iv ev : Value} (G : GoodM nt inp role E) (hnt : nt ≤ 1000) (hinp : inp ≤ 1000) (hcl : E.code.length ≤ 256) (F : Nat) (hF : F ≤ 65536)
    (hM : MS base w Gb M E tv cv iv ev [] 0 [] (List.replicate 8 (0, [])) [] []) (hE : ∀ w', Below base w w' → EnvV w' E tv cv iv ev) :
    Calls Tryz.prog 87 #[.pointer (some ⟨Gb, 0, none⟩), .int .i64 (F : Int)] w fun r w' => r = .returned (.int .i64 ((runM E F startM).1 : Int)) ∧
      ((runM E F startM).1 = 0 → ∃ tr, tr.length ≤ F ∧ MS base w' Gb M E tv cv iv ev tr (E.code.length : Int) (runM E F startM).2.st (runM E F startM).2.rg (runM E F startM).2.op (runM E F startM).2.pr) ∧ Below base w w' := by
  have hS : base ≤ w.heap.size := by obtain ⟨_, _, _, _, _, _, hm, _⟩ := hM.mr; exact hm.size
  have H0 : Hid (∃ m tr, RunAt nt inp role base w w Gb M E tv cv iv ev F tr m) := ⟨startM, [], Nat.zero_le _, hM, startM_ok, rfl, Below.refl _ _⟩
  obtain ⟨ac, nc, rfl, -, -⟩ := recIns_open (hE w (Below.refl _ _)).c
  have HE := Lib.hid hE
  have HG := Lib.hid G
  have HS := Lib.hid hS
  clear hM hE G hS
  go_enter Tryz.func87, Tryz.ntmps87
  go_wp2_with fail
  go_loopw [4] (fun r wr => r = .int .i64 0 ∧ Hid (∃ m tr, RunAt nt inp role base w wr Gb M E tv (.slice ac E.code.length nc) iv ev F tr m)) (fun _ wr => F - slenW (wr.cell? ⟨Gb, 27, none⟩))
  case atStart => exact ⟨rfl, H0⟩
  case round =>
    obtain ⟨rfl, hR⟩ := hrel
    obtain ⟨m, tr, htr, hMS, hok, hrun, hB⟩ := hR.out
    obtain ⟨pc, st, rg, op, pr⟩ := m
    dsimp only at hMS
    obtain ⟨eos, stv, opv, prv, ta, tc, hm, hop, hre⟩ := hMS.mr
    have c5 : wr.cell? ⟨Gb, 5, none⟩ = some (.int .i64 (pc : Int)) := hm.cell (k := 5) rfl
    have c1 : wr.cell? ⟨Gb, 1, none⟩ = some (.slice ac E.code.length nc) := hm.cell (k := 1) rfl
    have c27 : wr.cell? ⟨Gb, 27, none⟩ = some (.slice ta tr.length tc) := hm.cellR (k := 4) rfl
    have i1 : (E.code.length : Int) ≤ 256 := by omega
    have i2 : (pc : Int) ≤ (E.code.length : Int) := by have := hok.pc; show (pc : Int) ≤ _; simp at this; omega
    have i3 : (tr.length : Int) ≤ 65536 := by omega
    have HC270 := Lib.hid c27
    have HM := Lib.hid hm
    have HMS := Lib.hid hMS
    have HOK := Lib.hid hok
    have HRUN := Lib.hid hrun
    have HB := Lib.hid hB
    have HOP := Lib.hid hop
    have HRE := Lib.hid hre
    have HTR := Lib.hid htr
    clear hm hMS hok hrun hB hop hre htr hR
    by_cases hpc : pc < E.code.length
    · have i4 : (pc : Int) < (E.code.length : Int) := by omega
      by_cases hf : F ≤ tr.length
      · have i5 : (F : Int) ≤ (tr.length : Int) := by omega
        have HD := Lib.hid (show (runM E F startM).1 = 140 by
          have := HRUN.out
          rw [show F - tr.length = 0 by omega, runM_fuel _ hpc] at this
          rw [← this])
        go_wp2_with fail
        go_quiet (fail)
        go_wp2_with fail
        go_ret
        rw [HD.out]
        exact ⟨rfl, fun h0 => absurd h0 (by decide), HB.out.trans ((Below.drewN' _ _).mono HM.out.size)⟩
      · have i5 : ¬ (F : Int) ≤ (tr.length : Int) := by omega
        go_wp2_with fail
        go_quiet (fail)
        go_upto_region 5 with fail
        obtain ⟨W1, hW1⟩ : ∃ W1, W1 = wr.drewN nq := ⟨_, rfl⟩
        rw [← hW1]
        have hb1 : Below wr.heap.size wr W1 := by rw [hW1]; exact Below.drewN' _ _
        have hm1 := HM.out.below hb1
        have HB1 := Lib.hid (hb1.mono HM.out.size)
        have HB0 := Lib.hid HB.out
        have HSw := Lib.hid HM.out.size
        clear hW1 hb1 c5 c1 c27 HM HMS HB
        have c5 : W1.cell? ⟨Gb, 5, none⟩ = some (.int .i64 (pc : Int)) := hm1.cell (k := 5) rfl
        have c27 : W1.cell? ⟨Gb, 27, none⟩ = some (.slice ta tr.length tc) := hm1.cellR (k := 4) rfl
        have hGl : Gb < W1.heap.size := hm1.blk.lt
        have h1d := hm1.below (b_drew W1)
        have hgb : base ≤ W1.drew.heap.size := h1d.size
        have hby : (tr.length + 1) * 8 ≤ 140737488355328 := by omega
        have hot := h1d.ot
        have H1D := Lib.hid h1d
        have HM1 := Lib.hid hm1
        clear h1d hm1
        go_cut [] (fun wx => ∃ g gc, Hid (MR base wx Gb ⟨tv, .slice ac E.code.length nc, iv, ev, .map (some M), [], 0⟩ (pc : Int) st rg eos pr (tr ++ [(pc : Int)]) stv opv prv (.slice (some ⟨g, 0, none⟩) (tr.length + 1) gc) [mapPq M E.code.length (cntEnd E.code E.ends E.code.length)]) ∧ Hid (Below base wr wx))
        case first =>
          go_region_law (refine recJ.step_append1V W1.drew (pc : Int) rfl _ _ 124 rfl Tryz.underlying124 base (.slice ta tr.length tc) tr rfl hot _ rfl _ rfl _ rfl hby hgb ?_; intro g gc w3 hown hc hg; have hn := H1D.out.newT (trv' := .slice (some ⟨g, 0, none⟩) (tr.length + 1) gc) (l := tr ++ [(pc : Int)]) hc (fun k hk => by cases hk; exact hg) hown; have f27 := hn.2.2.1; have c27' := hn.2.2.2; have HN := Lib.hid hn; clear hn hown hc hg)
          all_goals
            go_wp2_with fail
            go_meet
            case rel => exact ⟨_, _, HN.out.1, (HB1.out.trans ((b_drew W1).mono HM1.out.size)).trans HN.out.2.1⟩
        case rest =>
          obtain ⟨g, gc, HMc, HBc⟩ := hcut
          clear c5 c27 hGl hgb hby hot H1D HM1
          obtain ⟨a', n', hev, -, hc⟩ := recIns_open (HE.out _ (HB0.out.trans HBc.out)).c
          obtain ⟨b, off, rfl, d0, d1⟩ := hc pc hpc
          injection hev with e1 e2 e3
          subst e1 e3
          have c5 : wc.cell? ⟨Gb, 5, none⟩ = some (.int .i64 (pc : Int)) := HMc.out.cell (k := 5) rfl
          have c1 : wc.cell? ⟨Gb, 1, none⟩ = some (.slice (some ⟨b, off, none⟩) E.code.length nc) := HMc.out.cell (k := 1) rfl
          have j0 : (0 : Int) ≤ (pc : Int) := by omega
          have hGl : Gb < wc.heap.size := HMc.out.blk.lt
          have hbl : b < wc.heap.size := lt_of_cell d0
          go_wp2_with fail
          go_region
          obtain ⟨T, hT⟩ : ∃ T, T = wc.heap.size := ⟨_, rfl⟩
          obtain ⟨V, hV⟩ : ∃ V, V = (wc.alloc (.cells #[.int .u8 (E.code[pc].1.toNat : Int), .int .u8 (E.code[pc].2.toNat : Int)] 92)).drew := ⟨_, rfl⟩
          have hX : Blk V T 92 [.int .u8 (E.code[pc].1.toNat : Int), .int .u8 (E.code[pc].2.toNat : Int)] := by subst hT; rw [hV]; exact (Blk.new wc _ _).below (b_drew _)
          have hbV : Below wc.heap.size wc V := by rw [hV]; exact bt (b_alloc _ _) (b_drew _)
          have x0 := hX.cell (k := 0) rfl
          have x1 := hX.cell (k := 1) rfl
          rw [← hV, ← hT]
          clear hV hT hX d0 d1 c1 c5 hGl hbl
          have hgd : E.code.getD pc (0, 0) = E.code[pc] := by rw [List.getD_eq_getElem?_getD, List.getElem?_eq_getElem hpc]; rfl
          obtain ⟨n, hn⟩ : ∃ n, n = E.code[pc].1.toNat := ⟨_, rfl⟩
          obtain ⟨y, hy⟩ : ∃ y, y = E.code[pc].2 := ⟨_, rfl⟩
          have hmV := HMc.out.below hbV
          have hBV : Below base w V := (HB0.out.trans HBc.out).trans (hbV.mono HMc.out.size)
          have hMSd : MS base V.drew Gb M E tv (.slice (some ⟨b, off, none⟩) E.code.length nc) iv ev (tr ++ [(pc : Int)]) (pc : Int) st rg op pr := ⟨eos, _, _, _, _, hmV.below (b_drew V), HOP.out, HRE.out⟩
          have hBVd : Below base w V.drew := hBV.trans ((b_drew V).mono hmV.size)
          have hST := step_any HG.out hnt hinp hcl HOK.out hpc (n := n) (y := y) (by rw [hgd]; exact hn.symm) (by rw [hgd]; exact hy.symm) hMSd (fun w' hB => HE.out _ (hBVd.trans hB))
          have hn23 : 1 ≤ n ∧ n ≤ 23 := by
            have hx : insOk (E.code.getD pc (0, 0)) = true := getD_ok (P := fun x => insOk x = true) HG.out.may hpc _
            unfold insOk at hx
            simp only [Bool.and_eq_true, decide_eq_true_eq] at hx
            rw [hgd, ← hn] at hx
            exact hx.1
          have hdM : doM E (xM E ⟨pc, st, rg, op, pr⟩) ⟨pc, st, rg, op, pr⟩ = doN E n y pc st rg op pr := by
            show doN E (E.code.getD pc (0, 0)).1.toNat (E.code.getD pc (0, 0)).2 pc st rg op pr = _
            rw [hgd, ← hn, ← hy]
          have hdd := (HE.out _ hBV).d n hn23.1 hn23.2
          have hcf := does_call n hn23.1 hn23.2
          obtain ⟨F0, hF0⟩ : ∃ F0, F0 = doesL.getD n 0 := ⟨_, rfl⟩
          rw [← hF0] at hST hdd hcf
          rw [← hn] at x0
          rw [← hy] at x1
          have n0 : (0 : Int) ≤ (n : Int) := by omega
          have n1 : (n : Int) < 24 := by omega
          have hTl : T < V.heap.size := lt_of_cell x0
          have HST := Lib.hid hST
          have HBV := Lib.hid hBVd
          have HDM := Lib.hid hdM
          have hok2 := doM_ok HG.out HOK.out hpc
          rw [hdM] at hok2
          have HOK2 := Lib.hid hok2
          have hrun2 := HRUN.out
          rw [show F - tr.length = (F - (tr.length + 1)) + 1 by omega] at hrun2
          obtain ⟨R, hR⟩ : ∃ R, R = doN E n y pc st rg op pr := ⟨_, rfl⟩
          rw [← hR] at HST HOK2 HDM
          have HRUN2 := Lib.hid hrun2
          clear hF0 hST hBVd hdM hok2 hrun2 hR hn hy hgd hmV hBV hMSd hbV hc
          by_cases h0 : R.1 = 0
          · have HOK3 := Lib.hid (HOK2.out.2 h0)
            have hpc3 := HOK3.out.pc
            obtain ⟨v, hv⟩ : ∃ v, v = (R.2.pc : Int) - 1 := ⟨_, rfl⟩
            have v0 : -1 ≤ v := by omega
            have v1 : v ≤ 256 := by omega
            have HV := Lib.hid (show v + 1 = (R.2.pc : Int) by omega)
            rw [← hv, h0] at HST
            have HRUN3 := Lib.hid (show runM E (F - (tr.length + 1)) R.2 = runM E F startM by
              have := HRUN2.out
              rwa [runM_on hpc (by rw [HDM.out]; exact h0), HDM.out] at this)
            have hmeas : F - (tr.length + 1) < F - tr.length := by omega
            have HME := Lib.hid hmeas
            clear hv h0 HRUN2 HOK2 HDM hpc3 hmeas
            go_wp2_with fail
            go_region_law (refine step_callM rfl F0 #[.pointer (some ⟨Gb, 0, none⟩), .int .u8 (y.toNat : Int)] (by go_simp) HST.out ?_; rintro r w7 ⟨rfl, hst7, hB7⟩; obtain ⟨eos7, sv7, ov7, pv7, ta7, tc7, hm7, hop7, hre7⟩ := (hst7 (by trivial)).mr; have c5 := hm7.cell (k := 5) rfl; have f5 := hm7.free (k := 5) (by decide); have HM7 := Lib.hid hm7; have HOP7 := Lib.hid hop7; have HRE7 := Lib.hid hre7; have HB7 := Lib.hid hB7; clear hB7 hst7 hm7 hop7 hre7)
            all_goals
              (try simp only [List.getElem_toArray, List.getElem_cons_succ, List.getElem_cons_zero])
              (try go_frame)
              go_wp2_with fail
              obtain ⟨hm8, hb8⟩ := HM7.out.setAt (v + 1)
              have c27 : (w7.setCell ⟨Gb, 5, none⟩ (.int .i64 (v + 1))).cell? ⟨Gb, 27, none⟩ = some (.slice ta7 (tr ++ [(pc : Int)]).length tc7) := hm8.cellR (k := 4) rfl
              have HM8 := Lib.hid hm8
              have HB8 := Lib.hid ((HBV.out.trans HB7.out).trans hb8)
              have HC27 := Lib.hid c27
              clear hm8 hb8 c27
              go_roundw
              case rel => exact ⟨rfl, R.2, tr ++ [(pc : Int)], by rw [List.length_append, List.length_singleton]; omega, ⟨eos7, _, _, _, _, by rw [← HV.out]; exact HM8.out, HOP7.out, HRE7.out⟩, HOK3.out, by rw [List.length_append, List.length_singleton]; exact HRUN3.out, HB8.out⟩
              case measure => rw [HC27.out, HC270.out]; show F - (tr ++ [(pc : Int)]).length < F - tr.length; rw [List.length_append, List.length_singleton]; exact HME.out
          · have h1 : ((R.1 : Int) != 0) = true := by rw [bne_iff_ne]; omega
            obtain ⟨c, hc⟩ : ∃ c, c = R.1 := ⟨_, rfl⟩
            have HD := Lib.hid (show (runM E F startM).1 = c by
              have := HRUN2.out
              rw [runM_bad hpc (by rw [HDM.out]; exact h0), HDM.out] at this
              rw [← this, hc])
            rw [← hc] at h1 HST
            have HC0 := Lib.hid (show ¬ c = 0 by rw [hc]; exact h0)
            clear hc h0
            go_wp2_with fail
            go_region_law (refine step_callM rfl F0 #[.pointer (some ⟨Gb, 0, none⟩), .int .u8 (y.toNat : Int)] (by go_simp) HST.out ?_; rintro r w7 ⟨rfl, -, hB7⟩; have HB7 := Lib.hid hB7; clear hB7)
            all_goals
              (try simp only [List.getElem_toArray, List.getElem_cons_succ, List.getElem_cons_zero])
              (try go_frame)
              go_wp2_with fail
              go_ret
              rw [HD.out]
              exact ⟨rfl, fun h0 => absurd h0 HC0.out, HBV.out.trans HB7.out⟩
    · have i4 : ¬ (pc : Int) < (E.code.length : Int) := by omega
      have HD := Lib.hid (show runM E F startM = (0, ⟨pc, st, rg, op, pr⟩) by rw [← HRUN.out]; exact runM_end _ _ hpc)
      have HPC := Lib.hid (show (pc : Int) = (E.code.length : Int) by omega)
      go_wp2_with fail
      go_quiet (fail)
      go_wp2_with fail
      go_ret
      have hbd : Below wr.heap.size wr (wr.drewN nq) := Below.drewN' _ _
      rw [HD.out]
      refine ⟨rfl, fun _ => ⟨tr, HTR.out, eos, stv, opv, prv, .slice ta tr.length tc, ?_, HOP.out, HRE.out⟩, HB.out.trans (hbd.mono HM.out.size)⟩
      rw [← HPC.out]
      exact HM.out.below hbd
end
end Go.Proofs.YtndagciefnddmaaGreatDoor
namespace Go.Proofs.YtndagciefnddmaaGreatDoor
open Go.RowKit
structure Jb where
  mt : List (List UInt8)
  mc : List VI
  jt : List (List UInt8)
  jc : List VI
  tt : List (List UInt8)
  tc : List VI
  parts : Int
  fuel : Int
def checkJ (j : Jb) : Nat × Nat × Nat :=
  if (throughV j.mt j.mc 1).2.1 ≠ 0 then (1, (throughV j.mt j.mc 1).1, (throughV j.mt j.mc 1).2.1)
  else if (throughV j.jt j.jc 2).2.1 ≠ 0 then (2, (throughV j.jt j.jc 2).1, (throughV j.jt j.jc 2).2.1)
  else if (throughV j.tt j.tc 3).2.1 ≠ 0 then (3, (throughV j.tt j.tc 3).1, (throughV j.tt j.tc 3).2.1)
  else if j.parts < 1 ∨ 16 < j.parts ∨ j.fuel < 1 ∨ 65536 < j.fuel then (0, 0, 2) else (0, 0, 0)
def mayJ (j : Jb) : Bool := (checkJ j).2.2 == 0
def askRun (texts : List (List UInt8)) (code : List VI) (role : UInt8) (ins : List (List UInt8)) (fuel : Int) : Bool :=
  (throughV texts code role).2.1 == 0 && ins.length == inputsV role && decide (0 ≤ fuel ∧ fuel ≤ 65536) && ins.all fun s => decide (s.length ≤ 1024)
def vmV (texts : List (List UInt8)) (code : List VI) (role : UInt8) (ins : List (List UInt8)) (fuel : Int) : Nat × List (List UInt8 × List UInt8) × List UInt8 :=
  if askRun texts code role ins fuel = true then ranV ⟨texts, code, ins, (throughV texts code role).2.2.ends⟩ role fuel.toNat else (2, [], [])
theorem vmV_no {texts : List (List UInt8)} {code : List VI} {role : UInt8} {ins : List (List UInt8)} {fuel : Int} (h : askRun texts code role ins fuel = false) : vmV texts code role ins fuel = (2, [], []) := by
  unfold vmV; rw [if_neg (by rw [h]; simp)]
theorem vmV_yes {texts : List (List UInt8)} {code : List VI} {role : UInt8} {ins : List (List UInt8)} {fuel : Int} (h : askRun texts code role ins fuel = true) : vmV texts code role ins fuel = ranV ⟨texts, code, ins, (throughV texts code role).2.2.ends⟩ role fuel.toNat := by
  unfold vmV; rw [if_pos h]
theorem askRun_ok {texts : List (List UInt8)} {code : List VI} {role : UInt8} {ins : List (List UInt8)} {fuel : Int} (h : askRun texts code role ins fuel = true) : (throughV texts code role).2.1 = 0 ∧ ins.length = inputsV role ∧ 0 ≤ fuel ∧ fuel ≤ 65536 ∧ ∀ s ∈ ins, s.length ≤ 1024 := by
  unfold askRun at h
  simp only [Bool.and_eq_true, beq_iff_eq, decide_eq_true_eq, List.all_eq_true] at h
  obtain ⟨⟨⟨h1, h2⟩, h3, h4⟩, h5⟩ := h
  exact ⟨h1, h2, h3, h4, h5⟩
theorem askRun_of {texts : List (List UInt8)} {code : List VI} {role : UInt8} {ins : List (List UInt8)} {fuel : Int} (h1 : (throughV texts code role).2.1 = 0) (h2 : ins.length = inputsV role) (h3 : 0 ≤ fuel) (h4 : fuel ≤ 65536) (h5 : ∀ s ∈ ins, s.length ≤ 1024) : askRun texts code role ins fuel = true := by
  unfold askRun
  simp only [Bool.and_eq_true, beq_iff_eq, decide_eq_true_eq, List.all_eq_true]
  exact ⟨⟨⟨h1, h2⟩, h3, h4⟩, h5⟩
end Go.Proofs.YtndagciefnddmaaGreatDoor
