/- Lemmas for JobRuns, part 12: walks of the functions that it reaches, and the plain laws behind them. -/
import Derived.Test.YtndagciefnddmaaGreatDoorJobRunsK5
import Derived.Test.YtndagciefnddmaaGreatDoorJobRunsK6
import Derived.Test.YtndagciefnddmaaGreatDoorJobRunsK7
import Derived.Test.YtndagciefnddmaaGreatDoorJobRunsK11
set_option linter.unusedSimpArgs false
set_option linter.unusedVariables false
namespace Go.Proofs.YtndagciefnddmaaGreatDoor
open Go.RowKit Oct
attribute [local irreducible] wpG
def slenW : Option Value → Nat
  | some (.slice _ n _) => n
  | _ => 0
section
variable {nt inp : Nat} {role : UInt8} {E : Me}
theorem MS.mr {base : Nat} {w : World} {Gb M : Nat} {tv cv iv ev : Value} {tr : List Int} {at_ : Int} {st rg : List MV} {op : List (Nat × List (List UInt8))} {pr : List (List UInt8 × List UInt8)} (h : MS base w Gb M E tv cv iv ev tr at_ st rg op pr) :
    ∃ eos stv opv prv a c, MR base w Gb ⟨tv, cv, iv, ev, .map (some M), [], 0⟩ at_ st rg eos pr tr stv opv prv (.slice a tr.length c) [mapPq M E.code.length (cntEnd E.code E.ends E.code.length)] ∧ opsOf eos = op ∧ ∀ e ∈ eos, e.rest.length ≤ 1024 := by
  obtain ⟨eos, stv, opv, prv, trv, hm, h1, h2⟩ := h
  obtain ⟨_, _, _, a, c, rfl⟩ := hm.slices
  exact ⟨eos, stv, opv, prv, a, c, hm, h1, h2⟩
def RunAt (nt inp : Nat) (role : UInt8) (base : Nat) (w0 w : World) (Gb M : Nat) (E : Me) (tv cv iv ev : Value) (F : Nat) (tr : List Int) (m : Mc) : Prop :=
  tr.length ≤ F ∧ MS base w Gb M E tv cv iv ev tr (m.pc : Int) m.st m.rg m.op m.pr ∧ OkM (sM nt inp role E) E m ∧ runM E (F - tr.length) m = runM E F startM ∧ Below base w0 w
set_option maxRecDepth 100000 in
set_option maxHeartbeats 8000000 in
theorem vrun_any {base Gb M : Nat} {w : World} {tv cv iv ev : Value} (G : GoodM nt inp role E) (hnt : nt ≤ 1000) (hinp : inp ≤ 1000) (hcl : E.code.length ≤ 256) (F : Nat) (hF : F ≤ 65536)
    (hM : MS base w Gb M E tv cv iv ev [] 0 [] (List.replicate 8 (0, [])) [] []) (hE : ∀ w', Below base w w' → EnvV w' E tv cv iv ev) :
    Calls Tryz.prog 87 #[.pointer (some ⟨Gb, 0, none⟩), .int .i64 (F : Int)] w fun r w' => r = .returned (.int .i64 ((runM E F startM).1 : Int)) ∧
      ((runM E F startM).1 = 0 → ∃ tr, tr.length ≤ F ∧ MS base w' Gb M E tv cv iv ev tr (E.code.length : Int) (runM E F startM).2.st (runM E F startM).2.rg (runM E F startM).2.op (runM E F startM).2.pr) ∧ Below base w w' := by
  have hS : base ≤ w.heap.size := by obtain ⟨_, _, _, _, _, _, hm, _⟩ := hM.mr; exact hm.size
  have H0 : Hid (∃ m tr, RunAt nt inp role base w w Gb M E tv cv iv ev F tr m) := ⟨startM, [], Nat.zero_le _, hM, startM_ok, rfl, Below.refl _ _⟩
  obtain ⟨ac, nc, rfl, -, -⟩ := recIns_open (hE w (Below.refl _ _)).c
  have HE := Lib.hid hE
  have HG := Lib.hid G
  have HS := Lib.hid hS
  clear hM hE G hS
  go_enter Tryz.func87, Tryz.ntmps87
  go_wp2_with fail
  go_loopw [4] (fun r wr => r = .int .i64 0 ∧ Hid (∃ m tr, RunAt nt inp role base w wr Gb M E tv (.slice ac E.code.length nc) iv ev F tr m)) (fun _ wr => F - slenW (wr.cell? ⟨Gb, 27, none⟩))
  case atStart => exact ⟨rfl, H0⟩
  case round =>
    obtain ⟨rfl, hR⟩ := hrel
    obtain ⟨m, tr, htr, hMS, hok, hrun, hB⟩ := hR.out
    obtain ⟨pc, st, rg, op, pr⟩ := m
    dsimp only at hMS
    obtain ⟨eos, stv, opv, prv, ta, tc, hm, hop, hre⟩ := hMS.mr
    have c5 : wr.cell? ⟨Gb, 5, none⟩ = some (.int .i64 (pc : Int)) := hm.cell (k := 5) rfl
    have c1 : wr.cell? ⟨Gb, 1, none⟩ = some (.slice ac E.code.length nc) := hm.cell (k := 1) rfl
    have c27 : wr.cell? ⟨Gb, 27, none⟩ = some (.slice ta tr.length tc) := hm.cellR (k := 4) rfl
    have i1 : (E.code.length : Int) ≤ 256 := by omega
    have i2 : (pc : Int) ≤ (E.code.length : Int) := by have := hok.pc; show (pc : Int) ≤ _; simp at this; omega
    have i3 : (tr.length : Int) ≤ 65536 := by omega
    have HC270 := Lib.hid c27
    have HM := Lib.hid hm
    have HMS := Lib.hid hMS
    have HOK := Lib.hid hok
    have HRUN := Lib.hid hrun
    have HB := Lib.hid hB
    have HOP := Lib.hid hop
    have HRE := Lib.hid hre
    have HTR := Lib.hid htr
    clear hm hMS hok hrun hB hop hre htr hR
    by_cases hpc : pc < E.code.length
    · have i4 : (pc : Int) < (E.code.length : Int) := by omega
      by_cases hf : F ≤ tr.length
      · have i5 : (F : Int) ≤ (tr.length : Int) := by omega
        have HD := Lib.hid (show (runM E F startM).1 = 140 by
          have := HRUN.out
          rw [show F - tr.length = 0 by omega, runM_fuel _ hpc] at this
          rw [← this])
        go_wp2_with fail
        go_quiet (fail)
        go_wp2_with fail
        go_ret
        rw [HD.out]
        exact ⟨rfl, fun h0 => absurd h0 (by decide), HB.out.trans ((Below.drewN' _ _).mono HM.out.size)⟩
      · have i5 : ¬ (F : Int) ≤ (tr.length : Int) := by omega
        go_wp2_with fail
        go_quiet (fail)
        go_upto_region 5 with fail
        obtain ⟨W1, hW1⟩ : ∃ W1, W1 = wr.drewN nq := ⟨_, rfl⟩
        rw [← hW1]
        have hb1 : Below wr.heap.size wr W1 := by rw [hW1]; exact Below.drewN' _ _
        have hm1 := HM.out.below hb1
        have HB1 := Lib.hid (hb1.mono HM.out.size)
        have HB0 := Lib.hid HB.out
        have HSw := Lib.hid HM.out.size
        clear hW1 hb1 c5 c1 c27 HM HMS HB
        have c5 : W1.cell? ⟨Gb, 5, none⟩ = some (.int .i64 (pc : Int)) := hm1.cell (k := 5) rfl
        have c27 : W1.cell? ⟨Gb, 27, none⟩ = some (.slice ta tr.length tc) := hm1.cellR (k := 4) rfl
        have hGl : Gb < W1.heap.size := hm1.blk.lt
        have h1d := hm1.below (b_drew W1)
        have hgb : base ≤ W1.drew.heap.size := h1d.size
        have hby : (tr.length + 1) * 8 ≤ 140737488355328 := by omega
        have hot := h1d.ot
        have H1D := Lib.hid h1d
        have HM1 := Lib.hid hm1
        clear h1d hm1
        go_cut [] (fun wx => ∃ g gc, Hid (MR base wx Gb ⟨tv, .slice ac E.code.length nc, iv, ev, .map (some M), [], 0⟩ (pc : Int) st rg eos pr (tr ++ [(pc : Int)]) stv opv prv (.slice (some ⟨g, 0, none⟩) (tr.length + 1) gc) [mapPq M E.code.length (cntEnd E.code E.ends E.code.length)]) ∧ Hid (Below base wr wx))
        case first =>
          go_region_law (refine recJ.step_append1V W1.drew (pc : Int) rfl _ _ 124 rfl Tryz.underlying124 base (.slice ta tr.length tc) tr rfl hot _ rfl _ rfl _ rfl hby hgb ?_; intro g gc w3 hown hc hg; have hn := H1D.out.newT (trv' := .slice (some ⟨g, 0, none⟩) (tr.length + 1) gc) (l := tr ++ [(pc : Int)]) hc (fun k hk => by cases hk; exact hg) hown; have f27 := hn.2.2.1; have c27' := hn.2.2.2; have HN := Lib.hid hn; clear hn hown hc hg)
          all_goals
            go_wp2_with fail
            go_meet
            case rel => exact ⟨_, _, HN.out.1, (HB1.out.trans ((b_drew W1).mono HM1.out.size)).trans HN.out.2.1⟩
        case rest =>
          obtain ⟨g, gc, HMc, HBc⟩ := hcut
          clear c5 c27 hGl hgb hby hot H1D HM1
          obtain ⟨a', n', hev, -, hc⟩ := recIns_open (HE.out _ (HB0.out.trans HBc.out)).c
          obtain ⟨b, off, rfl, d0, d1⟩ := hc pc hpc
          injection hev with e1 e2 e3
          subst e1 e3
          have c5 : wc.cell? ⟨Gb, 5, none⟩ = some (.int .i64 (pc : Int)) := HMc.out.cell (k := 5) rfl
          have c1 : wc.cell? ⟨Gb, 1, none⟩ = some (.slice (some ⟨b, off, none⟩) E.code.length nc) := HMc.out.cell (k := 1) rfl
          have j0 : (0 : Int) ≤ (pc : Int) := by omega
          have hGl : Gb < wc.heap.size := HMc.out.blk.lt
          have hbl : b < wc.heap.size := lt_of_cell d0
          go_wp2_with fail
          go_region
          obtain ⟨T, hT⟩ : ∃ T, T = wc.heap.size := ⟨_, rfl⟩
          obtain ⟨V, hV⟩ : ∃ V, V = (wc.alloc (.cells #[.int .u8 (E.code[pc].1.toNat : Int), .int .u8 (E.code[pc].2.toNat : Int)] 92)).drew := ⟨_, rfl⟩
          have hX : Blk V T 92 [.int .u8 (E.code[pc].1.toNat : Int), .int .u8 (E.code[pc].2.toNat : Int)] := by subst hT; rw [hV]; exact (Blk.new wc _ _).below (b_drew _)
          have hbV : Below wc.heap.size wc V := by rw [hV]; exact bt (b_alloc _ _) (b_drew _)
          have x0 := hX.cell (k := 0) rfl
          have x1 := hX.cell (k := 1) rfl
          rw [← hV, ← hT]
          clear hV hT hX d0 d1 c1 c5 hGl hbl
          have hgd : E.code.getD pc (0, 0) = E.code[pc] := by rw [List.getD_eq_getElem?_getD, List.getElem?_eq_getElem hpc]; rfl
          obtain ⟨n, hn⟩ : ∃ n, n = E.code[pc].1.toNat := ⟨_, rfl⟩
          obtain ⟨y, hy⟩ : ∃ y, y = E.code[pc].2 := ⟨_, rfl⟩
          have hmV := HMc.out.below hbV
          have hBV : Below base w V := (HB0.out.trans HBc.out).trans (hbV.mono HMc.out.size)
          have hMSd : MS base V.drew Gb M E tv (.slice (some ⟨b, off, none⟩) E.code.length nc) iv ev (tr ++ [(pc : Int)]) (pc : Int) st rg op pr := ⟨eos, _, _, _, _, hmV.below (b_drew V), HOP.out, HRE.out⟩
          have hBVd : Below base w V.drew := hBV.trans ((b_drew V).mono hmV.size)
          have hST := step_any HG.out hnt hinp hcl HOK.out hpc (n := n) (y := y) (by rw [hgd]; exact hn.symm) (by rw [hgd]; exact hy.symm) hMSd (fun w' hB => HE.out _ (hBVd.trans hB))
          have hn23 : 1 ≤ n ∧ n ≤ 23 := by
            have hx : insOk (E.code.getD pc (0, 0)) = true := getD_ok (P := fun x => insOk x = true) HG.out.may hpc _
            unfold insOk at hx
            simp only [Bool.and_eq_true, decide_eq_true_eq] at hx
            rw [hgd, ← hn] at hx
            exact hx.1
          have hdM : doM E (xM E ⟨pc, st, rg, op, pr⟩) ⟨pc, st, rg, op, pr⟩ = doN E n y pc st rg op pr := by
            show doN E (E.code.getD pc (0, 0)).1.toNat (E.code.getD pc (0, 0)).2 pc st rg op pr = _
            rw [hgd, ← hn, ← hy]
          have hdd := (HE.out _ hBV).d n hn23.1 hn23.2
          have hcf := does_call n hn23.1 hn23.2
          obtain ⟨F0, hF0⟩ : ∃ F0, F0 = doesL.getD n 0 := ⟨_, rfl⟩
          rw [← hF0] at hST hdd hcf
          rw [← hn] at x0
          rw [← hy] at x1
          have n0 : (0 : Int) ≤ (n : Int) := by omega
          have n1 : (n : Int) < 24 := by omega
          have hTl : T < V.heap.size := lt_of_cell x0
          have HST := Lib.hid hST
          have HBV := Lib.hid hBVd
          have HDM := Lib.hid hdM
          have hok2 := doM_ok HG.out HOK.out hpc
          rw [hdM] at hok2
          have HOK2 := Lib.hid hok2
          have hrun2 := HRUN.out
          rw [show F - tr.length = (F - (tr.length + 1)) + 1 by omega] at hrun2
          obtain ⟨R, hR⟩ : ∃ R, R = doN E n y pc st rg op pr := ⟨_, rfl⟩
          rw [← hR] at HST HOK2 HDM
          have HRUN2 := Lib.hid hrun2
          clear hF0 hST hBVd hdM hok2 hrun2 hR hn hy hgd hmV hBV hMSd hbV hc
          by_cases h0 : R.1 = 0
          · have HOK3 := Lib.hid (HOK2.out.2 h0)
            have hpc3 := HOK3.out.pc
            obtain ⟨v, hv⟩ : ∃ v, v = (R.2.pc : Int) - 1 := ⟨_, rfl⟩
            have v0 : -1 ≤ v := by omega
            have v1 : v ≤ 256 := by omega
            have HV := Lib.hid (show v + 1 = (R.2.pc : Int) by omega)
            rw [← hv, h0] at HST
            have HRUN3 := Lib.hid (show runM E (F - (tr.length + 1)) R.2 = runM E F startM by
              have := HRUN2.out
              rwa [runM_on hpc (by rw [HDM.out]; exact h0), HDM.out] at this)
            have hmeas : F - (tr.length + 1) < F - tr.length := by omega
            have HME := Lib.hid hmeas
            clear hv h0 HRUN2 HOK2 HDM hpc3 hmeas
            go_wp2_with fail
            go_region_law (refine step_callM rfl F0 #[.pointer (some ⟨Gb, 0, none⟩), .int .u8 (y.toNat : Int)] (by go_simp) HST.out ?_; rintro r w7 ⟨rfl, hst7, hB7⟩; obtain ⟨eos7, sv7, ov7, pv7, ta7, tc7, hm7, hop7, hre7⟩ := (hst7 (by trivial)).mr; have c5 := hm7.cell (k := 5) rfl; have f5 := hm7.free (k := 5) (by decide); have HM7 := Lib.hid hm7; have HOP7 := Lib.hid hop7; have HRE7 := Lib.hid hre7; have HB7 := Lib.hid hB7; clear hB7 hst7 hm7 hop7 hre7)
            all_goals
              (try simp only [List.getElem_toArray, List.getElem_cons_succ, List.getElem_cons_zero])
              (try go_frame)
              go_wp2_with fail
              obtain ⟨hm8, hb8⟩ := HM7.out.setAt (v + 1)
              have c27 : (w7.setCell ⟨Gb, 5, none⟩ (.int .i64 (v + 1))).cell? ⟨Gb, 27, none⟩ = some (.slice ta7 (tr ++ [(pc : Int)]).length tc7) := hm8.cellR (k := 4) rfl
              have HM8 := Lib.hid hm8
              have HB8 := Lib.hid ((HBV.out.trans HB7.out).trans hb8)
              have HC27 := Lib.hid c27
              clear hm8 hb8 c27
              go_roundw
              case rel => exact ⟨rfl, R.2, tr ++ [(pc : Int)], by rw [List.length_append, List.length_singleton]; omega, ⟨eos7, _, _, _, _, by rw [← HV.out]; exact HM8.out, HOP7.out, HRE7.out⟩, HOK3.out, by rw [List.length_append, List.length_singleton]; exact HRUN3.out, HB8.out⟩
              case measure => rw [HC27.out, HC270.out]; show F - (tr ++ [(pc : Int)]).length < F - tr.length; rw [List.length_append, List.length_singleton]; exact HME.out
          · have h1 : ((R.1 : Int) != 0) = true := by rw [bne_iff_ne]; omega
            obtain ⟨c, hc⟩ : ∃ c, c = R.1 := ⟨_, rfl⟩
            have HD := Lib.hid (show (runM E F startM).1 = c by
              have := HRUN2.out
              rw [runM_bad hpc (by rw [HDM.out]; exact h0), HDM.out] at this
              rw [← this, hc])
            rw [← hc] at h1 HST
            have HC0 := Lib.hid (show ¬ c = 0 by rw [hc]; exact h0)
            clear hc h0
            go_wp2_with fail
            go_region_law (refine step_callM rfl F0 #[.pointer (some ⟨Gb, 0, none⟩), .int .u8 (y.toNat : Int)] (by go_simp) HST.out ?_; rintro r w7 ⟨rfl, -, hB7⟩; have HB7 := Lib.hid hB7; clear hB7)
            all_goals
              (try simp only [List.getElem_toArray, List.getElem_cons_succ, List.getElem_cons_zero])
              (try go_frame)
              go_wp2_with fail
              go_ret
              rw [HD.out]
              exact ⟨rfl, fun h0 => absurd h0 HC0.out, HBV.out.trans HB7.out⟩
    · have i4 : ¬ (pc : Int) < (E.code.length : Int) := by omega
      have HD := Lib.hid (show runM E F startM = (0, ⟨pc, st, rg, op, pr⟩) by rw [← HRUN.out]; exact runM_end _ _ hpc)
      have HPC := Lib.hid (show (pc : Int) = (E.code.length : Int) by omega)
      go_wp2_with fail
      go_quiet (fail)
      go_wp2_with fail
      go_ret
      have hbd : Below wr.heap.size wr (wr.drewN nq) := Below.drewN' _ _
      rw [HD.out]
      refine ⟨rfl, fun _ => ⟨tr, HTR.out, eos, stv, opv, prv, .slice ta tr.length tc, ?_, HOP.out, HRE.out⟩, HB.out.trans (hbd.mono HM.out.size)⟩
      rw [← HPC.out]
      exact HM.out.below hbd
end
end Go.Proofs.YtndagciefnddmaaGreatDoor
namespace Go.Proofs.YtndagciefnddmaaGreatDoor
open Go.RowKit
structure Jb where
  mt : List (List UInt8)
  mc : List VI
  jt : List (List UInt8)
  jc : List VI
  tt : List (List UInt8)
  tc : List VI
  parts : Int
  fuel : Int
def checkJ (j : Jb) : Nat × Nat × Nat :=
  if (throughV j.mt j.mc 1).2.1 ≠ 0 then (1, (throughV j.mt j.mc 1).1, (throughV j.mt j.mc 1).2.1)
  else if (throughV j.jt j.jc 2).2.1 ≠ 0 then (2, (throughV j.jt j.jc 2).1, (throughV j.jt j.jc 2).2.1)
  else if (throughV j.tt j.tc 3).2.1 ≠ 0 then (3, (throughV j.tt j.tc 3).1, (throughV j.tt j.tc 3).2.1)
  else if j.parts < 1 ∨ 16 < j.parts ∨ j.fuel < 1 ∨ 65536 < j.fuel then (0, 0, 2) else (0, 0, 0)
def mayJ (j : Jb) : Bool := (checkJ j).2.2 == 0
theorem mayJ_ok {j : Jb} (h : mayJ j = true) : ((throughV j.mt j.mc 1).2.1 = 0 ∧ (throughV j.jt j.jc 2).2.1 = 0 ∧ (throughV j.tt j.tc 3).2.1 = 0) ∧ 1 ≤ j.parts ∧ j.parts ≤ 16 ∧ 1 ≤ j.fuel ∧ j.fuel ≤ 65536 := by
  unfold mayJ checkJ at h
  split at h
  · rename_i h1; exact absurd (by simpa using h) h1
  rename_i h1
  split at h
  · rename_i h2; exact absurd (by simpa using h) h2
  rename_i h2
  split at h
  · rename_i h3; exact absurd (by simpa using h) h3
  rename_i h3
  split at h
  · simp at h
  rename_i h4
  exact ⟨⟨Decidable.byContradiction h1, Decidable.byContradiction h2, Decidable.byContradiction h3⟩, by omega, by omega, by omega, by omega⟩
def askRun (texts : List (List UInt8)) (code : List VI) (role : UInt8) (ins : List (List UInt8)) (fuel : Int) : Bool :=
  (throughV texts code role).2.1 == 0 && ins.length == inputsV role && decide (0 ≤ fuel ∧ fuel ≤ 65536) && ins.all fun s => decide (s.length ≤ 1024)
def vmV (texts : List (List UInt8)) (code : List VI) (role : UInt8) (ins : List (List UInt8)) (fuel : Int) : Nat × List (List UInt8 × List UInt8) × List UInt8 :=
  if askRun texts code role ins fuel = true then ranV ⟨texts, code, ins, (throughV texts code role).2.2.ends⟩ role fuel.toNat else (2, [], [])
theorem vmV_no {texts : List (List UInt8)} {code : List VI} {role : UInt8} {ins : List (List UInt8)} {fuel : Int} (h : askRun texts code role ins fuel = false) : vmV texts code role ins fuel = (2, [], []) := by
  unfold vmV; rw [if_neg (by rw [h]; simp)]
theorem vmV_yes {texts : List (List UInt8)} {code : List VI} {role : UInt8} {ins : List (List UInt8)} {fuel : Int} (h : askRun texts code role ins fuel = true) : vmV texts code role ins fuel = ranV ⟨texts, code, ins, (throughV texts code role).2.2.ends⟩ role fuel.toNat := by
  unfold vmV; rw [if_pos h]
theorem askRun_ok {texts : List (List UInt8)} {code : List VI} {role : UInt8} {ins : List (List UInt8)} {fuel : Int} (h : askRun texts code role ins fuel = true) : (throughV texts code role).2.1 = 0 ∧ ins.length = inputsV role ∧ 0 ≤ fuel ∧ fuel ≤ 65536 ∧ ∀ s ∈ ins, s.length ≤ 1024 := by
  unfold askRun at h
  simp only [Bool.and_eq_true, beq_iff_eq, decide_eq_true_eq, List.all_eq_true] at h
  obtain ⟨⟨⟨h1, h2⟩, h3, h4⟩, h5⟩ := h
  exact ⟨h1, h2, h3, h4, h5⟩
theorem askRun_of {texts : List (List UInt8)} {code : List VI} {role : UInt8} {ins : List (List UInt8)} {fuel : Int} (h1 : (throughV texts code role).2.1 = 0) (h2 : ins.length = inputsV role) (h3 : 0 ≤ fuel) (h4 : fuel ≤ 65536) (h5 : ∀ s ∈ ins, s.length ≤ 1024) : askRun texts code role ins fuel = true := by
  unfold askRun
  simp only [Bool.and_eq_true, beq_iff_eq, decide_eq_true_eq, List.all_eq_true]
  exact ⟨⟨⟨h1, h2⟩, h3, h4⟩, h5⟩
end Go.Proofs.YtndagciefnddmaaGreatDoor
namespace Go.Proofs.YtndagciefnddmaaGreatDoor
open Go.RowKit Oct Go.WideMaps Go.Maps
attribute [local irreducible] wpG
def doesAt (w : World) : Prop := ∀ k, 1 ≤ k → k ≤ 23 → w.cell? ⟨0, k, none⟩ = some (.func (.func (doesL.getD k 0)) #[] #[])
theorem doesAt.below {w w' : World} (h : doesAt w) (hB : Below w.heap.size w w') : doesAt w' := fun k h1 h2 => Below.keeps hB (h k h1 h2)
theorem bne_t {a b : Nat} (h : a ≠ b) : ((a : Int) != (b : Int)) = true := by rw [bne_iff_ne]; omega
theorem bne_f {a b : Nat} (h : a = b) : ((a : Int) != (b : Int)) = false := by subst h; simp
theorem ends_in {texts : List (List UInt8)} {code : List VI} {role : UInt8} (h : (throughV texts code role).2.1 = 0) (hc : code.length ≤ 5000) : (throughV texts code role).2.2.ends.length = code.length ∧ ∀ j, j < code.length → 0 ≤ (throughV texts code role).2.2.ends.getD j 0 ∧ (throughV texts code role).2.2.ends.getD j 0 ≤ 5000 := by
  have hg := (goodM_of (texts := texts) (code := code) (role := role) h (ins := List.replicate (inputsV role) []) (by simp) (fun s hs => by rw [(List.mem_replicate.1 hs).2]; simp)).1
  refine ⟨ends_len hg, fun j hj => ?_⟩
  have hE : (throughV texts code role).2.2.ends = (stV texts.length (inputsV role) role code code.length).ends := hg.ends
  have hr := (hg.run (Nat.le_refl _)).inv.en j hj
  rw [hE]
  rcases hr with ⟨h0, -⟩ | ⟨-, -, h1, h2, -⟩
  · have h0 : (stV texts.length (inputsV role) role code code.length).ends.getD j 0 = 0 := h0
    omega
  · have h1 : (j : Int) < (stV texts.length (inputsV role) role code code.length).ends.getD j 0 := h1
    have h2 : (stV texts.length (inputsV role) role code code.length).ends.getD j 0 < (code.length : Int) := h2
    omega
theorem sep_start {base : Nat} {w : World} {G M : Nat} {cs : List Value} {t : TypeId} {n : Nat} {c : Int → Nat} (hG : base ≤ G) (hM : base ≤ M) (hne : G ≠ M) (hb : Blk w G t cs) (hm : mapI w M n c) :
    Sep base w [blkPt G hG t cs, ownPt recMV (.slice none 0 0) [], ownPt recEa (.slice none 0 0) [], boxPt [], ownPt recKv (.slice none 0 0) [], ownPt recJ (.slice none 0 0) [], mapPq M n c] := by
  refine ⟨fun p hp => ?_, ?_⟩
  · simp only [List.mem_cons, List.not_mem_nil, or_false] at hp
    rcases hp with rfl | rfl | rfl | rfl | rfl | rfl | rfl
    · exact hb
    · exact Rec.Own.nil _ _
    · exact Rec.Own.nil _ _
    · exact ⟨fun e he => absurd he (List.not_mem_nil), List.Pairwise.nil⟩
    · exact Rec.Own.nil _ _
    · exact Rec.Own.nil _ _
    · exact ⟨hM, hm⟩
  · have hn : ∀ {α : Type} (R : Rec α) (k : Nat), ¬ (ownPt (base := base) R (.slice none 0 0) []).fp k := fun R k hk => by cases hk
    have hx : ∀ k, ¬ (boxPt (base := base) []).fp k := fun k hk => by obtain ⟨e, he, _⟩ := hk; cases he
    refine List.Pairwise.cons (fun q hq k hk hk' => ?_) (List.Pairwise.cons (fun q _ k hk => absurd hk (hn _ k)) (List.Pairwise.cons (fun q _ k hk => absurd hk (hn _ k)) (List.Pairwise.cons (fun q _ k hk => absurd hk (hx k)) (List.Pairwise.cons (fun q _ k hk => absurd hk (hn _ k)) (List.Pairwise.cons (fun q _ k hk => absurd hk (hn _ k)) (List.pairwise_singleton _ _))))))
    simp only [List.mem_cons, List.not_mem_nil, or_false] at hq
    rcases hq with rfl | rfl | rfl | rfl | rfl | rfl
    · exact hn _ k hk'
    · exact hn _ k hk'
    · exact hx k hk'
    · exact hn _ k hk'
    · exact hn _ k hk'
    · exact hne ((show k = G from hk).symm.trans hk')
theorem askRun_false {texts : List (List UInt8)} {code : List VI} {role : UInt8} {ins : List (List UInt8)} {fuel : Int} (h : ¬ ((throughV texts code role).2.1 = 0 ∧ ins.length = inputsV role ∧ 0 ≤ fuel ∧ fuel ≤ 65536 ∧ ∀ s ∈ ins, s.length ≤ 1024)) : askRun texts code role ins fuel = false := by
  cases h2 : askRun texts code role ins fuel with
  | false => rfl
  | true => exact absurd (askRun_ok h2) h
set_option maxRecDepth 100000 in
set_option maxHeartbeats 8000000 in
theorem made_any (tv cv iv : Value) (texts : List (List UInt8)) (code : List VI) (role : UInt8) (ins : List (List UInt8)) (fuel : Int) (w : World) (hA : AskV w tv cv texts code) (hi : recS.Row w iv ins) (hil : ins.length ≤ 10) (hcl : code.length ≤ 5000)
    (his : ∀ s ∈ ins, s.length ≤ 140737488355328) (hf0 : -9223372036854775808 ≤ fuel) (hf1 : fuel ≤ 9223372036854775807) (hGl : GlobV w) (hdo : doesAt w) :
    Calls Tryz.prog 86 #[.agg #[tv, cv], .int .u8 (role.toNat : Int), iv, .int .i64 fuel] w fun e w' =>
      ((askRun texts code role ins fuel = false ∧ e = .returned (.tuple #[.pointer none, .int .i64 2])) ∨
       (askRun texts code role ins fuel = true ∧ ∃ base G M ev, e = .returned (.tuple #[.pointer (some ⟨G, 0, none⟩), .int .i64 0]) ∧ w.heap.size ≤ base ∧ MS base w' G M ⟨texts, code, ins, (throughV texts code role).2.2.ends⟩ tv cv iv ev [] 0 [] (List.replicate 8 (0, [])) [] [] ∧
          ∀ w'', Below base w' w'' → EnvV w'' ⟨texts, code, ins, (throughV texts code role).2.2.ends⟩ tv cv iv ev)) ∧ Below w.heap.size w w' := by
  obtain ⟨at_, ct, rfl, -, -⟩ := recS_open hA.t
  obtain ⟨ac, cc, rfl, -, -⟩ := recIns_open hA.c
  obtain ⟨ai, ci, rfl, -, -⟩ := recS_open hi
  have HEN := Lib.hid (fun w' (hB : Below w.heap.size w w') => Ends_any _ _ texts code role w' (hA.below hB))
  have HI := Lib.hid hi
  have HA := Lib.hid hA
  have HG := Lib.hid hGl
  have HD := Lib.hid hdo
  have HIS := Lib.hid his
  obtain ⟨W1, hW1⟩ : ∃ W1, W1 = w.alloc (.cells #[.slice at_ texts.length ct, .slice ac code.length cc] 25) := ⟨_, rfl⟩
  have hb1 : Below w.heap.size w W1 := by rw [hW1]; exact b_alloc _ _
  have hx : Blk W1 w.heap.size 25 [.slice at_ texts.length ct, .slice ac code.length cc] := by rw [hW1]; exact Blk.new w _ _
  have x0 := hx.cell (k := 0) rfl
  have x1 := hx.cell (k := 1) rfl
  have HB1 := Lib.hid hb1
  have HX := Lib.hid hx
  obtain ⟨B4, hB4⟩ : ∃ B4, B4 = w.heap.size := ⟨_, rfl⟩
  clear hA hi hGl hdo his hb1 hx
  go_enter Tryz.func86, Tryz.ntmps86
  go_upto_region 1 with fail
  rw [← hW1, ← hB4]
  rw [← hB4] at x0 x1
  have HB4 := Lib.hid hB4
  clear hW1 hB4
  go_upto_if 25 with (go_at_call 113; refine (HEN.out _ HB1.out).mono ?_; rintro e w2 ⟨⟨ev, rfl, hev⟩, hB2⟩)
  obtain ⟨e0, he0⟩ : ∃ e0, e0 = (throughV texts code role).2.1 := ⟨_, rfl⟩
  have HE0 := Lib.hid he0
  rw [← he0] at hev ⊢
  have HJ := Lib.hid hev
  have HB2 := Lib.hid hB2
  obtain ⟨N, hN⟩ : ∃ N, N = inputsV role := ⟨_, rfl⟩
  have HN := Lib.hid hN
  clear hev hB2 he0 hN
  go_cut [12] (fun t wx => t = .int .i64 (N : Int) ∧ wx = w2)
  case first =>
    by_cases hr : role = 1
    · have t1 : ((role.toNat : Int) == 1) = true := by rw [hr]; rfl
      have HN2 := Lib.hid (show N = 1 by rw [HN.out, hr]; rfl)
      clear hr
      go_wp2_with fail
      go_meet
      case rel => exact ⟨by rw [HN2.out]; rfl, rfl⟩
    · have t1 : ((role.toNat : Int) == 1) = false := by
        rw [beq_eq_false_iff_ne]
        intro h
        exact hr (UInt8.toNat_inj.1 (by show role.toNat = 1; omega))
      have HN2 := Lib.hid (show N = 2 by rw [HN.out]; unfold inputsV; rw [if_neg hr])
      clear hr
      go_wp2_with fail
      go_meet
      case rel => exact ⟨by rw [HN2.out]; rfl, rfl⟩
  case rest =>
    obtain ⟨rfl, rfl⟩ := hcut
    have hb2 := Lib.hid (bt HB1.out HB2.out)
    by_cases k1 : e0 = 0
    · have t1 : ((e0 : Int) != 0) = false := by rw [k1]; rfl
      by_cases k2 : ins.length = N
      · have t2 : ((ins.length : Int) != (N : Int)) = false := bne_f k2
        by_cases k3 : fuel < 0
        · have HF := Lib.hid (askRun_false (texts := texts) (code := code) (role := role) (ins := ins) (fuel := fuel) (fun h => by omega))
          clear k1 k2
          go_wp2_with fail
          go_ret2
          exact ⟨.inl ⟨HF.out, rfl⟩, hb2.out⟩
        · by_cases k4 : 65536 < fuel
          · have HF := Lib.hid (askRun_false (texts := texts) (code := code) (role := role) (ins := ins) (fuel := fuel) (fun h => by omega))
            clear k1 k2
            go_wp2_with fail
            go_ret2
            exact ⟨.inl ⟨HF.out, rfl⟩, hb2.out⟩
          · have K1 := Lib.hid k1
            have K2 := Lib.hid k2
            have K3 := Lib.hid k3
            have K4 := Lib.hid k4
            have hJ2 := HJ.out
            rw [if_pos k1] at hJ2
            obtain ⟨ends, hends⟩ : ∃ x, x = (throughV texts code role).2.2.ends := ⟨_, rfl⟩
            rw [← hends] at hJ2
            obtain ⟨hel, hein⟩ := ends_in (texts := texts) (code := code) (role := role) (by rw [← HE0.out]; exact k1) hcl
            rw [← hends] at hel hein
            have HIN := Lib.hid hein
            obtain ⟨ae, ce, rfl, hec⟩ := recJ_openM hJ2
            rw [hel] at hJ2 ⊢
            have HJ2 := Lib.hid hJ2
            have HEC := Lib.hid hec
            have HEL := Lib.hid hel
            have HEN2 := Lib.hid hends
            clear hJ2 hec hel hends hein
            have j1 : (ins.length : Int) ≤ 10 := by omega
            clear k1 k2
            go_wp2_with fail
            go_loopw [44] (fun t wr => ∃ k : Nat, k ≤ ins.length ∧ t = .int .i64 k ∧ wr = wc ∧ Hid (∀ j (hj : j < ins.length), j < k → ins[j].length ≤ 1024)) (fun t _ => ins.length - (intOf t).toNat)
            case atStart => exact ⟨0, by omega, rfl, rfl, fun j _ h => by omega⟩
            case round =>
              obtain ⟨k, hk, rfl, rfl, HH⟩ := hrel
              by_cases h0 : k < ins.length
              · obtain ⟨ai', ci', hiv, -, hic⟩ := recS_open (HI.out.below hb2.out)
                obtain ⟨b, off, rfl, d0⟩ := hic k h0
                injection hiv with e1 e2 e3
                subst e1 e3
                have i0 : (0 : Int) ≤ (k : Int) := by omega
                have i1 : (k : Int) < (ins.length : Int) := by omega
                have hsl := HIS.out _ (List.getElem_mem h0)
                obtain ⟨s, hs⟩ : ∃ s, s = ins[k] := ⟨_, rfl⟩
                rw [← hs] at d0 hsl
                have HS := Lib.hid hs
                have hsl' : (s.length : Int) ≤ 140737488355328 := by omega
                clear hic hs
                by_cases hl : 1024 < s.length
                · have t5 : (1024 : Int) < (s.length : Int) := by omega
                  have HF := Lib.hid (askRun_false (texts := texts) (code := code) (role := role) (ins := ins) (fuel := fuel) (fun h => by have := h.2.2.2.2 _ (List.getElem_mem h0); rw [← HS.out] at this; omega))
                  go_wp2_with fail
                  go_ret2
                  exact ⟨.inl ⟨HF.out, rfl⟩, hb2.out⟩
                · have t5 : ¬ (1024 : Int) < (s.length : Int) := by omega
                  have HL := Lib.hid hl
                  clear hl
                  go_wp2_with fail
                  go_roundw
                  case rel => exact ⟨k + 1, by omega, by go_num, by trivial, fun j hj hjk => by
                    by_cases hjk2 : j < k
                    · exact HH.out j hj hjk2
                    · obtain rfl : j = k := by omega
                      rw [← HS.out]; have := HL.out; omega⟩
                  case measure => simp [intOf]; omega
              · obtain ⟨V, hV⟩ : ∃ V, V = wr := ⟨_, rfl⟩
                subst hV
                have HAL := Lib.hid (fun s (hs : s ∈ ins) => show s.length ≤ 1024 by
                  obtain ⟨j, hj, rfl⟩ := List.getElem_of_mem hs
                  exact HH.out j hj (by omega))
                have HF := Lib.hid (askRun_of (texts := texts) (code := code) (role := role) (ins := ins) (fuel := fuel) (by rw [← HE0.out]; exact K1.out) (by rw [← HN.out]; exact K2.out) (by have := K3.out; omega) (by have := K4.out; omega) HAL.out)
                have i1 : ¬ (k : Int) < (ins.length : Int) := by omega
                have x0 := Below.keeps (bt HB2.out (Below.refl _ _)) x0
                have x1 := Below.keeps (bt HB2.out (Below.refl _ _)) x1
                have hmm := @run_makeMap Tryz.prog
                go_upto_region 14 with fail
                obtain ⟨M, hMq⟩ : ∃ M, M = V.heap.size := ⟨_, rfl⟩
                obtain ⟨cs, hcs⟩ : ∃ cs : List Value, cs = [.slice at_ texts.length ct, .slice ac code.length cc, .slice ai ins.length ci, .slice ae code.length ce, .map (some V.heap.size), .int .i64 0, .slice none 0 0, .int .i64 0, .string ⟨#[]⟩, .int .i64 0, .string ⟨#[]⟩, .int .i64 0, .string ⟨#[]⟩, .int .i64 0, .string ⟨#[]⟩, .int .i64 0, .string ⟨#[]⟩, .int .i64 0, .string ⟨#[]⟩, .int .i64 0, .string ⟨#[]⟩, .int .i64 0, .string ⟨#[]⟩, .slice none 0 0, .slice none 0 0, .string ⟨#[]⟩, .int .i64 0, .slice none 0 0] := ⟨_, rfl⟩
                obtain ⟨W3, hW3⟩ : ∃ W3, W3 = (V.alloc (.map #[] 0)).alloc (.cells cs.toArray 160) := ⟨_, rfl⟩
                have hm0 : mapI (V.alloc (.map #[] 0)) M 0 (cntEnd code ends 0) := by rw [hMq]; exact ⟨_, World.ownsMap_made _ _ _ _, fun i => rfl⟩
                have hm3 : mapI W3 M 0 (cntEnd code ends 0) := hm0.block (by rw [hW3]; exact Below.heap_alloc _ _ _ hm0.lt)
                have hsz : (V.alloc (.map #[] 0)).heap.size = M + 1 := by rw [hMq]; exact size_alV _ _
                have hG3 : Blk W3 (M + 1) 160 cs := by rw [hW3, ← hsz]; exact Blk.new _ _ _
                have hb3 : Below V.heap.size V W3 := by rw [hW3]; exact bt (b_alloc _ _) (b_alloc _ _)
                have hcm : cs = mCells ⟨.slice at_ texts.length ct, .slice ac code.length cc, .slice ai ins.length ci, .slice ae code.length ce, .map (some M), [], 0⟩ 0 (.slice none 0 0) (List.replicate 8 (0, [])) (.slice none 0 0) (.slice none 0 0) [] 0 (.slice none 0 0) := by rw [hcs, hMq]; rfl
                have hg3 : (((V.alloc (.map #[] 0)).alloc (.cells #[.slice at_ texts.length ct, .slice ac code.length cc, .slice ai ins.length ci, .slice ae code.length ce, .map (some V.heap.size), .int .i64 0, .slice none 0 0, .int .i64 0, .string ⟨#[]⟩, .int .i64 0, .string ⟨#[]⟩, .int .i64 0, .string ⟨#[]⟩, .int .i64 0, .string ⟨#[]⟩, .int .i64 0, .string ⟨#[]⟩, .int .i64 0, .string ⟨#[]⟩, .int .i64 0, .string ⟨#[]⟩, .int .i64 0, .string ⟨#[]⟩, .slice none 0 0, .slice none 0 0, .string ⟨#[]⟩, .int .i64 0, .slice none 0 0] 160))) = W3 := by rw [hW3, hcs]
                rw [hg3]
                have HM3 := Lib.hid hm3
                have HG3 := Lib.hid hG3
                have HB3 := Lib.hid hb3
                have HCM := Lib.hid hcm
                rw [← hMq]
                have HMQ := Lib.hid hMq
                have x1' := Below.keeps HB3.out x1
                have j5 : (code.length : Int) ≤ 5000 := by omega
                clear hm0 hm3 hsz hG3 hb3 hcm hg3 hW3 hcs hMq x0 x1
                go_wp2_with fail
                go_loopw [61] (fun t wr => ∃ k : Nat, k ≤ code.length ∧ t = .int .i64 k ∧ Hid (mapI wr M k (cntEnd code ends k)) ∧ Hid (Chg (fun b => b = M) W3 wr)) (fun t _ => code.length - (intOf t).toNat)
                case atStart => exact ⟨0, by omega, rfl, HM3.out, Chg.refl _ _⟩
                case round =>
                  obtain ⟨q, hq, rfl, HMU, HCU⟩ := hrel
                  have hBU : Below M W3 wr := HCU.out.below (fun k hk => by rw [show k = M from hk]; exact Nat.le_refl _) (by have := HB3.out.size; rw [← HMQ.out] at this; exact this)
                  have hBw : Below w.heap.size w wr := (bt hb2.out HB3.out).trans (hBU.mono (by rw [HMQ.out]; exact hb2.out.size))
                  have HBU := Lib.hid hBU
                  have HBW := Lib.hid hBw
                  clear hBU hBw
                  by_cases h1 : q < code.length
                  · obtain ⟨ac', cc', hcv, -, hcc⟩ := recIns_open (HA.out.c.below HBW.out)
                    obtain ⟨b, off, rfl, d0, d1⟩ := hcc q h1
                    injection hcv with e1 e2 e3
                    subst e1 e3
                    have i0 : (0 : Int) ≤ (q : Int) := by omega
                    have i1 : (q : Int) < (code.length : Int) := by omega
                    have hgd : code.getD q (0, 0) = code[q] := by rw [List.getD_eq_getElem?_getD, List.getElem?_eq_getElem h1]; rfl
                    have HSU := Lib.hid (fun i => cntEnd_succ code ends q i)
                    obtain ⟨op, hop⟩ : ∃ op, op = code[q].1 := ⟨_, rfl⟩
                    obtain ⟨y, hy⟩ : ∃ y, y = code[q].2 := ⟨_, rfl⟩
                    rw [← hop] at d0
                    rw [← hy] at d1
                    rw [hgd, ← hop] at HSU
                    have hbl : b < wr.heap.size := lt_of_cell d0
                    clear hcc hgd hop hy
                    by_cases h22 : op = 22
                    · have t5 : ((op.toNat : Int) == 22) = true := by rw [h22]; rfl
                      have H22 := Lib.hid h22
                      clear h22
                      go_upto_region 18 with fail
                      obtain ⟨U, hU⟩ : ∃ U, U = wr.alloc (.cells #[.int .u8 (op.toNat : Int), .int .u8 (y.toNat : Int)] 92) := ⟨_, rfl⟩
                      have hbU : Below wr.heap.size wr U := by rw [hU]; exact b_alloc _ _
                      rw [← hU]
                      have hBV : Below V.heap.size V wr := HB3.out.trans (by rw [← HMQ.out]; exact HBU.out)
                      have g0 := (HG3.out.chg HCU.out (by omega)).cell (k := 4) (v := .map (some M)) (by rw [HCM.out]; rfl)
                      have g0 := Below.keeps hbU g0
                      have hqe : q < ends.length := by rw [HEL.out]; exact h1
                      obtain ⟨be, oe, rfl, g1⟩ := HEC.out q hqe
                      have g1 := Below.keeps (bt hBV hbU) g1
                      have hge : ends.getD q 0 = ends[q] := by rw [List.getD_eq_getElem?_getD, List.getElem?_eq_getElem hqe]; rfl
                      have hein := HIN.out q h1
                      obtain ⟨v, hv⟩ : ∃ v, v = ends[q] := ⟨_, rfl⟩
                      rw [← hv] at g1 hge
                      rw [hge] at HSU hein
                      have hmU := HMU.out.block (hbU.block M HMU.out.lt)
                      have hcl2 := cntEnd_le code ends q v
                      obtain ⟨c, hc⟩ : ∃ c, c = cntEnd code ends q v := ⟨_, rfl⟩
                      rw [← hc] at hcl2
                      have HC := Lib.hid hc
                      have hlk : ∀ w', Below U.heap.size U w' → (Instr.lookup 153 (.map (some M)) (.int .i64 v) false).run Tryz.prog w' = .ok (.int .i64 (c : Int)) w' := fun w' hB => by
                        have := (hmU.block (hB.block M hmU.lt)).look (i := v) (by omega) (by omega)
                        rw [HC.out]
                        exact this
                      have HLK := Lib.hid hlk
                      have HMU2 := Lib.hid hmU
                      have HBU2 := Lib.hid hbU
                      have h2a : (c : Int) ≤ 5000 := by omega
                      clear hv hge hc hlk hmU hBV hbU hU
                      refine region_tail 10 [(3, .exact Bel (.map (some M))), (7, .exact Bel (.int .i64 v)), (8, .exact Bel (.int .i64 (c : Int)))] (by kernel_rfl) (by kernel_rfl) ?_
                      simp only [List.take_succ_cons, List.take_zero, List.drop_succ_cons, List.drop_zero]
                      (repeat (first | (refine wpG_skip (by kernel_rfl) (fun K hK => ?_); go_big_quiet_skip; refine wpQuiet_nil (hK _ ?_); clear hK K) | (refine wpG_quiet (by rfl) (by rfl) (fun K hK => ?_); go_big_quiet_want; go_big_quiet_op; go_big_quiet_on; refine wpQuiet_nil (hK _ ?_); clear hK K) | (refine wpG_nilOk rfl rfl rfl (by kernel_rfl) (fun K hK => ?_); go_simp; refine hK _ ?_; clear hK K)))
                      refine wpG_exact rfl (by kernel_rfl) (fun w' G hB hS hG => ?_) (fun K hK => ?_)
                      · have cc := Below.keeps hB g0
                        go_simp
                        exact hG _ (Bel.refl _)
                      go_simp; refine hK _ ?_; clear hK K; (repeat (first | (refine wpG_skip (by kernel_rfl) (fun K hK => ?_); go_big_quiet_skip; refine wpQuiet_nil (hK _ ?_); clear hK K) | (refine wpG_quiet (by rfl) (by rfl) (fun K hK => ?_); go_big_quiet_want; go_big_quiet_op; go_big_quiet_on; refine wpQuiet_nil (hK _ ?_); clear hK K) | (refine wpG_nilOk rfl rfl rfl (by kernel_rfl) (fun K hK => ?_); go_simp; refine hK _ ?_; clear hK K)))
                      refine wpG_exact rfl (by kernel_rfl) (fun w' G hB hS hG => ?_) (fun K hK => ?_)
                      · have cc := Below.keeps hB g1
                        go_simp
                        exact hG _ (Bel.refl _)
                      go_simp; refine hK _ ?_; clear hK K; (repeat (first | (refine wpG_skip (by kernel_rfl) (fun K hK => ?_); go_big_quiet_skip; refine wpQuiet_nil (hK _ ?_); clear hK K) | (refine wpG_quiet (by rfl) (by rfl) (fun K hK => ?_); go_big_quiet_want; go_big_quiet_op; go_big_quiet_on; refine wpQuiet_nil (hK _ ?_); clear hK K) | (refine wpG_nilOk rfl rfl rfl (by kernel_rfl) (fun K hK => ?_); go_simp; refine hK _ ?_; clear hK K)))
                      refine wpG_exact rfl (by kernel_rfl) (fun w' G hB hS hG => ?_) (fun K hK => ?_)
                      · have cc := HLK.out _ hB
                        go_simp
                        exact hG _ (Bel.refl _)
                      go_simp; refine hK _ ?_; clear hK K; (repeat (first | (refine wpG_skip (by kernel_rfl) (fun K hK => ?_); go_big_quiet_skip; refine wpQuiet_nil (hK _ ?_); clear hK K) | (refine wpG_quiet (by rfl) (by rfl) (fun K hK => ?_); go_big_quiet_want; go_big_quiet_op; go_big_quiet_on; refine wpQuiet_nil (hK _ ?_); clear hK K) | (refine wpG_nilOk rfl rfl rfl (by kernel_rfl) (fun K hK => ?_); go_simp; refine hK _ ?_; clear hK K)))
                      refine wpG_nilM7 ?_
                      (intro w' hB hA; simp only [Facts.all_some, Facts.all_none, and_true] at hA)
                      have hown := HMU2.out.block (hB.block M HMU2.out.lt)
                      obtain ⟨D, hown, hat⟩ := hown
                      have HAT := Lib.hid hat
                      have hkey := keyI (n := v) (by omega) (by omega)
                      have hkm : q < maxLen := by unfold maxLen; omega
                      have HBF := Lib.hid (bt HBU2.out hB)
                      clear hat hB hA
                      go_wp2_with (at_mapUpdate; refine wpList_mapUpdate_own _ rfl _ _ _ 153 rfl 3 3 lawI Tryz.underlying153 _ M q _ rfl hown hkm _ _ _ rfl rfl hkey _ [] (plainElem_int Tryz.underlying3 (WalkArith.wf_i64 (by omega))) ?_; intro w1 hown1 hgrow1)
                      refine ⟨⟨q + 1, by omega, by go_num, ⟨_, hown1, fun i => ?_⟩, (HCU.out.trans (Chg.of_below HBF.out)).trans ⟨hgrow1.os, hgrow1.tape, hgrow1.output, hgrow1.size, fun b hb hn => hgrow1.block b hb (fun e => hn (Option.some.inj e))⟩⟩, by simp [intOf]; omega⟩
                      rw [HSU.out i]
                      by_cases hvi : v = i
                      · subst hvi
                        rw [if_pos ⟨H22.out, rfl⟩, atKey_put_same hown.isMap (by trivial), ← HC.out]
                        rfl
                      · rw [if_neg (fun h => hvi h.2), atKey_put_other (by intro e; injection e with _ e; exact hvi e.symm), HAT.out i]
                        rfl
                    · have t5 : ((op.toNat : Int) == 22) = false := by
                        rw [beq_eq_false_iff_ne]
                        intro h
                        exact h22 (UInt8.toNat_inj.1 (by show op.toNat = 22; omega))
                      have HFN := Lib.hid (funext fun i => by rw [HSU.out i, if_neg (fun h => h22 h.1)]; rfl : cntEnd code ends (q + 1) = cntEnd code ends q)
                      clear h22
                      have hba := b_alloc wr (.cells #[.int .u8 (op.toNat : Int), .int .u8 (y.toNat : Int)] 92)
                      have HBA := Lib.hid hba
                      clear hba
                      go_wp2_with fail
                      exact ⟨⟨q + 1, by omega, by go_num, by rw [HFN.out]; exact (HMU.out.block (HBA.out.block M HMU.out.lt)).mono (Nat.le_succ _), HCU.out.trans (Chg.of_below HBA.out)⟩, by simp [intOf]; omega⟩
                  · obtain rfl : q = code.length := by omega
                    go_wp2_with fail
                    go_ret2
                    refine ⟨.inr ⟨by rw [← HE0.out] at *; exact HF.out, M, M + 1, M, .slice ae code.length ce, rfl, by rw [HMQ.out]; exact hb2.out.size, ?_, ?_⟩, HBW.out⟩
                    · rw [← HEN2.out]
                      refine ⟨[], _, _, _, _, ⟨Nat.le_succ _, rfl, sep_start (t := 160) (n := code.length) (c := cntEnd code ends code.length) (Nat.le_succ _) (Nat.le_refl _) (by omega) (by rw [← HCM.out]; exact HG3.out.chg HCU.out (by omega)) HMU.out⟩, rfl, fun e he => absurd he (List.not_mem_nil)⟩
                    · intro w'' hB
                      have hb9 : Below w.heap.size w w'' := HBW.out.trans (hB.mono (by rw [HMQ.out]; exact hb2.out.size))
                      have hbM : Below V.heap.size V w'' := (HB3.out.trans (by rw [← HMQ.out]; exact HBU.out)).trans (by rw [← HMQ.out]; exact hB)
                      rw [← HEN2.out]
                      exact ⟨HA.out.t.below hb9, HA.out.c.below hb9, HI.out.below hb9, HJ2.out.below hbM, HG.out.below hb9, HD.out.below hb9⟩
      · have t2 : ((ins.length : Int) != (N : Int)) = true := bne_t k2
        have HF := Lib.hid (askRun_false (texts := texts) (code := code) (role := role) (ins := ins) (fuel := fuel) (fun h => k2 (by rw [HN.out]; exact h.2.1)))
        clear k1 k2
        go_wp2_with fail
        go_ret2
        exact ⟨.inl ⟨HF.out, rfl⟩, hb2.out⟩
    · have t1 : ((e0 : Int) != 0) = true := by rw [bne_iff_ne]; omega
      have HF := Lib.hid (askRun_false (texts := texts) (code := code) (role := role) (ins := ins) (fuel := fuel) (fun h => k1 (by rw [HE0.out]; exact h.1)))
      clear k1
      go_wp2_with fail
      go_ret2
      exact ⟨.inl ⟨HF.out, rfl⟩, hb2.out⟩
end Go.Proofs.YtndagciefnddmaaGreatDoor
namespace Go.Proofs.YtndagciefnddmaaGreatDoor
open Go.RowKit Oct
attribute [local irreducible] wpG
theorem Rec.Own.freeR {α : Type} {R : Rec α} {w : World} {base g n c : Nat} {l : List α} (h : R.Own w base (.slice (some ⟨g, 0, none⟩) n c) l) {k : Nat} (hk : k < l.length * R.n) : (∃ v, w.cell? ⟨g, k, none⟩ = some v) ∧ w.frozen? ⟨g, k, none⟩ = false := by
  obtain ⟨_, h2⟩ := h
  rcases h2 with ⟨hv, _⟩ | ⟨g', cap, cur, hv, hb, hh, r1, r2, r3, r4⟩
  · cases hv
  · obtain ⟨rfl, rfl, rfl⟩ : g = g' ∧ n = l.length ∧ c = cap := by simpa using hv
    have hlt : k < cur.size := by
      rw [r3]
      exact Nat.lt_of_lt_of_le hk (Nat.mul_le_mul_right _ r1)
    exact ⟨⟨cur[k], by simp [World.cell?, hh, hlt]⟩, by simp [World.frozen?, hh]⟩
section
variable {w : World} {base G : Nat} {tv cv bv sv ev : Value} {role : UInt8} {s : Vs} {n : Nat}
set_option maxRecDepth 100000 in
set_option maxHeartbeats 16000000 in
theorem rEnds_any (i : Nat) (x : VI) (h : RG w base G tv cv role s bv sv ev) (hI : InvV n s) (hi : i ≤ 1000) (hwd : ∀ b ∈ s.blocks, b.did = false → b.want = b.opn) (hne : x.1 = 20 ∨ x.1 = 21 → s.blocks ≠ []) :
    Calls Tryz.prog 93 #[.pointer (some ⟨G, 0, none⟩), .int .i64 (i : Int), .agg #[.int .u8 (x.1.toNat : Int), .int .u8 (x.2.toNat : Int)]] w fun e w' => e = .returned (.int .i64 ((turnsV i x s).1 : Int)) ∧ ((turnsV i x s).1 = 0 → ∃ bv', RG w' base G tv cv role (turnsV i x s).2 bv' sv ev) ∧ Below base w w' := by
  obtain ⟨p, a⟩ := x
  have hGb := Nat.le_trans h.gb (Nat.le_of_lt h.blk.lt)
  have hGw := h.blk.lt
  have hl : s.blocks.length ≤ 1000 := Nat.le_trans hI.bl (by decide)
  have hkl := hI.kl
  have hIb := hI.bs
  have hIe := hI.el
  have hbl := hI.bl
  obtain ⟨⟨ab, cb, rfl⟩, _, ⟨ae, ce, rfl⟩⟩ := h.slices
  obtain ⟨W1, hW1⟩ : ∃ W1, W1 = w.alloc (.cells #[.int .u8 (p.toNat : Int), .int .u8 (a.toNat : Int)] 92) := ⟨_, rfl⟩
  have hb1 : Below w.heap.size w W1 := by rw [hW1]; exact b_alloc _ _
  have hx : Blk W1 w.heap.size 92 [.int .u8 (p.toNat : Int), .int .u8 (a.toNat : Int)] := by rw [hW1]; exact Blk.new w _ _
  have HB1 := Lib.hid hb1
  have HX := Lib.hid hx
  have HH := Lib.hid h
  have HLST := Lib.hid (fun w' (hB : Below w.heap.size w w') => rLast_any (h.below hB) hl)
  have i0 : (0 : Int) ≤ (i : Int) := by omega
  have l1 : (s.blocks.length : Int) ≤ 8 := by omega
  have k16 : (s.kinds.length : Int) ≤ 16 := by omega
  obtain ⟨q, hq⟩ : ∃ q, q = lastR s.blocks := ⟨_, rfl⟩
  obtain ⟨is_, his⟩ : ∃ is_, is_ = s.blocks.getLast?.isSome := ⟨_, rfl⟩
  have HIS := Lib.hid his
  have HQ := Lib.hid hq
  have HLQ := Lib.hid (show rbV (s.blocks.getLast?.getD noVb) = .agg #[.int .u8 (q.op.toNat : Int), .string (bs q.opn), .string (bs (keptR q)), .bool q.did, .int .i64 (q.at_ : Int)] by rw [hq]; rfl)
  have HWD := Lib.hid hwd
  have HNE := Lib.hid hne
  have HIB := Lib.hid hIb
  clear h hb1 hx hq his hwd hne hIb hI
  go_enter Tryz.func93, Tryz.ntmps93
  go_upto_region 1 with fail
  rw [← hW1]
  clear hW1
  go_upto_region 2 with (go_at_call 115; refine (HLST.out _ HB1.out).mono ?_; rintro e w2 ⟨rfl, hB2⟩; rw [HLQ.out, ← HIS.out]; have HB2 := Lib.hid (bt HB1.out hB2); have HX2 := Lib.hid (HX.out.below hB2); clear hB2)
  obtain ⟨W3, hW3⟩ : ∃ W3, W3 = w2.alloc (.cells #[.int .u8 (q.op.toNat : Int), .string (bs q.opn), .string (bs (keptR q)), .bool q.did, .int .i64 (q.at_ : Int)] 206) := ⟨_, rfl⟩
  have hb23 : Below w2.heap.size w2 W3 := by rw [hW3]; exact b_alloc _ _
  have hy : Blk W3 w2.heap.size 206 [.int .u8 (q.op.toNat : Int), .string (bs q.opn), .string (bs (keptR q)), .bool q.did, .int .i64 (q.at_ : Int)] := by rw [hW3]; exact Blk.new w2 _ _
  rw [← hW3]
  have hb3 := bt HB2.out hb23
  have h3 := HH.out.below hb3
  have hx3 := HX2.out.below hb23
  have x0 := hx3.cell (k := 0) rfl
  obtain ⟨C, hC⟩ : ∃ C, C = w2.heap.size := ⟨_, rfl⟩
  have hCw : w.heap.size ≤ C := by rw [hC]; exact HB2.out.size
  have hCx : C ≠ w.heap.size := by
    have := lt_of_cell (HX2.out.cell (k := 0) rfl)
    have h' : w.heap.size < w2.heap.size := this
    omega
  rw [← hC] at hy ⊢
  have HY3 := Lib.hid hy
  have HX3 := Lib.hid hx3
  have H3 := Lib.hid h3
  have HB3 := Lib.hid hb3
  have hG3 : w.heap.size ≤ W3.heap.size := hb3.size
  clear hW3 hy hb23 hb3 h3 hx3 HB2 HX2 hC
  by_cases h19 : p = 19
  · have u19 : ((p.toNat : Int) == 19) = true := by rw [h19]; rfl
    have HV := Lib.hid (show turnsV i (p, a) s = (0, { s with blocks := s.blocks ++ [⟨19, s.kinds, s.kinds, i, false⟩] }) by unfold turnsV; simp [h19])
    have c3 := H3.out.cell (k := 3) rfl
    have c4 := H3.out.cell (k := 4) rfl
    obtain ⟨nb, hnb⟩ : ∃ nb : Vb, nb = ⟨p, s.kinds, s.kinds, i, false⟩ := ⟨_, rfl⟩
    have HNB := Lib.hid hnb
    have hc : (recRb.cell nb) = [.int .u8 (p.toNat : Int), .string (bs s.kinds), .string ⟨#[]⟩, .bool false, .int .i64 (i : Int)] := by rw [hnb]; rfl
    have HC := Lib.hid hc
    have HSH := Lib.hid H3.out.ob
    have HP := Lib.hid h19
    clear hnb hc h19
    go_upto_region 5 with fail
    refine region_relA recRb s.blocks nb 18 [(4, .exact _ (.slice ab s.blocks.length cb)), (5, kOwnA recRb W3.heap.size s.blocks nb), (7, .exact _ (.int .u8 (p.toNat : Int))), (11, .exact _ (.string (bs s.kinds))), (14, kOneA recRb W3.heap.size s.blocks nb), (15, kOwnB recRb W3.heap.size s.blocks nb)] (by kernel_rfl) (by kernel_rfl) ?_
    simp only [List.take_succ_cons, List.take_zero, List.drop_succ_cons, List.drop_zero]
    (repeat (first | (refine wpG_skip (by kernel_rfl) (fun K hK => ?_); go_big_quiet_skip; refine wpQuiet_nil (hK _ ?_); clear hK K) | (refine wpG_quiet (by rfl) (by rfl) (fun K hK => ?_); go_big_quiet_want; go_big_quiet_op; go_big_quiet_on; refine wpQuiet_nil (hK _ ?_); clear hK K) | (refine wpG_nilOk rfl rfl rfl (by kernel_rfl) (fun K hK => ?_); go_simp; refine hK _ ?_; clear hK K)))
    refine wpG_exact rfl (by kernel_rfl) (fun w' G hB hS hG => ?_) (fun K hK => ?_)
    · have y := Below.keeps hB c4
      go_simp; exact hG _ (RelA.refl _)
    go_simp; refine hK _ ?_; clear hK K; (repeat (first | (refine wpG_skip (by kernel_rfl) (fun K hK => ?_); go_big_quiet_skip; refine wpQuiet_nil (hK _ ?_); clear hK K) | (refine wpG_quiet (by rfl) (by rfl) (fun K hK => ?_); go_big_quiet_want; go_big_quiet_op; go_big_quiet_on; refine wpQuiet_nil (hK _ ?_); clear hK K) | (refine wpG_nilOk rfl rfl rfl (by kernel_rfl) (fun K hK => ?_); go_simp; refine hK _ ?_; clear hK K)))
    refine wpG_known (kOwnA recRb W3.heap.size s.blocks nb) rfl (by kernel_rfl) (fun w' G hB hS hG => ?_) (fun x K hK => ?_)
    · refine recRb.grow_copy _ _ 162 rfl Tryz.underlying162 W3.heap.size rfl _ s.blocks (HSH.out.below hB).row rfl (by show s.blocks.length * 56 ≤ _; omega) hB.size (fun A C w'' ho hb => hG (A, C) w'' (RelA.of_bel hB.size hb) (fun φ h => by cases h; exact ho))
    obtain ⟨ad, c⟩ := x; go_simp; refine hK _ ?_; clear hK K; (repeat (first | (refine wpG_skip (by kernel_rfl) (fun K hK => ?_); go_big_quiet_skip; refine wpQuiet_nil (hK _ ?_); clear hK K) | (refine wpG_quiet (by rfl) (by rfl) (fun K hK => ?_); go_big_quiet_want; go_big_quiet_op; go_big_quiet_on; refine wpQuiet_nil (hK _ ?_); clear hK K) | (refine wpG_nilOk rfl rfl rfl (by kernel_rfl) (fun K hK => ?_); go_simp; refine hK _ ?_; clear hK K)))
    refine wpG_exact rfl (by kernel_rfl) (fun w' G hB hS hG => ?_) (fun K hK => ?_)
    · have y := Below.keeps hB x0
      go_simp; exact hG _ (RelA.refl _)
    go_simp; refine hK _ ?_; clear hK K; (repeat (first | (refine wpG_skip (by kernel_rfl) (fun K hK => ?_); go_big_quiet_skip; refine wpQuiet_nil (hK _ ?_); clear hK K) | (refine wpG_quiet (by rfl) (by rfl) (fun K hK => ?_); go_big_quiet_want; go_big_quiet_op; go_big_quiet_on; refine wpQuiet_nil (hK _ ?_); clear hK K) | (refine wpG_nilOk rfl rfl rfl (by kernel_rfl) (fun K hK => ?_); go_simp; refine hK _ ?_; clear hK K)))
    refine wpG_exact rfl (by kernel_rfl) (fun w' G hB hS hG => ?_) (fun K hK => ?_)
    · have y := Below.keeps hB c3
      go_simp; exact hG _ (RelA.refl _)
    go_simp; refine hK _ ?_; clear hK K; (repeat (first | (refine wpG_skip (by kernel_rfl) (fun K hK => ?_); go_big_quiet_skip; refine wpQuiet_nil (hK _ ?_); clear hK K) | (refine wpG_quiet (by rfl) (by rfl) (fun K hK => ?_); go_big_quiet_want; go_big_quiet_op; go_big_quiet_on; refine wpQuiet_nil (hK _ ?_); clear hK K) | (refine wpG_nilOk rfl rfl rfl (by kernel_rfl) (fun K hK => ?_); go_simp; refine hK _ ?_; clear hK K)))
    refine wpG_known (kOneA recRb W3.heap.size s.blocks nb) rfl (by kernel_rfl) (fun w' G hB hS hG => ?_) (fun (bb : Nat) K hK => ?_)
    · go_simp; exact one_newA hG (by rw [HC.out]) hB.size
    go_simp; refine hK _ ?_; clear hK K; (repeat (first | (refine wpG_skip (by kernel_rfl) (fun K hK => ?_); go_big_quiet_skip; refine wpQuiet_nil (hK _ ?_); clear hK K) | (refine wpG_quiet (by rfl) (by rfl) (fun K hK => ?_); go_big_quiet_want; go_big_quiet_op; go_big_quiet_on; refine wpQuiet_nil (hK _ ?_); clear hK K) | (refine wpG_nilOk rfl rfl rfl (by kernel_rfl) (fun K hK => ?_); go_simp; refine hK _ ?_; clear hK K)))
    refine wpG_known (kOwnB recRb W3.heap.size s.blocks nb) rfl (by kernel_rfl) (fun w' G hB hS hG => ?_) (fun y K hK => ?_)
    · have hown : recRb.Own w' W3.heap.size (.slice ad s.blocks.length c) s.blocks := at1 hS (by kernel_rfl)
      have hone : w'.heap[bb]? = some (.cells (recRb.cell nb).toArray recRb.e (0, 0)) := at0 hS (by kernel_rfl)
      exact recRb.grow_app1 _ _ 162 rfl Tryz.underlying162 W3.heap.size _ s.blocks nb hown rfl bb rfl hone (by show (s.blocks.length + 1) * 56 ≤ _; omega) hB.size (fun A C w'' ho hr => hG (A, C) w'' hr (fun φ h => by cases h; exact ho))
    obtain ⟨ad2, c2⟩ := y
    go_simp; refine hK _ ?_; clear hK K; (repeat (first | (refine wpG_skip (by kernel_rfl) (fun K hK => ?_); go_big_quiet_skip; refine wpQuiet_nil (hK _ ?_); clear hK K) | (refine wpG_quiet (by rfl) (by rfl) (fun K hK => ?_); go_big_quiet_want; go_big_quiet_op; go_big_quiet_on; refine wpQuiet_nil (hK _ ?_); clear hK K) | (refine wpG_nilOk rfl rfl rfl (by kernel_rfl) (fun K hK => ?_); go_simp; refine hK _ ?_; clear hK K)))
    refine wpG_nilVT ?_
    intro w5 hB5 hA5
    have ho5 : recRb.Own w5 W3.heap.size (.slice ad2 (s.blocks.length + 1) c2) (s.blocks ++ [nb]) := all0 hA5
    have h5 := H3.out.below hB5
    have c4 := h5.cell (k := 4) rfl
    have f4 := h5.free (k := 4) (by decide)
    have hn5 := H3.out.freshB hB5 (Nat.le_refl _) ho5
    obtain ⟨W7, hW7⟩ : ∃ W7, W7 = w5.setCell ⟨G, 4, none⟩ (.slice ad2 (s.blocks.length + 1) c2) := ⟨_, rfl⟩
    have hc7 : Chg (fun x => x = G) w5 W7 := by rw [hW7]; exact Chg.set1R
    have hx5 := HX3.out.below hB5
    have hx7 := hx5.chg hc7 (by show ¬ (w.heap.size = G); omega)
    have x0 := hx7.cell (k := 0) rfl
    rw [← hW7] at hn5
    have H7 := Lib.hid hn5.1
    have c3 := hn5.1.cell (k := 3) rfl
    have f3 := hn5.1.free (k := 3) (by decide)
    have HB7 := Lib.hid ((HB3.out.mono hGb).trans (hn5.2.mono (Nat.le_refl _)))
    have HW7 := Lib.hid hW7
    clear hB5 hA5 ho5 h5 hn5 hc7 hx5 hx7 hW7
    go_upto_region 6 with fail
    rw [← HW7.out]
    clear c4 f4
    go_wp2_with fail
    go_ret
    exact ⟨by rw [HV.out]; rfl, (fun _ => ⟨_, by rw [HV.out]; have := H7.out; rw [HNB.out, HP.out] at this; exact this⟩), HB7.out⟩
  by_cases h22 : p = 22
  · have u19 : ((p.toNat : Int) == 19) = false := u8_ne (by decide) h19
    have u22 : ((p.toNat : Int) == 22) = true := by rw [h22]; rfl
    have HV := Lib.hid (show turnsV i (p, a) s = (0, { s with blocks := s.blocks ++ [⟨22, s.kinds, s.kinds, i, false⟩], kinds := s.kinds ++ [84] }) by unfold turnsV; simp [h22])
    have c3 := H3.out.cell (k := 3) rfl
    have c4 := H3.out.cell (k := 4) rfl
    obtain ⟨nb, hnb⟩ : ∃ nb : Vb, nb = ⟨p, s.kinds, s.kinds, i, false⟩ := ⟨_, rfl⟩
    have HNB := Lib.hid hnb
    have hc : (recRb.cell nb) = [.int .u8 (p.toNat : Int), .string (bs s.kinds), .string ⟨#[]⟩, .bool false, .int .i64 (i : Int)] := by rw [hnb]; rfl
    have HC := Lib.hid hc
    have HSH := Lib.hid H3.out.ob
    have HP := Lib.hid h22
    clear hnb hc h22
    go_upto_region 5 with fail
    refine region_relA recRb s.blocks nb 18 [(4, .exact _ (.slice ab s.blocks.length cb)), (5, kOwnA recRb W3.heap.size s.blocks nb), (7, .exact _ (.int .u8 (p.toNat : Int))), (11, .exact _ (.string (bs s.kinds))), (14, kOneA recRb W3.heap.size s.blocks nb), (15, kOwnB recRb W3.heap.size s.blocks nb)] (by kernel_rfl) (by kernel_rfl) ?_
    simp only [List.take_succ_cons, List.take_zero, List.drop_succ_cons, List.drop_zero]
    (repeat (first | (refine wpG_skip (by kernel_rfl) (fun K hK => ?_); go_big_quiet_skip; refine wpQuiet_nil (hK _ ?_); clear hK K) | (refine wpG_quiet (by rfl) (by rfl) (fun K hK => ?_); go_big_quiet_want; go_big_quiet_op; go_big_quiet_on; refine wpQuiet_nil (hK _ ?_); clear hK K) | (refine wpG_nilOk rfl rfl rfl (by kernel_rfl) (fun K hK => ?_); go_simp; refine hK _ ?_; clear hK K)))
    refine wpG_exact rfl (by kernel_rfl) (fun w' G hB hS hG => ?_) (fun K hK => ?_)
    · have y := Below.keeps hB c4
      go_simp; exact hG _ (RelA.refl _)
    go_simp; refine hK _ ?_; clear hK K; (repeat (first | (refine wpG_skip (by kernel_rfl) (fun K hK => ?_); go_big_quiet_skip; refine wpQuiet_nil (hK _ ?_); clear hK K) | (refine wpG_quiet (by rfl) (by rfl) (fun K hK => ?_); go_big_quiet_want; go_big_quiet_op; go_big_quiet_on; refine wpQuiet_nil (hK _ ?_); clear hK K) | (refine wpG_nilOk rfl rfl rfl (by kernel_rfl) (fun K hK => ?_); go_simp; refine hK _ ?_; clear hK K)))
    refine wpG_known (kOwnA recRb W3.heap.size s.blocks nb) rfl (by kernel_rfl) (fun w' G hB hS hG => ?_) (fun x K hK => ?_)
    · refine recRb.grow_copy _ _ 162 rfl Tryz.underlying162 W3.heap.size rfl _ s.blocks (HSH.out.below hB).row rfl (by show s.blocks.length * 56 ≤ _; omega) hB.size (fun A C w'' ho hb => hG (A, C) w'' (RelA.of_bel hB.size hb) (fun φ h => by cases h; exact ho))
    obtain ⟨ad, c⟩ := x; go_simp; refine hK _ ?_; clear hK K; (repeat (first | (refine wpG_skip (by kernel_rfl) (fun K hK => ?_); go_big_quiet_skip; refine wpQuiet_nil (hK _ ?_); clear hK K) | (refine wpG_quiet (by rfl) (by rfl) (fun K hK => ?_); go_big_quiet_want; go_big_quiet_op; go_big_quiet_on; refine wpQuiet_nil (hK _ ?_); clear hK K) | (refine wpG_nilOk rfl rfl rfl (by kernel_rfl) (fun K hK => ?_); go_simp; refine hK _ ?_; clear hK K)))
    refine wpG_exact rfl (by kernel_rfl) (fun w' G hB hS hG => ?_) (fun K hK => ?_)
    · have y := Below.keeps hB x0
      go_simp; exact hG _ (RelA.refl _)
    go_simp; refine hK _ ?_; clear hK K; (repeat (first | (refine wpG_skip (by kernel_rfl) (fun K hK => ?_); go_big_quiet_skip; refine wpQuiet_nil (hK _ ?_); clear hK K) | (refine wpG_quiet (by rfl) (by rfl) (fun K hK => ?_); go_big_quiet_want; go_big_quiet_op; go_big_quiet_on; refine wpQuiet_nil (hK _ ?_); clear hK K) | (refine wpG_nilOk rfl rfl rfl (by kernel_rfl) (fun K hK => ?_); go_simp; refine hK _ ?_; clear hK K)))
    refine wpG_exact rfl (by kernel_rfl) (fun w' G hB hS hG => ?_) (fun K hK => ?_)
    · have y := Below.keeps hB c3
      go_simp; exact hG _ (RelA.refl _)
    go_simp; refine hK _ ?_; clear hK K; (repeat (first | (refine wpG_skip (by kernel_rfl) (fun K hK => ?_); go_big_quiet_skip; refine wpQuiet_nil (hK _ ?_); clear hK K) | (refine wpG_quiet (by rfl) (by rfl) (fun K hK => ?_); go_big_quiet_want; go_big_quiet_op; go_big_quiet_on; refine wpQuiet_nil (hK _ ?_); clear hK K) | (refine wpG_nilOk rfl rfl rfl (by kernel_rfl) (fun K hK => ?_); go_simp; refine hK _ ?_; clear hK K)))
    refine wpG_known (kOneA recRb W3.heap.size s.blocks nb) rfl (by kernel_rfl) (fun w' G hB hS hG => ?_) (fun (bb : Nat) K hK => ?_)
    · go_simp; exact one_newA hG (by rw [HC.out]) hB.size
    go_simp; refine hK _ ?_; clear hK K; (repeat (first | (refine wpG_skip (by kernel_rfl) (fun K hK => ?_); go_big_quiet_skip; refine wpQuiet_nil (hK _ ?_); clear hK K) | (refine wpG_quiet (by rfl) (by rfl) (fun K hK => ?_); go_big_quiet_want; go_big_quiet_op; go_big_quiet_on; refine wpQuiet_nil (hK _ ?_); clear hK K) | (refine wpG_nilOk rfl rfl rfl (by kernel_rfl) (fun K hK => ?_); go_simp; refine hK _ ?_; clear hK K)))
    refine wpG_known (kOwnB recRb W3.heap.size s.blocks nb) rfl (by kernel_rfl) (fun w' G hB hS hG => ?_) (fun y K hK => ?_)
    · have hown : recRb.Own w' W3.heap.size (.slice ad s.blocks.length c) s.blocks := at1 hS (by kernel_rfl)
      have hone : w'.heap[bb]? = some (.cells (recRb.cell nb).toArray recRb.e (0, 0)) := at0 hS (by kernel_rfl)
      exact recRb.grow_app1 _ _ 162 rfl Tryz.underlying162 W3.heap.size _ s.blocks nb hown rfl bb rfl hone (by show (s.blocks.length + 1) * 56 ≤ _; omega) hB.size (fun A C w'' ho hr => hG (A, C) w'' hr (fun φ h => by cases h; exact ho))
    obtain ⟨ad2, c2⟩ := y
    go_simp; refine hK _ ?_; clear hK K; (repeat (first | (refine wpG_skip (by kernel_rfl) (fun K hK => ?_); go_big_quiet_skip; refine wpQuiet_nil (hK _ ?_); clear hK K) | (refine wpG_quiet (by rfl) (by rfl) (fun K hK => ?_); go_big_quiet_want; go_big_quiet_op; go_big_quiet_on; refine wpQuiet_nil (hK _ ?_); clear hK K) | (refine wpG_nilOk rfl rfl rfl (by kernel_rfl) (fun K hK => ?_); go_simp; refine hK _ ?_; clear hK K)))
    refine wpG_nilVT ?_
    intro w5 hB5 hA5
    have ho5 : recRb.Own w5 W3.heap.size (.slice ad2 (s.blocks.length + 1) c2) (s.blocks ++ [nb]) := all0 hA5
    have h5 := H3.out.below hB5
    have c4 := h5.cell (k := 4) rfl
    have f4 := h5.free (k := 4) (by decide)
    have hn5 := H3.out.freshB hB5 (Nat.le_refl _) ho5
    obtain ⟨W7, hW7⟩ : ∃ W7, W7 = w5.setCell ⟨G, 4, none⟩ (.slice ad2 (s.blocks.length + 1) c2) := ⟨_, rfl⟩
    have hc7 : Chg (fun x => x = G) w5 W7 := by rw [hW7]; exact Chg.set1R
    have hx5 := HX3.out.below hB5
    have hx7 := hx5.chg hc7 (by show ¬ (w.heap.size = G); omega)
    have x0 := hx7.cell (k := 0) rfl
    rw [← hW7] at hn5
    have H7 := Lib.hid hn5.1
    have c3 := hn5.1.cell (k := 3) rfl
    have f3 := hn5.1.free (k := 3) (by decide)
    have HB7 := Lib.hid ((HB3.out.mono hGb).trans (hn5.2.mono (Nat.le_refl _)))
    have HW7 := Lib.hid hW7
    clear hB5 hA5 ho5 h5 hn5 hc7 hx5 hx7 hW7
    go_upto_region 6 with fail
    rw [← HW7.out]
    clear c4 f4
    go_wp2_with fail
    go_ret
    have h9 := H7.out.kinds (s.kinds ++ [84])
    exact ⟨by rw [HV.out]; rfl, (fun _ => ⟨_, by rw [HV.out]; have := h9.1; rw [HNB.out, HP.out] at this; exact this⟩), HB7.out.trans h9.2⟩
  by_cases h20 : p = 20
  · have u19 : ((p.toNat : Int) == 19) = false := u8_ne (by decide) h19
    have u22 : ((p.toNat : Int) == 22) = false := u8_ne (by decide) h22
    have u20 : ((p.toNat : Int) == 20) = true := by rw [h20]; rfl
    have hbn := HNE.out (.inl h20)
    have hlast : s.blocks.getLast? = some q := by
      rw [HQ.out]; unfold lastR
      cases hb : s.blocks.getLast? with
      | none => exact absurd (List.getLast?_eq_none_iff.1 hb) hbn
      | some b => rfl
    have hqm : q ∈ s.blocks := List.mem_of_getLast? hlast
    have hqa := (HIB.out q hqm).1
    have hb0 : 0 < s.blocks.length := List.length_pos_of_mem hqm
    obtain ⟨nb, hnb⟩ : ∃ nb : Vb, nb = { q with want := s.kinds, at_ := i, did := true } := ⟨_, rfl⟩
    have HV := Lib.hid (show turnsV i (p, a) s = (0, { s with ends := s.ends.set q.at_ (i : Int), blocks := s.blocks.dropLast ++ [nb], kinds := q.opn }) by unfold turnsV; rw [hlast, hnb]; simp [h20])
    have HNB := Lib.hid (show rbV nb = .agg #[.int .u8 (q.op.toNat : Int), .string (bs q.opn), .string (bs s.kinds), .bool true, .int .i64 (i : Int)] by rw [hnb]; rfl)
    obtain ⟨ge, rfl⟩ := H3.out.oe.at0 (by omega)
    have hge := HH.out.oe.ltV ge rfl
    have hgn := fun e => HH.out.a3 ge rfl e
    obtain ⟨⟨v0, e0⟩, ef⟩ := H3.out.oe.freeR (k := q.at_) (by show q.at_ < s.ends.length * 1; omega)
    have c5 := H3.out.cell (k := 6) rfl
    have y4 := HY3.out.cell (k := 4) rfl
    have q0 : (0 : Int) ≤ (q.at_ : Int) := by omega
    have q1 : (q.at_ : Int) < (s.ends.length : Int) := by omega
    have q2 : (s.ends.length : Int) ≤ 256 := by omega
    clear hnb hlast hqm h20 hbn
    go_upto_region 9 with fail
    go_region
    obtain ⟨W4, hW4⟩ : ∃ W4, W4 = W3.setCell ⟨ge, q.at_, none⟩ (.int .i64 (i : Int)) := ⟨_, rfl⟩
    have hc4 : Chg (fun k => k = ge) W3 W4 := by rw [hW4]; exact Chg.setCell _ _ _ rfl
    have ho4 : recJ.Own W4 base (.slice (some ⟨ge, 0, none⟩) s.ends.length ce) (s.ends.set q.at_ (i : Int)) := by
      have := H3.out.oe.setCell (k := q.at_) hqa (y := (i : Int)) (j := 0) (by decide) (u := .int .i64 (i : Int)) rfl
      rw [show q.at_ * recJ.n + 0 = q.at_ from by show q.at_ * 1 + 0 = q.at_; omega, ← hW4] at this
      exact this
    have h4 := H3.out.chgE (l := s.ends.set q.at_ (i : Int)) (hc4.mono (fun k (hk : k = ge) => by rw [hk]; rfl)) ho4
    rw [← hW4]
    have hB34 : Below base W3 W4.drew := h4.2.trans ((b_drew W4).mono (Nat.le_trans (Nat.le_trans hGb hG3) hc4.size))
    have H4 := Lib.hid (h4.1.below (b_drew W4))
    have HY4 := Lib.hid ((HY3.out.chg hc4 (by show ¬ (C = ge); omega)).below (b_drew W4))
    have HB4 := Lib.hid ((HB3.out.mono hGb).trans hB34)
    clear hW4 hc4 ho4 h4 hB34 e0 c5 ef
    obtain ⟨W5, hW5⟩ : ∃ W5, W5 = W4.drew := ⟨_, rfl⟩
    rw [← hW5] at H4 HY4 HB4
    rw [← hW5]
    clear hW5 x0 y4
    have c3 := H4.out.cell (k := 3) rfl
    have y0 := HY4.out.cell (k := 0) rfl
    have y1 := HY4.out.cell (k := 1) rfl
    go_upto_region 10 with fail
    refine region_tail 11 [(2, .exact _ (.int .u8 (q.op.toNat : Int))), (4, .exact _ (.string (bs q.opn))), (8, .exact _ (.string (bs s.kinds)))] (by kernel_rfl) (by kernel_rfl) ?_
    simp only [List.take_succ_cons, List.take_zero, List.drop_succ_cons, List.drop_zero]
    (repeat (first | (refine wpG_skip (by kernel_rfl) (fun K hK => ?_); go_big_quiet_skip; refine wpQuiet_nil (hK _ ?_); clear hK K) | (refine wpG_quiet (by rfl) (by rfl) (fun K hK => ?_); go_big_quiet_want; go_big_quiet_op; go_big_quiet_on; refine wpQuiet_nil (hK _ ?_); clear hK K) | (refine wpG_nilOk rfl rfl rfl (by kernel_rfl) (fun K hK => ?_); go_simp; refine hK _ ?_; clear hK K)))
    refine wpG_exact rfl (by kernel_rfl) (fun w' G hB hS hG => ?_) (fun K hK => ?_)
    · have y := Below.keeps hB y0
      go_simp; exact hG _ (Bel.refl _)
    go_simp; refine hK _ ?_; clear hK K; (repeat (first | (refine wpG_skip (by kernel_rfl) (fun K hK => ?_); go_big_quiet_skip; refine wpQuiet_nil (hK _ ?_); clear hK K) | (refine wpG_quiet (by rfl) (by rfl) (fun K hK => ?_); go_big_quiet_want; go_big_quiet_op; go_big_quiet_on; refine wpQuiet_nil (hK _ ?_); clear hK K) | (refine wpG_nilOk rfl rfl rfl (by kernel_rfl) (fun K hK => ?_); go_simp; refine hK _ ?_; clear hK K)))
    refine wpG_exact rfl (by kernel_rfl) (fun w' G hB hS hG => ?_) (fun K hK => ?_)
    · have y := Below.keeps hB y1
      go_simp; exact hG _ (Bel.refl _)
    go_simp; refine hK _ ?_; clear hK K; (repeat (first | (refine wpG_skip (by kernel_rfl) (fun K hK => ?_); go_big_quiet_skip; refine wpQuiet_nil (hK _ ?_); clear hK K) | (refine wpG_quiet (by rfl) (by rfl) (fun K hK => ?_); go_big_quiet_want; go_big_quiet_op; go_big_quiet_on; refine wpQuiet_nil (hK _ ?_); clear hK K) | (refine wpG_nilOk rfl rfl rfl (by kernel_rfl) (fun K hK => ?_); go_simp; refine hK _ ?_; clear hK K)))
    refine wpG_exact rfl (by kernel_rfl) (fun w' G hB hS hG => ?_) (fun K hK => ?_)
    · have y := Below.keeps hB c3
      go_simp; exact hG _ (Bel.refl _)
    go_simp; refine hK _ ?_; clear hK K; (repeat (first | (refine wpG_skip (by kernel_rfl) (fun K hK => ?_); go_big_quiet_skip; refine wpQuiet_nil (hK _ ?_); clear hK K) | (refine wpG_quiet (by rfl) (by rfl) (fun K hK => ?_); go_big_quiet_want; go_big_quiet_op; go_big_quiet_on; refine wpQuiet_nil (hK _ ?_); clear hK K) | (refine wpG_nilOk rfl rfl rfl (by kernel_rfl) (fun K hK => ?_); go_simp; refine hK _ ?_; clear hK K)))
    refine wpG_nilVT ?_
    intro w6 hB6 hA6
    have h6 := H4.out.below hB6
    have HSET := Lib.hid (rSet_any nb h6 hl hb0)
    rw [HNB.out] at HSET
    have HY6 := Lib.hid (HY4.out.below hB6)
    have HB6 := Lib.hid (HB4.out.trans (hB6.mono (Nat.le_trans hGb HB4.out.size)))
    clear hB6 hA6 h6 c3 y0 y1
    go_upto_region 11 with (go_at_call 117; refine HSET.out.mono ?_; rintro e w7 ⟨⟨vv, rfl⟩, ⟨bv7, h7⟩, hc7⟩; have H7 := Lib.hid h7; have HY7 := Lib.hid (HY6.out.chg hc7 (show ¬ (C = G) by omega)); have HC7 := Lib.hid hc7; clear h7 hc7)
    have y1 := HY7.out.cell (k := 1) rfl
    have c3 := H7.out.cell (k := 3) rfl
    have f3 := H7.out.free (k := 3) (by decide)
    have hbb : base ≤ w6.heap.size := Nat.le_trans hGb HB6.out.size
    go_wp2_with fail
    go_ret
    have h9 := H7.out.kinds q.opn
    exact ⟨by rw [HV.out]; rfl, (fun _ => ⟨_, by rw [HV.out]; exact h9.1⟩), (HB6.out.trans (HC7.out.below (fun x (hx : x = G) => by have := H7.out.gb; omega) hbb)).trans h9.2⟩
  by_cases h21 : p = 21
  · have u19 : ((p.toNat : Int) == 19) = false := u8_ne (by decide) h19
    have u22 : ((p.toNat : Int) == 22) = false := u8_ne (by decide) h22
    have u20 : ((p.toNat : Int) == 20) = false := u8_ne (by decide) h20
    have u21 : ((p.toNat : Int) == 21) = true := by rw [h21]; rfl
    have hbn := HNE.out (.inr h21)
    have hlast : s.blocks.getLast? = some q := by
      rw [HQ.out]; unfold lastR
      cases hb : s.blocks.getLast? with
      | none => exact absurd (List.getLast?_eq_none_iff.1 hb) hbn
      | some b => rfl
    have hqm : q ∈ s.blocks := List.mem_of_getLast? hlast
    have hqa := (HIB.out q hqm).1
    have hb0 : 0 < s.blocks.length := List.length_pos_of_mem hqm
    have y1 := HY3.out.cell (k := 1) rfl
    have y2 := HY3.out.cell (k := 2) rfl
    have y3 := HY3.out.cell (k := 3) rfl
    have c3 := H3.out.cell (k := 3) rfl
    by_cases hd : q.did = true
    · have hkw : keptR q = q.want := by unfold keptR; rw [if_pos hd]
      rw [hkw] at y2
      rw [hd] at y3
      clear hd hkw
      by_cases hw : s.kinds = q.want
      · have tt : (s.kinds != q.want) = false := by rw [hw]; simp
        have tt2 : (s.kinds == q.want) = true := by rw [hw]; simp
        have HV := Lib.hid (show turnsV i (p, a) s = (0, { s with ends := s.ends.set q.at_ (i : Int), blocks := s.blocks.dropLast }) by unfold turnsV; rw [hlast]; simp [h21, hw])
        obtain ⟨m, hm⟩ : ∃ m, s.blocks.length = m + 1 := ⟨s.blocks.length - 1, by omega⟩
        have hd' : s.blocks.dropLast = s.blocks.take m := by rw [List.dropLast_eq_take]; congr 1; omega
        have HD := Lib.hid hd'
        have hm1 : (s.blocks.length : Int) - 1 = (m : Int) := by omega
        have hm2 : (m : Int) < (s.blocks.length : Int) := by omega
        have hm3 : (0 : Int) ≤ (m : Int) := by omega
        obtain ⟨gb, rfl⟩ := H3.out.ob.at0 hb0
        have hrun := H3.out.ob.shortRun 162 Tryz.underlying162 (by intro wx; kernel_rfl) m (by omega)
        obtain ⟨ge, rfl⟩ := H3.out.oe.at0 (by omega)
        have hge := HH.out.oe.ltV ge rfl
        have hgn := fun e => HH.out.a3 ge rfl e
        obtain ⟨⟨v0, e0⟩, ef⟩ := H3.out.oe.freeR (k := q.at_) (by show q.at_ < s.ends.length * 1; omega)
        have c5 := H3.out.cell (k := 6) rfl
        have y4 := HY3.out.cell (k := 4) rfl
        have q0 : (0 : Int) ≤ (q.at_ : Int) := by omega
        have q1 : (q.at_ : Int) < (s.ends.length : Int) := by omega
        have q2 : (s.ends.length : Int) ≤ 256 := by omega
        have hml : m ≤ s.blocks.length := by omega
        clear hlast hqm h21 hbn hd' hw hm
        go_upto_region 18 with fail
        go_region
        obtain ⟨W4, hW4⟩ : ∃ W4, W4 = W3.setCell ⟨ge, q.at_, none⟩ (.int .i64 (i : Int)) := ⟨_, rfl⟩
        have hc4 : Chg (fun k => k = ge) W3 W4 := by rw [hW4]; exact Chg.setCell _ _ _ rfl
        have ho4 : recJ.Own W4 base (.slice (some ⟨ge, 0, none⟩) s.ends.length ce) (s.ends.set q.at_ (i : Int)) := by
          have := H3.out.oe.setCell (k := q.at_) hqa (y := (i : Int)) (j := 0) (by decide) (u := .int .i64 (i : Int)) rfl
          rw [show q.at_ * recJ.n + 0 = q.at_ from by show q.at_ * 1 + 0 = q.at_; omega, ← hW4] at this
          exact this
        have h4 := H3.out.chgE (l := s.ends.set q.at_ (i : Int)) (hc4.mono (fun k (hk : k = ge) => by rw [hk]; rfl)) ho4
        rw [← hW4]
        have hB34 : Below base W3 W4.drew := h4.2.trans ((b_drew W4).mono (Nat.le_trans (Nat.le_trans hGb hG3) hc4.size))
        have H4 := Lib.hid (h4.1.below (b_drew W4))
        have HY4 := Lib.hid ((HY3.out.chg hc4 (by show ¬ (C = ge); omega)).below (b_drew W4))
        have HB4 := Lib.hid ((HB3.out.mono hGb).trans hB34)
        clear hW4 hc4 ho4 h4 hB34 e0 c5 ef
        obtain ⟨W5, hW5⟩ : ∃ W5, W5 = W4.drew := ⟨_, rfl⟩
        rw [← hW5] at H4 HY4 HB4
        rw [← hW5]
        clear hW5 x0 y1 y2 y3 y4 c3
        have c4 := H4.out.cell (k := 4) rfl
        have f4 := H4.out.free (k := 4) (by decide)
        go_upto_region 19 with fail
        go_region
        have h9 := H4.out.newB (bv' := .slice (some ⟨gb, 0, none⟩) m cb) (l := s.blocks.take m) (Chg.refl _ _) (fun k hk => by cases hk; exact .inl rfl) (H4.out.ob.short m hml)
        obtain ⟨W9, hW9⟩ : ∃ W9, W9 = W5.setCell ⟨G, 4, none⟩ (.slice (some ⟨gb, 0, none⟩) m cb) := ⟨_, rfl⟩
        rw [← hW9] at h9 ⊢
        have H9 := Lib.hid (h9.1.below (b_drew W9))
        have HB9 := Lib.hid ((HB4.out.trans h9.2).trans ((b_drew W9).mono (Nat.le_trans h9.1.gb (Nat.le_of_lt h9.1.blk.lt))))
        clear h9 hW9 c4 f4
        go_wp2_with fail
        go_ret
        exact ⟨by rw [HV.out]; rfl, (fun _ => ⟨_, by rw [HV.out, HD.out]; exact H9.out⟩), HB9.out⟩
      · have tt : (s.kinds != q.want) = true := by simpa using hw
        have tt2 : (s.kinds == q.want) = false := by simpa using hw
        have HV := Lib.hid (show turnsV i (p, a) s = (132, s) by unfold turnsV; rw [hlast]; simp [h21, hw])
        clear hlast hqm h21 hbn hw
        go_wp2_with fail
        go_ret
        exact ⟨by rw [HV.out]; rfl, (fun e => by rw [HV.out] at e; cases e), HB3.out.mono hGb⟩
    · have hd : q.did = false := by simpa using hd
      have hkw : q.opn = q.want := (HWD.out q hqm hd).symm
      rw [hkw] at y1
      rw [hd] at y3
      clear hd hkw
      by_cases hw : s.kinds = q.want
      · have tt : (s.kinds != q.want) = false := by rw [hw]; simp
        have tt2 : (s.kinds == q.want) = true := by rw [hw]; simp
        have HV := Lib.hid (show turnsV i (p, a) s = (0, { s with ends := s.ends.set q.at_ (i : Int), blocks := s.blocks.dropLast }) by unfold turnsV; rw [hlast]; simp [h21, hw])
        obtain ⟨m, hm⟩ : ∃ m, s.blocks.length = m + 1 := ⟨s.blocks.length - 1, by omega⟩
        have hd' : s.blocks.dropLast = s.blocks.take m := by rw [List.dropLast_eq_take]; congr 1; omega
        have HD := Lib.hid hd'
        have hm1 : (s.blocks.length : Int) - 1 = (m : Int) := by omega
        have hm2 : (m : Int) < (s.blocks.length : Int) := by omega
        have hm3 : (0 : Int) ≤ (m : Int) := by omega
        obtain ⟨gb, rfl⟩ := H3.out.ob.at0 hb0
        have hrun := H3.out.ob.shortRun 162 Tryz.underlying162 (by intro wx; kernel_rfl) m (by omega)
        obtain ⟨ge, rfl⟩ := H3.out.oe.at0 (by omega)
        have hge := HH.out.oe.ltV ge rfl
        have hgn := fun e => HH.out.a3 ge rfl e
        obtain ⟨⟨v0, e0⟩, ef⟩ := H3.out.oe.freeR (k := q.at_) (by show q.at_ < s.ends.length * 1; omega)
        have c5 := H3.out.cell (k := 6) rfl
        have y4 := HY3.out.cell (k := 4) rfl
        have q0 : (0 : Int) ≤ (q.at_ : Int) := by omega
        have q1 : (q.at_ : Int) < (s.ends.length : Int) := by omega
        have q2 : (s.ends.length : Int) ≤ 256 := by omega
        have hml : m ≤ s.blocks.length := by omega
        clear hlast hqm h21 hbn hd' hw hm
        go_upto_region 18 with fail
        go_region
        obtain ⟨W4, hW4⟩ : ∃ W4, W4 = W3.setCell ⟨ge, q.at_, none⟩ (.int .i64 (i : Int)) := ⟨_, rfl⟩
        have hc4 : Chg (fun k => k = ge) W3 W4 := by rw [hW4]; exact Chg.setCell _ _ _ rfl
        have ho4 : recJ.Own W4 base (.slice (some ⟨ge, 0, none⟩) s.ends.length ce) (s.ends.set q.at_ (i : Int)) := by
          have := H3.out.oe.setCell (k := q.at_) hqa (y := (i : Int)) (j := 0) (by decide) (u := .int .i64 (i : Int)) rfl
          rw [show q.at_ * recJ.n + 0 = q.at_ from by show q.at_ * 1 + 0 = q.at_; omega, ← hW4] at this
          exact this
        have h4 := H3.out.chgE (l := s.ends.set q.at_ (i : Int)) (hc4.mono (fun k (hk : k = ge) => by rw [hk]; rfl)) ho4
        rw [← hW4]
        have hB34 : Below base W3 W4.drew := h4.2.trans ((b_drew W4).mono (Nat.le_trans (Nat.le_trans hGb hG3) hc4.size))
        have H4 := Lib.hid (h4.1.below (b_drew W4))
        have HY4 := Lib.hid ((HY3.out.chg hc4 (by show ¬ (C = ge); omega)).below (b_drew W4))
        have HB4 := Lib.hid ((HB3.out.mono hGb).trans hB34)
        clear hW4 hc4 ho4 h4 hB34 e0 c5 ef
        obtain ⟨W5, hW5⟩ : ∃ W5, W5 = W4.drew := ⟨_, rfl⟩
        rw [← hW5] at H4 HY4 HB4
        rw [← hW5]
        clear hW5 x0 y1 y2 y3 y4 c3
        have c4 := H4.out.cell (k := 4) rfl
        have f4 := H4.out.free (k := 4) (by decide)
        go_upto_region 19 with fail
        go_region
        have h9 := H4.out.newB (bv' := .slice (some ⟨gb, 0, none⟩) m cb) (l := s.blocks.take m) (Chg.refl _ _) (fun k hk => by cases hk; exact .inl rfl) (H4.out.ob.short m hml)
        obtain ⟨W9, hW9⟩ : ∃ W9, W9 = W5.setCell ⟨G, 4, none⟩ (.slice (some ⟨gb, 0, none⟩) m cb) := ⟨_, rfl⟩
        rw [← hW9] at h9 ⊢
        have H9 := Lib.hid (h9.1.below (b_drew W9))
        have HB9 := Lib.hid ((HB4.out.trans h9.2).trans ((b_drew W9).mono (Nat.le_trans h9.1.gb (Nat.le_of_lt h9.1.blk.lt))))
        clear h9 hW9 c4 f4
        go_wp2_with fail
        go_ret
        exact ⟨by rw [HV.out]; rfl, (fun _ => ⟨_, by rw [HV.out, HD.out]; exact H9.out⟩), HB9.out⟩
      · have tt : (s.kinds != q.want) = true := by simpa using hw
        have tt2 : (s.kinds == q.want) = false := by simpa using hw
        have HV := Lib.hid (show turnsV i (p, a) s = (132, s) by unfold turnsV; rw [hlast]; simp [h21, hw])
        clear hlast hqm h21 hbn hw
        go_wp2_with fail
        go_ret
        exact ⟨by rw [HV.out]; rfl, (fun e => by rw [HV.out] at e; cases e), HB3.out.mono hGb⟩
  have u19 : ((p.toNat : Int) == 19) = false := u8_ne (by decide) h19
  have u22 : ((p.toNat : Int) == 22) = false := u8_ne (by decide) h22
  have u20 : ((p.toNat : Int) == 20) = false := u8_ne (by decide) h20
  have u21 : ((p.toNat : Int) == 21) = false := u8_ne (by decide) h21
  have HV := Lib.hid (show turnsV i (p, a) s = (0, s) by unfold turnsV; simp [h19, h22, h20, h21])
  clear h19 h22 h20 h21
  go_wp2_with fail
  go_ret
  exact ⟨by rw [HV.out]; rfl, (fun _ => ⟨_, by rw [HV.out]; exact H3.out⟩), HB3.out.mono hGb⟩
end
end Go.Proofs.YtndagciefnddmaaGreatDoor
