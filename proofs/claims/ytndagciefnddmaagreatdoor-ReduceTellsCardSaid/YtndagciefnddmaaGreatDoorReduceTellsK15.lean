/- Lemmas for ReduceTells, part 15: walks of the functions that it reaches, and the plain laws behind them. -/
import Derived.Lib.Builder
import Derived.Maps.RangeWalk
import Derived.Test.YtndagciefnddmaaGreatDoorReduceTellsK1
import Derived.Test.YtndagciefnddmaaGreatDoorReduceTellsK2
import Derived.Test.YtndagciefnddmaaGreatDoorReduceTellsK13
import Derived.Test.YtndagciefnddmaaGreatDoorReduceTellsK14
set_option linter.unusedSimpArgs false
set_option linter.unusedVariables false
namespace Go.Proofs.YtndagciefnddmaaGreatDoor
open Go.RowKit Oct
def tellV (j : Jb) : List UInt8 → List PR → List UInt8 × List UInt8 × Nat
  | t, [] => (t, [], 0)
  | t, x :: l => if (vmV j.tt j.tc 3 [x.1, x.2] j.fuel).1 ≠ 0 then ([], x.1, (vmV j.tt j.tc 3 [x.1, x.2] j.fuel).1) else
      if 1048576 < t.length + (vmV j.tt j.tc 3 [x.1, x.2] j.fuel).2.2.length then ([], x.1, 5) else tellV j (t ++ (vmV j.tt j.tc 3 [x.1, x.2] j.fuel).2.2) l
def tellJ (j : Jb) (l : List PR) : List UInt8 × List UInt8 × Nat := if mayJ j = true ∧ once l = true then tellV j [] l else ([], [], 2)
theorem tellV_bad {j : Jb} {t : List UInt8} {x : PR} {l : List PR} (h : (vmV j.tt j.tc 3 [x.1, x.2] j.fuel).1 ≠ 0) : tellV j t (x :: l) = ([], x.1, (vmV j.tt j.tc 3 [x.1, x.2] j.fuel).1) := by rw [tellV, if_pos h]
theorem tellV_long {j : Jb} {t : List UInt8} {x : PR} {l : List PR} (h : (vmV j.tt j.tc 3 [x.1, x.2] j.fuel).1 = 0) (hl : 1048576 < t.length + (vmV j.tt j.tc 3 [x.1, x.2] j.fuel).2.2.length) : tellV j t (x :: l) = ([], x.1, 5) := by rw [tellV, if_neg (fun q => q h), if_pos hl]
theorem tellV_on {j : Jb} {t : List UInt8} {x : PR} {l : List PR} (h : (vmV j.tt j.tc 3 [x.1, x.2] j.fuel).1 = 0) (hl : ¬ 1048576 < t.length + (vmV j.tt j.tc 3 [x.1, x.2] j.fuel).2.2.length) : tellV j t (x :: l) = tellV j (t ++ (vmV j.tt j.tc 3 [x.1, x.2] j.fuel).2.2) l := by rw [tellV, if_neg (fun q => q h), if_neg hl]
theorem jobRun_may {j : Jb} (h : mayJ j = true) (texts : List (List UInt8)) (code : List VI) (role : UInt8) (ins : List (List UInt8)) : jobRun j texts code role ins = vmV texts code role ins j.fuel := if_pos h
theorem vmV_text (texts : List (List UInt8)) (code : List VI) (role : UInt8) (ins : List (List UInt8)) (fuel : Int) : (vmV texts code role ins fuel).2.2.length ≤ 1024 := by
  cases hy : askRun texts code role ins fuel with
  | false => rw [vmV_no hy]; simp
  | true =>
    rw [vmV_yes hy]
    obtain ⟨h1, h2, -, -, h5⟩ := askRun_ok hy
    obtain ⟨hg, -⟩ := goodM_of h1 h2 h5
    unfold ranV
    split
    · rename_i h0
      obtain ⟨hok, -⟩ := runM_ok hg fuel.toNat startM startM_ok h0
      dsimp only
      split
      · simp
      · cases hst : (runM ⟨texts, code, ins, (throughV texts code role).2.2.ends⟩ fuel.toNat startM).2.st with
        | nil => simp
        | cons v r =>
          have hv := hok.sv v (by rw [hst]; simp)
          exact hv.2.2
    · simp
end Go.Proofs.YtndagciefnddmaaGreatDoor
namespace Go.Proofs.YtndagciefnddmaaGreatDoor
open Go.RowKit Oct
attribute [local irreducible] wpG
set_option maxRecDepth 100000 in
set_option maxHeartbeats 8000000 in
theorem rTell20_any (t1 c1 t2 c2 t3 c3 v : Value) (j : Jb) (l : List PR) (w : World) (h : JobR w t1 c1 t2 c2 t3 c3 j) (hv : RP w v l) (hl : l.length ≤ 140737488355328) (hb : ∀ p ∈ l, p.1.length ≤ 140737488355328 ∧ p.2.length ≤ 140737488355328) :
    Calls Tryz.prog 11 #[jobV t1 c1 t2 c2 t3 c3 j, v] w fun e w' => e = .returned (.tuple #[.string (bs (tellJ j l).1), .string (bs (tellJ j l).2.1), .int .i64 ((tellJ j l).2.2 : Int)]) ∧ Below w.heap.size w w' := by
  have HMAY := Lib.hid (fun w' (hB : Below w.heap.size w w') => rMay15_any t1 c1 t2 c2 t3 c3 j w' (h.below hB))
  have HON := Lib.hid (fun w' (hB : Below w.heap.size w w') => once18_any v l w' (hv.below hB) hl)
  have HTE := Lib.hid (fun (k s : List UInt8) (hk : k.length ≤ 140737488355328) (hs : s.length ≤ 140737488355328) w' (hB : Below w.heap.size w w') => rTell15_any t1 c1 t2 c2 t3 c3 j k s w' (h.below hB) hk hs)
  obtain ⟨ta, tc, rfl, -, -⟩ := recS_open h.a.t
  obtain ⟨ca, cc, rfl, -, -⟩ := recIns_open h.a.c
  obtain ⟨ta2, tc2, rfl, -, -⟩ := recS_open h.b.t
  obtain ⟨ca2, cc2, rfl, -, -⟩ := recIns_open h.b.c
  obtain ⟨ta3, tc3, rfl, -, -⟩ := recS_open h.c.t
  obtain ⟨ca3, cc3, rfl, -, -⟩ := recIns_open h.c.c
  obtain ⟨av, cv, rfl, _, hc⟩ := hv.open
  unfold jobV at HMAY HTE ⊢
  have HCC := Lib.hid hc
  have HBB := Lib.hid hb
  obtain ⟨W1, hW1⟩ : ∃ W1, W1 = w.alloc (.cells #[.slice ta j.mt.length tc, .slice ca j.mc.length cc, .slice ta2 j.jt.length tc2, .slice ca2 j.jc.length cc2, .slice ta3 j.tt.length tc3, .slice ca3 j.tc.length cc3, .int .i64 j.parts, .int .i64 j.fuel] 27) := ⟨_, rfl⟩
  have hb1 : Below w.heap.size w W1 := by rw [hW1]; exact b_alloc _ _
  obtain ⟨J, hJ⟩ : ∃ J, J = w.heap.size := ⟨_, rfl⟩
  have hx : Blk W1 J 27 [.slice ta j.mt.length tc, .slice ca j.mc.length cc, .slice ta2 j.jt.length tc2, .slice ca2 j.jc.length cc2, .slice ta3 j.tt.length tc3, .slice ca3 j.tc.length cc3, .int .i64 j.parts, .int .i64 j.fuel] := by rw [hJ, hW1]; exact Blk.new w _ _
  have x0 := hx.cell (k := 0) rfl
  have x1 := hx.cell (k := 1) rfl
  have x2 := hx.cell (k := 2) rfl
  have x3 := hx.cell (k := 3) rfl
  have x4 := hx.cell (k := 4) rfl
  have x5 := hx.cell (k := 5) rfl
  have x6 := hx.cell (k := 6) rfl
  have x7 := hx.cell (k := 7) rfl
  have HB1 := Lib.hid hb1
  have HX := Lib.hid hx
  go_enter Tryz.func11, Tryz.ntmps11
  go_upto_region 1 with fail
  rw [← hW1, ← hJ]
  clear hW1 hJ hb1 hx h hv hc hb
  by_cases hm : mayJ j = true
  · rw [hm] at HMAY
    by_cases ho : once l = true
    · rw [ho] at HON
      have HTJ := Lib.hid (show tellJ j l = tellV j [] l from if_pos ⟨hm, ho⟩)
      clear hm ho
      go_upto_region 3 with (first | (go_at_call 29; refine (HMAY.out _ HB1.out).mono ?_; rintro e w2 ⟨rfl, hB2⟩; have HB2 := Lib.hid (bt HB1.out hB2); have HX2 := Lib.hid (HX.out.below hB2); clear hB2 x0 x1 x2 x3 x4 x5 x6 x7) | (go_at_call 24; refine (HON.out _ HB2.out).mono ?_; rintro e w3 ⟨rfl, hB3⟩; have HB3 := Lib.hid (bt HB2.out hB3); have HX3 := Lib.hid (HX2.out.below hB3); clear hB3))
      go_wp2_with fail
      go_loopw [7, 8] (fun a b wr => ∃ (k : Nat) (t : List UInt8), k ≤ l.length ∧ a = .string (bs t) ∧ b = .int .i64 k ∧ Hid (tellV j t (l.drop k) = tellV j [] l) ∧ Hid (t.length ≤ 1048576) ∧ Hid (Below w3.heap.size w3 wr)) (fun _ b _ => l.length - (intOf b).toNat)
      case atStart => exact ⟨0, [], by omega, rfl, rfl, rfl, Nat.zero_le _, Below.refl _ _⟩
      case round =>
        obtain ⟨k, t, hk, rfl, rfl, HTV, HTL, HBR⟩ := hrel
        by_cases h0 : k < l.length
        · obtain ⟨b, off, rfl, e1, e2⟩ := HCC.out k h0
          have hbl := HBB.out _ (List.getElem_mem h0)
          have hdr : l.drop k = l[k] :: l.drop (k + 1) := List.drop_eq_getElem_cons h0
          obtain ⟨x, hxe⟩ : ∃ x, x = l[k] := ⟨_, rfl⟩
          rw [← hxe] at e1 e2 hbl hdr
          have HD := Lib.hid hdr
          have hBw := bt HB3.out HBR.out
          replace e1 := Below.keeps hBw e1
          replace e2 := Below.keeps hBw e2
          have hxx := HX3.out.below HBR.out
          have x0 := hxx.cell (k := 0) rfl
          have x1 := hxx.cell (k := 1) rfl
          have x2 := hxx.cell (k := 2) rfl
          have x3 := hxx.cell (k := 3) rfl
          have x4 := hxx.cell (k := 4) rfl
          have x5 := hxx.cell (k := 5) rfl
          have x6 := hxx.cell (k := 6) rfl
          have x7 := hxx.cell (k := 7) rfl
          have HG := Lib.hid (HTE.out x.1 x.2 hbl.1 hbl.2 wr.drew (bt hBw (b_drew _)))
          have hrl := vmV_text j.tt j.tc 3 [x.1, x.2] j.fuel
          have i0 : (0 : Int) ≤ (k : Int) := by omega
          have i1 : (k : Int) < (l.length : Int) := by omega
          have htl : (t.length : Int) ≤ 1048576 := by have := HTL.out; omega
          obtain ⟨R, hR⟩ : ∃ R, R = vmV j.tt j.tc 3 [x.1, x.2] j.fuel := ⟨_, rfl⟩
          rw [← hR] at HG hrl
          have HR := Lib.hid hR
          have HHH := Lib.hid h0
          clear hR hdr hBw hxx hxe hbl
          by_cases hz : R.1 = 0
          · by_cases hq : 1048576 < t.length + R.2.2.length
            · have t1 : ((R.1 : Int) == 0) = true := by rw [hz]; rfl
              have t2 : (1048576 : Int) < (t.length : Int) + (R.2.2.length : Int) := by omega
              have hrl' : (R.2.2.length : Int) ≤ 1024 := by omega
              have HQ := Lib.hid (show tellV j t (x :: l.drop (k + 1)) = ([], x.1, 5) from tellV_long (by rw [← HR.out]; exact hz) (by rw [← HR.out]; exact hq))
              clear hz hq
              go_wp2_with fail
              go_region_law (refine step_callM rfl 32 #[.agg #[.slice ta j.mt.length tc, .slice ca j.mc.length cc, .slice ta2 j.jt.length tc2, .slice ca2 j.jc.length cc2, .slice ta3 j.tt.length tc3, .slice ca3 j.tc.length cc3, .int .i64 j.parts, .int .i64 j.fuel], .string (bs x.1), .string (bs x.2)] (by go_simp) HG.out ?_; rintro e w7 ⟨rfl, hB7⟩; replace e1 := Below.keeps (bt (b_drew wr) hB7) e1; replace e2 := Below.keeps (bt (b_drew wr) hB7) e2; have HB7 := Lib.hid (bt HBR.out (bt (b_drew wr) hB7)); clear hB7)
              all_goals
                go_wp2_with fail
                go_quiet (fail)
                go_wp2_with fail
                go_ret3
                rw [HTJ.out, ← HTV.out, HD.out, HQ.out]
                exact ⟨rfl, bt (bt HB3.out HB7.out) (Below.drewN' _ _)⟩
            · have t1 : ((R.1 : Int) == 0) = true := by rw [hz]; rfl
              have t3 : ((R.1 : Int) != 0) = false := by rw [hz]; rfl
              have t2 : ¬ (1048576 : Int) < (t.length : Int) + (R.2.2.length : Int) := by omega
              have hrl' : (R.2.2.length : Int) ≤ 1024 := by omega
              have HQ := Lib.hid (show tellV j t (x :: l.drop (k + 1)) = tellV j (t ++ R.2.2) (l.drop (k + 1)) by rw [HR.out]; exact tellV_on (by rw [← HR.out]; exact hz) (by rw [← HR.out]; exact hq))
              have HL2 := Lib.hid (show (t ++ R.2.2).length ≤ 1048576 by rw [List.length_append]; omega)
              clear hz hq
              go_wp2_with fail
              go_region_law (refine step_callM rfl 32 #[.agg #[.slice ta j.mt.length tc, .slice ca j.mc.length cc, .slice ta2 j.jt.length tc2, .slice ca2 j.jc.length cc2, .slice ta3 j.tt.length tc3, .slice ca3 j.tc.length cc3, .int .i64 j.parts, .int .i64 j.fuel], .string (bs x.1), .string (bs x.2)] (by go_simp) HG.out ?_; rintro e w7 ⟨rfl, hB7⟩; replace e1 := Below.keeps (bt (b_drew wr) hB7) e1; replace e2 := Below.keeps (bt (b_drew wr) hB7) e2; have HB7 := Lib.hid (bt HBR.out (bt (b_drew wr) hB7)); clear hB7)
              all_goals
                go_wp2_with fail
                go_roundw
                case rel => exact ⟨k + 1, t ++ R.2.2, by omega, by first | rfl | simp, by go_num, by rw [← HQ.out, ← HD.out]; exact HTV.out, HL2.out, HB7.out⟩
                case measure => simp [intOf]; omega
          · have t1 : ((R.1 : Int) == 0) = false := by rw [beq_eq_false_iff_ne]; omega
            have t3 : ((R.1 : Int) != 0) = true := by rw [bne_iff_ne]; omega
            have HQ := Lib.hid (show tellV j t (x :: l.drop (k + 1)) = ([], x.1, R.1) by rw [HR.out]; exact tellV_bad (by rw [← HR.out]; exact hz))
            clear hz
            go_wp2_with fail
            go_region_law (refine step_callM rfl 32 #[.agg #[.slice ta j.mt.length tc, .slice ca j.mc.length cc, .slice ta2 j.jt.length tc2, .slice ca2 j.jc.length cc2, .slice ta3 j.tt.length tc3, .slice ca3 j.tc.length cc3, .int .i64 j.parts, .int .i64 j.fuel], .string (bs x.1), .string (bs x.2)] (by go_simp) HG.out ?_; rintro e w7 ⟨rfl, hB7⟩; replace e1 := Below.keeps (bt (b_drew wr) hB7) e1; replace e2 := Below.keeps (bt (b_drew wr) hB7) e2; have HB7 := Lib.hid (bt HBR.out (bt (b_drew wr) hB7)); clear hB7)
            all_goals
              go_wp2_with fail
              go_quiet (fail)
              go_wp2_with fail
              go_ret3
              rw [HTJ.out, ← HTV.out, HD.out, HQ.out]
              exact ⟨rfl, bt (bt HB3.out HB7.out) (Below.drewN' _ _)⟩
        · have i1 : ¬ (k : Int) < (l.length : Int) := by omega
          have HE := Lib.hid (show tellV j [] l = (t, [], 0) by rw [← HTV.out, List.drop_eq_nil_of_le (by omega)]; rfl)
          go_wp2_with fail
          go_ret3
          rw [HTJ.out, HE.out]
          exact ⟨rfl, bt HB3.out HBR.out⟩
    · have hno : once l = false := by cases q : once l with
        | false => rfl
        | true => exact absurd q ho
      rw [hno] at HON
      have HTJ := Lib.hid (show tellJ j l = ([], [], 2) from if_neg (fun q => ho q.2))
      clear hm ho hno
      go_wp2_with (first | (go_at_call 29; refine (HMAY.out _ HB1.out).mono ?_; rintro e w2 ⟨rfl, hB2⟩; have HB2 := Lib.hid (bt HB1.out hB2); clear hB2 x0 x1 x2 x3 x4 x5 x6 x7) | (go_at_call 24; refine (HON.out _ HB2.out).mono ?_; rintro e w3 ⟨rfl, hB3⟩; have HB3 := Lib.hid (bt HB2.out hB3); clear hB3))
      go_ret3
      rw [HTJ.out]
      exact ⟨rfl, HB3.out⟩
  · have hno : mayJ j = false := by cases q : mayJ j with
      | false => rfl
      | true => exact absurd q hm
    rw [hno] at HMAY
    have HTJ := Lib.hid (show tellJ j l = ([], [], 2) from if_neg (fun q => hm q.1))
    clear hm hno
    go_wp2_with (go_at_call 29; refine (HMAY.out _ HB1.out).mono ?_; rintro e w2 ⟨rfl, hB2⟩; have HB2 := Lib.hid (bt HB1.out hB2); clear hB2)
    go_ret3
    rw [HTJ.out]
    exact ⟨rfl, HB2.out⟩
end Go.Proofs.YtndagciefnddmaaGreatDoor
namespace Go.Proofs.YtndagciefnddmaaGreatDoor
open Go.RowKit Oct
def Kept (b : Nat) (w w' : World) : Prop := ∀ X cs t fz, X ≠ b → t ≠ 5 → w.heap[X]? = some (.cells cs t fz) → w'.heap[X]? = some (.cells cs t fz)
theorem Kept.trans {b : Nat} {w w1 w2 : World} (h1 : Kept b w w1) (h2 : Kept b w1 w2) : Kept b w w2 := fun X cs t fz hX ht h => h2 X cs t fz hX ht (h1 X cs t fz hX ht h)
theorem Kept.below {b : Nat} {w w' : World} (h : Below w.heap.size w w') : Kept b w w' := fun X cs t fz _ _ hx => by
  have hlt : X < w.heap.size := by
    rcases Nat.lt_or_ge X w.heap.size with h' | h'
    · exact h'
    · simp [Array.getElem?_eq_none h'] at hx
  exact (h.block X hlt).trans hx
end Go.Proofs.YtndagciefnddmaaGreatDoor
namespace Go.Proofs.YtndagciefnddmaaGreatDoor
open Go.RowKit Oct
attribute [local irreducible] wpG
theorem wpG_nilO {P : Program} {ops : Array Oper} {C : World → Prop} {R : World → World → Prop} {F : Nat → Option (Known R)} {Q : Facts → Act → Prop} {k : Nat} {S : Facts} {a : Act} (h : Q S a) : wpG P ops C R F Q k [] S a := by unfold wpG; exact h
theorem liesOut : liesAt Tryz.prog Tryz.prog.depth 70 (2 / Tryz.prog.cellsOf 70) 0 68 1 = true := by kernel_rfl
set_option maxHeartbeats 1000000 in
set_option maxRecDepth 100000 in
theorem copyCheckO_fresh (b : Nat) (w : World) (h0 : w.cell? ⟨b, 0, none⟩ = some (.pointer none)) (hsh : w.shape? b = some (70, 2)) (hfz : w.frozen? ⟨b, 0, none⟩ = false) :
    Calls Tryz.prog 71 #[.pointer (some ⟨b, 0, none⟩)] w fun e w' => e = .returned (.tuple #[]) ∧ w' = w.setCell ⟨b, 0, none⟩ (.pointer (some ⟨b, 0, none⟩)) := by
  obtain ⟨j, hj, hjs⟩ := Option.map_eq_some_iff.1 sizeBuilder
  go_enter Tryz.func71, Tryz.ntmps71
  go_wp2
  rw [Lib.run_to_unsafe w ⟨b, 0, none⟩ Tryz.underlying65 Tryz.underlying185 hj (by rw [hjs]; decide) hsh (Nat.zero_lt_succ 1)]
  simp only [Result.andThen]
  rw [Oper.upon_value]
  go_wp2
  rw [run_callFunc_extern Tryz.func100 (by kernel_rfl) (by kernel_rfl) (by kernel_rfl) (e := Extern.AbiNoEscape.same) (by kernel_rfl)]
  rw [Lib.run_noEscape]
  simp only [Result.andThen]
  rw [Oper.upon_value]
  go_wp2
  rw [Lib.run_from_unsafe w ⟨b, 0, none⟩ Tryz.underlying185 Tryz.underlying65 hj hsh liesOut]
  simp only [Result.andThen]
  rw [Oper.upon_value]
  go_wp2
  go_end0
  exact ⟨rfl, rfl⟩
theorem copyCheckO_kept (B b : Nat) (bs : List Value) (w : World) (h : Lib.IsBuilder 70 5 B b bs w) :
    Calls Tryz.prog 71 #[.pointer (some ⟨b, 0, none⟩)] w fun e w' => e = .returned (.tuple #[]) ∧ (Lib.BuilderAt 70 5 B b (.pointer (some ⟨b, 0, none⟩)) bs w' ∧ Below B w w' ∧ Kept b w w') := by
  rcases h with h | h
  · refine (copyCheckO_fresh b w h.cell0 h.shape h.frozen0).mono ?_
    rintro e w' ⟨rfl, rfl⟩
    exact ⟨rfl, h.used _, (Below.refl B w).setCell (p := ⟨b, 0, none⟩) h.1 _, fun X cs t fz hX _ hx => by rw [heap_setCell_other _ _ _ _ (fun e => hX (by first | exact e | exact e.symm))]; exact hx⟩
  · refine (copyCheck_used b w h.cell0).mono ?_
    rintro e w' ⟨rfl, rfl⟩
    exact ⟨rfl, h, Below.refl B _, fun X cs t fz _ _ hx => hx⟩
set_option maxHeartbeats 2000000 in
set_option maxRecDepth 100000 in
theorem WriteStringO_raw (B b : Nat) (bs : List Value) (s : ByteArray) (w : World) (h : Lib.IsBuilder 70 5 B b bs w) (hlen : bs.length + s.size ≤ 140737488355328) (hBw : B ≤ w.heap.size) :
    Calls Tryz.prog 53 #[.pointer (some ⟨b, 0, none⟩), .string s] w fun e w' => e = .returned (.tuple #[.int .i64 s.size, .nilIface]) ∧ (Lib.BuilderAt 70 5 B b (.pointer (some ⟨b, 0, none⟩)) (bs ++ Lib.strCells s) w' ∧ Below B w w' ∧ Kept b w w') := by
  obtain ⟨i0, hi, hz0, hz1, hz2⟩ := info_parts infoU8
  go_enter Tryz.func53, Tryz.ntmps53
  go_wp2_with (go_at_call 71; refine (copyCheckO_kept B b bs _ h).mono ?_)
  rintro e w1 ⟨rfl, h1, hb1, hk1⟩
  obtain ⟨hB, v, hbk, hown, hne⟩ := h1
  have c0 : w1.cell? ⟨b, 0, none⟩ = some (.pointer (some ⟨b, 0, none⟩)) := by rw [Lib.cell_of_heap hbk]; rfl
  have c1 : w1.cell? ⟨b, 1, none⟩ = some v := by rw [Lib.cell_of_heap hbk]; rfl
  go_wp2_with (at_builtin; refine Lib.wpList_append_own_string _ rfl _ _ 66 9 rfl B 5 i0 Tryz.underlying66 Tryz.underlying9 hi hz0 hz1 hz2 _ _ _ rfl hown s rfl ?c3 ?c4 ?c5 ?_)
  case c3 => unfold maxLen; omega
  case c4 => omega
  case c5 => have := hb1.size; omega
  intro v' w2 hown' hgrow _
  have hlt : b < w1.heap.size := by
    rcases Nat.lt_or_ge b w1.heap.size with h' | h'
    · exact h'
    · simp [Array.getElem?_eq_none h'] at hbk
  have hb2 : w2.heap[b]? = some (.cells #[.pointer (some ⟨b, 0, none⟩), v] 70 (0, 0)) := by
    rw [hgrow.block b hlt (fun e => hne e.symm)]
    exact hbk
  have d0 : w2.cell? ⟨b, 0, none⟩ = some (.pointer (some ⟨b, 0, none⟩)) := by rw [Lib.cell_of_heap hb2]; rfl
  have d1 : w2.cell? ⟨b, 1, none⟩ = some v := by rw [Lib.cell_of_heap hb2]; rfl
  have f1 : w2.frozen? ⟨b, 1, none⟩ = false := Lib.frozen_of_heap hb2 1
  obtain ⟨ao, n', cap, rfl⟩ : ∃ ao n' cap, v' = .slice ao n' cap := by
    rcases hown'.2 with ⟨hv, _⟩ | ⟨g, cap, cur, hv, _⟩
    · exact ⟨_, _, _, hv⟩
    · exact ⟨_, _, _, hv⟩
  go_wp2
  go_ret2
  refine ⟨rfl, ?_, ?_, ?_⟩
  · exact Lib.BuilderAt.put (T := 70) (e := 5) hB hb2 (bs' := bs ++ Lib.strCells s) (by simpa [Lib.strCells_length] using hown') (by decide)
  · exact (hb1.grown hgrow (by have := hb1.size; omega) (fun k hk => (hown.lt k hk).1)).setCell (p := ⟨b, 1, none⟩) hB _
  · intro X cs t fz hX ht hx
    have h1 := hk1 X cs t fz hX ht hx
    have hlt1 : X < w1.heap.size := by
      rcases Nat.lt_or_ge X w1.heap.size with h' | h'
      · exact h'
      · simp [Array.getElem?_eq_none h'] at h1
    have h2 := hgrow.block X hlt1 (fun e => by
      rcases hown.2 with ⟨hv, _⟩ | ⟨g, cap, cur, hv, _, hg, _⟩
      · rw [hv] at e; simp [Value.ownBlock] at e
      · rw [hv] at e
        simp only [Value.ownBlock, Option.some.injEq] at e
        subst e
        rw [hg] at h1
        injection h1 with h1
        injection h1 with _ h1 _
        exact ht h1.symm)
    rw [heap_setCell_other _ _ _ _ (fun e => hX (by first | exact e | exact e.symm))]
    exact h2.trans h1
def BldO (B b : Nat) (l : List UInt8) (w : World) : Prop := B ≤ w.heap.size ∧ Lib.IsBuilder 70 5 B b (bcells l) w
theorem BldO.fresh (w : World) : BldO w.heap.size w.heap.size [] (w.alloc (.cells #[.pointer none, .slice none 0 0] 70)) := ⟨by simp, Lib.fresh_isBuilder _ _ w⟩
theorem BldO.below {B b : Nat} {l : List UInt8} {w w' : World} (h : BldO B b l w) (hB : Below w.heap.size w w') : BldO B b l w' :=
  ⟨Nat.le_trans h.1 hB.size, h.2.imp (fun h => BuilderAt_below h hB) (fun h => BuilderAt_below h hB)⟩
theorem BldO.at {B b : Nat} {l : List UInt8} {w : World} (h : BldO B b l w) : ∃ p, Lib.BuilderAt 70 5 B b p (bcells l) w := by
  rcases h.2 with h | h
  · exact ⟨_, h⟩
  · exact ⟨_, h⟩
theorem BldO.lt {B b : Nat} {l : List UInt8} {w : World} (h : BldO B b l w) : b < w.heap.size := by
  obtain ⟨p, h⟩ := h.at
  exact h.lt
theorem WriteStringO_kept (B b : Nat) (l m : List UInt8) (w : World) (h : BldO B b l w) (hlen : l.length + m.length ≤ 140737488355328) :
    Calls Tryz.prog 53 #[.pointer (some ⟨b, 0, none⟩), .string (bs m)] w fun e w' => e = .returned (.tuple #[.int .i64 m.length, .nilIface]) ∧ BldO B b (l ++ m) w' ∧ Below B w w' ∧ Kept b w w' := by
  refine (WriteStringO_raw B b (bcells l) (bs m) w h.2 (by rw [bcells_length, bs_size]; exact hlen) h.1).mono ?_
  rintro e w' ⟨rfl, h1, h2, h3⟩
  refine ⟨by rw [bs_size], ⟨Nat.le_trans h.1 h2.size, .inr ?_⟩, h2, h3⟩
  rw [strCells_bs] at h1
  simpa [bcells] using h1
set_option maxHeartbeats 1000000 in
set_option maxRecDepth 100000 in
theorem LenO_any (B b : Nat) (l : List UInt8) (w : World) (h : BldO B b l w) :
    Calls Tryz.prog 52 #[.pointer (some ⟨b, 0, none⟩)] w fun e w' => e = .returned (.int .i64 l.length) ∧ w' = w := by
  obtain ⟨p, hB, v, hbk, hown, hne⟩ := h.at
  rw [bcells_length] at hown
  have c1 : w.cell? ⟨b, 1, none⟩ = some v := by rw [Lib.cell_of_heap hbk]; rfl
  obtain ⟨ao, cap, rfl⟩ : ∃ ao cap, v = .slice ao l.length cap := by
    rcases hown.2 with ⟨hv, hz⟩ | ⟨g, cap, cur, hv, _⟩
    · exact ⟨_, _, by rw [hv, hz]⟩
    · exact ⟨_, _, hv⟩
  clear hown hbk hne h
  go_enter Tryz.func52, Tryz.ntmps52
  go_wp2
  go_ret
  exact ⟨rfl, rfl⟩
theorem cellsByteO : Tryz.prog.cellsOf 5 = 1 := by kernel_rfl
def kPtrO : Known Bel := ⟨Option Addr, fun q => .pointer q, fun _ => none, fun _ _ h => by cases h⟩
@[go_sem] theorem kPtrO_val (q : Option Addr) : kPtrO.val q = .pointer q := rfl
set_option maxHeartbeats 1000000 in
set_option maxRecDepth 100000 in
theorem BStrO (B b : Nat) (l : List UInt8) (w : World) (h : Lib.IsBuilder 70 5 B b (bcells l) w) (h0 : l ≠ []) (hBw : B ≤ w.heap.size) :
    Calls Tryz.prog 38 #[.pointer (some ⟨b, 0, none⟩)] w fun e w' => e = .returned (.string ⟨l.toArray⟩) ∧ Below B w w' := by
  obtain ⟨p, hB, v, hbk, hown, hne⟩ : ∃ p, Lib.BuilderAt 70 5 B b p (bcells l) w := by
    rcases h with h | h
    · exact ⟨_, h⟩
    · exact ⟨_, h⟩
  have hl0 : l.length ≠ 0 := by simpa using h0
  rw [bcells_length] at hown
  have HOWN := Lib.hid hown
  obtain ⟨g, cap, cur, rfl, hbg, hg, hnc, hcm, hcs, htake⟩ : ∃ g cap cur, v = .slice (some ⟨g, 0, none⟩) l.length cap ∧ B ≤ g ∧ w.heap[g]? = some (.cells cur 5 (0, 0)) ∧ l.length ≤ cap ∧ cap ≤ maxLen ∧ cur.size = cap * 1 ∧ cur.toList.take (l.length * 1) = bcells l := by
    rcases hown.2 with ⟨_, hz⟩ | ⟨g, cap, cur, hv, r⟩
    · exact absurd hz hl0
    · exact ⟨g, cap, cur, hv, r⟩
  have c1 : w.cell? ⟨b, 1, none⟩ = some (.slice (some ⟨g, 0, none⟩) l.length cap) := by
    rw [Lib.cell_of_heap hbk]; rfl
  have HSD := Lib.hid (fun w' => show (Builtin.unsafeSliceData_ #[66] 103 #[.slice (some ⟨g, 0, none⟩) l.length cap]).run Tryz.prog w' = .ok (.pointer (some ⟨g, 0, none⟩)) w' from
    Lib.run_unsafeSliceData_row _ _ _ _ _ _ (by omega))
  have HUS := Lib.hid (fun w' (hW : Below w.heap.size w w') => show (Builtin.unsafeString_ #[103, 3] 9 #[.pointer (some ⟨g, 0, none⟩), .int .i64 l.length]).run Tryz.prog w' = .ok (.string ⟨l.toArray⟩) (w'.freeze ⟨g, 0, none⟩ l.length) by
    have hgl : g < w.heap.size := by
      rcases Nat.lt_or_ge g w.heap.size with h' | h'
      · exact h'
      · simp [Array.getElem?_eq_none h'] at hg
    have hg' : w'.heap[g]? = some (.cells cur 5 (0, 0)) := (hW.block g hgl).trans hg
    refine Lib.run_unsafeString_row w' 103 3 9 5 Tryz.underlying103 cellsByteO g cur.size (by simp [World.shape?, hg']) l h0 (by omega) (by unfold maxLen at hcm; omega) ?_
    intro j x hx
    have := (ownsRow_below hown hW).cells (g := g) rfl j (.int .u8 x.toNat) (by simp [bcells, hx])
    exact this)
  have HBG := Lib.hid hbg
  clear hown hbk hne hg hcs htake hnc hcm h hbg
  go_enter Tryz.func38, Tryz.ntmps38
  go_upto_region 1 with fail
  refine region_tail 10 [(3, .exact _ (.slice (some ⟨g, 0, none⟩) l.length cap)), (4, .exact _ (.pointer (some ⟨g, 0, none⟩))), (8, .exact _ (.slice (some ⟨g, 0, none⟩) l.length cap))] (by kernel_rfl) (by kernel_rfl) ?_
  simp only [List.take_succ_cons, List.take_zero, List.drop_succ_cons, List.drop_zero]
  (repeat (first | (refine wpG_skip (by kernel_rfl) (fun K hK => ?_); go_big_quiet_skip; refine wpQuiet_nil (hK _ ?_); clear hK K) | (refine wpG_quiet (by rfl) (by rfl) (fun K hK => ?_); go_big_quiet_want; go_big_quiet_op; go_big_quiet_on; refine wpQuiet_nil (hK _ ?_); clear hK K) | (refine wpG_nilOk rfl rfl rfl (by kernel_rfl) (fun K hK => ?_); go_simp; refine hK _ ?_; clear hK K)))
  refine wpG_exact rfl (by kernel_rfl) (fun w' G hB hS hG => ?_) (fun K hK => ?_)
  · have y := Below.keeps hB c1
    go_simp; exact hG _ (Bel.refl _)
  go_simp; refine hK _ ?_; clear hK K; (repeat (first | (refine wpG_skip (by kernel_rfl) (fun K hK => ?_); go_big_quiet_skip; refine wpQuiet_nil (hK _ ?_); clear hK K) | (refine wpG_quiet (by rfl) (by rfl) (fun K hK => ?_); go_big_quiet_want; go_big_quiet_op; go_big_quiet_on; refine wpQuiet_nil (hK _ ?_); clear hK K) | (refine wpG_nilOk rfl rfl rfl (by kernel_rfl) (fun K hK => ?_); go_simp; refine hK _ ?_; clear hK K)))
  refine wpG_exact rfl (by kernel_rfl) (fun w' G hB hS hG => ?_) (fun K hK => ?_)
  · have e := HSD.out w'
    unfold growAt execOp
    simp only [resolve, invoke, builtin, Sem.run_bind, Sem.run_pure, Result.andThen_ok, List.map_toArray, List.map_cons, List.map_nil]
    go_simp
    exact hG _ (Bel.refl _)
  go_simp; refine hK _ ?_; clear hK K; (repeat (first | (refine wpG_skip (by kernel_rfl) (fun K hK => ?_); go_big_quiet_skip; refine wpQuiet_nil (hK _ ?_); clear hK K) | (refine wpG_quiet (by rfl) (by rfl) (fun K hK => ?_); go_big_quiet_want; go_big_quiet_op; go_big_quiet_on; refine wpQuiet_nil (hK _ ?_); clear hK K) | (refine wpG_nilOk rfl rfl rfl (by kernel_rfl) (fun K hK => ?_); go_simp; refine hK _ ?_; clear hK K)))
  refine wpG_exact rfl (by kernel_rfl) (fun w' G hB hS hG => ?_) (fun K hK => ?_)
  · have y := Below.keeps hB c1
    go_simp; exact hG _ (Bel.refl _)
  go_simp; refine hK _ ?_; clear hK K; (repeat (first | (refine wpG_skip (by kernel_rfl) (fun K hK => ?_); go_big_quiet_skip; refine wpQuiet_nil (hK _ ?_); clear hK K) | (refine wpG_quiet (by rfl) (by rfl) (fun K hK => ?_); go_big_quiet_want; go_big_quiet_op; go_big_quiet_on; refine wpQuiet_nil (hK _ ?_); clear hK K) | (refine wpG_nilOk rfl rfl rfl (by kernel_rfl) (fun K hK => ?_); go_simp; refine hK _ ?_; clear hK K)))
  refine wpG_nilO ?_
  intro w5 hB5 hA5
  have e := HUS.out w5 hB5
  go_wp2
  go_ret
  exact ⟨rfl, Lib.below_freeze (hB5.mono hBw) (p := ⟨g, 0, none⟩) HBG.out _⟩
set_option maxHeartbeats 1000000 in
set_option maxRecDepth 100000 in
theorem BStrO_empty (B b : Nat) (w : World) (h : Lib.IsBuilder 70 5 B b [] w) (hBw : B ≤ w.heap.size) :
    Calls Tryz.prog 38 #[.pointer (some ⟨b, 0, none⟩)] w fun e w' => e = .returned (.string ⟨#[]⟩) ∧ Below B w w' := by
  obtain ⟨p, hB, v, hbk, hown, hne⟩ : ∃ p, Lib.BuilderAt 70 5 B b p [] w := by
    rcases h with h | h
    · exact ⟨_, h⟩
    · exact ⟨_, h⟩
  have HSD : ∃ a cap, v = .slice a 0 cap ∧ ∀ w', Below w.heap.size w w' → ∃ q w'', (Builtin.unsafeSliceData_ #[66] 103 #[.slice a 0 cap]).run Tryz.prog w' = .ok (.pointer q) w'' ∧ Bel w' w'' := by
    rcases hown.2 with ⟨rfl, _⟩ | ⟨g, cap, cur, rfl, hbg, hg, _, _, _, _⟩
    · exact ⟨none, 0, rfl, fun w' _ => ⟨none, w', rfl, Bel.refl _⟩⟩
    · by_cases hc0 : cap = 0
      · subst hc0
        refine ⟨some ⟨g, 0, none⟩, 0, rfl, fun w' hW => ⟨_, _, Lib.run_unsafeSliceData_zero w' _ _ 5 Tryz.underlying103 ⟨g, 0, none⟩ 0 (5, cur.size) ?_, b_alloc _ _⟩⟩
        have hgl : g < w.heap.size := by
          rcases Nat.lt_or_ge g w.heap.size with h' | h'
          · exact h'
          · simp [Array.getElem?_eq_none h'] at hg
        have hg' : w'.heap[g]? = some (.cells cur 5 (0, 0)) := (hW.block g hgl).trans hg
        simp [World.shape?, hg']
      · exact ⟨some ⟨g, 0, none⟩, cap, rfl, fun w' _ => ⟨_, _, Lib.run_unsafeSliceData_row _ _ _ _ _ _ hc0, Bel.refl _⟩⟩
  obtain ⟨av, cap, rfl, hsd⟩ := HSD
  have c1 : w.cell? ⟨b, 1, none⟩ = some (.slice av 0 cap) := by
    rw [Lib.cell_of_heap hbk]; rfl
  have HSD := Lib.hid hsd
  have HUS := Lib.hid (fun (W : World) (q : Option Addr) => show (Builtin.unsafeString_ #[103, 3] 9 #[.pointer q, .int .i64 0]).run Tryz.prog W = .ok (.string ⟨#[]⟩) W from Lib.run_unsafeString_none W _ _ _ q)
  clear hown hbk hne h hsd
  go_enter Tryz.func38, Tryz.ntmps38
  go_upto_region 1 with fail
  refine region_tail 10 [(3, .exact _ (.slice av 0 cap)), (4, kPtrO), (8, .exact _ (.slice av 0 cap))] (by kernel_rfl) (by kernel_rfl) ?_
  simp only [List.take_succ_cons, List.take_zero, List.drop_succ_cons, List.drop_zero]
  (repeat (first | (refine wpG_skip (by kernel_rfl) (fun K hK => ?_); go_big_quiet_skip; refine wpQuiet_nil (hK _ ?_); clear hK K) | (refine wpG_quiet (by rfl) (by rfl) (fun K hK => ?_); go_big_quiet_want; go_big_quiet_op; go_big_quiet_on; refine wpQuiet_nil (hK _ ?_); clear hK K) | (refine wpG_nilOk rfl rfl rfl (by kernel_rfl) (fun K hK => ?_); go_simp; refine hK _ ?_; clear hK K)))
  refine wpG_exact rfl (by kernel_rfl) (fun w' G hB hS hG => ?_) (fun K hK => ?_)
  · have y := Below.keeps hB c1
    go_simp; exact hG _ (Bel.refl _)
  go_simp; refine hK _ ?_; clear hK K; (repeat (first | (refine wpG_skip (by kernel_rfl) (fun K hK => ?_); go_big_quiet_skip; refine wpQuiet_nil (hK _ ?_); clear hK K) | (refine wpG_quiet (by rfl) (by rfl) (fun K hK => ?_); go_big_quiet_want; go_big_quiet_op; go_big_quiet_on; refine wpQuiet_nil (hK _ ?_); clear hK K) | (refine wpG_nilOk rfl rfl rfl (by kernel_rfl) (fun K hK => ?_); go_simp; refine hK _ ?_; clear hK K)))
  refine wpG_known kPtrO rfl (by kernel_rfl) (fun w' G hB hS hG => ?_) (fun x K hK => ?_)
  · obtain ⟨q, w'', e, hb⟩ := HSD.out w' hB
    unfold growAt execOp
    simp only [resolve, invoke, builtin, Sem.run_bind, Sem.run_pure, Result.andThen_ok, List.map_toArray, List.map_cons, List.map_nil]
    go_simp
    exact hG q w'' hb (fun φ h => by cases h)
  go_simp; refine hK _ ?_; clear hK K; (repeat (first | (refine wpG_skip (by kernel_rfl) (fun K hK => ?_); go_big_quiet_skip; refine wpQuiet_nil (hK _ ?_); clear hK K) | (refine wpG_quiet (by rfl) (by rfl) (fun K hK => ?_); go_big_quiet_want; go_big_quiet_op; go_big_quiet_on; refine wpQuiet_nil (hK _ ?_); clear hK K) | (refine wpG_nilOk rfl rfl rfl (by kernel_rfl) (fun K hK => ?_); go_simp; refine hK _ ?_; clear hK K)))
  refine wpG_exact rfl (by kernel_rfl) (fun w' G hB hS hG => ?_) (fun K hK => ?_)
  · have y := Below.keeps hB c1
    go_simp; exact hG _ (Bel.refl _)
  go_simp; refine hK _ ?_; clear hK K; (repeat (first | (refine wpG_skip (by kernel_rfl) (fun K hK => ?_); go_big_quiet_skip; refine wpQuiet_nil (hK _ ?_); clear hK K) | (refine wpG_quiet (by rfl) (by rfl) (fun K hK => ?_); go_big_quiet_want; go_big_quiet_op; go_big_quiet_on; refine wpQuiet_nil (hK _ ?_); clear hK K) | (refine wpG_nilOk rfl rfl rfl (by kernel_rfl) (fun K hK => ?_); go_simp; refine hK _ ?_; clear hK K)))
  refine wpG_nilO ?_
  intro w5 hB5 hA5
  have ex : kPtrO.val x = .pointer (x : Option Addr) := rfl
  rw [ex]
  have e := HUS.out w5 x
  go_wp2
  go_ret
  exact ⟨rfl, hB5.mono hBw⟩
theorem BStrO_any (B b : Nat) (l : List UInt8) (w : World) (h : Lib.IsBuilder 70 5 B b (bcells l) w) (hBw : B ≤ w.heap.size) :
    Calls Tryz.prog 38 #[.pointer (some ⟨b, 0, none⟩)] w fun e w' => e = .returned (.string ⟨l.toArray⟩) ∧ Below B w w' := by
  cases l with
  | nil => exact BStrO_empty B b w h hBw
  | cons x r => exact BStrO B b (x :: r) w h (by simp) hBw
theorem BStringO_any (B b : Nat) (l : List UInt8) (w : World) (h : BldO B b l w) :
    Calls Tryz.prog 38 #[.pointer (some ⟨b, 0, none⟩)] w fun e w' => e = .returned (.string (bs l)) ∧ Below B w w' := BStrO_any B b l w h.2 h.1
end Go.Proofs.YtndagciefnddmaaGreatDoor
namespace Go.Proofs.YtndagciefnddmaaGreatDoor
open Go.RowKit Oct
theorem OP.empty (w : World) : OP (w.alloc (.cells #[] 60)) w.heap.size (.slice (some ⟨w.heap.size, 0, none⟩) 0 0) [] :=
  ⟨rfl, .inr ⟨w.heap.size, 0, #[], rfl, Nat.le_refl _, by show (w.heap.push _)[w.heap.size]? = _; simp, Nat.le_refl _, by decide, rfl, rfl⟩⟩
end Go.Proofs.YtndagciefnddmaaGreatDoor
namespace Go.Proofs.YtndagciefnddmaaGreatDoor
open Go.RowKit Oct
theorem OP.mono {w : World} {base base' : Nat} {v : Value} {l : List PR} (h : OP w base v l) (hb : base' ≤ base) : OP w base' v l := owns_mono h hb
end Go.Proofs.YtndagciefnddmaaGreatDoor
namespace Go.Proofs.YtndagciefnddmaaGreatDoor
open Go.RowKit Oct
def RR (w : World) (v : Value) (rows : List (List PR)) : Prop := ∃ a cap, v = .slice a rows.length cap ∧ rows.length ≤ cap ∧ (a = none → rows.length = 0 ∧ cap = 0) ∧
  ∀ k (hk : k < rows.length), ∃ b off u, a = some ⟨b, off, none⟩ ∧ w.cell? ⟨b, off + k, none⟩ = some u ∧ RP w u rows[k]
theorem RR.below {w w' : World} {v : Value} {rows : List (List PR)} (h : RR w v rows) (hB : Below w.heap.size w w') : RR w' v rows := by
  obtain ⟨a, cap, hv, hle, hn, hc⟩ := h
  refine ⟨a, cap, hv, hle, hn, fun k hk => ?_⟩
  obtain ⟨b, off, u, ha, hu, hr⟩ := hc k hk
  exact ⟨b, off, u, ha, Below.keeps hB hu, hr.below hB⟩
end Go.Proofs.YtndagciefnddmaaGreatDoor
namespace Go.Proofs.YtndagciefnddmaaGreatDoor
open Go.RowKit Oct
def w18 (p : PR) : Nat := 1 + (p.1.length + p.2.length) / 64
def c18 (l : List PR) : Nat := (l.map w18).sum
def t18 (rows : List (List PR)) : Nat := (rows.map fun r => c18 (r.take 200)).sum
def long18 (rows : List (List PR)) : Bool := decide (20 < rows.length) || decide (100 < t18 (rows.take 40))
theorem c18_take (l : List PR) (k : Nat) (h : k < l.length) : c18 (l.take (k + 1)) = c18 (l.take k) + w18 l[k] := by
  unfold c18
  rw [List.take_succ_eq_append_getElem h, List.map_append, List.sum_append]
  simp
theorem t18_take (l : List (List PR)) (k : Nat) (h : k < l.length) : t18 (l.take (k + 1)) = t18 (l.take k) + c18 (l[k].take 200) := by
  unfold t18
  rw [List.take_succ_eq_append_getElem h, List.map_append, List.sum_append]
  simp
theorem c18_le (l : List PR) : l.length ≤ c18 l := by
  induction l with
  | nil => simp [c18]
  | cons x l ih =>
    have e : c18 (x :: l) = w18 x + c18 l := by simp [c18]
    have : 1 ≤ w18 x := Nat.le_add_right _ _
    rw [List.length_cons, e]
    omega
theorem c18_mem : ∀ (l : List PR) (p : PR), p ∈ l → w18 p ≤ c18 l
  | x :: l, p, h => by
    have e : c18 (x :: l) = w18 x + c18 l := by simp [c18]
    rcases List.mem_cons.1 h with rfl | h
    · omega
    · have := c18_mem l p h; omega
theorem t18_mem : ∀ (rows : List (List PR)) (r : List PR), r ∈ rows → c18 (r.take 200) ≤ t18 rows
  | x :: l, r, h => by
    have e : t18 (x :: l) = c18 (x.take 200) + t18 l := by simp [t18]
    rcases List.mem_cons.1 h with rfl | h
    · omega
    · have := t18_mem l r h; omega
theorem long18_le (rows : List (List PR)) (h : long18 rows = false) : rows.length ≤ 20 ∧ ∀ r ∈ rows, r.length ≤ 100 ∧ ∀ p ∈ r, p.1.length ≤ 6400 ∧ p.2.length ≤ 6400 := by
  simp [long18] at h
  obtain ⟨h1, h2⟩ := h
  rw [List.take_of_length_le (by omega)] at h2
  refine ⟨h1, fun r hr => ?_⟩
  have h3 := t18_mem rows r hr
  have h4 := c18_le (r.take 200)
  rw [List.length_take] at h4
  have hl : r.length ≤ 100 := by omega
  refine ⟨hl, fun p hp => ?_⟩
  rw [List.take_of_length_le (by omega)] at h3
  have h5 := c18_mem r p hp
  unfold w18 at h5
  omega
theorem fin18 (rows : List (List PR)) (i : Nat) (hi : i ≤ rows.length) (h : ¬ (i < rows.length ∧ i < 40)) (h2 : i ≤ 40) : t18 (rows.take i) = t18 (rows.take 40) := by
  by_cases h1 : i < rows.length
  · rw [show i = 40 by omega]
  · rw [List.take_of_length_le (by omega), List.take_of_length_le (by omega)]
theorem finc18 (r : List PR) (i : Nat) (hi : i ≤ r.length) (h : ¬ (i < r.length ∧ i < 200)) (h2 : i ≤ 200) : c18 (r.take i) = c18 (r.take 200) := by
  by_cases h1 : i < r.length
  · rw [show i = 200 by omega]
  · rw [List.take_of_length_le (by omega), List.take_of_length_le (by omega)]
theorem w18_le (p : PR) (h1 : p.1.length ≤ 140737488355328) (h2 : p.2.length ≤ 140737488355328) : w18 p ≤ 8796093022208 := by unfold w18; omega
theorem w18_int (y : Nat) (p : PR) : ((y : Int) + 1 + ((p.1.length : Int) + (p.2.length : Int)) / 64) = ((y + w18 p : Nat) : Int) := by
  unfold w18
  omega
theorem bound18 {x y k : Nat} (h : y ≤ x + k * 8796093022208) {n : Nat} (hn : n ≤ 8796093022208) : y + n ≤ x + (k + 1) * 8796093022208 := by omega
theorem bound18' {x y k i : Nat} (h : y ≤ x + k * 8796093022208) (hk : k ≤ 200) (hx : x ≤ i * 1759218604441600) : y ≤ (i + 1) * 1759218604441600 := by omega
set_option maxRecDepth 100000 in
set_option maxHeartbeats 4000000 in
theorem Long18_any (v : Value) (rows : List (List PR)) (w : World) (hr : RR w v rows) (hl : rows.length ≤ 140737488355328) (hm : ∀ r ∈ rows, r.length ≤ 140737488355328 ∧ ∀ p ∈ r, p.1.length ≤ 140737488355328 ∧ p.2.length ≤ 140737488355328) :
    Calls Tryz.prog 8 #[v] w fun e w' => e = .returned (.bool (long18 rows)) ∧ Below w.heap.size w w' := by
  obtain ⟨a, cap, rfl, _, _, hc⟩ := hr
  have HC := Lib.hid hc
  have HM := Lib.hid hm
  clear hc hm
  go_enter Tryz.func8, Tryz.ntmps8
  go_wp2
  go_loopw [3, 4] (fun n t wr => ∃ i x : Nat, i ≤ rows.length ∧ i ≤ 40 ∧ t = .int .i64 (i : Int) ∧ n = .int .i64 (x : Int) ∧ x ≤ i * 1759218604441600 ∧ Hid (x = t18 (rows.take i)) ∧ Hid (Below w.heap.size w wr)) (fun _ t _ => 40 - (intOf t).toNat)
  case atStart => exact ⟨0, 0, by omega, by omega, rfl, rfl, by omega, rfl, Below.refl _ _⟩
  case round =>
    obtain ⟨i, x, hi, hi2, rfl, rfl, hx, hH, HB⟩ := hrel
    by_cases h0 : i < rows.length ∧ i < 40
    · obtain ⟨h1, h2⟩ := h0
      obtain ⟨b1, o1, u, rfl, d1, hru⟩ := HC.out i h1
      obtain ⟨a2, c2, rfl, _, hc2⟩ := hru.open
      have HC2 := Lib.hid hc2
      have HD := Lib.hid (Below.keeps HB.out d1)
      obtain ⟨hrl, hpl⟩ := HM.out rows[i] (List.getElem_mem h1)
      have HPL := Lib.hid hpl
      have HT := Lib.hid (t18_take rows i h1)
      obtain ⟨r, hr⟩ : ∃ r, r = rows[i] := ⟨_, rfl⟩
      rw [← hr] at HC2 HD hrl HPL HT
      clear hc2 hpl hr d1
      obtain ⟨Wr, hWr⟩ : ∃ Wr, Wr = wr := ⟨_, rfl⟩
      subst hWr
      have kk0 : (0 : Int) ≤ (i : Int) := by omega
      have kk1 : (i : Int) < (rows.length : Int) := by omega
      have kk2 : (i : Int) < 40 := by omega
      go_wp2
      go_loopw [3, 5] (fun n t wx => ∃ k y : Nat, k ≤ r.length ∧ k ≤ 200 ∧ t = .int .i64 (k : Int) ∧ n = .int .i64 (y : Int) ∧ y ≤ x + k * 8796093022208 ∧ Hid (y = x + c18 (r.take k)) ∧ Hid (Below Wr.heap.size Wr wx)) (fun _ t _ => 200 - (intOf t).toNat)
      case atStart => exact ⟨0, x, by omega, by omega, rfl, rfl, by omega, by simp [Hid, c18], b_refl _⟩
      case round =>
        obtain ⟨k, y, hk, hk2, rfl, rfl, hy, hJ, HB2⟩ := hrel
        have dd := Below.keeps HB2.out HD.out
        have jj0 : (0 : Int) ≤ (k : Int) := by omega
        by_cases h3 : k < r.length ∧ k < 200
        · obtain ⟨h4, h5⟩ := h3
          obtain ⟨b3, o3, rfl, e1, e2⟩ := HC2.out k h4
          have e1' := Below.keeps (bt HB.out HB2.out) e1
          have e2' := Below.keeps (bt HB.out HB2.out) e2
          have jj1 : (k : Int) < (r.length : Int) := by omega
          have jj2 : (k : Int) < 200 := by omega
          have hp1 := (HPL.out r[k] (List.getElem_mem h4)).1
          have hp2 := (HPL.out r[k] (List.getElem_mem h4)).2
          have hw := w18_le r[k] hp1 hp2
          have HS := Lib.hid (c18_take r k h4)
          have HW := Lib.hid (w18_int y r[k])
          clear e1 e2
          go_wp2
          go_quiet (fail)
          go_wp2
          refine ⟨⟨k + 1, y + w18 r[k], h4, h5, by go_num, v_int HW.out, bound18 hy hw, ?_, bt HB2.out (Below.drewN' _ _)⟩, by simp [intOf]; omega⟩
          unfold Hid
          rw [HS.out, hJ.out, Nat.add_assoc]
        · have hfin := finc18 r k hk h3 hk2
          have HY := Lib.hid (show y = t18 (rows.take (i + 1)) by rw [HT.out, hJ.out, hfin, hH.out])
          have HYB := Lib.hid (bound18' hy hk2 hx)
          have HBW := Lib.hid (HB.out.trans (HB2.out.mono HB.out.size))
          clear hfin
          by_cases h4 : k < r.length
          · have jj1 : (k : Int) < (r.length : Int) := by omega
            have jj2 : ¬ (k : Int) < 200 := by omega
            clear h3
            go_wp2
            exact ⟨⟨i + 1, y, h1, h2, by go_num, rfl, HYB.out, HY.out, HBW.out⟩, by simp [intOf]; omega⟩
          · have jj1 : ¬ (k : Int) < (r.length : Int) := by omega
            clear h3
            go_wp2
            exact ⟨⟨i + 1, y, h1, h2, by go_num, rfl, HYB.out, HY.out, HBW.out⟩, by simp [intOf]; omega⟩
    · have hfin := fin18 rows i hi h0 hi2
      have HX := Lib.hid (show x = t18 (rows.take 40) by rw [← hfin]; exact hH.out)
      have HLG := Lib.hid (show long18 rows = (decide (20 < rows.length) || decide (100 < x)) by rw [HX.out]; rfl)
      clear hfin hH
      by_cases h4 : 20 < rows.length
      · have c3 : (20 : Int) < (rows.length : Int) := by omega
        have HL := Lib.hid (show long18 rows = true by rw [HLG.out]; simp [h4])
        by_cases h1 : i < rows.length
        · have c1 : (i : Int) < (rows.length : Int) := by omega
          have c2 : ¬ (i : Int) < 40 := by omega
          clear h0
          go_wp2
          go_ret
          exact ⟨by rw [HL.out]; rfl, HB.out⟩
        · have c1 : ¬ (i : Int) < (rows.length : Int) := by omega
          clear h0
          go_wp2
          go_ret
          exact ⟨by rw [HL.out]; rfl, HB.out⟩
      · have c1 : ¬ (i : Int) < (rows.length : Int) := by omega
        have c3 : ¬ (20 : Int) < (rows.length : Int) := by omega
        clear h0
        by_cases h5 : 100 < x
        · have c4 : (100 : Int) < (x : Int) := by omega
          have HL := Lib.hid (show long18 rows = true by rw [HLG.out]; simp [h5])
          go_wp2
          go_ret
          exact ⟨by rw [HL.out]; rfl, HB.out⟩
        · have c4 : ¬ (100 : Int) < (x : Int) := by omega
          have HL := Lib.hid (show long18 rows = false by rw [HLG.out]; simp [h4, h5])
          go_wp2
          go_ret
          exact ⟨by rw [HL.out]; rfl, HB.out⟩
end Go.Proofs.YtndagciefnddmaaGreatDoor
namespace Go.Proofs.YtndagciefnddmaaGreatDoor
open Go.RowKit Oct
def allV (j : Jb) : List (List UInt8) → List (List PR) → List (List UInt8) × List UInt8 × Nat
  | out, [] => (out, [], 0)
  | out, r :: rs => if (tellJ j r).2.2 ≠ 0 then ([], (tellJ j r).2.1, (tellJ j r).2.2) else allV j (out ++ [(tellJ j r).1]) rs
def allJ (j : Jb) (rows : List (List PR)) : List (List UInt8) × List UInt8 × Nat := if mayJ j = true ∧ (rows.length : Int) = j.parts then allV j [] rows else ([], [], 2)
theorem allV_bad {j : Jb} {out : List (List UInt8)} {r : List PR} {rs : List (List PR)} (h : (tellJ j r).2.2 ≠ 0) : allV j out (r :: rs) = ([], (tellJ j r).2.1, (tellJ j r).2.2) := by rw [allV, if_pos h]
theorem allV_on {j : Jb} {out : List (List UInt8)} {r : List PR} {rs : List (List PR)} (h : (tellJ j r).2.2 = 0) : allV j out (r :: rs) = allV j (out ++ [(tellJ j r).1]) rs := by rw [allV, if_neg (fun q => q h)]
theorem tellV_len (j : Jb) : ∀ (l : List PR) (t : List UInt8), t.length ≤ 1048576 → (tellV j t l).1.length ≤ 1048576
  | [], t, h => h
  | x :: l, t, h => by
    rw [tellV]
    split
    · simp
    · split
      · simp
      · exact tellV_len j l _ (by rw [List.length_append]; omega)
theorem tellJ_len (j : Jb) (l : List PR) : (tellJ j l).1.length ≤ 1048576 := by
  unfold tellJ
  split
  · exact tellV_len j l [] (by simp)
  · simp
theorem allV_len (j : Jb) : ∀ (rs : List (List PR)) (out : List (List UInt8)), (allV j out rs).1.length ≤ out.length + rs.length ∧ ((∀ s ∈ out, s.length ≤ 1048576) → ∀ s ∈ (allV j out rs).1, s.length ≤ 1048576)
  | [], out => ⟨by simp [allV], fun h => h⟩
  | r :: rs, out => by
    rw [allV]
    split
    · exact ⟨by simp, fun _ s hs => by cases hs⟩
    · obtain ⟨h1, h2⟩ := allV_len j rs (out ++ [(tellJ j r).1])
      refine ⟨by simp at h1 ⊢; omega, fun h => h2 (fun s hs => ?_)⟩
      rcases List.mem_append.1 hs with hs | hs
      · exact h s hs
      · rw [List.mem_singleton.1 hs]; exact tellJ_len j r
theorem allJ_len (j : Jb) (rows : List (List PR)) : (allJ j rows).1.length ≤ rows.length ∧ ∀ s ∈ (allJ j rows).1, s.length ≤ 1048576 := by
  unfold allJ
  split
  · obtain ⟨h1, h2⟩ := allV_len j rows []
    exact ⟨by simpa using h1, h2 (fun s hs => by cases hs)⟩
  · exact ⟨by simp, fun s hs => by cases hs⟩
def countJ (p : Int) : Jb := ⟨[], [(3, 0), (2, 1), (8, 0), (23, 0)], [], [(3, 0), (7, 0), (3, 1), (7, 0), (9, 0), (8, 0)], [], [(3, 0), (3, 1), (4, 0)], p, 100⟩
def recSl : Rec (Option Addr × Nat × Nat) where
  cell x := [.slice x.1 x.2.1 x.2.2]
  e := 28
  n := 1
  bytes := 24
  z := .slice none 0 0
  len _ := rfl
  one _ u hu := by rw [List.mem_singleton.1 hu]; rfl
  info := by kernel_rfl
  zs := rfl
  pos := by decide
  bpos := by decide
def slV (x : Option Addr × Nat × Nat) : Value := .slice x.1 x.2.1 x.2.2
def SlR (w : World) (sl : List (Option Addr × Nat × Nat)) (rows : List (List PR)) : Prop := sl.length = rows.length ∧ ∀ k (h : k < sl.length) (h' : k < rows.length), RP w (slV sl[k]) rows[k]
theorem SlR.below {w w' : World} {sl : List (Option Addr × Nat × Nat)} {rows : List (List PR)} (h : SlR w sl rows) (hB : Below w.heap.size w w') : SlR w' sl rows := ⟨h.1, fun k h1 h2 => (h.2 k h1 h2).below hB⟩
theorem SlR.snoc {w : World} {sl : List (Option Addr × Nat × Nat)} {rows : List (List PR)} (h : SlR w sl rows) {x : Option Addr × Nat × Nat} {r : List PR} (hx : RP w (slV x) r) : SlR w (sl ++ [x]) (rows ++ [r]) := by
  refine ⟨by rw [List.length_append, List.length_append, h.1]; rfl, fun k h1 h2 => ?_⟩
  have hl := h.1
  by_cases hk : k < sl.length
  · rw [List.getElem_append_left hk, List.getElem_append_left (by omega)]; exact h.2 k hk (by omega)
  · rw [List.length_append] at h1
    simp only [List.length_cons, List.length_nil] at h1
    have hk2 : k = sl.length := by omega
    subst hk2
    rw [List.getElem_append_right (Nat.le_refl _), List.getElem_append_right (by omega)]
    simpa [hl] using hx
theorem RR.sl {w : World} {v : Value} {rows : List (List PR)} (h : RR w v rows) : ∃ sl, recSl.Row w v sl ∧ SlR w sl rows := by
  obtain ⟨a, cap, rfl, hle, hn, hc⟩ := h
  have hex : ∀ k (hk : k < rows.length), ∃ x : Option Addr × Nat × Nat, ∃ b off, a = some ⟨b, off, none⟩ ∧ w.cell? ⟨b, off + k, none⟩ = some (slV x) ∧ RP w (slV x) rows[k] := fun k hk => by
    obtain ⟨b, off, u, ha, hu, hr⟩ := hc k hk
    obtain ⟨a', c', rfl, _⟩ := hr.open
    exact ⟨(a', rows[k].length, c'), b, off, ha, hu, hr⟩
  let f : Nat → Option Addr × Nat × Nat := fun k => if hk : k < rows.length then Classical.choose (hex k hk) else (none, 0, 0)
  have hf : ∀ k (hk : k < rows.length), ∃ b off, a = some ⟨b, off, none⟩ ∧ w.cell? ⟨b, off + k, none⟩ = some (slV (f k)) ∧ RP w (slV (f k)) rows[k] := fun k hk => by
    show ∃ b off, a = some ⟨b, off, none⟩ ∧ w.cell? ⟨b, off + k, none⟩ = some (slV (if hk : k < rows.length then Classical.choose (hex k hk) else (none, 0, 0))) ∧ RP w (slV (if hk : k < rows.length then Classical.choose (hex k hk) else (none, 0, 0))) rows[k]
    rw [dif_pos hk]
    exact Classical.choose_spec (hex k hk)
  have hlen : ((List.range rows.length).map f).length = rows.length := by simp
  refine ⟨(List.range rows.length).map f, ⟨?_, a, cap, by rw [hlen], by rw [hlen]; exact hle⟩, hlen, fun k h1 h2 => ?_⟩
  · rw [hlen]
    refine ⟨a, cap, rfl, fun ha => ?_, fun j u hj => ?_⟩
    · have := hn ha
      first | exact this | exact ⟨by omega, by omega⟩ | exact this.1
    · have hjl : j < rows.length := by
        rcases Nat.lt_or_ge j rows.length with h | h
        · exact h
        · rw [List.getElem?_eq_none (by rw [Rec.cells_length, hlen]; show rows.length * 1 ≤ j; omega)] at hj; cases hj
      have hat := recSl.cells_at ((List.range rows.length).map f) j (by omega) 0 (slV (f j)) (by simp [recSl, slV])
      rw [show j * recSl.n + 0 = j from by show j * 1 + 0 = j; omega] at hat
      rw [hat] at hj
      cases hj
      obtain ⟨b, off, ha, hu, _⟩ := hf j hjl
      exact ⟨b, off, ha, hu⟩
  · obtain ⟨_, _, _, _, hr⟩ := hf k h2
    simpa using hr
theorem recSl_rr {w : World} {v : Value} {sl : List (Option Addr × Nat × Nat)} {rows : List (List PR)} (h : recSl.Row w v sl) (hs : SlR w sl rows) : RR w v rows := by
  obtain ⟨⟨a, cap, hv, hn, hc⟩, a', cap', hv', hle⟩ := h
  rw [hv] at hv'
  injection hv' with e1 e2 e3
  subst e1 e3
  refine ⟨a, cap, by rw [hv, hs.1], by rw [← hs.1]; exact hle, fun ha => ?_, fun k hk => ?_⟩
  · have := hn ha
    rw [hs.1] at this
    first | exact this | exact ⟨by omega, by omega⟩ 
  · have hkl : k < sl.length := by rw [hs.1]; exact hk
    have hat := recSl.cells_at sl k hkl 0 (slV sl[k]) (by simp [recSl, slV])
    rw [show k * recSl.n + 0 = k from by show k * 1 + 0 = k; omega] at hat
    obtain ⟨b, off, ha, hu⟩ := hc k _ hat
    exact ⟨b, off, slV sl[k], ha, hu, hs.2 k hkl hk⟩
end Go.Proofs.YtndagciefnddmaaGreatDoor
namespace Go.Proofs.YtndagciefnddmaaGreatDoor
open Go.RowKit Oct
attribute [local irreducible] wpG
set_option maxRecDepth 100000 in
set_option maxHeartbeats 4000000 in
theorem putO_long (B b : Nat) (l m : List UInt8) (w : World) (h : BldO B b l w) (hl : l.length ≤ 1048576) (hm : m.length ≤ 1048576) (hlg : 1048576 < l.length + m.length) :
    Calls Tryz.prog 37 #[.pointer (some ⟨b, 0, none⟩), .string (bs m)] w fun e w' => e = .returned (.int .i64 5) ∧ Below w.heap.size w w' := by
  have HL := Lib.hid (LenO_any B b l w h)
  have t1 : (1048576 : Int) < (l.length : Int) + (m.length : Int) := by omega
  have t2 : (l.length : Int) ≤ 1048576 := by omega
  have t3 : (m.length : Int) ≤ 1048576 := by omega
  clear h hl hm hlg
  go_enter Tryz.func37, Tryz.ntmps37
  go_wp2_with (go_at_call 52; refine HL.out.mono ?_; rintro e w1 ⟨rfl, rfl⟩)
  go_ret
  exact ⟨rfl, Below.refl _ _⟩
set_option maxRecDepth 100000 in
set_option maxHeartbeats 4000000 in
theorem putO_ok (B b : Nat) (l m : List UInt8) (w : World) (h : BldO B b l w) (hl : l.length ≤ 1048576) (hm : m.length ≤ 1048576) (hlg : ¬ 1048576 < l.length + m.length) :
    Calls Tryz.prog 37 #[.pointer (some ⟨b, 0, none⟩), .string (bs m)] w fun e w' => e = .returned (.int .i64 0) ∧ BldO B b (l ++ m) w' ∧ Below B w w' ∧ Kept b w w' := by
  have HL := Lib.hid (LenO_any B b l w h)
  have HW := Lib.hid (WriteStringO_kept B b l m w h (by omega))
  have t1 : ¬ (1048576 : Int) < (l.length : Int) + (m.length : Int) := by omega
  have t2 : (l.length : Int) ≤ 1048576 := by omega
  have t3 : (m.length : Int) ≤ 1048576 := by omega
  clear h hl hm hlg
  go_enter Tryz.func37, Tryz.ntmps37
  go_wp2_with (first | (go_at_call 52; refine HL.out.mono ?_; rintro e w1 ⟨rfl, rfl⟩) | (go_at_call 53; refine HW.out.mono ?_; rintro e w1 ⟨rfl, h1, h2, h3⟩; have H1 := Lib.hid h1; have H2 := Lib.hid h2; have H3 := Lib.hid h3; clear h1 h2 h3))
  go_ret
  exact ⟨rfl, H1.out, H2.out, H3.out⟩
def TCRes (B b : Nat) (t : List UInt8) (R : Nat × List (List UInt8 × List UInt8) × List UInt8) (e : Ending) (w w' : World) : Prop :=
  (R.1 ≠ 0 → e = .returned (.int .i64 (R.1 : Int)) ∧ Below w.heap.size w w') ∧ (R.1 = 0 → 1048576 < t.length + R.2.2.length → e = .returned (.int .i64 5) ∧ Below w.heap.size w w') ∧
  (R.1 = 0 → ¬ 1048576 < t.length + R.2.2.length → e = .returned (.int .i64 0) ∧ BldO B b (t ++ R.2.2) w' ∧ Below B w w' ∧ Kept b w w')
set_option maxRecDepth 100000 in
set_option maxHeartbeats 8000000 in
theorem tellC_any (J C B b : Nat) (t1 c1 t2 c2 t3 c3 : Value) (j : Jb) (x : PR) (t : List UInt8) (w : World) (h : JobR w t1 c1 t2 c2 t3 c3 j) (hmay : mayJ j = true) (hdo : doesAt w) (hJ : Blk w J 27 [t1, c1, t2, c2, t3, c3, .int .i64 j.parts, .int .i64 j.fuel])
    (hC : Blk w C 64 [.pointer (some ⟨b, 0, none⟩)]) (hb : BldO B b t w) (ht : t.length ≤ 1048576) (h1 : x.1.length ≤ 140737488355328) (h2 : x.2.length ≤ 140737488355328) :
    Calls Tryz.prog 36 #[.agg #[.string (bs x.1), .string (bs x.2)], .pointer (some ⟨J, 0, none⟩), .pointer (some ⟨C, 0, none⟩)] w fun e w' => TCRes B b t (vmV j.tt j.tc 3 [x.1, x.2] j.fuel) e w w' := by
  have HTE := Lib.hid (fun w' (hB : Below w.heap.size w w') => by
    have := jTell_any t1 c1 t2 c2 t3 c3 j x.1 x.2 w' (h.below hB) (hdo.below hB) h1 h2
    rw [jobRun_may hmay] at this
    exact this)
  have hrl := vmV_text j.tt j.tc 3 [x.1, x.2] j.fuel
  obtain ⟨R, hR⟩ : ∃ R, R = vmV j.tt j.tc 3 [x.1, x.2] j.fuel := ⟨_, rfl⟩
  rw [← hR] at HTE hrl ⊢
  obtain ⟨ta, tc, rfl, -, -⟩ := recS_open h.a.t
  obtain ⟨ca, cc, rfl, -, -⟩ := recIns_open h.a.c
  obtain ⟨ta2, tc2, rfl, -, -⟩ := recS_open h.b.t
  obtain ⟨ca2, cc2, rfl, -, -⟩ := recIns_open h.b.c
  obtain ⟨ta3, tc3, rfl, -, -⟩ := recS_open h.c.t
  obtain ⟨ca3, cc3, rfl, -, -⟩ := recIns_open h.c.c
  unfold jobV at HTE
  obtain ⟨X, hX⟩ : ∃ X, X = w.heap.size := ⟨_, rfl⟩
  obtain ⟨W1, hW1⟩ : ∃ W1, W1 = w.alloc (.cells #[.string (bs x.1), .string (bs x.2)] 60) := ⟨_, rfl⟩
  have hb1 : Below w.heap.size w W1 := by rw [hW1]; exact b_alloc _ _
  have hx : Blk W1 X 60 [.string (bs x.1), .string (bs x.2)] := by rw [hX, hW1]; exact Blk.new w _ _
  have y0 := hx.cell (k := 0) rfl
  have y1 := hx.cell (k := 1) rfl
  have hj1 := hJ.below hb1
  have x0 := hj1.cell (k := 0) rfl
  have x1 := hj1.cell (k := 1) rfl
  have x2 := hj1.cell (k := 2) rfl
  have x3 := hj1.cell (k := 3) rfl
  have x4 := hj1.cell (k := 4) rfl
  have x5 := hj1.cell (k := 5) rfl
  have x6 := hj1.cell (k := 6) rfl
  have x7 := hj1.cell (k := 7) rfl
  have HB1 := Lib.hid hb1
  have HBD := Lib.hid (hb.below hb1)
  have HC1 := Lib.hid (hC.below hb1)
  have htl : (t.length : Int) ≤ 1048576 := by omega
  have HWB := Lib.hid hb.1
  go_enter Tryz.func36, Tryz.ntmps36
  go_upto_region 1 with fail
  rw [← hW1, ← hX]
  clear hW1 hX hb1 hx h hmay hdo hJ hC hb hj1 h1 h2 hR
  by_cases hz : R.1 = 0
  · have t3 : ((R.1 : Int) != 0) = false := by rw [hz]; rfl
    by_cases hq : 1048576 < t.length + R.2.2.length
    · have HP := Lib.hid (fun w' (hB : Below W1.heap.size W1 w') => putO_long B b t R.2.2 w' (HBD.out.below hB) ht (by omega) hq)
      have HZ := Lib.hid hz
      have HQ := Lib.hid hq
      clear hz hq
      go_upto_region 4 with (go_at_call 28; refine (HTE.out _ HB1.out).mono ?_; rintro e w2 ⟨rfl, hB2⟩; have z0 := (HC1.out.below hB2).cell (k := 0) rfl; have HB2 := Lib.hid hB2; clear hB2 x0 x1 x2 x3 x4 x5 x6 x7 y0 y1)
      go_wp2_with (go_at_call 37; refine (HP.out _ HB2.out).mono ?_; rintro e w3 ⟨rfl, hB3⟩; have HB3 := Lib.hid hB3; clear hB3)
      go_ret
      exact ⟨fun q => absurd HZ.out q, fun _ _ => ⟨rfl, bt (bt HB1.out HB2.out) HB3.out⟩, fun _ q => absurd HQ.out q⟩
    · have HP := Lib.hid (fun w' (hB : Below W1.heap.size W1 w') => putO_ok B b t R.2.2 w' (HBD.out.below hB) ht (by omega) hq)
      have HZ := Lib.hid hz
      have HQ := Lib.hid hq
      clear hz hq
      go_upto_region 4 with (go_at_call 28; refine (HTE.out _ HB1.out).mono ?_; rintro e w2 ⟨rfl, hB2⟩; have z0 := (HC1.out.below hB2).cell (k := 0) rfl; have HB2 := Lib.hid hB2; clear hB2 x0 x1 x2 x3 x4 x5 x6 x7 y0 y1)
      go_wp2_with (go_at_call 37; refine (HP.out _ HB2.out).mono ?_; rintro e w3 ⟨rfl, hD3, hB3, hK3⟩; have HD3 := Lib.hid hD3; have HB3 := Lib.hid hB3; have HK3 := Lib.hid hK3; clear hD3 hB3 hK3)
      go_ret
      have hbb := bt HB1.out HB2.out
      exact ⟨fun q => absurd HZ.out q, fun _ q => absurd q HQ.out, fun _ _ => ⟨rfl, HD3.out, (hbb.mono HWB.out).trans HB3.out, (Kept.below hbb).trans HK3.out⟩⟩
  · have t3 : ((R.1 : Int) != 0) = true := by rw [bne_iff_ne]; omega
    have HZ := Lib.hid hz
    clear hz
    go_wp2_with (go_at_call 28; refine (HTE.out _ HB1.out).mono ?_; rintro e w2 ⟨rfl, hB2⟩; have HB2 := Lib.hid hB2; clear hB2)
    go_ret
    exact ⟨fun _ => ⟨rfl, bt HB1.out HB2.out⟩, fun q => absurd q HZ.out, fun q => absurd q HZ.out⟩
end Go.Proofs.YtndagciefnddmaaGreatDoor
namespace Go.Proofs.YtndagciefnddmaaGreatDoor
open Go.RowKit Oct
attribute [local irreducible] wpG
theorem Kept.blk {b : Nat} {w w' : World} (h : Kept b w w') {k : Nat} {t : TypeId} {cs : List Value} (hb : Blk w k t cs) (hk : k ≠ b) (ht : t ≠ 5) : Blk w' k t cs := h k _ t _ hk ht hb
theorem mayJ_no {j : Jb} (h : ¬ mayJ j = true) : (checkJ j).2.2 ≠ 0 := fun q => h (by unfold mayJ; rw [q]; rfl)
theorem mayJ_yes {j : Jb} (h : mayJ j = true) : (checkJ j).2.2 = 0 := by
  unfold mayJ at h
  exact beq_iff_eq.1 h
set_option maxRecDepth 100000 in
set_option maxHeartbeats 8000000 in
theorem Tell20_any (t1 c1 t2 c2 t3 c3 v : Value) (j : Jb) (l : List PR) (w : World) (h : JobR w t1 c1 t2 c2 t3 c3 j) (hdo : doesAt w) (hv : RP w v l) (hl : l.length ≤ 140737488355328) (hb : ∀ p ∈ l, p.1.length ≤ 140737488355328 ∧ p.2.length ≤ 140737488355328) :
    Calls Tryz.prog 10 #[jobV t1 c1 t2 c2 t3 c3 j, v] w fun e w' => e = .returned (.tuple #[.string (bs (tellJ j l).1), .string (bs (tellJ j l).2.1), .int .i64 ((tellJ j l).2.2 : Int)]) ∧ Below w.heap.size w w' := by
  have HCK := Lib.hid (fun w' (hB : Below w.heap.size w w') => jCheck_any t1 c1 t2 c2 t3 c3 j w' (h.below hB))
  have HON := Lib.hid (fun w' (hB : Below w.heap.size w w') => once_any v l w' (hv.below hB) hl)
  have HTC := Lib.hid (fun (hm : mayJ j = true) (J C B b : Nat) (x : PR) (t : List UInt8) w' (hB : Below w.heap.size w w') hJ hC hbd ht h1 h2 => tellC_any J C B b t1 c1 t2 c2 t3 c3 j x t w' (h.below hB) hm (hdo.below hB) hJ hC hbd ht h1 h2)
  obtain ⟨ta, tc, rfl, -, -⟩ := recS_open h.a.t
  obtain ⟨ca, cc, rfl, -, -⟩ := recIns_open h.a.c
  obtain ⟨ta2, tc2, rfl, -, -⟩ := recS_open h.b.t
  obtain ⟨ca2, cc2, rfl, -, -⟩ := recIns_open h.b.c
  obtain ⟨ta3, tc3, rfl, -, -⟩ := recS_open h.c.t
  obtain ⟨ca3, cc3, rfl, -, -⟩ := recIns_open h.c.c
  obtain ⟨av, cv, rfl, _, hc⟩ := hv.open
  unfold jobV at HCK ⊢
  have HCC := Lib.hid hc
  have HBB := Lib.hid hb
  obtain ⟨W1, hW1⟩ : ∃ W1, W1 = w.alloc (.cells #[.slice ta j.mt.length tc, .slice ca j.mc.length cc, .slice ta2 j.jt.length tc2, .slice ca2 j.jc.length cc2, .slice ta3 j.tt.length tc3, .slice ca3 j.tc.length cc3, .int .i64 j.parts, .int .i64 j.fuel] 27) := ⟨_, rfl⟩
  have hb1 : Below w.heap.size w W1 := by rw [hW1]; exact b_alloc _ _
  obtain ⟨J, hJ⟩ : ∃ J, J = w.heap.size := ⟨_, rfl⟩
  have hx : Blk W1 J 27 [.slice ta j.mt.length tc, .slice ca j.mc.length cc, .slice ta2 j.jt.length tc2, .slice ca2 j.jc.length cc2, .slice ta3 j.tt.length tc3, .slice ca3 j.tc.length cc3, .int .i64 j.parts, .int .i64 j.fuel] := by rw [hJ, hW1]; exact Blk.new w _ _
  have x0 := hx.cell (k := 0) rfl
  have x1 := hx.cell (k := 1) rfl
  have x2 := hx.cell (k := 2) rfl
  have x3 := hx.cell (k := 3) rfl
  have x4 := hx.cell (k := 4) rfl
  have x5 := hx.cell (k := 5) rfl
  have x6 := hx.cell (k := 6) rfl
  have x7 := hx.cell (k := 7) rfl
  have HB1 := Lib.hid hb1
  have HX := Lib.hid hx
  go_enter Tryz.func10, Tryz.ntmps10
  go_upto_region 1 with fail
  rw [← hW1, ← hJ]
  clear hW1 hJ hb1 hx h hv hc hb hdo
  obtain ⟨ck, hck⟩ : ∃ ck, ck = checkJ j := ⟨_, rfl⟩
  rw [← hck] at HCK
  by_cases hm : mayJ j = true
  · have t1 : ((ck.2.2 : Int) != 0) = false := by rw [hck, mayJ_yes hm]; rfl
    by_cases ho : once l = true
    · rw [ho] at HON
      have HTJ := Lib.hid (show tellJ j l = tellV j [] l from if_pos ⟨hm, ho⟩)
      have HTM := Lib.hid (HTC.out hm)
      clear hm ho HTC hck
      go_upto_region 4 with (first | (go_at_call 35; refine (HCK.out _ HB1.out).mono ?_; rintro e w2 ⟨rfl, hB2⟩; have HB2 := Lib.hid (bt HB1.out hB2); have HX2 := Lib.hid (HX.out.below hB2); clear hB2 x0 x1 x2 x3 x4 x5 x6 x7) | (go_at_call 23; refine (HON.out _ HB2.out).mono ?_; rintro e w3 ⟨rfl, hB3⟩; have HB3 := Lib.hid (bt HB2.out hB3); have HX3 := Lib.hid (HX2.out.below hB3); clear hB3))
      go_upto_region 5 with fail
      obtain ⟨b, hbn⟩ : ∃ b, b = w3.heap.size := ⟨_, rfl⟩
      obtain ⟨W4, hW4⟩ : ∃ W4, W4 = (w3.alloc (.cells #[.pointer none, .slice none 0 0] 70)).alloc (.cells #[.pointer (some ⟨b, 0, none⟩)] 64) := ⟨_, rfl⟩
      have hs1 : (w3.alloc (.cells #[.pointer none, .slice none 0 0] 70)).heap.size = b + 1 := by rw [hbn]; exact size_alV _ _
      have hBD : BldO b b [] W4 := by rw [hW4, hbn]; exact (BldO.fresh w3).below (b_alloc _ _)
      have hC : Blk W4 (b + 1) 64 [.pointer (some ⟨b, 0, none⟩)] := by rw [hW4, ← hs1]; exact Blk.new _ _ _
      have hB4 : Below w3.heap.size w3 W4 := by rw [hW4]; exact bt (b_alloc _ _) (b_alloc _ _)
      have hX4 := HX3.out.below hB4
      have HJb := Lib.hid (show J < b by rw [hbn]; exact HX3.out.lt)
      have HBW := Lib.hid (show w.heap.size ≤ b by rw [hbn]; exact HB3.out.size)
      have HB4 := Lib.hid (bt HB3.out hB4)
      have HX4 := Lib.hid hX4
      have HC4 := Lib.hid hC
      have HBD := Lib.hid hBD
      first | rw [← hbn] | skip
      first | rw [← hW4] | (rw [hbn] at hW4; rw [← hW4]; rw [← hbn])
      try rw [← hbn]
      clear hW4 hs1 hBD hC hB4 hX4 hbn
      go_wp2_with fail
      go_loopw [33] (fun i wr => ∃ (k : Nat) (t : List UInt8), k ≤ l.length ∧ i = .int .i64 k ∧ Hid (tellV j t (l.drop k) = tellV j [] l) ∧ Hid (t.length ≤ 1048576) ∧ Hid (BldO b b t wr) ∧ Hid (Below b W4 wr) ∧ Hid (Kept b W4 wr)) (fun i _ => l.length - (intOf i).toNat)
      case atStart => exact ⟨0, [], by omega, rfl, rfl, Nat.zero_le _, HBD.out, Below.refl _ _, fun _ _ _ _ _ _ h => h⟩
      case round =>
        obtain ⟨k, t, hk, rfl, HTV, HTL, HBR, HBL, HKR⟩ := hrel
        have hcr := HKR.out.blk HC4.out (Nat.succ_ne_self b) (by decide)
        have hxr := HX4.out.low HBL.out HJb.out
        have hbw : Below w.heap.size w wr := HB4.out.trans (HBL.out.mono HBW.out)
        by_cases h0 : k < l.length
        · obtain ⟨bb, off, rfl, e1, e2⟩ := HCC.out k h0
          have hbl := HBB.out _ (List.getElem_mem h0)
          have hdr : l.drop k = l[k] :: l.drop (k + 1) := List.drop_eq_getElem_cons h0
          obtain ⟨x, hxe⟩ : ∃ x, x = l[k] := ⟨_, rfl⟩
          rw [← hxe] at e1 e2 hbl hdr
          have HD := Lib.hid hdr
          replace e1 := Below.keeps hbw e1
          replace e2 := Below.keeps hbw e2
          have i0 : (0 : Int) ≤ (k : Int) := by omega
          have i1 : (k : Int) < (l.length : Int) := by omega
          have HHH := Lib.hid h0
          have HCR := Lib.hid hcr
          have HXR := Lib.hid hxr
          have HWR := Lib.hid hbw
          clear hdr hxe hcr hxr hbw h0
          go_upto_region 9 with fail
          obtain ⟨V, hV⟩ : ∃ V, V = wr.alloc (.cells #[.string (bs x.1), .string (bs x.2)] 60) := ⟨_, rfl⟩
          obtain ⟨S, hS⟩ : ∃ S, S = wr.heap.size := ⟨_, rfl⟩
          have hbV : Below wr.heap.size wr V := by rw [hV]; exact b_alloc _ _
          have hp : Blk V S 60 [.string (bs x.1), .string (bs x.2)] := by rw [hS, hV]; exact Blk.new _ _ _
          have HG := Lib.hid (HTM.out J (b + 1) b b x t V (bt HWR.out hbV) (HXR.out.below hbV) (HCR.out.below hbV) (HBR.out.below hbV) HTL.out hbl.1 hbl.2)
          have p0 := hp.cell (k := 0) rfl
          have p1 := hp.cell (k := 1) rfl
          have HP := Lib.hid hp
          have HBV := Lib.hid hbV
          have HSB := Lib.hid (show b < S by rw [hS]; exact HBR.out.lt)
          first | rw [← hV, ← hS] | (rw [← hS, ← hV])
          clear hV hS hbV hp hbl e1 e2
          obtain ⟨R, hR⟩ : ∃ R, R = vmV j.tt j.tc 3 [x.1, x.2] j.fuel := ⟨_, rfl⟩
          rw [← hR] at HG
          have HR := Lib.hid hR
          clear hR
          by_cases hz : R.1 = 0
          · by_cases hq : 1048576 < t.length + R.2.2.length
            · have HQ := Lib.hid (show tellV j t (x :: l.drop (k + 1)) = ([], x.1, 5) from tellV_long (by rw [← HR.out]; exact hz) (by rw [← HR.out]; exact hq))
              have HZ := Lib.hid hz
              have HLQ := Lib.hid hq
              clear hz hq
              go_wp2_with (go_at_call 36; refine HG.out.mono ?_; rintro e w7 ⟨-, hres, -⟩; obtain ⟨rfl, hB7⟩ := hres HZ.out HLQ.out; replace p0 := Below.keeps hB7 p0; have HB7 := Lib.hid (bt HBV.out hB7); clear hB7 hres)
              go_quiet (fail)
              go_wp2_with fail
              go_ret3
              rw [HTJ.out, ← HTV.out, HD.out, HQ.out]
              exact ⟨rfl, bt (bt HWR.out HB7.out) (Below.drewN' _ _)⟩
            · have HQ := Lib.hid (show tellV j t (x :: l.drop (k + 1)) = tellV j (t ++ R.2.2) (l.drop (k + 1)) by rw [HR.out]; exact tellV_on (by rw [← HR.out]; exact hz) (by rw [← HR.out]; exact hq))
              have HL2 := Lib.hid (show (t ++ R.2.2).length ≤ 1048576 by rw [List.length_append]; omega)
              have HZ := Lib.hid hz
              have HLQ := Lib.hid hq
              clear hz hq
              go_wp2_with (go_at_call 36; refine HG.out.mono ?_; rintro e w7 ⟨-, -, hres⟩; obtain ⟨rfl, hD7, hB7, hK7⟩ := hres HZ.out HLQ.out; have HD7 := Lib.hid hD7; have HB7 := Lib.hid hB7; have HK7 := Lib.hid hK7; clear hB7 hD7 hK7 hres)
              go_roundw
              case rel => exact ⟨k + 1, t ++ R.2.2, HHH.out, by go_num, by rw [← HQ.out, ← HD.out]; exact HTV.out, HL2.out, HD7.out, (HBL.out.trans (HBV.out.mono (Nat.le_of_lt HBR.out.lt))).trans HB7.out, (HKR.out.trans (Kept.below HBV.out)).trans HK7.out⟩
              case measure => have := HHH.out; simp [intOf]; omega
          · have HQ := Lib.hid (show tellV j t (x :: l.drop (k + 1)) = ([], x.1, R.1) by rw [HR.out]; exact tellV_bad (by rw [← HR.out]; exact hz))
            have t3 : ((R.1 : Int) != 0) = true := by rw [bne_iff_ne]; omega
            have HZ := Lib.hid hz
            clear hz
            go_wp2_with (go_at_call 36; refine HG.out.mono ?_; rintro e w7 ⟨hres, -, -⟩; obtain ⟨rfl, hB7⟩ := hres HZ.out; replace p0 := Below.keeps hB7 p0; have HB7 := Lib.hid (bt HBV.out hB7); clear hB7 hres)
            go_quiet (fail)
            go_wp2_with fail
            go_ret3
            rw [HTJ.out, ← HTV.out, HD.out, HQ.out]
            exact ⟨rfl, bt (bt HWR.out HB7.out) (Below.drewN' _ _)⟩
        · have i1 : ¬ (k : Int) < (l.length : Int) := by omega
          have HE := Lib.hid (show tellV j [] l = (t, [], 0) by rw [← HTV.out, List.drop_eq_nil_of_le (by omega)]; rfl)
          have HWR := Lib.hid hbw
          have z0 := hcr.cell (k := 0) rfl
          have hblt := HBR.out.lt
          clear hcr hxr hbw h0
          go_wp2_with (go_at_call 38; refine (BStringO_any b b t wr HBR.out).mono ?_; rintro e w8 ⟨rfl, hB8⟩; have HB8 := Lib.hid hB8; clear hB8)
          go_ret3
          rw [HTJ.out, HE.out]
          exact ⟨rfl, HWR.out.trans (HB8.out.mono HBW.out)⟩
    · have hno : once l = false := by cases q : once l with
        | false => rfl
        | true => exact absurd q ho
      rw [hno] at HON
      have HTJ := Lib.hid (show tellJ j l = ([], [], 2) from if_neg (fun q => ho q.2))
      clear hm ho hno hck HTC
      go_wp2_with (first | (go_at_call 35; refine (HCK.out _ HB1.out).mono ?_; rintro e w2 ⟨rfl, hB2⟩; have HB2 := Lib.hid (bt HB1.out hB2); clear hB2 x0 x1 x2 x3 x4 x5 x6 x7) | (go_at_call 23; refine (HON.out _ HB2.out).mono ?_; rintro e w3 ⟨rfl, hB3⟩; have HB3 := Lib.hid (bt HB2.out hB3); clear hB3))
      go_ret3
      rw [HTJ.out]
      exact ⟨rfl, HB3.out⟩
  · have t1 : ((ck.2.2 : Int) != 0) = true := by rw [bne_iff_ne]; have := mayJ_no hm; rw [← hck] at this; omega
    have HTJ := Lib.hid (show tellJ j l = ([], [], 2) from if_neg (fun q => hm q.1))
    clear hm hck HTC
    go_wp2_with (go_at_call 35; refine (HCK.out _ HB1.out).mono ?_; rintro e w2 ⟨rfl, hB2⟩; have HB2 := Lib.hid (bt HB1.out hB2); clear hB2)
    go_ret3
    rw [HTJ.out]
    exact ⟨rfl, HB2.out⟩
end Go.Proofs.YtndagciefnddmaaGreatDoor
namespace Go.Proofs.YtndagciefnddmaaGreatDoor
open Go.RowKit Oct
attribute [local irreducible] wpG
set_option maxRecDepth 100000 in
set_option maxHeartbeats 8000000 in
theorem Size20_any (t1 c1 t2 c2 t3 c3 v : Value) (j : Jb) (l : List PR) (w : World) (h : JobR w t1 c1 t2 c2 t3 c3 j) (hdo : doesAt w) (hv : RP w v l) (hl : l.length ≤ 140737488355328) (hb : ∀ p ∈ l, p.1.length ≤ 140737488355328 ∧ p.2.length ≤ 140737488355328) :
    Calls Tryz.prog 12 #[jobV t1 c1 t2 c2 t3 c3 j, v] w fun e w' => e = .returned (.tuple #[.int .i64 ((tellJ j l).1.length : Int), .int .i64 ((tellJ j l).2.2 : Int)]) ∧ Below w.heap.size w w' := by
  have HT := Lib.hid (fun w' (hB : Below w.heap.size w w') => Tell20_any t1 c1 t2 c2 t3 c3 v j l w' (h.below hB) (hdo.below hB) (hv.below hB) hl hb)
  obtain ⟨ta, tc, rfl, -, -⟩ := recS_open h.a.t
  obtain ⟨ca, cc, rfl, -, -⟩ := recIns_open h.a.c
  obtain ⟨ta2, tc2, rfl, -, -⟩ := recS_open h.b.t
  obtain ⟨ca2, cc2, rfl, -, -⟩ := recIns_open h.b.c
  obtain ⟨ta3, tc3, rfl, -, -⟩ := recS_open h.c.t
  obtain ⟨ca3, cc3, rfl, -, -⟩ := recIns_open h.c.c
  obtain ⟨av, cv, rfl, _, -⟩ := hv.open
  unfold jobV at HT ⊢
  obtain ⟨W1, hW1⟩ : ∃ W1, W1 = w.alloc (.cells #[.slice ta j.mt.length tc, .slice ca j.mc.length cc, .slice ta2 j.jt.length tc2, .slice ca2 j.jc.length cc2, .slice ta3 j.tt.length tc3, .slice ca3 j.tc.length cc3, .int .i64 j.parts, .int .i64 j.fuel] 27) := ⟨_, rfl⟩
  have hb1 : Below w.heap.size w W1 := by rw [hW1]; exact b_alloc _ _
  obtain ⟨J, hJ⟩ : ∃ J, J = w.heap.size := ⟨_, rfl⟩
  have hx : Blk W1 J 27 [.slice ta j.mt.length tc, .slice ca j.mc.length cc, .slice ta2 j.jt.length tc2, .slice ca2 j.jc.length cc2, .slice ta3 j.tt.length tc3, .slice ca3 j.tc.length cc3, .int .i64 j.parts, .int .i64 j.fuel] := by rw [hJ, hW1]; exact Blk.new w _ _
  have x0 := hx.cell (k := 0) rfl
  have x1 := hx.cell (k := 1) rfl
  have x2 := hx.cell (k := 2) rfl
  have x3 := hx.cell (k := 3) rfl
  have x4 := hx.cell (k := 4) rfl
  have x5 := hx.cell (k := 5) rfl
  have x6 := hx.cell (k := 6) rfl
  have x7 := hx.cell (k := 7) rfl
  have HB1 := Lib.hid hb1
  have HX := Lib.hid hx
  have hlen := tellJ_len j l
  obtain ⟨R, hR⟩ : ∃ R, R = tellJ j l := ⟨_, rfl⟩
  rw [← hR] at HT hlen ⊢
  go_enter Tryz.func12, Tryz.ntmps12
  go_upto_region 1 with fail
  rw [← hW1, ← hJ]
  clear hW1 hJ hb1 hx h hv hb hdo hR
  go_wp2_with (go_at_call 10; refine (HT.out _ HB1.out).mono ?_; rintro e w2 ⟨rfl, hB2⟩; have HB2 := Lib.hid (bt HB1.out hB2); clear hB2)
  go_ret2
  exact ⟨rfl, HB2.out⟩
theorem okAll {rows : List (List PR)} {k n : Nat} (h : rows.length ≤ 1000000) (hk : k ≤ rows.length) (hn : n ≤ k) : (n + 1) * 16 ≤ 140737488355328 := by omega
set_option maxRecDepth 100000 in
set_option maxHeartbeats 8000000 in
theorem All20_any (t1 c1 t2 c2 t3 c3 v : Value) (j : Jb) (rows : List (List PR)) (w : World) (h : JobR w t1 c1 t2 c2 t3 c3 j) (hdo : doesAt w) (hv : RR w v rows) (hl : rows.length ≤ 1000000) (hb : ∀ r ∈ rows, r.length ≤ 140737488355328 ∧ ∀ p ∈ r, p.1.length ≤ 140737488355328 ∧ p.2.length ≤ 140737488355328) :
    Calls Tryz.prog 13 #[jobV t1 c1 t2 c2 t3 c3 j, v] w fun e w' => (∃ tv, e = .returned (.tuple #[tv, .string (bs (allJ j rows).2.1), .int .i64 ((allJ j rows).2.2 : Int)]) ∧ recS.Own w' w.heap.size tv (allJ j rows).1) ∧ Below w.heap.size w w' := by
  have HCK := Lib.hid (fun w' (hB : Below w.heap.size w w') => jCheck_any t1 c1 t2 c2 t3 c3 j w' (h.below hB))
  have HT := Lib.hid (fun (u : Value) (l : List PR) w' (hB : Below w.heap.size w w') hv hl hb => Tell20_any t1 c1 t2 c2 t3 c3 u j l w' (h.below hB) (hdo.below hB) hv hl hb)
  obtain ⟨ta, tc, rfl, -, -⟩ := recS_open h.a.t
  obtain ⟨ca, cc, rfl, -, -⟩ := recIns_open h.a.c
  obtain ⟨ta2, tc2, rfl, -, -⟩ := recS_open h.b.t
  obtain ⟨ca2, cc2, rfl, -, -⟩ := recIns_open h.b.c
  obtain ⟨ta3, tc3, rfl, -, -⟩ := recS_open h.c.t
  obtain ⟨ca3, cc3, rfl, -, -⟩ := recIns_open h.c.c
  obtain ⟨av, cv, rfl, _, _, hc⟩ := hv
  unfold jobV at HCK HT ⊢
  have HCC := Lib.hid hc
  have HBB := Lib.hid hb
  obtain ⟨W1, hW1⟩ : ∃ W1, W1 = w.alloc (.cells #[.slice ta j.mt.length tc, .slice ca j.mc.length cc, .slice ta2 j.jt.length tc2, .slice ca2 j.jc.length cc2, .slice ta3 j.tt.length tc3, .slice ca3 j.tc.length cc3, .int .i64 j.parts, .int .i64 j.fuel] 27) := ⟨_, rfl⟩
  have hb1 : Below w.heap.size w W1 := by rw [hW1]; exact b_alloc _ _
  obtain ⟨J, hJ⟩ : ∃ J, J = w.heap.size := ⟨_, rfl⟩
  have hx : Blk W1 J 27 [.slice ta j.mt.length tc, .slice ca j.mc.length cc, .slice ta2 j.jt.length tc2, .slice ca2 j.jc.length cc2, .slice ta3 j.tt.length tc3, .slice ca3 j.tc.length cc3, .int .i64 j.parts, .int .i64 j.fuel] := by rw [hJ, hW1]; exact Blk.new w _ _
  have x0 := hx.cell (k := 0) rfl
  have x1 := hx.cell (k := 1) rfl
  have x2 := hx.cell (k := 2) rfl
  have x3 := hx.cell (k := 3) rfl
  have x4 := hx.cell (k := 4) rfl
  have x5 := hx.cell (k := 5) rfl
  have x6 := hx.cell (k := 6) rfl
  have x7 := hx.cell (k := 7) rfl
  have HB1 := Lib.hid hb1
  have HX := Lib.hid hx
  have hp0 := h.p0
  have hp1 := h.p1
  obtain ⟨P, hP⟩ : ∃ P, P = j.parts := ⟨_, rfl⟩
  have HPP := Lib.hid hP
  rw [← hP] at HCK HT HX hp0 hp1 x6
  go_enter Tryz.func13, Tryz.ntmps13
  go_upto_region 1 with fail
  rw [← hW1, ← hJ]
  clear hW1 hJ hb1 hx h hc hb hdo hP
  obtain ⟨ck, hck⟩ : ∃ ck, ck = checkJ j := ⟨_, rfl⟩
  rw [← hck] at HCK
  by_cases hm : mayJ j = true
  · have t1 : ((ck.2.2 : Int) != 0) = false := by rw [hck, mayJ_yes hm]; rfl
    clear hck
    by_cases hq : (rows.length : Int) = P
    · have t2 : ((rows.length : Int) != P) = false := by rw [bne_eq_false_iff_eq]; exact hq
      have HAJ := Lib.hid (show allJ j rows = allV j [] rows from if_pos ⟨hm, by rw [← HPP.out]; exact hq⟩)
      clear hm hq
      go_upto_region 4 with (go_at_call 35; refine (HCK.out _ HB1.out).mono ?_; rintro e w2 ⟨rfl, hB2⟩; have y6 := Below.keeps hB2 x6; have hJl : J < w2.heap.size := lt_of_cell y6; have HX2 := Lib.hid (HX.out.below hB2); have HB2 := Lib.hid (bt HB1.out hB2); clear hB2 x0 x1 x2 x3 x4 x5 x6 x7)
      go_wp2_with fail
      go_loopw [4, 32] (fun tx i wr => ∃ (k : Nat) (out : List (List UInt8)), k ≤ rows.length ∧ out.length ≤ k ∧ i = .int .i64 k ∧ Hid (recS.Own wr w2.heap.size tx out) ∧ Hid (allV j out (rows.drop k) = allV j [] rows) ∧ Hid (Below w2.heap.size w2 wr)) (fun _ i _ => rows.length - (intOf i).toNat)
      case atStart => exact ⟨0, [], by omega, Nat.le_refl _, rfl, Rec.Own.nil _ _, rfl, Below.refl _ _⟩
      case round =>
        obtain ⟨k, out, hk, hok, rfl, HO, HAV, HBR⟩ := hrel
        obtain ⟨ao, co, rfl⟩ := owns_slice HO.out
        by_cases h0 : k < rows.length
        · obtain ⟨bb, off, u, rfl, e1, hu⟩ := HCC.out k h0
          obtain ⟨ua, uc, rfl, -, -⟩ := hu.open
          have hbl := HBB.out _ (List.getElem_mem h0)
          have hdr : rows.drop k = rows[k] :: rows.drop (k + 1) := List.drop_eq_getElem_cons h0
          obtain ⟨r, hre⟩ : ∃ r, r = rows[k] := ⟨_, rfl⟩
          rw [← hre] at e1 hu hbl hdr
          have HD := Lib.hid hdr
          have hBw := bt HB2.out HBR.out
          replace e1 := Below.keeps hBw e1
          have hxx := HX2.out.below HBR.out
          have x0 := hxx.cell (k := 0) rfl
          have x1 := hxx.cell (k := 1) rfl
          have x2 := hxx.cell (k := 2) rfl
          have x3 := hxx.cell (k := 3) rfl
          have x4 := hxx.cell (k := 4) rfl
          have x5 := hxx.cell (k := 5) rfl
          have x6 := hxx.cell (k := 6) rfl
          have x7 := hxx.cell (k := 7) rfl
          have HU := Lib.hid hu
          have i0 : (0 : Int) ≤ (k : Int) := by omega
          have i1 : (k : Int) < (rows.length : Int) := by omega
          have HHH := Lib.hid h0
          have HGT := Lib.hid (HT.out (.slice ua r.length uc) r wr (bt hBw (b_refl wr)) (HU.out.below (bt hBw (b_refl wr))) hbl.1 hbl.2)
          have HWW := Lib.hid (Nat.le_trans HBR.out.size (Nat.le_refl _))
          have HTL := Lib.hid (tellJ_len j r)
          obtain ⟨R, hR⟩ : ∃ R, R = tellJ j r := ⟨_, rfl⟩
          rw [← hR] at HGT HTL
          have HR := Lib.hid hR
          clear hR hdr hre hBw hbl hu h0 hxx y6 hJl
          by_cases hz : R.2.2 = 0
          · have t3 : ((R.2.2 : Int) != 0) = false := by rw [hz]; rfl
            have HQ := Lib.hid (show allV j out (r :: rows.drop (k + 1)) = allV j (out ++ [R.1]) (rows.drop (k + 1)) by rw [HR.out]; exact allV_on (by rw [← HR.out]; exact hz))
            clear hz
            go_upto_region 8 with (go_at_call 10; refine HGT.out.mono ?_; rintro e w7 ⟨rfl, hB7⟩; have HB7 := Lib.hid (bt HBR.out hB7); have HO7 := Lib.hid (HO.out.below hB7); have HS7 := Lib.hid hB7.size; clear hB7)
            all_goals
              go_wp2_with (at_builtin; go_must (refine recS.append1 w7 R.1 rfl _ _ 22 rfl Tryz.underlying22 w2.heap.size _ out HO7.out rfl _ rfl _ rfl _ rfl (okAll hl hk hok) (Nat.le_trans HBR.out.size HS7.out) ?_); intro g cap w8 hown8 hB8; have HO8 := Lib.hid hown8; have HB8 := Lib.hid hB8; clear hown8 hB8)
              go_roundw
              case rel => exact ⟨k + 1, out ++ [R.1], HHH.out, by rw [List.length_append]; simp; omega, by go_num, by first | exact HO8.out | (rw [List.length_append]; exact HO8.out), by rw [← HQ.out, ← HD.out]; exact HAV.out, HB7.out.trans HB8.out⟩
              case measure => have := HHH.out; simp [intOf]; omega
          · have t3 : ((R.2.2 : Int) != 0) = true := by rw [bne_iff_ne]; omega
            have HQ := Lib.hid (show allV j out (r :: rows.drop (k + 1)) = ([], R.2.1, R.2.2) by rw [HR.out]; exact allV_bad (by rw [← HR.out]; exact hz))
            clear hz
            go_upto_region 8 with (go_at_call 10; refine HGT.out.mono ?_; rintro e w7 ⟨rfl, hB7⟩; have HB7 := Lib.hid (bt HBR.out hB7); have HO7 := Lib.hid (HO.out.below hB7); have HS7 := Lib.hid hB7.size; clear hB7)
            all_goals
              go_wp2_with fail
              go_ret3
              rw [HAJ.out, ← HAV.out, HD.out, HQ.out]
              exact ⟨⟨_, rfl, Rec.Own.nil _ _⟩, bt HB2.out HB7.out⟩
        · have i1 : ¬ (k : Int) < (rows.length : Int) := by omega
          have HE := Lib.hid (show allV j [] rows = (out, [], 0) by rw [← HAV.out, List.drop_eq_nil_of_le (by omega)]; rfl)
          clear h0 y6 hJl
          go_wp2_with fail
          go_ret3
          rw [HAJ.out, HE.out]
          exact ⟨⟨_, rfl, HO.out.mono HB2.out.size⟩, bt HB2.out HBR.out⟩
    · have t2 : ((rows.length : Int) != P) = true := by rw [bne_iff_ne]; exact hq
      have HAJ := Lib.hid (show allJ j rows = ([], [], 2) from if_neg (fun z => hq (by rw [HPP.out]; exact z.2)))
      clear hm hq
      go_wp2_with (go_at_call 35; refine (HCK.out _ HB1.out).mono ?_; rintro e w2 ⟨rfl, hB2⟩; have y6 := Below.keeps hB2 x6; have hJl : J < w2.heap.size := lt_of_cell y6; have HX2 := Lib.hid (HX.out.below hB2); have HB2 := Lib.hid (bt HB1.out hB2); clear hB2 x0 x1 x2 x3 x4 x5 x6 x7)
      go_ret3
      rw [HAJ.out]
      exact ⟨⟨_, rfl, Rec.Own.nil _ _⟩, HB2.out⟩
  · have t1 : ((ck.2.2 : Int) != 0) = true := by rw [bne_iff_ne]; have := mayJ_no hm; rw [← hck] at this; omega
    clear hck
    have HAJ := Lib.hid (show allJ j rows = ([], [], 2) from if_neg (fun z => hm z.1))
    clear hm
    go_wp2_with (go_at_call 35; refine (HCK.out _ HB1.out).mono ?_; rintro e w2 ⟨rfl, hB2⟩; have y6 := Below.keeps hB2 x6; have hJl : J < w2.heap.size := lt_of_cell y6; have HX2 := Lib.hid (HX.out.below hB2); have HB2 := Lib.hid (bt HB1.out hB2); clear hB2 x0 x1 x2 x3 x4 x5 x6 x7)
    go_ret3
    rw [HAJ.out]
    exact ⟨⟨_, rfl, Rec.Own.nil _ _⟩, HB2.out⟩
set_option maxRecDepth 100000 in
set_option maxHeartbeats 8000000 in
theorem rAll20_any (t1 c1 t2 c2 t3 c3 v : Value) (j : Jb) (rows : List (List PR)) (w : World) (h : JobR w t1 c1 t2 c2 t3 c3 j) (hv : RR w v rows) (hl : rows.length ≤ 1000000) (hb : ∀ r ∈ rows, r.length ≤ 140737488355328 ∧ ∀ p ∈ r, p.1.length ≤ 140737488355328 ∧ p.2.length ≤ 140737488355328) :
    Calls Tryz.prog 14 #[jobV t1 c1 t2 c2 t3 c3 j, v] w fun e w' => (∃ tv, e = .returned (.tuple #[tv, .string (bs (allJ j rows).2.1), .int .i64 ((allJ j rows).2.2 : Int)]) ∧ recS.Own w' w.heap.size tv (allJ j rows).1) ∧ Below w.heap.size w w' := by
  have HCK := Lib.hid (fun w' (hB : Below w.heap.size w w') => rMay15_any t1 c1 t2 c2 t3 c3 j w' (h.below hB))
  have HT := Lib.hid (fun (u : Value) (l : List PR) w' (hB : Below w.heap.size w w') hv hl hb => rTell20_any t1 c1 t2 c2 t3 c3 u j l w' (h.below hB) hv hl hb)
  obtain ⟨ta, tc, rfl, -, -⟩ := recS_open h.a.t
  obtain ⟨ca, cc, rfl, -, -⟩ := recIns_open h.a.c
  obtain ⟨ta2, tc2, rfl, -, -⟩ := recS_open h.b.t
  obtain ⟨ca2, cc2, rfl, -, -⟩ := recIns_open h.b.c
  obtain ⟨ta3, tc3, rfl, -, -⟩ := recS_open h.c.t
  obtain ⟨ca3, cc3, rfl, -, -⟩ := recIns_open h.c.c
  obtain ⟨av, cv, rfl, _, _, hc⟩ := hv
  unfold jobV at HCK HT ⊢
  have HCC := Lib.hid hc
  have HBB := Lib.hid hb
  obtain ⟨W1, hW1⟩ : ∃ W1, W1 = w.alloc (.cells #[.slice ta j.mt.length tc, .slice ca j.mc.length cc, .slice ta2 j.jt.length tc2, .slice ca2 j.jc.length cc2, .slice ta3 j.tt.length tc3, .slice ca3 j.tc.length cc3, .int .i64 j.parts, .int .i64 j.fuel] 27) := ⟨_, rfl⟩
  have hb1 : Below w.heap.size w W1 := by rw [hW1]; exact b_alloc _ _
  obtain ⟨J, hJ⟩ : ∃ J, J = w.heap.size := ⟨_, rfl⟩
  have hx : Blk W1 J 27 [.slice ta j.mt.length tc, .slice ca j.mc.length cc, .slice ta2 j.jt.length tc2, .slice ca2 j.jc.length cc2, .slice ta3 j.tt.length tc3, .slice ca3 j.tc.length cc3, .int .i64 j.parts, .int .i64 j.fuel] := by rw [hJ, hW1]; exact Blk.new w _ _
  have x0 := hx.cell (k := 0) rfl
  have x1 := hx.cell (k := 1) rfl
  have x2 := hx.cell (k := 2) rfl
  have x3 := hx.cell (k := 3) rfl
  have x4 := hx.cell (k := 4) rfl
  have x5 := hx.cell (k := 5) rfl
  have x6 := hx.cell (k := 6) rfl
  have x7 := hx.cell (k := 7) rfl
  have HB1 := Lib.hid hb1
  have HX := Lib.hid hx
  have hp0 := h.p0
  have hp1 := h.p1
  obtain ⟨P, hP⟩ : ∃ P, P = j.parts := ⟨_, rfl⟩
  have HPP := Lib.hid hP
  rw [← hP] at HCK HT HX hp0 hp1 x6
  go_enter Tryz.func14, Tryz.ntmps14
  go_upto_region 1 with fail
  rw [← hW1, ← hJ]
  clear hW1 hJ hb1 hx h hc hb hP
  by_cases hm : mayJ j = true
  · rw [hm] at HCK
    by_cases hq : (rows.length : Int) = P
    · have t2 : ((rows.length : Int) != P) = false := by rw [bne_eq_false_iff_eq]; exact hq
      have HAJ := Lib.hid (show allJ j rows = allV j [] rows from if_pos ⟨hm, by rw [← HPP.out]; exact hq⟩)
      clear hm hq
      go_upto_region 3 with (go_at_call 29; refine (HCK.out _ HB1.out).mono ?_; rintro e w2 ⟨rfl, hB2⟩; have y6 := Below.keeps hB2 x6; have hJl : J < w2.heap.size := lt_of_cell y6; have HX2 := Lib.hid (HX.out.below hB2); have HB2 := Lib.hid (bt HB1.out hB2); clear hB2 x0 x1 x2 x3 x4 x5 x6 x7)
      go_wp2_with fail
      go_loopw [7, 8] (fun tx i wr => ∃ (k : Nat) (out : List (List UInt8)), k ≤ rows.length ∧ out.length ≤ k ∧ i = .int .i64 k ∧ Hid (recS.Own wr w2.heap.size tx out) ∧ Hid (allV j out (rows.drop k) = allV j [] rows) ∧ Hid (Below w2.heap.size w2 wr)) (fun _ i _ => rows.length - (intOf i).toNat)
      case atStart => exact ⟨0, [], by omega, Nat.le_refl _, rfl, Rec.Own.nil _ _, rfl, Below.refl _ _⟩
      case round =>
        obtain ⟨k, out, hk, hok, rfl, HO, HAV, HBR⟩ := hrel
        obtain ⟨ao, co, rfl⟩ := owns_slice HO.out
        by_cases h0 : k < rows.length
        · obtain ⟨bb, off, u, rfl, e1, hu⟩ := HCC.out k h0
          obtain ⟨ua, uc, rfl, -, -⟩ := hu.open
          have hbl := HBB.out _ (List.getElem_mem h0)
          have hdr : rows.drop k = rows[k] :: rows.drop (k + 1) := List.drop_eq_getElem_cons h0
          obtain ⟨r, hre⟩ : ∃ r, r = rows[k] := ⟨_, rfl⟩
          rw [← hre] at e1 hu hbl hdr
          have HD := Lib.hid hdr
          have hBw := bt HB2.out HBR.out
          replace e1 := Below.keeps hBw e1
          have hxx := HX2.out.below HBR.out
          have x0 := hxx.cell (k := 0) rfl
          have x1 := hxx.cell (k := 1) rfl
          have x2 := hxx.cell (k := 2) rfl
          have x3 := hxx.cell (k := 3) rfl
          have x4 := hxx.cell (k := 4) rfl
          have x5 := hxx.cell (k := 5) rfl
          have x6 := hxx.cell (k := 6) rfl
          have x7 := hxx.cell (k := 7) rfl
          have HU := Lib.hid hu
          have i0 : (0 : Int) ≤ (k : Int) := by omega
          have i1 : (k : Int) < (rows.length : Int) := by omega
          have HHH := Lib.hid h0
          have HGT := Lib.hid (HT.out (.slice ua r.length uc) r wr.drew (bt hBw (b_drew wr)) (HU.out.below (bt hBw (b_drew wr))) hbl.1 hbl.2)
          have HWW := Lib.hid (Nat.le_trans HBR.out.size (Nat.le_refl _))
          have HTL := Lib.hid (tellJ_len j r)
          obtain ⟨R, hR⟩ : ∃ R, R = tellJ j r := ⟨_, rfl⟩
          rw [← hR] at HGT HTL
          have HR := Lib.hid hR
          clear hR hdr hre hBw hbl hu h0 hxx y6 hJl
          by_cases hz : R.2.2 = 0
          · have t3 : ((R.2.2 : Int) != 0) = false := by rw [hz]; rfl
            have HQ := Lib.hid (show allV j out (r :: rows.drop (k + 1)) = allV j (out ++ [R.1]) (rows.drop (k + 1)) by rw [HR.out]; exact allV_on (by rw [← HR.out]; exact hz))
            clear hz
            go_wp2_with fail
            go_region_law (refine step_callM rfl 11 #[.agg #[.slice ta j.mt.length tc, .slice ca j.mc.length cc, .slice ta2 j.jt.length tc2, .slice ca2 j.jc.length cc2, .slice ta3 j.tt.length tc3, .slice ca3 j.tc.length cc3, .int .i64 P, .int .i64 j.fuel], .slice ua r.length uc] (by go_simp) HGT.out ?_; rintro e w7 ⟨rfl, hB7⟩; have HB7 := Lib.hid (bt HBR.out (bt (b_drew wr) hB7)); have HO7 := Lib.hid (HO.out.below (bt (b_drew wr) hB7)); have HS7 := Lib.hid (bt (b_drew wr) hB7).size; clear hB7)
            all_goals
              go_wp2_with (at_builtin; go_must (refine recS.append1 w7 R.1 rfl _ _ 22 rfl Tryz.underlying22 w2.heap.size _ out HO7.out rfl _ rfl _ rfl _ rfl (okAll hl hk hok) (Nat.le_trans HBR.out.size HS7.out) ?_); intro g cap w8 hown8 hB8; have HO8 := Lib.hid hown8; have HB8 := Lib.hid hB8; clear hown8 hB8)
              go_roundw
              case rel => exact ⟨k + 1, out ++ [R.1], HHH.out, by rw [List.length_append]; simp; omega, by go_num, by first | exact HO8.out | (rw [List.length_append]; exact HO8.out), by rw [← HQ.out, ← HD.out]; exact HAV.out, HB7.out.trans HB8.out⟩
              case measure => have := HHH.out; simp [intOf]; omega
          · have t3 : ((R.2.2 : Int) != 0) = true := by rw [bne_iff_ne]; omega
            have HQ := Lib.hid (show allV j out (r :: rows.drop (k + 1)) = ([], R.2.1, R.2.2) by rw [HR.out]; exact allV_bad (by rw [← HR.out]; exact hz))
            clear hz
            go_wp2_with fail
            go_region_law (refine step_callM rfl 11 #[.agg #[.slice ta j.mt.length tc, .slice ca j.mc.length cc, .slice ta2 j.jt.length tc2, .slice ca2 j.jc.length cc2, .slice ta3 j.tt.length tc3, .slice ca3 j.tc.length cc3, .int .i64 P, .int .i64 j.fuel], .slice ua r.length uc] (by go_simp) HGT.out ?_; rintro e w7 ⟨rfl, hB7⟩; have HB7 := Lib.hid (bt HBR.out (bt (b_drew wr) hB7)); have HO7 := Lib.hid (HO.out.below (bt (b_drew wr) hB7)); have HS7 := Lib.hid (bt (b_drew wr) hB7).size; clear hB7)
            all_goals
              go_wp2_with fail
              go_ret3
              rw [HAJ.out, ← HAV.out, HD.out, HQ.out]
              exact ⟨⟨_, rfl, Rec.Own.nil _ _⟩, bt HB2.out HB7.out⟩
        · have i1 : ¬ (k : Int) < (rows.length : Int) := by omega
          have HE := Lib.hid (show allV j [] rows = (out, [], 0) by rw [← HAV.out, List.drop_eq_nil_of_le (by omega)]; rfl)
          clear h0 y6 hJl
          go_wp2_with fail
          go_ret3
          rw [HAJ.out, HE.out]
          exact ⟨⟨_, rfl, HO.out.mono HB2.out.size⟩, bt HB2.out HBR.out⟩
    · have t2 : ((rows.length : Int) != P) = true := by rw [bne_iff_ne]; exact hq
      have HAJ := Lib.hid (show allJ j rows = ([], [], 2) from if_neg (fun z => hq (by rw [HPP.out]; exact z.2)))
      clear hm hq
      go_wp2_with (go_at_call 29; refine (HCK.out _ HB1.out).mono ?_; rintro e w2 ⟨rfl, hB2⟩; have y6 := Below.keeps hB2 x6; have hJl : J < w2.heap.size := lt_of_cell y6; have HX2 := Lib.hid (HX.out.below hB2); have HB2 := Lib.hid (bt HB1.out hB2); clear hB2 x0 x1 x2 x3 x4 x5 x6 x7)
      go_ret3
      rw [HAJ.out]
      exact ⟨⟨_, rfl, Rec.Own.nil _ _⟩, HB2.out⟩
  · have hno : mayJ j = false := by cases q : mayJ j with
      | false => rfl
      | true => exact absurd q hm
    rw [hno] at HCK
    have HAJ := Lib.hid (show allJ j rows = ([], [], 2) from if_neg (fun z => hm z.1))
    clear hm
    go_wp2_with (go_at_call 29; refine (HCK.out _ HB1.out).mono ?_; rintro e w2 ⟨rfl, hB2⟩; have y6 := Below.keeps hB2 x6; have hJl : J < w2.heap.size := lt_of_cell y6; have HX2 := Lib.hid (HX.out.below hB2); have HB2 := Lib.hid (bt HB1.out hB2); clear hB2 x0 x1 x2 x3 x4 x5 x6 x7)
    go_ret3
    rw [HAJ.out]
    exact ⟨⟨_, rfl, Rec.Own.nil _ _⟩, HB2.out⟩
end Go.Proofs.YtndagciefnddmaaGreatDoor
