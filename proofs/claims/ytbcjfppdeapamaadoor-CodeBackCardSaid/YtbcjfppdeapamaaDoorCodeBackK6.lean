/- Lemmas for CodeBack, part 6: walks of the functions that it reaches, and the plain laws behind them. -/
import Derived.Deep.DeepCutAuto
import Derived.ProofKit
import Derived.OpenShut
import Derived.ShutString
import Derived.ChangeOld
import Derived.SizedLaws
import Derived.SliceStrings
import Derived.Test.YtbcjfppdeapamaaDoorRows
import Derived.Deep.Slices
import Derived.ChangeSame
import Derived.Lay
import Derived.LaidMore
import Derived.Lib.LaidU8
import Derived.HandedShaped
import Derived.Stop.LaidErr
import Derived.Shelf.Vars
import Derived.Test.YtbcjfppdeapamaaDoorCodeBackK5
set_option linter.unusedSimpArgs false
set_option linter.unusedVariables false
namespace Go.Proofs.YtbcjfppdeapamaaDoor
open Go.RowKit Oct
attribute [local irreducible] wpG
theorem no_zero (s : List UInt8) : ∀ x : VI, x.1.toNat < 1 → insOk x = true → lineC x ≠ s := by
  intro x hx h
  unfold insOk at h
  simp only [Bool.and_eq_true, decide_eq_true_eq] at h
  omega
theorem readC_nothing {s : List UInt8} (h : ∀ x : VI, x.1.toNat < 24 → insOk x = true → lineC x ≠ s) : readC s = none := by
  cases hr : readC s with
  | none => rfl
  | some x =>
    obtain ⟨h1, h2⟩ := readC_sound hr
    exact absurd h2 (h x (insOk_24 h1) h1)
theorem no_more {s : List UInt8} {o : Nat} (h : ∀ x : VI, x.1.toNat < o → insOk x = true → lineC x ≠ s) (h' : ∀ x : VI, x.1.toNat = o → x.2.toNat < 256 → insOk x = true → lineC x ≠ s) :
    ∀ x : VI, x.1.toNat < o + 1 → insOk x = true → lineC x ≠ s := by
  intro x hx
  by_cases hq : x.1.toNat < o
  · exact h x hq
  · exact h' x (by omega) x.2.toNat_lt
theorem no_next {s : List UInt8} {y : VI} (h : ∀ x : VI, x.1.toNat = y.1.toNat → x.2.toNat < y.2.toNat → insOk x = true → lineC x ≠ s) (h' : ¬ (insOk y = true ∧ lineC y = s)) :
    ∀ x : VI, x.1.toNat = y.1.toNat → x.2.toNat < y.2.toNat + 1 → insOk x = true → lineC x ≠ s := by
  intro x hx hx2 hok
  by_cases hq : x.2.toNat < y.2.toNat
  · exact h x hx hq hok
  · have : x = y := Prod.ext (UInt8.toNat_inj.1 hx) (UInt8.toNat_inj.1 (by omega))
    subst this
    exact fun he => h' ⟨hok, he⟩
theorem lineC_len (x : VI) : (lineC x).length ≤ 9 := by
  have h1 := nameC_len x.1
  have h2 := digC_len x.2
  unfold lineC
  split <;> simp <;> omega
set_option maxRecDepth 100000 in
set_option maxHeartbeats 8000000 in
theorem rRead_any (s : List UInt8) (w : World) (hG : GlobC w) (hs : s.length ≤ 1000) :
    Calls Tryd.prog 19 #[.string (bs s)] w fun e w' => e = .returned (readV s) ∧ Below w.heap.size w w' := by
  obtain ⟨W1, hW1⟩ : ∃ W1, W1 = w.alloc (.cells #[.int .u8 0, .int .u8 0] 39) := ⟨_, rfl⟩
  have hb1 : Below w.heap.size w W1 := by rw [hW1]; exact b_alloc _ _
  have hx : Blk W1 w.heap.size 39 [.int .u8 0, .int .u8 0] := by rw [hW1]; exact Blk.new w _ _
  have HX := Lib.hid hx
  have HB1 := Lib.hid hb1
  have HG := Lib.hid hG
  clear hG hx hb1
  go_enter Tryd.func19, Tryd.ntmps19
  go_upto_region 1 with fail
  rw [← hW1]
  clear hW1
  go_wp2
  go_loopw [4] (fun vo wr => ∃ o : Nat, vo = .int .u8 (o : Int) ∧ 1 ≤ o ∧ o ≤ 24 ∧ Hid (∀ x : VI, x.1.toNat < o → insOk x = true → lineC x ≠ s) ∧ Hid (Below W1.heap.size W1 wr)) (fun vo _ => 24 - (intOf vo).toNat)
  case atStart => exact ⟨1, rfl, Nat.le_refl _, by omega, no_zero s, Below.refl _ _⟩
  case round =>
    obtain ⟨o, rfl, ho1, ho2, HN, HBW⟩ := hrel
    by_cases h0 : o < 24
    · have c0 : (o : Int) ≤ 23 := by omega
      obtain ⟨W0, hW0⟩ : ∃ W, W = wr := ⟨_, rfl⟩
      subst hW0
      go_wp2
      go_loopw [5] (fun va wx => ∃ a : Nat, va = .int .i64 (a : Int) ∧ a ≤ 256 ∧ Hid (∀ x : VI, x.1.toNat = o → x.2.toNat < a → insOk x = true → lineC x ≠ s) ∧ Hid (Below W1.heap.size W1 wx)) (fun va _ => 256 - (intOf va).toNat)
      case atStart => exact ⟨0, rfl, by omega, fun x _ h => absurd h (Nat.not_lt_zero _), HBW.out⟩
      case round =>
        obtain ⟨a, rfl, ha, HA, HBX⟩ := hrel
        by_cases h1 : a < 256
        · obtain ⟨x, hxx⟩ : ∃ x : VI, x = (UInt8.ofNat o, UInt8.ofNat a) := ⟨_, rfl⟩
          have e1 : x.1.toNat = o := by rw [hxx]; show (UInt8.ofNat o).toNat = o; rw [UInt8.toNat_ofNat']; omega
          have e2 : x.2.toNat = a := by rw [hxx]; show (UInt8.ofNat a).toNat = a; rw [UInt8.toNat_ofNat']; omega
          clear hxx
          subst e1 e2
          have c1 : (x.2.toNat : Int) < 256 := by omega
          have ow : IntKind.u8.wrap (x.2.toNat : Int) = (x.2.toNat : Int) := by simp [IntKind.wrap, IntKind.bits, IntKind.signed]; omega
          have ow2 : (x.2.toNat : Int) % 256 = (x.2.toNat : Int) := by omega
          obtain ⟨W2, hW2⟩ : ∃ W2, W2 = wr.alloc (.cells #[.int .u8 (x.1.toNat : Int), .int .u8 (x.2.toNat : Int)] 39) := ⟨_, rfl⟩
          have hb2 : Below wr.heap.size wr W2 := by rw [hW2]; exact b_alloc _ _
          have hy : Blk W2 wr.heap.size 39 [.int .u8 (x.1.toNat : Int), .int .u8 (x.2.toNat : Int)] := by rw [hW2]; exact Blk.new wr _ _
          have y0 := hy.cell (k := 0) rfl
          have y1 := hy.cell (k := 1) rfl
          have HY := Lib.hid hy
          have HB2 := Lib.hid (bt HBX.out hb2)
          have HIN := Lib.hid (fun w' => rIns_any x w')
          have HLN := Lib.hid (fun w' (hB : Below W1.heap.size W1 w') => rLine_any x w' (HG.out.below (bt HB1.out hB)))
          obtain ⟨q, hq⟩ : ∃ q, q = insOk x := ⟨_, rfl⟩
          rw [← hq] at HIN
          have HQ := Lib.hid hq
          clear hb2 hy hq
          go_upto_region 8 with fail
          rw [← hW2]
          clear hW2
          cases q with
          | false =>
            have HNX := Lib.hid (no_next HA.out (fun h => by have := HQ.out; rw [h.1] at this; cases this))
            go_wp2_with (go_at_call 20; refine (HIN.out _).mono ?_; rintro e w3 ⟨rfl, hB3⟩; have HB3 := Lib.hid (bt HB2.out hB3); clear hB3)
            refine ⟨⟨x.2.toNat + 1, by go_num, by omega, HNX.out, HB3.out⟩, by simp [intOf]; omega⟩
          | true =>
            have ll := lineC_len x
            obtain ⟨ln, hln⟩ : ∃ ln, ln = lineC x := ⟨_, rfl⟩
            rw [← hln] at HLN ll
            by_cases he : ln = s
            · have t2 : (ln == s) = true := by rw [he]; simp
              have t1 : (ln != s) = false := by rw [he]; simp
              have HV := Lib.hid (show readV s = .tuple #[.agg #[.int .u8 (x.1.toNat : Int), .int .u8 (x.2.toNat : Int)], .int .i64 0] by unfold readV; rw [← he, hln, readC_line HQ.out.symm])
              clear hln he
              go_upto_region 9 with (first | (go_at_call 20; refine (HIN.out _).mono ?_; rintro e w3 ⟨rfl, hB3⟩; have HB3 := Lib.hid (bt HB2.out hB3); have HY3 := Lib.hid (HY.out.below hB3); have z0 := HY3.out.cell (k := 0) rfl; have z1 := HY3.out.cell (k := 1) rfl; clear hB3) | (go_at_call 21; refine (HLN.out _ HB3.out).mono ?_; rintro e w4 ⟨rfl, hB4⟩; have HB4 := Lib.hid (bt HB3.out hB4); have HY4 := Lib.hid (HY3.out.below hB4); clear hB4))
              have u0 := HY4.out.cell (k := 0) rfl
              have u1 := HY4.out.cell (k := 1) rfl
              have hx6 := HX.out.below HB4.out
              have x0 := hx6.cell (k := 0) rfl
              have x1 := hx6.cell (k := 1) rfl
              have f0 := hx6.free (k := 0) (by decide)
              have f1 := hx6.free (k := 1) (by decide)
              have HX6 := Lib.hid hx6
              clear hx6 y0 y1 z0 z1
              go_wp2_with fail
              have hx7 := (HX6.out.set 0 (.int .u8 (x.1.toNat : Int))).set 1 (.int .u8 (x.2.toNat : Int))
              have hc7 := (Chg.set1R (w := w4) (b := w.heap.size) (k := 0) (v := .int .u8 (x.1.toNat : Int))).trans (Chg.set1R (k := 1) (v := .int .u8 (x.2.toNat : Int)))
              refine bodyPost_ret (results_cell_tmpR rfl rfl (load_ins (hx7.cell (k := 0) rfl) (hx7.cell (k := 1) rfl))) rfl ?_
              exact ⟨by rw [HV.out]; rfl, (bt HB1.out HB4.out).trans (hc7.below (fun j (hj : j = w.heap.size) => by omega) (bt HB1.out HB4.out).size)⟩
            · have t2 : (ln == s) = false := by simpa using he
              have t1 : (ln != s) = true := by simpa using he
              have HNX := Lib.hid (no_next HA.out (fun h => he (by rw [hln]; exact h.2)))
              clear hln he
              go_wp2_with (first | (go_at_call 20; refine (HIN.out _).mono ?_; rintro e w3 ⟨rfl, hB3⟩; have HB3 := Lib.hid (bt HB2.out hB3); have HY3 := Lib.hid (HY.out.below hB3); have z0 := HY3.out.cell (k := 0) rfl; have z1 := HY3.out.cell (k := 1) rfl; clear hB3) | (go_at_call 21; refine (HLN.out _ HB3.out).mono ?_; rintro e w4 ⟨rfl, hB4⟩; have HB4 := Lib.hid (bt HB3.out hB4); clear hB4))
              refine ⟨⟨x.2.toNat + 1, by go_num, by omega, HNX.out, HB4.out⟩, by simp [intOf]; omega⟩
        · have c1 : ¬ (a : Int) < 256 := by omega
          obtain rfl : a = 256 := by omega
          have HNX := Lib.hid (no_more HN.out HA.out)
          go_wp2_with fail
          refine ⟨⟨o + 1, by go_num, by omega, by omega, HNX.out, HBX.out⟩, by simp [intOf]; omega⟩
    · have c0 : ¬ (o : Int) ≤ 23 := by omega
      obtain rfl : o = 24 := by omega
      have HV := Lib.hid (show readV s = .tuple #[.agg #[.int .u8 0, .int .u8 0], .int .i64 7] by unfold readV; rw [readC_nothing HN.out])
      have hx6 := HX.out.below HBW.out
      have x0 := hx6.cell (k := 0) rfl
      have x1 := hx6.cell (k := 1) rfl
      have f0 := hx6.free (k := 0) (by decide)
      have f1 := hx6.free (k := 1) (by decide)
      have HX6 := Lib.hid hx6
      clear hx6
      go_wp2_with fail
      have hx7 := (HX6.out.set 0 (.int .u8 0)).set 1 (.int .u8 0)
      have hc7 := (Chg.set1R (w := wr) (b := w.heap.size) (k := 0) (v := .int .u8 0)).trans (Chg.set1R (k := 1) (v := .int .u8 0))
      refine bodyPost_ret (results_cell_tmpR rfl rfl (load_ins (hx7.cell (k := 0) rfl) (hx7.cell (k := 1) rfl))) rfl ?_
      exact ⟨by rw [HV.out]; rfl, (bt HB1.out HBW.out).trans (hc7.below (fun j (hj : j = w.heap.size) => by omega) (bt HB1.out HBW.out).size)⟩
end Go.Proofs.YtbcjfppdeapamaaDoor
namespace Go.Proofs.YtbcjfppdeapamaaDoor
open Go.RowKit Oct
attribute [local irreducible] wpG
theorem readV_parts (s : List UInt8) : ∃ y1 y2 er : Int, readV s = .tuple #[.agg #[.int .u8 y1, .int .u8 y2], .int .i64 er] := by
  unfold readV
  cases readC s with
  | none => exact ⟨_, _, _, rfl⟩
  | some x => exact ⟨_, _, _, rfl⟩
theorem lineR_parts (x : VI) : ∃ (lx : List UInt8) (ex : Int), lineR x = .tuple #[.string (bs lx), .int .i64 ex] ∧ (insOk x = true → lx = lineC x ∧ ex = 0) ∧ (insOk x = false → lx = [] ∧ ex = 2) := by
  by_cases h : insOk x = true
  · exact ⟨lineC x, 0, by rw [lineR, if_pos h], fun _ => ⟨rfl, rfl⟩, fun h' => by rw [h] at h'; cases h'⟩
  · exact ⟨[], 2, by rw [lineR, if_neg h], fun h' => absurd h' h, fun _ => ⟨rfl, rfl⟩⟩
set_option maxRecDepth 100000 in
set_option maxHeartbeats 8000000 in
theorem CodeLines_any (x : VI) (s : List UInt8) (w : World) (hs0 : s.length ≤ 140737488355328) (hG : GlobC w) :
    Calls Tryd.prog 4 #[.agg #[.int .u8 (x.1.toNat : Int), .int .u8 (x.2.toNat : Int)], .string (bs s)] w fun e w' => e = .returned (.bool true) ∧ Below w.heap.size w w' := by
  obtain ⟨W1, hW1⟩ : ∃ W1, W1 = w.alloc (.cells #[.int .u8 (x.1.toNat : Int), .int .u8 (x.2.toNat : Int)] 39) := ⟨_, rfl⟩
  have hb1 : Below w.heap.size w W1 := by rw [hW1]; exact b_alloc _ _
  have hx : Blk W1 w.heap.size 39 [.int .u8 (x.1.toNat : Int), .int .u8 (x.2.toNat : Int)] := by rw [hW1]; exact Blk.new w _ _
  have HX := Lib.hid hx
  have HB1 := Lib.hid hb1
  have HG1 := Lib.hid (hG.below hb1)
  have HAL := Lib.hid (fun w' (hB : Below W1.heap.size W1 w') => alive12_any w' (HG1.out.below hB))
  clear hx hb1 hG
  by_cases h100 : s.length ≤ 100
  · have c0 : ¬ (100 : Int) < (s.length : Int) := by omega
    have HLN := Lib.hid (fun w' (hB : Below W1.heap.size W1 w') => Line_any x w' (HG1.out.below hB))
    have HRD := Lib.hid (fun w' (hB : Below W1.heap.size W1 w') => Read_any s w' (HG1.out.below hB) (by omega))
    have HRR := Lib.hid (fun w' (hB : Below W1.heap.size W1 w') => rRead_any s w' (HG1.out.below hB) (by omega))
    have HRL := Lib.hid (fun w' (hB : Below W1.heap.size W1 w') => rLine_any x w' (HG1.out.below hB))
    have HIN := Lib.hid (fun w' => rIns_any x w')
    obtain ⟨y1, y2, er, hv⟩ := readV_parts s
    obtain ⟨lx, ex, hl1, hl2, hl3⟩ := lineR_parts x
    rw [hv] at HRD HRR
    rw [hl1] at HLN
    have HL2 := Lib.hid hl2
    have HL3 := Lib.hid hl3
    have ll := lineC_len x
    obtain ⟨ln, hln⟩ : ∃ ln, ln = lineC x := ⟨_, rfl⟩
    rw [← hln] at HRL ll HL2
    obtain ⟨q, hq⟩ : ∃ q, q = insOk x := ⟨_, rfl⟩
    rw [← hq] at HIN HL2 HL3
    clear hv hl1 hl2 hl3 hln hq h100
    go_enter Tryd.func4, Tryd.ntmps4
    go_upto_region 1 with fail
    rw [← hW1]
    clear hW1
    have x0 := HX.out.cell (k := 0) rfl
    have x1 := HX.out.cell (k := 1) rfl
    go_upto_region 4 with (go_at_call 17; refine (HLN.out _ (Below.refl _ _)).mono ?_; rintro e w2 ⟨rfl, hB2⟩; have HB2 := Lib.hid hB2; clear hB2)
    clear x0 x1
    go_upto_region 5 with (go_at_call 18; refine (HRD.out _ HB2.out).mono ?_; rintro e w3 ⟨rfl, hB3⟩; have HB3 := Lib.hid (bt HB2.out hB3); clear hB3)
    obtain ⟨W4, hW4⟩ : ∃ W, W = w3.alloc (.cells #[.int .u8 y1, .int .u8 y2] 39) := ⟨_, rfl⟩
    have hb4 : Below w3.heap.size w3 W4 := by rw [hW4]; exact b_alloc _ _
    have hy : Blk W4 w3.heap.size 39 [.int .u8 y1, .int .u8 y2] := by rw [hW4]; exact Blk.new w3 _ _
    rw [← hW4]
    obtain ⟨D, hD⟩ : ∃ D, D = w3.heap.size := ⟨_, rfl⟩
    rw [← hD] at hy ⊢
    have HY := Lib.hid hy
    have HB4 := Lib.hid (bt HB3.out hb4)
    clear hy hb4 hW4 hD
    go_upto_region 6 with (go_at_call 19; refine (HRR.out _ HB4.out).mono ?_; rintro e w5 ⟨rfl, hB5⟩; have HB5 := Lib.hid (bt HB4.out hB5); have HY5 := Lib.hid (HY.out.below hB5); clear hB5)
    obtain ⟨W6, hW6⟩ : ∃ W, W = w5.alloc (.cells #[.int .u8 y1, .int .u8 y2] 39) := ⟨_, rfl⟩
    have hb6 : Below w5.heap.size w5 W6 := by rw [hW6]; exact b_alloc _ _
    have hz : Blk W6 w5.heap.size 39 [.int .u8 y1, .int .u8 y2] := by rw [hW6]; exact Blk.new w5 _ _
    rw [← hW6]
    obtain ⟨E, hE⟩ : ∃ E, E = w5.heap.size := ⟨_, rfl⟩
    rw [← hE] at hz ⊢
    have HB6 := Lib.hid (bt HB5.out hb6)
    have y0 := (HY5.out.below hb6).cell (k := 0) rfl
    have y1' := (HY5.out.below hb6).cell (k := 1) rfl
    have z0 := hz.cell (k := 0) rfl
    have z1 := hz.cell (k := 1) rfl
    have hx6 := HX.out.below HB6.out
    have x0 := hx6.cell (k := 0) rfl
    have x1 := hx6.cell (k := 1) rfl
    have HX6 := Lib.hid hx6
    clear hz hb6 hW6 hE hx6
    cases q with
    | false =>
      obtain ⟨rfl, rfl⟩ := HL3.out rfl
      rw [show Value.string (bs ([] : List UInt8)) = .string ⟨#[]⟩ from rfl]
      go_wp2_with (first | (go_at_call 20; refine (HIN.out _).mono ?_; rintro e w7 ⟨rfl, hB7⟩; have HB7 := Lib.hid (bt HB6.out hB7); clear hB7) | (go_at_call 8; refine (HAL.out _ HB7.out).mono ?_; rintro e w8 ⟨rfl, hB8⟩; have HB8 := Lib.hid (bt HB7.out hB8); clear hB8))
      go_ret
      exact ⟨rfl, bt HB1.out HB8.out⟩
    | true =>
      obtain ⟨rfl, rfl⟩ := HL2.out rfl
      have t0 : (lx == lx) = true := by simp
      go_wp2_with (first | (go_at_call 20; refine (HIN.out _).mono ?_; rintro e w7 ⟨rfl, hB7⟩; have HB7 := Lib.hid (bt HB6.out hB7); have x0 := (HX6.out.below hB7).cell (k := 0) rfl; have x1 := (HX6.out.below hB7).cell (k := 1) rfl; clear hB7) | (go_at_call 21; refine (HRL.out _ HB7.out).mono ?_; rintro e w8 ⟨rfl, hB8⟩; have HB8 := Lib.hid (bt HB7.out hB8); clear hB8) | (go_at_call 8; refine (HAL.out _ HB8.out).mono ?_; rintro e w9 ⟨rfl, hB9⟩; have HB9 := Lib.hid (bt HB8.out hB9); clear hB9))
      go_ret
      exact ⟨rfl, bt HB1.out HB9.out⟩
  · have c0 : (100 : Int) < (s.length : Int) := by omega
    clear h100
    go_enter Tryd.func4, Tryd.ntmps4
    go_upto_region 1 with fail
    rw [← hW1]
    clear hW1
    go_wp2_with (go_at_call 8; refine (HAL.out _ (Below.refl _ _)).mono ?_; rintro e w2 ⟨rfl, hB2⟩; have HB2 := Lib.hid hB2; clear hB2)
    go_ret
    exact ⟨rfl, bt HB1.out HB2.out⟩
end Go.Proofs.YtbcjfppdeapamaaDoor
namespace Go.Proofs.YtbcjfppdeapamaaDoor
open Go.RowKit Oct
attribute [local irreducible] wpG
theorem putR_parts (t : List (List UInt8)) (c : List VI) : ∃ (A : List UInt8) (ea : Int), putR t c = .tuple #[.string (bs A), .int .i64 ea] ∧ A.length ≤ 1600 ∧ ((mayV t c = true ∧ A = putC t c ∧ ea = 0) ∨ (mayV t c = false ∧ A = [] ∧ ea = 2)) := by
  by_cases h : mayV t c = true
  · exact ⟨putC t c, 0, by unfold putR; rw [if_pos h], (putC_len h).2, .inl ⟨h, rfl, rfl⟩⟩
  · exact ⟨[], 2, by unfold putR; rw [if_neg h], by simp, .inr ⟨by simpa using h, rfl, rfl⟩⟩
theorem readV_vi (s : List UInt8) : ∃ (x : VI) (er : Int), readV s = .tuple #[.agg #[.int .u8 (x.1.toNat : Int), .int .u8 (x.2.toNat : Int)], .int .i64 er] ∧ ((readC s = some x ∧ er = 0) ∨ (readC s = none ∧ er = 7)) := by
  cases h : readC s with
  | none => exact ⟨(0, 0), 7, by unfold readV; rw [h]; rfl, .inr ⟨rfl, rfl⟩⟩
  | some x => exact ⟨x, 0, by unfold readV; rw [h], .inl ⟨rfl, rfl⟩⟩
theorem rSameP_self (ta ca tb cb : Value) (t : List (List UInt8)) (c : List VI) (w : World) (ht : recS.Row w ta t) (hc : recIns.Row w ca c) (ht' : recS.Row w tb t) (hc' : recIns.Row w cb c) (hlt : t.length ≤ 140737488355328) (hlc : c.length ≤ 140737488355328) :
    Calls Tryd.prog 14 #[.agg #[ta, ca], .agg #[tb, cb]] w fun e w' => e = .returned (.bool true) ∧ Below w.heap.size w w' := by
  have h := rSameP_any ta ca tb cb t t c c w ht hc ht' hc' hlt hlc
  rwa [decide_eq_true ⟨rfl, rfl⟩] at h
theorem Put_yes {t : List (List UInt8)} {c : List VI} {s : List UInt8} (hg : getC s = some (t, c)) (tv cv : Value) (w : World) (ht : recS.Row w tv t) (hc : recIns.Row w cv c) :
    Calls Tryd.prog 11 #[.agg #[tv, cv]] w fun e w' => e = .returned (.tuple #[.string (bs s), .int .i64 0]) ∧ Below w.heap.size w w' := by
  obtain ⟨hm, hs⟩ := getC_sound hg
  obtain ⟨h1, h2, h3⟩ := mayV_parts hm
  have h := Put_any tv cv t c w ht hc (by omega) (by omega) (fun s hs => by have := h3 s hs; omega)
  unfold putR at h
  rwa [if_pos hm, hs] at h
set_option maxRecDepth 100000 in
set_option maxHeartbeats 32000000 in
theorem CodeBack_any (tpv cpv : Value) (tp : List (List UInt8)) (cp : List VI) (tqv cqv : Value) (tq : List (List UInt8)) (cq : List VI) (s : List UInt8) (x : VI) (t : List UInt8) (w : World) (hp : ProgR w tpv cpv tp cp) (hq : ProgR w tqv cqv tq cq)
    (hsl : s.length ≤ 140737488355328) (htl : t.length ≤ 140737488355328) (hG : GlobC w) :
    Calls Tryd.prog 5 #[.agg #[tpv, cpv], .agg #[tqv, cqv], .string (bs s), .agg #[.int .u8 (x.1.toNat : Int), .int .u8 (x.2.toNat : Int)], .string (bs t)] w fun e w' => e = .returned (.bool true) ∧ Below w.heap.size w w' := by
  obtain ⟨p1, p2, p3, p4, rfl, rfl⟩ := hp.sl
  obtain ⟨q1, q2, q3, q4, rfl, rfl⟩ := hq.sl
  have HP := Lib.hid (fun w' (hB : Below w.heap.size w w') => hp.below hB)
  have HQ := Lib.hid (fun w' (hB : Below w.heap.size w w') => hq.below hB)
  obtain ⟨W1, hW1⟩ : ∃ W1, W1 = ((w.alloc (.cells #[.slice p1 tp.length p2, .slice p3 cp.length p4] 25)).alloc (.cells #[.slice q1 tq.length q2, .slice q3 cq.length q4] 25)).alloc (.cells #[.int .u8 (x.1.toNat : Int), .int .u8 (x.2.toNat : Int)] 39) := ⟨_, rfl⟩
  have hb1 : Below w.heap.size w W1 := by rw [hW1]; exact bt (b_alloc _ _) (bt (b_alloc _ _) (b_alloc _ _))
  have hx : Blk W1 w.heap.size 25 [.slice p1 tp.length p2, .slice p3 cp.length p4] := by rw [hW1]; exact ((Blk.new w _ _).below (b_alloc _ _)).below (b_alloc _ _)
  have hy : Blk W1 (w.heap.size + 1) 25 [.slice q1 tq.length q2, .slice q3 cq.length q4] := by
    rw [hW1]
    have := Blk.new (w.alloc (.cells #[.slice p1 tp.length p2, .slice p3 cp.length p4] 25)) [.slice q1 tq.length q2, .slice q3 cq.length q4] 25
    rw [size_alV] at this
    exact this.below (b_alloc _ _)
  have hz : Blk W1 (w.heap.size + 2) 39 [.int .u8 (x.1.toNat : Int), .int .u8 (x.2.toNat : Int)] := by
    rw [hW1]
    have := Blk.new ((w.alloc (.cells #[.slice p1 tp.length p2, .slice p3 cp.length p4] 25)).alloc (.cells #[.slice q1 tq.length q2, .slice q3 cq.length q4] 25)) [.int .u8 (x.1.toNat : Int), .int .u8 (x.2.toNat : Int)] 39
    rw [size_alV, size_alV] at this
    exact this
  have HX := Lib.hid hx
  have HY := Lib.hid hy
  have HZ := Lib.hid hz
  have HB1 := Lib.hid hb1
  have x0 := hx.cell (k := 0) rfl
  have x1 := hx.cell (k := 1) rfl
  have y0 := hy.cell (k := 0) rfl
  have y1 := hy.cell (k := 1) rfl
  have HG1 := Lib.hid (hG.below hb1)
  have HAL := Lib.hid (fun w' (hB : Below W1.heap.size W1 w') => alive12_any w' (HG1.out.below hB))
  have HLP := Lib.hid (HP.out _ HB1.out).large
  have HLQ := Lib.hid (fun w' (hB : Below W1.heap.size W1 w') => (HQ.out w' (bt HB1.out hB)).large)
  clear hp hq hG hb1 hx hy hz
  have cs : (s.length : Int) ≤ 140737488355328 := by omega
  have ct : (t.length : Int) ≤ 140737488355328 := by omega
  by_cases hlp : largeV tp cp = true
  · rw [hlp] at HLP
    clear hlp
    go_enter Tryd.func5, Tryd.ntmps5
    go_upto_region 1 with fail
    rw [← hW1]
    clear hW1
    go_wp2_with (first | (go_at_call 8; refine (HAL.out _ HB2.out).mono ?_; rintro e w3 ⟨rfl, hB3⟩; have HB3 := Lib.hid (bt HB2.out hB3); clear hB3) | (go_at_call 7; refine HLP.out.mono ?_; rintro e w2 ⟨rfl, hB2⟩; have HB2 := Lib.hid hB2; clear hB2))
    go_ret
    exact ⟨rfl, bt HB1.out HB3.out⟩
  · have hlp : largeV tp cp = false := by simpa using hlp
    rw [hlp] at HLP
    by_cases hlq : largeV tq cq = true
    · rw [hlq] at HLQ
      clear hlp hlq
      go_enter Tryd.func5, Tryd.ntmps5
      go_upto_region 1 with fail
      rw [← hW1]
      clear hW1
      go_wp2_with (first | (go_at_call 8; refine (HAL.out _ HB3.out).mono ?_; rintro e w4 ⟨rfl, hB4⟩; have HB4 := Lib.hid (bt HB3.out hB4); clear hB4) | (go_at_call 7; refine (HLQ.out _ HB2.out).mono ?_; rintro e w3 ⟨rfl, hB3⟩; have HB3 := Lib.hid (bt HB2.out hB3); clear hB3) | (go_at_call 7; refine HLP.out.mono ?_; rintro e w2 ⟨rfl, hB2⟩; have HB2 := Lib.hid hB2; have y0 := (HY.out.below hB2).cell (k := 0) rfl; have y1 := (HY.out.below hB2).cell (k := 1) rfl; clear hB2))
      go_ret
      exact ⟨rfl, bt HB1.out HB4.out⟩
    · have hlq : largeV tq cq = false := by simpa using hlq
      rw [hlq] at HLQ
      by_cases h1 : s.length ≤ 4096 ∧ t.length ≤ 100
      · obtain ⟨h1, h2⟩ := h1
        have c0 : ¬ (4096 : Int) < (s.length : Int) := by omega
        have c1 : ¬ (100 : Int) < (t.length : Int) := by omega
        obtain ⟨b1, b2, b3⟩ := largeV_no hlp
        obtain ⟨b4, b5, b6⟩ := largeV_no hlq
        obtain ⟨A, ea, ha, hal, haa⟩ := putR_parts tp cp
        obtain ⟨B, eb, hb, hbl, hbb⟩ := putR_parts tq cq
        have HPA := Lib.hid (fun w' (hB : Below w.heap.size w w') => Put_any _ _ tp cp w' (HP.out _ hB).t (HP.out _ hB).c (by omega) (by omega) (fun s hs => by have := b3 s hs; omega))
        have HPB := Lib.hid (fun w' (hB : Below w.heap.size w w') => Put_any _ _ tq cq w' (HQ.out _ hB).t (HQ.out _ hB).c (by omega) (by omega) (fun s hs => by have := b6 s hs; omega))
        rw [ha] at HPA
        rw [hb] at HPB
        have HA := Lib.hid haa
        have HB := Lib.hid hbb
        have HSZ := Lib.hid (And.intro b1 (And.intro b2 (And.intro b4 b5)))
        clear hlp hlq ha hb haa hbb b1 b2 b3 b4 b5 b6
        go_enter Tryd.func5, Tryd.ntmps5
        go_upto_region 1 with fail
        rw [← hW1]
        clear hW1
        go_upto_region 3 with (first | (go_at_call 7; refine (HLQ.out _ HB2.out).mono ?_; rintro e w3 ⟨rfl, hB3⟩; have HB3 := Lib.hid (bt HB2.out hB3); have x0 := (HX.out.below HB3.out).cell (k := 0) rfl; have x1 := (HX.out.below HB3.out).cell (k := 1) rfl; clear hB3) | (go_at_call 7; refine HLP.out.mono ?_; rintro e w2 ⟨rfl, hB2⟩; have HB2 := Lib.hid hB2; have y0 := (HY.out.below hB2).cell (k := 0) rfl; have y1 := (HY.out.below hB2).cell (k := 1) rfl; clear hB2))
        clear HB2
        go_upto_region 5 with (first | (go_at_call 11; refine (HPB.out _ (bt HB1.out HB4.out)).mono ?_; rintro e w5 ⟨rfl, hB5⟩; have HB5 := Lib.hid (bt HB4.out hB5); clear hB5) | (go_at_call 11; refine (HPA.out _ (bt HB1.out HB3.out)).mono ?_; rintro e w4 ⟨rfl, hB4⟩; have HB4 := Lib.hid (bt HB3.out hB4); have y0 := (HY.out.below HB4.out).cell (k := 0) rfl; have y1 := (HY.out.below HB4.out).cell (k := 1) rfl; clear hB4))
        clear x0 x1 y0 y1 HB3 HB4
        go_upto_if 53 with fail
        go_cut [] (fun wx => Hid (Below W1.heap.size W1 wx))
        case first =>
          rcases HA.out with ⟨hm, hA, rfl⟩ | ⟨hm, hA, rfl⟩
          · have HGY := Lib.hid (fun w' => Get_yes (s := A) (by rw [hA]; exact getC_put hm) w' (by omega))
            clear hm hA
            go_upto_region 7 with (go_at_call 12; refine (HGY.out _).mono ?_; rintro e w6 ⟨⟨a1, n1, a2, n2, rfl, ht6, hc6⟩, hB6⟩; have HT6 := Lib.hid ht6; have HC6 := Lib.hid hc6; have HB6 := Lib.hid (bt HB5.out hB6); clear hB6 ht6 hc6)
            obtain ⟨W7, hW7⟩ : ∃ W, W = w6.alloc (.cells #[.slice a1 tp.length n1, .slice a2 cp.length n2] 25) := ⟨_, rfl⟩
            have hb7 : Below w6.heap.size w6 W7 := by rw [hW7]; exact b_alloc _ _
            have hy7 : Blk W7 w6.heap.size 25 [.slice a1 tp.length n1, .slice a2 cp.length n2] := by rw [hW7]; exact Blk.new w6 _ _
            rw [← hW7]
            obtain ⟨E, hE⟩ : ∃ E, E = w6.heap.size := ⟨_, rfl⟩
            rw [← hE] at hy7 ⊢
            have HB7 := Lib.hid (bt HB6.out hb7)
            have y0 := hy7.cell (k := 0) rfl
            have y1 := hy7.cell (k := 1) rfl
            have x0 := (HX.out.below HB7.out).cell (k := 0) rfl
            have x1 := (HX.out.below HB7.out).cell (k := 1) rfl
            have HSM := Lib.hid (rSameP_self _ _ _ _ tp cp W7 (HT6.out.below hb7) (HC6.out.below hb7) (HP.out _ (bt HB1.out HB7.out)).t (HP.out _ (bt HB1.out HB7.out)).c (by have := HSZ.out; omega) (by have := HSZ.out; omega))
            clear hy7 hb7 hW7 hE
            go_wp2_with (go_at_call 14; refine HSM.out.mono ?_; rintro e w8 ⟨rfl, hB8⟩; have HB8 := Lib.hid (bt HB7.out hB8); clear hB8)
            go_meet
            case rel => exact HB8
          · clear hm hA
            go_wp2_with fail
            go_meet
            case rel => exact HB5
        case rest =>
          have HBc := hcut
          clear hcut
          go_upto_region 9 with fail
          go_cut [81] (fun s wx => s = .bool false ∧ Hid (Below W1.heap.size W1 wx))
          case first =>
            rcases HA.out with ⟨hm, hA, rfl⟩ | ⟨hm, hA, rfl⟩
            · rcases HB.out with ⟨hn, hBB, rfl⟩ | ⟨hn, hBB, rfl⟩
              · have hd : (A == B) = decide (tp = tq ∧ cp = cq) := by
                  by_cases hc : tp = tq ∧ cp = cq
                  · rw [decide_eq_true hc, hA, hBB, hc.1, hc.2]; simp
                  · rw [decide_eq_false hc, beq_eq_false_iff_ne, hA, hBB]
                    exact fun h => hc (putC_inj hm hn h)
                have hsm := rSameP_any _ _ _ _ tp tq cp cq wc (HP.out _ (bt HB1.out HBc.out)).t (HP.out _ (bt HB1.out HBc.out)).c (HQ.out _ (bt HB1.out HBc.out)).t (HQ.out _ (bt HB1.out HBc.out)).c (by have := HSZ.out; omega) (by have := HSZ.out; omega)
                obtain ⟨d, hdd⟩ : ∃ d, d = decide (tp = tq ∧ cp = cq) := ⟨_, rfl⟩
                rw [← hdd] at hd hsm
                have HSM := Lib.hid hsm
                have x0 := (HX.out.below HBc.out).cell (k := 0) rfl
                have x1 := (HX.out.below HBc.out).cell (k := 1) rfl
                have y0 := (HY.out.below HBc.out).cell (k := 0) rfl
                have y1 := (HY.out.below HBc.out).cell (k := 1) rfl
                clear hm hn hA hBB hdd hsm
                go_wp2_with (go_at_call 14; refine HSM.out.mono ?_; rintro e w8 ⟨rfl, hB8⟩; have HB8 := Lib.hid (bt HBc.out hB8); clear hB8)
                go_meet
                case rel => exact ⟨by simp, HB8⟩
              · clear hm hA hn hBB
                go_wp2_with fail
                go_meet
                case rel => exact ⟨rfl, HBc⟩
            · clear hm hA
              go_wp2_with fail
              go_meet
              case rel => exact ⟨rfl, HBc⟩
          case rest =>
            clear HBc
            obtain ⟨rfl, HBc⟩ := hcut
            have HGS := Lib.hid (fun w' => GetU_any s w' (by omega))
            go_upto_region 12 with (go_at_call 12; refine (HGS.out _).mono ?_; rintro e w6 ⟨⟨t6, c6, a1, n1, a2, n2, e6, rfl, hk6, ht6, hc6⟩, hB6⟩; have HK6 := Lib.hid hk6; have HT6 := Lib.hid ht6; have HC6 := Lib.hid hc6; have HB6 := Lib.hid (bt HBc.out hB6); clear hB6 ht6 hc6 hk6)
            obtain ⟨W7, hW7⟩ : ∃ W, W = w6.alloc (.cells #[.slice a1 t6.length n1, .slice a2 c6.length n2] 25) := ⟨_, rfl⟩
            have hb7 : Below w6.heap.size w6 W7 := by rw [hW7]; exact b_alloc _ _
            have hy7 : Blk W7 w6.heap.size 25 [.slice a1 t6.length n1, .slice a2 c6.length n2] := by rw [hW7]; exact Blk.new w6 _ _
            rw [← hW7]
            obtain ⟨E, hE⟩ : ∃ E, E = w6.heap.size := ⟨_, rfl⟩
            rw [← hE] at hy7 ⊢
            have HB7 := Lib.hid (bt HB6.out hb7)
            have y0 := hy7.cell (k := 0) rfl
            have y1 := hy7.cell (k := 1) rfl
            have HT7 := Lib.hid (HT6.out.below hb7)
            have HC7 := Lib.hid (HC6.out.below hb7)
            clear hy7 hb7 hW7 hE
            go_upto_if 88 with fail
            go_cut [] (fun wx => Hid (Below W1.heap.size W1 wx))
            case first =>
              rcases HK6.out with ⟨hg, rfl⟩ | ⟨hg, rfl, rfl, rfl⟩
              · have HPU := Lib.hid (Put_yes hg _ _ W7 HT7.out HC7.out)
                have tss : (s != s) = false := by simp
                clear hg
                go_wp2_with (go_at_call 11; refine HPU.out.mono ?_; rintro e w8 ⟨rfl, hB8⟩; have HB8 := Lib.hid (bt HB7.out hB8); clear hB8)
                go_meet
                case rel => exact HB8
              · go_wp2_with fail
                go_meet
                case rel => exact HB7
            case rest =>
              clear HBc
              have HBc := hcut
              clear hcut
              have hlp := lineR_parts x
              obtain ⟨l, h6, hl, hll, hlno⟩ := hlp
              have HLN := Lib.hid (fun w' (hB : Below W1.heap.size W1 w') => Line_any x w' (HG1.out.below hB))
              rw [hl] at HLN
              have hlen : l.length ≤ 9 := by
                cases hq : insOk x with
                | true => rw [(hll hq).1]; exact lineC_len x
                | false => rw [(hlno hq).1]; simp
              obtain ⟨z, h7, hz, hzz⟩ := readV_vi l
              have HRD := Lib.hid (fun w' (hB : Below W1.heap.size W1 w') => Read_any l w' (HG1.out.below hB) (by omega))
              rw [hz] at HRD
              have HLL := Lib.hid hll
              have HLNO := Lib.hid hlno
              have HZZ := Lib.hid hzz
              clear hl hll hlno hz hzz
              have x0 := (HZ.out.below HBc.out).cell (k := 0) rfl
              have x1 := (HZ.out.below HBc.out).cell (k := 1) rfl
              go_upto_region 17 with (go_at_call 17; refine (HLN.out _ HBc.out).mono ?_; rintro e w8 ⟨rfl, hB8⟩; have HB8 := Lib.hid (bt HBc.out hB8); clear hB8)
              go_upto_region 18 with (go_at_call 18; refine (HRD.out _ HB8.out).mono ?_; rintro e w9 ⟨rfl, hB9⟩; have HB9 := Lib.hid (bt HB8.out hB9); clear hB9)
              obtain ⟨W9, hW9⟩ : ∃ W, W = w9.alloc (.cells #[.int .u8 (z.1.toNat : Int), .int .u8 (z.2.toNat : Int)] 39) := ⟨_, rfl⟩
              have hb9 : Below w9.heap.size w9 W9 := by rw [hW9]; exact b_alloc _ _
              have hy9 : Blk W9 w9.heap.size 39 [.int .u8 (z.1.toNat : Int), .int .u8 (z.2.toNat : Int)] := by rw [hW9]; exact Blk.new w9 _ _
              rw [← hW9]
              obtain ⟨D, hD⟩ : ∃ D, D = w9.heap.size := ⟨_, rfl⟩
              have hDW : W1.heap.size ≤ D := by rw [hD]; exact HB9.out.size
              rw [← hD] at hy9 ⊢
              have HB10 := Lib.hid (bt HB9.out hb9)
              have y0 := hy9.cell (k := 0) rfl
              have y1 := hy9.cell (k := 1) rfl
              have HYD := Lib.hid hy9
              clear x0 x1
              have x0 := (HZ.out.below HB10.out).cell (k := 0) rfl
              have x1 := (HZ.out.below HB10.out).cell (k := 1) rfl
              clear hy9 hb9 hW9 hD
              go_cut [121] (fun s wx => s = .bool false ∧ wx = W9)
              case first =>
                cases hq : insOk x with
                | true =>
                  obtain ⟨rfl, rfl⟩ := HLL.out hq
                  rcases HZZ.out with ⟨hr, rfl⟩ | ⟨hr, rfl⟩
                  · rw [readC_line hq] at hr
                    obtain rfl := Option.some.inj hr
                    clear hr hq
                    go_wp2_with fail
                    go_meet
                    case rel => exact ⟨by simp, rfl⟩
                  · rw [readC_line hq] at hr
                    cases hr
                | false =>
                  obtain ⟨rfl, rfl⟩ := HLNO.out hq
                  clear hq
                  go_wp2_with fail
                  go_meet
                  case rel => exact ⟨by simp, rfl⟩
              case rest =>
                obtain ⟨rfl, rfl⟩ := hcut
                clear x0 x1 y0 y1 HZZ HLL HLNO HRD HLN
                obtain ⟨z2, h8, hz2, hzz2⟩ := readV_vi t
                have HRD := Lib.hid (fun w' (hB : Below W1.heap.size W1 w') => Read_any t w' (HG1.out.below hB) (by omega))
                rw [hz2] at HRD
                have HLN := Lib.hid (fun w' (hB : Below W1.heap.size W1 w') => Line_any z2 w' (HG1.out.below hB))
                go_upto_region 21 with (go_at_call 18; refine (HRD.out _ HB10.out).mono ?_; rintro e wb ⟨rfl, hBb⟩; have HYB := Lib.hid (HYD.out.below hBb); have HBb := Lib.hid (bt HB10.out hBb); have f0 := HYB.out.free (k := 0) (by simp); have f1 := HYB.out.free (k := 1) (by simp); have y0 := HYB.out.cell (k := 0) rfl; have y1 := HYB.out.cell (k := 1) rfl; clear hBb)
                obtain ⟨W3, hW3⟩ : ∃ W, W = (wb.setCell ⟨D, 0, none⟩ (.int .u8 (z2.1.toNat : Int))).setCell ⟨D, 1, none⟩ (.int .u8 (z2.2.toNat : Int)) := ⟨_, rfl⟩
                obtain ⟨hyc, hcc⟩ := ins_store HYB.out (.int .u8 (z2.1.toNat : Int)) (.int .u8 (z2.2.toNat : Int))
                rw [← hW3] at hyc hcc ⊢
                have HB13 := Lib.hid (HBb.out.trans (hcc.below (fun j (hj : j = D) => by omega) HBb.out.size))
                clear f0 f1 y0 y1 hW3
                have y0 := hyc.cell (k := 0) rfl
                have y1 := hyc.cell (k := 1) rfl
                clear hyc hcc
                rcases hzz2 with ⟨hr, rfl⟩ | ⟨hr, rfl⟩
                · obtain ⟨hok, hle⟩ := readC_sound hr
                  unfold lineR at HLN
                  rw [if_pos hok, hle] at HLN
                  have ttt : (t == t) = true := by simp
                  clear hr hok hle hz2
                  go_wp2_with (first | (go_at_call 8; refine (HAL.out _ HBd.out).mono ?_; rintro e we ⟨rfl, hBe⟩; have HBe := Lib.hid (bt HBd.out hBe); clear hBe) | (go_at_call 17; refine (HLN.out _ HB13.out).mono ?_; rintro e wd ⟨rfl, hBd⟩; have HBd := Lib.hid (bt HB13.out hBd); clear hBd))
                  go_ret
                  exact ⟨rfl, bt HB1.out HBe.out⟩
                · obtain ⟨l2, ex2, hl2, -, -⟩ := lineR_parts z2
                  rw [hl2] at HLN
                  clear hr hl2 hz2
                  go_wp2_with (first | (go_at_call 8; refine (HAL.out _ HBd.out).mono ?_; rintro e we ⟨rfl, hBe⟩; have HBe := Lib.hid (bt HBd.out hBe); clear hBe) | (go_at_call 17; refine (HLN.out _ HB13.out).mono ?_; rintro e wd ⟨rfl, hBd⟩; have HBd := Lib.hid (bt HB13.out hBd); clear hBd))
                  go_ret
                  exact ⟨rfl, bt HB1.out HBe.out⟩
      · by_cases h2 : s.length ≤ 4096
        · have c0 : ¬ (4096 : Int) < (s.length : Int) := by omega
          have c1 : (100 : Int) < (t.length : Int) := by omega
          clear h1 h2 hlp hlq
          go_enter Tryd.func5, Tryd.ntmps5
          go_upto_region 1 with fail
          rw [← hW1]
          clear hW1
          go_wp2_with (first | (go_at_call 8; refine (HAL.out _ HB3.out).mono ?_; rintro e w4 ⟨rfl, hB4⟩; have HB4 := Lib.hid (bt HB3.out hB4); clear hB4) | (go_at_call 7; refine (HLQ.out _ HB2.out).mono ?_; rintro e w3 ⟨rfl, hB3⟩; have HB3 := Lib.hid (bt HB2.out hB3); clear hB3) | (go_at_call 7; refine HLP.out.mono ?_; rintro e w2 ⟨rfl, hB2⟩; have HB2 := Lib.hid hB2; have y0 := (HY.out.below hB2).cell (k := 0) rfl; have y1 := (HY.out.below hB2).cell (k := 1) rfl; clear hB2))
          go_ret
          exact ⟨rfl, bt HB1.out HB4.out⟩
        · have c0 : (4096 : Int) < (s.length : Int) := by omega
          clear h1 h2 hlp hlq
          go_enter Tryd.func5, Tryd.ntmps5
          go_upto_region 1 with fail
          rw [← hW1]
          clear hW1
          go_wp2_with (first | (go_at_call 8; refine (HAL.out _ HB3.out).mono ?_; rintro e w4 ⟨rfl, hB4⟩; have HB4 := Lib.hid (bt HB3.out hB4); clear hB4) | (go_at_call 7; refine (HLQ.out _ HB2.out).mono ?_; rintro e w3 ⟨rfl, hB3⟩; have HB3 := Lib.hid (bt HB2.out hB3); clear hB3) | (go_at_call 7; refine HLP.out.mono ?_; rintro e w2 ⟨rfl, hB2⟩; have HB2 := Lib.hid hB2; have y0 := (HY.out.below hB2).cell (k := 0) rfl; have y1 := (HY.out.below hB2).cell (k := 1) rfl; clear hB2))
          go_ret
          exact ⟨rfl, bt HB1.out HB4.out⟩
end Go.Proofs.YtbcjfppdeapamaaDoor
namespace Go.Proofs.YtbcjfppdeapamaaDoor
open Go.ChangeShapes Go.WideShapes Go.ChangeAt Go.RowKit Oct
open Go.ChangeMaps (open_string shut_string)

theorem u64_nat {a : Int} (h : (Lit.int .u64 a).wf = true) : ∃ n : Nat, a = (n : Int) ∧ n < 18446744073709551616 := by
  have h2 : 0 ≤ a ∧ a < 18446744073709551616 := by
    have := bounds_u64 h; omega
  exact ⟨a.toNat, by omega, by omega⟩

section
variable {P : Program} {H : Type} {enc : TypeId × Value → H} {W : World} {base : Nat}
theorem open_str {t j : Nat} {v : Value} {d : DataW H} {ps : List MemPlace} {ts : List TypeId} {ds : List (DataW H)} (ht : P.underlying t = some .string) (hv : Value.okWide P W .any base t v)
    (h : DataW.Trod enc P W 0 (fun _ => true) true t v d ps) (hsz : (DataW.weightsEach P ts ds).all (· ≤ reachBytes) = true) (hj : ts[j]? = some t) (hd : ds[j]? = some d) :
    ∃ l : List UInt8, v = .string (bs l) ∧ l.length ≤ 140737488355328 := by
  obtain ⟨s, rfl, rfl, _, _⟩ := open_string ht hv h
  refine ⟨s.data.toList, by rw [bs_of], ?_⟩
  have := sized_string hsz hj hd
  have h2 := reachBytes_lt
  omega

theorem weights_strs (e : TypeId) : ∀ (ss : List ByteArray) (s : ByteArray), s ∈ ss → s.data.toList.length ∈ DataW.weightsAll (H := H) P e (strs ss)
  | [], _, h => by simp at h
  | x :: ss, s, h => by
    have hx : strs (H := H) (x :: ss) = DataW.lit (.string x.data.toList) :: strs ss := rfl
    rw [hx, DataW.weightsAll]
    rcases List.mem_cons.1 h with rfl | h
    · simp [DataW.weights]
    · exact List.mem_append.2 (.inr (weights_strs e ss s h))
theorem add_cell {w : World} {a : Addr} {i : Nat} {u : Value} (h : w.cell? (a.add i) = some u) : a.add i = ⟨a.block, a.off + i, none⟩ := by
  unfold Addr.add at h ⊢
  split
  · rename_i hi
    rw [if_pos hi] at h
    subst hi
    cases a with
    | mk b o sp =>
      cases sp with
      | none => rfl
      | some x => exfalso; revert h; simp only [World.cell?]; split <;> simp
  · rfl
theorem open_texts {t e j : Nat} {v : Value} {d : DataW H} {ps : List MemPlace} {ts : List TypeId} {ds : List (DataW H)} (ht : P.underlying t = some (.slice e)) (he : P.underlying e = some .string) (hc : P.cellsOf e = 1) (hby : P.bytesOf e = 16)
    (hv : Value.okWide P W .any base t v) (h : DataW.Trod enc P W 0 (fun _ => true) true t v d ps) (hsz : (DataW.weightsEach P ts ds).all (· ≤ reachBytes) = true) (hj : ts[j]? = some t) (hd : ds[j]? = some d) :
    ∃ r : List (List UInt8), Reads W v r.length (tcells r) ∧ r.length ≤ 140737488355328 ∧ ∀ l ∈ r, l.length ≤ 140737488355328 := by
  have h47 := reachBytes_lt
  obtain ⟨a0, len, cap, rfl⟩ := okWide_slice ht hv
  obtain ⟨fuel, hf⟩ := h
  rcases open_strings ht he hc hf with ⟨hcs, hx⟩ | ⟨a, len', cap', ss, hcs, _, hl, hm, hz, hx, hcell, hws⟩
  · simp [Value.cells] at hcs
    obtain ⟨rfl, rfl, rfl⟩ := hcs
    exact ⟨[], Reads.nil _, by simp, by simp⟩
  · simp [Value.cells] at hcs
    obtain ⟨rfl, rfl, rfl⟩ := hcs
    simp at hz
    simp only [Prod.mk.injEq] at hx
    have hd2 := hx.1
    subst hd2
    have s1 := sized_slice hsz hj hd ht
    rw [hby] at s1
    simp only [strs, List.length_map, List.length_take, List.length_drop] at s1
    have hlen : (ss.take len).length = len := by simp; omega
    refine ⟨(ss.take len).map fun s => s.data.toList, ?_, ?_, ?_⟩
    · refine ⟨some a, cap, by rw [List.length_map, hlen], by simp, fun i u hu => ?_⟩
      have hi : i < len := by
        rcases Nat.lt_or_ge i len with h | h
        · exact h
        · rw [List.getElem?_eq_none (by simp [tcells]; omega)] at hu; simp at hu
      have hcl := hcell i (by omega)
      have e1 := add_cell hcl
      have e2 : a = ⟨a.block, a.off, none⟩ := by
        have h0 := add_cell (hcell 0 (by omega))
        simpa [Addr.add] using h0
      rw [e1] at hcl
      refine ⟨a.block, a.off, by rw [← e2], ?_⟩
      rw [hcl, ← hu]
      have hss : i < ss.length := by omega
      simp [tcells, List.getElem?_take, hi, hss, bs_of, List.getD]
    · simp; omega
    · intro l hl
      obtain ⟨s, hs, rfl⟩ := List.mem_map.1 hl
      have hin : s.data.toList.length ∈ DataW.weightsEach P ts ds := by
        refine DataW.weights_mem_each hj hd _ ?_
        simp only [DataW.weights, ht]
        exact List.mem_cons.2 (.inr (List.mem_append.2 (.inl (weights_strs e _ s hs))))
      have := List.all_eq_true.1 hsz _ hin
      simp at this
      simp
      omega
end
end Go.Proofs.YtbcjfppdeapamaaDoor
namespace Go.Proofs.YtbcjfppdeapamaaDoor
open Go.ChangeShapes Go.WideShapes Go.ChangeAt Go.RowKit Oct
open Go.ChangeMaps (open_string shut_string)

section
variable {P : Program} {H : Type} {enc : TypeId × Value → H} {W : World} {α β γ : Type}

/-- whatever the cells of a type read as, they hold an x; its measure is at most the datum's bulk -/
def Opens (enc : TypeId × Value → H) (P : Program) (W : World) (t : TypeId) (mu : α → Nat) (He : List Value → α → Prop) : Prop :=
  ∀ n cs d ps, DataW.trod enc P W 0 (fun _ => true) true n t cs = some (d, ps) → (∀ x ∈ d.weights P t, x ≤ reachBytes) → ∃ x, He cs x ∧ mu x ≤ Rows.uptoBulk d
theorem bulk_range (D : Nat → DataW H) (f : Nat → α) (mu : α → Nat) : ∀ n, (∀ i, i < n → mu (f i) ≤ Rows.uptoBulk (D i)) → (((List.range n).map f).map mu).sum ≤ Rows.uptoBulkAll ((List.range n).map D)
  | 0, _ => by simp
  | n + 1, h => by
    have ih := bulk_range D f mu n (fun i hi => h i (by omega))
    have app : ∀ (l r : List (DataW H)), Rows.uptoBulkAll (l ++ r) = Rows.uptoBulkAll l + Rows.uptoBulkAll r := by
      intro l r
      induction l with
      | nil => simp [Rows.uptoBulkAll]
      | cons x l ih => simp only [List.cons_append, Rows.uptoBulkAll, ih]; omega
    have := h n (by omega)
    simp only [List.range_succ, List.map_append, List.sum_append, app, List.map_cons, List.map_nil, List.sum_cons, List.sum_nil, Rows.uptoBulkAll]
    omega

theorem Opens.imp {t : TypeId} {mu : α → Nat} {He He' : List Value → α → Prop} (h : Opens enc P W t mu He) (hi : ∀ cs x, He cs x → He' cs x) : Opens enc P W t mu He' := by
  intro n cs d ps hd hw
  obtain ⟨x, hx, hb⟩ := h n cs d ps hd hw
  exact ⟨x, hi _ _ hx, hb⟩
/-- v is a row of elements of 'size' cells -/
def SliceOf (W : World) (size : Nat) (He : List Value → α → Prop) (v : Value) (xs : List α) : Prop :=
  ∃ a cap, v = .slice a xs.length cap ∧ xs.length ≤ cap ∧ (a = none → xs.length = 0 ∧ cap = 0) ∧
    ∀ k (h : k < xs.length), ∃ b off cs, a = some ⟨b, off, none⟩ ∧ cs.length = size ∧ (∀ j u, cs[j]? = some u → W.cell? ⟨b, off + k * size + j, none⟩ = some u) ∧ He cs xs[k]

theorem weights_all_mem (e : TypeId) : ∀ (ds : List (DataW H)) (d : DataW H), d ∈ ds → ∀ x ∈ d.weights P e, x ∈ DataW.weightsAll P e ds
  | [], _, h => by simp at h
  | d0 :: ds, d, h => by
    intro x hx
    rw [DataW.weightsAll]
    rcases List.mem_cons.1 h with rfl | h
    · exact List.mem_append.2 (.inl hx)
    · exact List.mem_append.2 (.inr (weights_all_mem e ds d h x hx))

theorem opens_str {t : TypeId} (ht : P.underlying t = some .string) : Opens enc P W t (fun l : List UInt8 => l.length + 1) fun cs (l : List UInt8) => cs = [.string (bs l)] ∧ l.length ≤ 140737488355328 := by
  intro n cs d ps h hw
  obtain ⟨s, rfl, hx, _⟩ := DataW.trod_string ht h
  simp only [Prod.mk.injEq] at hx
  obtain ⟨rfl, rfl⟩ := hx
  have := hw s.data.toList.length (by simp [DataW.weights])
  have h2 := reachBytes_lt
  exact ⟨s.data.toList, ⟨by rw [bs_of], by omega⟩, by simp [Rows.uptoBulk]⟩
theorem opens_int {t : TypeId} {k : IntKind} (ht : P.underlying t = some (.int k)) : Opens enc P W t (fun _ => 1) fun cs (a : Int) => cs = [.int k a] ∧ (Lit.int k a).wf = true := by
  intro n cs d ps h hw
  obtain ⟨a, rfl, hx, hwf⟩ := DataW.trod_int ht h
  simp only [Prod.mk.injEq] at hx
  obtain ⟨rfl, rfl⟩ := hx
  exact ⟨a, ⟨rfl, hwf⟩, by simp [Rows.uptoBulk]⟩
theorem opens_struct2 {t : TypeId} {f0 f1 : Field} {c0 c1 : Nat} {m0 : α → Nat} {m1 : β → Nat} {H0 : List Value → α → Prop} {H1 : List Value → β → Prop} (ht : P.underlying t = some (.struct #[f0, f1])) (hc : P.cellsOf t = c0 + c1)
    (hc0 : P.cellsOf f0.type = c0) (hc1 : P.cellsOf f1.type = c1) (o0 : f0.offset = 0) (o1 : f1.offset = c0)
    (h0 : Opens enc P W f0.type m0 H0) (h1 : Opens enc P W f1.type m1 H1) : Opens enc P W t (fun p => m0 p.1 + m1 p.2 + 1) fun cs (p : α × β) => ∃ cs0 cs1, cs = cs0 ++ cs1 ∧ cs0.length = c0 ∧ cs1.length = c1 ∧ H0 cs0 p.1 ∧ H1 cs1 p.2 := by
  intro n cs d ps h hw
  obtain ⟨y0, y1, m, hx, hl, e0, e1⟩ := trod_struct2 ht h
  simp only [Prod.mk.injEq] at hx
  obtain ⟨rfl, rfl⟩ := hx
  have hw' : ∀ x, x ∈ y0.1.weights P f0.type ∨ x ∈ y1.1.weights P f1.type → x ≤ reachBytes := by
    intro x hx
    refine hw x ?_
    simp only [DataW.weights, ht, DataW.weightsEach, List.map_cons, List.mem_append]
    rcases hx with hx | hx
    · exact .inl hx
    · exact .inr (.inl hx)
  obtain ⟨x0, k0, b0⟩ := h0 _ _ _ _ e0 (fun x hx => hw' x (.inl hx))
  obtain ⟨x1, k1, b1⟩ := h1 _ _ _ _ e1 (fun x hx => hw' x (.inr hx))
  rw [o0, hc0, List.drop_zero] at k0
  rw [o1, hc1] at k1
  refine ⟨(x0, x1), ⟨cs.take c0, (cs.drop c0).take c1, ?_, ?_, ?_, k0, k1⟩, by simp only [Rows.uptoBulk, Rows.uptoBulkAll]; omega⟩
  · have : (cs.drop c0).take c1 = cs.drop c0 := List.take_of_length_le (by simp; omega)
    rw [this, List.take_append_drop]
  · simp; omega
  · simp; omega
theorem opens_slice {t e : TypeId} {size : Nat} {mu : α → Nat} {He : List Value → α → Prop} (ht : P.underlying t = some (.slice e)) (hc : P.cellsOf e = size) (hpos : 0 < size) (he : Opens enc P W e mu He) :
    Opens enc P W t (fun xs => (xs.map mu).sum + 1) fun cs (xs : List α) => ∃ v, cs = [v] ∧ SliceOf W size He v xs ∧ xs.length * P.bytesOf e ≤ reachBytes := by
  intro n cs d ps h hw
  rcases Deep.open_slice ht h with ⟨rfl, hx⟩ | ⟨a, len, cap, m, n', D, Pl, rfl, _, hl, hm, hmm, hx, hcell⟩
  · simp only [Prod.mk.injEq] at hx
    obtain ⟨rfl, _⟩ := hx
    exact ⟨[], ⟨_, rfl, ⟨none, 0, rfl, Nat.le_refl _, fun _ => ⟨rfl, rfl⟩, fun k hk => by simp at hk⟩, by simp⟩, by simp [Rows.uptoBulk]⟩
  · simp only [Prod.mk.injEq] at hx
    obtain ⟨rfl, _⟩ := hx
    simp only [if_true] at hmm
    subst hmm
    have hin : ∀ i, i < len → ∀ x ∈ (D i).weights P e, x ≤ reachBytes := by
      intro i hi x hx
      refine hw x ?_
      simp only [DataW.weights, ht]
      exact List.mem_cons.2 (.inr (List.mem_append.2 (.inl (weights_all_mem e _ (D i) (List.mem_map.2 ⟨i, by simpa using hi, rfl⟩) x hx))))
    have each : ∀ i, i < len → ∃ x : α, (∃ cs', W.cells? 0 (a.add (i * size)) size = some cs' ∧ He cs' x) ∧ mu x ≤ Rows.uptoBulk (D i) := by
      intro i hi
      obtain ⟨cs', h1, h2⟩ := hcell i (by omega)
      rw [hc] at h1
      obtain ⟨x, hx, hb⟩ := he _ _ _ _ h2 (hin i hi)
      exact ⟨x, ⟨cs', h1, hx⟩, hb⟩
    have hlen := hw ((len + (m - len)) * P.bytesOf e) (by simp [DataW.weights, ht])
    have hlb : len * P.bytesOf e ≤ (len + (m - len)) * P.bytesOf e := Nat.mul_le_mul_right _ (by omega)
    by_cases h0 : len = 0
    · subst h0
      exact ⟨[], ⟨_, rfl, ⟨some a, m, rfl, Nat.zero_le _, by simp, fun k hk => by simp at hk⟩, by simp⟩, by simp [Rows.uptoBulk]⟩
    obtain ⟨x0, _⟩ := each 0 (by omega)
    haveI : Inhabited α := ⟨x0⟩
    obtain ⟨f, hf⟩ := Deep.choose_lt each
    have haddr : a = ⟨a.block, a.off, none⟩ := by
      obtain ⟨⟨cs', h1, _⟩, _⟩ := hf 0 (by omega)
      obtain ⟨_, hl', hcs⟩ := World.cells?_some h1
      have h2 := hcs 0 (by omega)
      rw [Nat.zero_mul] at h2
      have h3 : ∃ u, cs'[0]? = some u := ⟨cs'[0]'(by omega), List.getElem?_eq_getElem _⟩
      obtain ⟨u, hu⟩ := h3
      rw [hu] at h2
      have := add_cell (a := a.add 0) (i := 0) h2
      simpa [Addr.add] using this
    have hbulk := bulk_range D f mu len (fun i hi => (hf i hi).2)
    refine ⟨(List.range len).map f, ⟨_, rfl, ⟨some a, m, by simp, by simpa using hl, by simp, ?_⟩, ?_⟩, by simp only [Rows.uptoBulk]; omega⟩
    · intro k hk
      have hk' : k < len := by simpa using hk
      obtain ⟨⟨cs', h1, hHe⟩, _⟩ := hf k hk'
      obtain ⟨_, hl', hcs⟩ := World.cells?_some h1
      refine ⟨a.block, a.off, cs', by rw [← haddr], hl', ?_, by simpa using hHe⟩
      intro j u hj
      have hjl : j < size := by
        rcases Nat.lt_or_ge j size with h | h
        · exact h
        · rw [List.getElem?_eq_none (by omega)] at hj; cases hj
      have h2 := hcs j hjl
      rw [haddr, hj, Addr.add_lit, Addr.add_lit] at h2
      rw [← h2]
    · simp only [List.length_map, List.length_range]; omega

theorem open_any {t j : Nat} {v : Value} {d : DataW H} {ps : List MemPlace} {ts : List TypeId} {ds : List (DataW H)} {mu : α → Nat} {He : List Value → α → Prop} (ho : Opens enc P W t mu He)
    (h : DataW.Trod enc P W 0 (fun _ => true) true t v d ps) (hsz : (DataW.weightsEach P ts ds).all (· ≤ reachBytes) = true) (hj : ts[j]? = some t) (hd : ds[j]? = some d) : ∃ x, He v.cells.toList x ∧ mu x ≤ Rows.uptoBulk d := by
  obtain ⟨fuel, hf⟩ := h
  refine ho _ _ _ _ hf fun x hx => ?_
  simpa using List.all_eq_true.1 hsz x (DataW.weights_mem_each hj hd x hx)
theorem cells_slice {base : Nat} {t e : TypeId} {v v' : Value} (ht : P.underlying t = some (.slice e)) (hv : Value.okWide P W .any base t v) (h : v.cells.toList = [v']) : v = v' := by
  obtain ⟨a0, len, cap, rfl⟩ := okWide_slice ht hv
  simpa [Value.cells] using h
end
end Go.Proofs.YtbcjfppdeapamaaDoor
namespace Go.Proofs.YtbcjfppdeapamaaDoor
open Go.ChangeShapes Go.WideShapes Go.ChangeAt Go.RowKit Oct

section
variable {H : Type} {enc : TypeId × Value → H} {W : World}
theorem rec_of {α : Type} (R : Rec α) {He : List Value → α → Prop} (hcs0 : ∀ cs x, He cs x → cs = R.cell x) {v : Value} {xs : List α} (h : SliceOf W R.n He v xs) : R.Row W v xs ∧ ∀ x ∈ xs, ∃ cs, He cs x := by
  obtain ⟨a, cap, rfl, hle, hn, hc⟩ := h
  have hpos := R.pos
  refine ⟨⟨⟨a, cap, rfl, hn, ?_⟩, a, cap, rfl, hle⟩, ?_⟩
  · intro j u hj
    have hjl : j < xs.length * R.n := by
      rcases Nat.lt_or_ge j (xs.length * R.n) with h | h
      · exact h
      · rw [List.getElem?_eq_none (by rw [Rec.cells_length]; exact h)] at hj; cases hj
    have hk : j / R.n < xs.length := Nat.div_lt_of_lt_mul (by rw [Nat.mul_comm]; exact hjl)
    obtain ⟨b, off, cs, ha, hl, hcell, hcs⟩ := hc (j / R.n) hk
    obtain rfl := hcs0 _ _ hcs
    refine ⟨b, off, ha, ?_⟩
    have hm : j % R.n < R.n := Nat.mod_lt _ hpos
    have hu : (R.cell xs[j / R.n])[j % R.n]? = some ((R.cell xs[j / R.n])[j % R.n]'(by rw [R.len]; exact hm)) := List.getElem?_eq_getElem _
    have h1 := R.cells_at xs (j / R.n) hk (j % R.n) _ hu
    have e : j / R.n * R.n + j % R.n = j := Nat.div_add_mod' j R.n
    rw [e, hj] at h1
    have h2 := hcell (j % R.n) _ hu
    rw [← Option.some.inj h1, Nat.add_assoc, e] at h2
    exact h2
  · intro p hp
    obtain ⟨k, hk, rfl⟩ := List.getElem_of_mem hp
    obtain ⟨_, _, cs, _, _, _, h⟩ := hc k hk
    exact ⟨cs, h⟩
set_option maxRecDepth 100000 in
theorem open_strs {base j : Nat} {v : Value} {d : DataW H} {ps : List MemPlace} {ts : List TypeId} {ds : List (DataW H)}
    (hv : Value.okWide Tryd.prog W .any base 22 v) (h : DataW.Trod enc Tryd.prog W 0 (fun _ => true) true 22 v d ps) (hsz : (DataW.weightsEach Tryd.prog ts ds).all (· ≤ reachBytes) = true) (hj : ts[j]? = some 22) (hd : ds[j]? = some d) :
    ∃ l : List (List UInt8), recS.Row W v l ∧ l.length ≤ 140737488355328 ∧ ∀ s ∈ l, s.length ≤ 140737488355328 := by
  have ho : Opens enc Tryd.prog W 22 _ _ := opens_slice (size := 1) Tryd.underlying22 (by kernel_rfl) (by decide) (opens_str Tryd.underlying9)
  obtain ⟨l, ⟨v', hcs, h1, h2⟩, _⟩ := open_any ho h hsz hj hd
  obtain rfl := cells_slice Tryd.underlying22 hv hcs
  have hby : Tryd.prog.bytesOf 9 = 16 := by kernel_rfl
  rw [hby] at h2
  have h3 := reachBytes_lt
  obtain ⟨h4, h5⟩ := rec_of recS (fun cs x h => h.1) h1
  exact ⟨l, h4, by omega, fun s hs => by obtain ⟨cs, _, h⟩ := h5 s hs; exact h⟩
end
end Go.Proofs.YtbcjfppdeapamaaDoor
namespace Go.Proofs.YtbcjfppdeapamaaDoor
open Go.ChangeShapes Go.WideShapes Go.ChangeAt Go.RowKit Oct

theorem u8_nat {a : Int} (h : (Lit.int .u8 a).wf = true) : ∃ r : UInt8, a = (r.toNat : Int) := by
  have h2 : 0 ≤ a ∧ a < 256 := by
    simp [Lit.wf, IntKind.min, IntKind.max, IntKind.signed, IntKind.bits] at h
    omega
  refine ⟨UInt8.ofNat a.toNat, ?_⟩
  rw [UInt8.toNat_ofNat']
  omega
section
variable {H : Type} {enc : TypeId × Value → H} {W : World}
theorem Opens.mapV {P : Program} {α β : Type} {t : TypeId} {mu : α → Nat} {mu' : β → Nat} {He : List Value → α → Prop} {He' : List Value → β → Prop} (h : Opens enc P W t mu He) (hi : ∀ cs x, He cs x → ∃ y, He' cs y ∧ mu' y ≤ mu x) : Opens enc P W t mu' He' := by
  intro n cs d ps hd hw
  obtain ⟨x, hx, hb⟩ := h n cs d ps hd hw
  obtain ⟨y, hy, hm⟩ := hi _ _ hx
  exact ⟨y, hy, Nat.le_trans hm hb⟩
theorem opens_ins : Opens enc Tryd.prog W 39 (fun _ : VI => 0) fun cs x => cs = recIns.cell x := by
  refine Opens.mapV (opens_struct2 (c0 := 1) (c1 := 1) Tryd.underlying39 (by kernel_rfl) (by kernel_rfl) (by kernel_rfl) rfl rfl (opens_int (k := .u8) Tryd.underlying5) (opens_int (k := .u8) Tryd.underlying5)) ?_
  rintro cs ⟨a, b⟩ ⟨cs0, cs1, rfl, _, _, ⟨rfl, h0⟩, rfl, h1⟩
  obtain ⟨r0, rfl⟩ := u8_nat h0
  obtain ⟨r1, rfl⟩ := u8_nat h1
  exact ⟨(r0, r1), rfl, Nat.zero_le _⟩
set_option maxRecDepth 100000 in
theorem open_prog {base j : Nat} {v : Value} {d : DataW H} {ps : List MemPlace} {ts : List TypeId} {ds : List (DataW H)}
    (hv : Value.okWide Tryd.prog W .any base 25 v) (h : DataW.Trod enc Tryd.prog W 0 (fun _ => true) true 25 v d ps) (hsz : (DataW.weightsEach Tryd.prog ts ds).all (· ≤ reachBytes) = true) (hj : ts[j]? = some 25) (hd : ds[j]? = some d) :
    ∃ (tv cv : Value) (texts : List (List UInt8)) (code : List VI), v = .agg #[tv, cv] ∧ ProgR W tv cv texts code := by
  have h3 := reachBytes_lt
  have o1 : Opens enc Tryd.prog W 22 _ _ := opens_slice (size := 1) Tryd.underlying22 (by kernel_rfl) (by decide) (opens_str Tryd.underlying9)
  have o2 : Opens enc Tryd.prog W 23 _ _ := opens_slice (size := 2) Tryd.underlying23 (by kernel_rfl) (by decide) opens_ins
  obtain ⟨⟨texts, code⟩, ⟨cs0, cs1, hcs, _, _, ⟨tv, rfl, h1, h2⟩, cv, rfl, h4, h5⟩, _⟩ := open_any (opens_struct2 (c0 := 1) (c1 := 1) Tryd.underlying25 (by kernel_rfl) (by kernel_rfl) (by kernel_rfl) rfl rfl o1 o2) h hsz hj hd
  have hb1 : Tryd.prog.bytesOf 9 = 16 := by kernel_rfl
  have hb2 : Tryd.prog.bytesOf 39 = 2 := by kernel_rfl
  rw [hb1] at h2
  rw [hb2] at h5
  obtain ⟨r1, r2⟩ := rec_of recS (fun cs x h => h.1) h1
  obtain ⟨r3, _⟩ := rec_of recIns (fun cs x h => h) h4
  obtain ⟨cs, rfl, hsize⟩ := okWide_struct Tryd.underlying25 hv
  refine ⟨tv, cv, texts, code, ?_, ⟨r1, r3, ?_, ?_, fun s hs => by obtain ⟨cs, _, h⟩ := r2 s hs; exact h⟩⟩
  · have e : cs.toList = [tv, cv] := by simpa [Value.cells] using hcs
    rw [show cs = #[tv, cv] from by rw [← Array.toArray_toList (xs := cs), e]]
  · have h2' : texts.length * 16 ≤ reachBytes := h2
    omega
  · have h5' : code.length * 2 ≤ reachBytes := h5
    omega
end

theorem str_eqV {s : ByteArray} {l : List UInt8} (h : s.data.toList = l) : Value.string s = .string (bs l) := by subst h; rw [bs_of]
end Go.Proofs.YtbcjfppdeapamaaDoor
namespace Go.Proofs.YtbcjfppdeapamaaDoor
open Go.ChangeShapes Go.WideShapes Go.ChangeAt Go.RowKit Oct
section
variable {H : Type} {enc : TypeId × Value → H} {W : World}
set_option maxRecDepth 100000 in
theorem open_ins {base j : Nat} {v : Value} {d : DataW H} {ps : List MemPlace} {ts : List TypeId} {ds : List (DataW H)}
    (hv : Value.okWide Tryd.prog W .any base 39 v) (h : DataW.Trod enc Tryd.prog W 0 (fun _ => true) true 39 v d ps) (hsz : (DataW.weightsEach Tryd.prog ts ds).all (· ≤ reachBytes) = true) (hj : ts[j]? = some 39) (hd : ds[j]? = some d) :
    ∃ x : VI, v = .agg #[.int .u8 (x.1.toNat : Int), .int .u8 (x.2.toNat : Int)] := by
  obtain ⟨x, hcs, _⟩ := open_any opens_ins h hsz hj hd
  obtain ⟨cs, rfl, hsize⟩ := okWide_struct Tryd.underlying39 hv
  refine ⟨x, ?_⟩
  have e : cs.toList = [.int .u8 (x.1.toNat : Int), .int .u8 (x.2.toNat : Int)] := by
    have h2 : cs.toList = recIns.cell x := by simpa [Value.cells] using hcs
    exact h2
  rw [show cs = #[.int .u8 (x.1.toNat : Int), .int .u8 (x.2.toNat : Int)] from by rw [← Array.toArray_toList (xs := cs), e]]
theorem u16_nat {a : Int} (h : (Lit.int .u16 a).wf = true) : ∃ n : Nat, a = (n : Int) ∧ n ≤ 65535 := by
  have h2 : 0 ≤ a ∧ a < 65536 := by
    simp [Lit.wf, IntKind.min, IntKind.max, IntKind.signed, IntKind.bits] at h
    omega
  exact ⟨a.toNat, by omega, by omega⟩
/-- the lifting, with a condition on the world and the world's shape -/
theorem handed_met_shaped {a : Assume} {C : Checked} {os : Os} {f : FuncId} {fn : Func} {s : ChangeSpec} {conds : List PathCond} {apart fresh handsOn again : Bool} {X : World → Array Value → Prop}
    (hX : ∀ (w w' : World) (args : Array Value), w.heap = w'.heap → X w args → X w' args)
    (own : ownKnob C.prog.godebug = none) (started : os.Started) (noInit : C.prog.inits.idxOf? f = none) (hfn : C.prog.funcs[f]? = some fn)
    (witness : ∃ (w : World) (tape : Tape) (i : Input), w.os = os ∧ (w.forCall tape i).Shaped C.prog ∧ i.vars = [] ∧ Input.okWide C.prog (w.forCall tape i) .any w.heap.size f i ∧
      ((s.pre enc C.prog fn conds apart (w.forCall tape i).memory i.args ∧ X (w.forCall tape i).memory i.args) ∧ sizedMet enc C.prog fn (OpenSpec.ofChange s) apart (w.forCall tape i).memory i.args) ∧ a.holds C.prog (lone (Frame.enter C.prog f i.args .normal) [] (w.forCall tape i)))
    (contract : ∀ (W : World) (base : Nat) (args : Array Value) (ds gs : List (DataW H)) (before : List MemPlace),
      (∀ (j : Nat) t v, fn.params[j]? = some t → args[j]? = some v → Value.okWide C.prog W .any base t v) →
      DataW.Whole enc C.prog fn.params.toList s.vars apart W args.toList ds gs before →
      (DataW.weightsEach C.prog (fn.params.toList ++ s.plain.varTypes C.prog) (ds ++ gs)).all (· ≤ reachBytes) = true → X W args → W.ShapedOpen C.prog →
      Calls C.prog f args W fun e W' => ∃ v, e = .returned v ∧ s.post enc C.prog fn apart fresh handsOn again W args v W') :
    ReturnsInHanded a C os f .any (fun w args => (s.pre enc C.prog fn conds apart w args ∧ X w args) ∧ sizedMet enc C.prog fn (OpenSpec.ofChange s) apart w args) (s.post enc C.prog fn apart fresh handsOn again) := by
  refine returnsInHanded_of_calls own started noInit witness ?_
  intro w tape i _ hsh _ hok hpre _
  obtain ⟨_, _, _, fn', hfn', _, _, _, _, hval⟩ := hok
  have e : fn' = fn := Option.some.inj (hfn'.symm.trans hfn)
  subst e
  obtain ⟨⟨⟨ds, gs, before, hw, _⟩, hx⟩, hz⟩ := hpre
  have hw' := DataW.Whole.of_heap (w' := w.forCall tape i) (by rfl) hw
  refine (contract (w.forCall tape i) w.heap.size i.args ds gs before hval hw' (hz.weights hw) (hX _ _ _ (by rfl) hx) hsh).mono fun e W' ⟨v, he, hp⟩ => ?_
  subst he
  exact ChangeSpec.post_blind hp
end
/-- what is listed of the package's variables for Code -/
def laidC : List (String × DataW Unit) := [("math/bits.deBruijn32tab", Rows.laid_math_bits_deBruijn32tab), ("math/bits.deBruijn64tab", Rows.laid_math_bits_deBruijn64tab), ("internal/strconv.uint64pow10", Rows.laid_internal_strconv_uint64pow10), ("strconv.ErrRange", Rows.laid_strconv_ErrRange), ("strconv.ErrSyntax", Rows.laid_strconv_ErrSyntax), ("maslin/code.names" /- 0 -/, Rows.laid_maslin_code_names)]
theorem laid_names : Rows.laid_maslin_code_names (H := Unit) /- 0 -/ = .agg (namesC.map fun e => .lit (.string e)) := by kernel_rfl
theorem laid_pow : Rows.laid_internal_strconv_uint64pow10 (H := Unit) /- 0 -/ = Lib.tabData .u64 Lib.pow10Tab := by kernel_rfl
theorem str_eqC {s : ByteArray} {l : List UInt8} (h : s.data.toList = l) : Value.string s = .string (bs l) := by subst h; rw [bs_of]
set_option maxRecDepth 100000 in
theorem names_of_laid {W : World} (h : laidMet Tryd.prog laidC W) : ∀ k, k < 24 → W.cell? ⟨0, k, none⟩ = some (.string (bs (namesC.getD k []))) := by
  obtain ⟨g, t, cs, fuel, p, hg, ht, hv, hd⟩ := Lib.laidMet.reads (n := "maslin/code.names") (d := Rows.laid_maslin_code_names) h (.tail _ (.tail _ (.tail _ (.tail _ (.tail _ (.head _))))))
  obtain rfl := Option.some.inj ((show Tryd.prog.globalNamed "maslin/code.names" = some 0 by kernel_rfl).symm.trans hg)
  obtain rfl := Option.some.inj ((show (Tryd.prog.globals[0]?).map (·.type) = some 63 by kernel_rfl).symm.trans ht)
  rw [laid_names] at hd
  obtain ⟨xs, m, _, ex, _, hl, hel⟩ := DataW.trod_array Tryd.underlying63 hd
  have c1 : Tryd.prog.cellsOf 9 = 1 := by kernel_rfl
  have e3 : xs.map (·.1) = namesC.map fun e => .lit (.string e) := (DataW.agg.inj (Prod.mk.inj ex).1).symm
  have hlen : namesC.length = 24 := by decide
  intro k hk
  have hE := hel k hk
  rw [c1, List.getElem?_eq_getElem (by omega)] at hE
  have e4 : (xs.map (·.1))[k]? = (namesC.map fun e => (DataW.lit (.string e) : DataW Unit))[k]? := by rw [e3]
  rw [List.getElem?_map, List.getElem?_map, List.getElem?_eq_getElem (by omega : k < xs.length), List.getElem?_eq_getElem (by omega : k < namesC.length)] at e4
  obtain ⟨s0, q0, hy0, _⟩ := DataW.trod_string Tryd.underlying9 hE
  rw [hy0] at e4
  simp only [Option.map_some, Option.some.injEq, DataW.lit.injEq, Lit.string.injEq] at e4
  have hd' : namesC.getD k [] = namesC[k]'(by omega) := by rw [List.getD, List.getElem?_eq_getElem (by omega : k < namesC.length)]; rfl
  rw [World.var?_cell hg hv, hd', ← str_eqC e4]
  have : ((cs.toList.drop (k * 1)).take 1)[0]? = some (.string s0) := by rw [q0]; rfl
  simpa using this
theorem errRow (u : TypeId) (h : Tryd.prog.typeName? 3 u = some "*errors.errorString") : u = 107 :=
  have hs : "*" ++ "errors.errorString" = "*errors.errorString" := by decide
  typeName_ptr_named (nm := "errors.errorString") (by rw [hs]; kernel_rfl) (by kernel_rfl) (by decide) u (by rw [hs]; exact h)
set_option maxRecDepth 100000 in
theorem glob_of_laid {W : World} (h0 : laidMetH Tryd.prog laidC W) (hsh : W.ShapedOpen Tryd.prog) : GlobC W := by
  have h := h0
  rw [MakeChecks.laidMetH_plain _ _ _ (by kernel_rfl)] at h
  refine ⟨names_of_laid h, ?_, ?_, ?_, ?_⟩
  · have h2 := h.tail.tail
    rw [laid_pow] at h2
    exact Lib.tabIs_of_head (g := 4) (t := 98) (e := 84) (n := 20) (by kernel_rfl) (by kernel_rfl) Tryd.underlying98 Tryd.underlying84 (by kernel_rfl) (by kernel_rfl) h2
  · have hg : Tryd.prog.globalNamed "strconv.ErrSyntax" = some 2 := by kernel_rfl
    obtain ⟨a, s, hv, _, _, _⟩ := laid_sentinel h.tail.tail.tail.tail hg (by kernel_rfl) Tryd.underlying67 errRow Tryd.underlying107 Tryd.underlying109 rfl rfl Tryd.underlying9 (by kernel_rfl) (by kernel_rfl)
    exact ⟨_, _, by rw [World.var?_cell hg hv]; rfl⟩
  · have hg : Tryd.prog.globalNamed "strconv.ErrRange" = some 3 := by kernel_rfl
    obtain ⟨a, s, hv, _, _, _⟩ := laid_sentinel h.tail.tail.tail hg (by kernel_rfl) Tryd.underlying67 errRow Tryd.underlying107 Tryd.underlying109 rfl rfl Tryd.underlying9 (by kernel_rfl) (by kernel_rfl)
    exact ⟨_, _, by rw [World.var?_cell hg hv]; rfl⟩
  · exact cell_of_shapedOpen_int (zero := #[.int .i64 0]) (t := 3) hsh (of_decide_eq_true (by kernel_rfl)) (by kernel_rfl) rfl (by kernel_rfl) (by kernel_rfl) Tryd.underlying3
end Go.Proofs.YtbcjfppdeapamaaDoor
