/- Lemmas for VerifyStraight, part 6: walks of the functions that it reaches, and the plain laws behind them. -/
import Derived.ProofKit
import Derived.OpenShut
import Derived.ShutString
import Derived.ChangeOld
import Derived.SizedLaws
import Derived.SliceStrings
import Derived.Test.YtahmacnmphjhgaaDoorRows
import Derived.Deep.Slices
import Derived.ChangeSame
import Derived.Lay
import Derived.LaidMore
import Derived.Lib.LaidU8
import Derived.Test.YtahmacnmphjhgaaDoorVerifyStraightK5
set_option linter.unusedSimpArgs false
set_option linter.unusedVariables false
namespace Go.Proofs.YtahmacnmphjhgaaDoor
open Go.RowKit Oct
attribute [local irreducible] wpG
/-- a program that came in -/
structure ProgR (w : World) (tv cv : Value) (texts : List (List UInt8)) (code : List VI) : Prop where
  t : recS.Row w tv texts
  c : recIns.Row w cv code
  lt : texts.length ≤ 140737488355328
  lc : code.length ≤ 140737488355328
  m : ∀ s ∈ texts, s.length ≤ 140737488355328
theorem ProgR.below {w w' : World} {tv cv : Value} {texts : List (List UInt8)} {code : List VI} (h : ProgR w tv cv texts code) (hB : Below w.heap.size w w') : ProgR w' tv cv texts code := ⟨h.t.below hB, h.c.below hB, h.lt, h.lc, h.m⟩
theorem ProgR.large {w : World} {tv cv : Value} {texts : List (List UInt8)} {code : List VI} (h : ProgR w tv cv texts code) :
    Calls Tryd.prog 7 #[.agg #[tv, cv]] w fun e w' => e = .returned (.bool (largeV texts code)) ∧ Below w.heap.size w w' := Large_any tv cv texts code w h.t h.c h.lt h.lc h.m
theorem ProgR.ask {w : World} {tv cv : Value} {texts : List (List UInt8)} {code : List VI} (h : ProgR w tv cv texts code) (hl : largeV texts code = false) (hE : EffM w) (hg : 0 < w.heap.size) : AskV w tv cv texts code := by
  obtain ⟨h1, h2, h3⟩ := largeV_no hl
  exact ⟨h.t, h.c, by omega, by omega, fun s hs => by have := h3 s hs; omega, hE, hg⟩
theorem ProgR.sl {w : World} {tv cv : Value} {texts : List (List UInt8)} {code : List VI} (h : ProgR w tv cv texts code) : ∃ a1 c1 a2 c2, tv = .slice a1 texts.length c1 ∧ cv = .slice a2 code.length c2 := by
  obtain ⟨a1, c1, h1, -, -⟩ := recS_open h.t
  obtain ⟨a2, c2, h2, -, -⟩ := recIns_open h.c
  exact ⟨a1, c1, a2, c2, h1, h2⟩
/-- append(s, x...), and what it leaves alone -/
theorem Rec.appendNV {α : Type} {ops : Array Oper} {rest : List Oper} {o : Oper} {a : Act} {Q : Exit → Act → World → Prop} (R : Rec α) (w : World) (hgd : o.guard = none) (s x : Operand) (t : TypeId)
    (ho : o.op = .call { callee := .builtin .append, args := #[s, x], argTypes := #[t, t] }) (ht : Tryd.prog.underlying t = some (.slice R.e))
    (base : Nat) (v : Value) (xs : List α) (hown : R.Own w base v xs) (hs : a.eval s = v)
    (vx : Value) (ys : List α) (hr : R.Row w vx ys) (hx : a.eval x = vx) (hbytes : (xs.length + ys.length) * R.bytes ≤ 140737488355328) (hbase : base ≤ w.heap.size)
    (h : ∀ A C w', R.Own w' base (.slice A (xs ++ ys).length C) (xs ++ ys) → Chg (fun k => v.ownBlock = some k) w w' → wpList Tryd.prog ops Q rest (a.put o.dst (.slice A (xs ++ ys).length C)) w') : wpList Tryd.prog ops Q (o :: rest) a w := by
  obtain ⟨i, hi, hz, hi1, hi2⟩ := info_parts R.info
  have hn : xs.length + ys.length ≤ (xs.length + ys.length) * R.bytes := Nat.le_mul_of_pos_right _ R.bpos
  obtain ⟨⟨ax, cap, rfl, hnone, hc⟩, _⟩ := hr
  cases ax with
  | none =>
    obtain ⟨h0, rfl⟩ := hnone rfl
    obtain rfl : ys = [] := List.eq_nil_of_length_eq_zero h0
    refine wpList_append_own_none hgd s x t ho base R.e i R.n ht hi v xs.length (R.cells xs) hs hown hx ?_
    obtain ⟨A, C, rfl⟩ := owns_slice hown
    have := h A C w (by rw [List.append_nil]; exact hown) (Chg.refl _ _)
    rw [List.append_nil] at this
    exact this
  | some ad =>
    refine wpList_append_own _ hgd s x t ho base R.e i R.z R.n R.bytes ht hi hz hi1 hi2 R.zs R.pos v xs.length (R.cells xs) hs hown ad ys.length cap (R.cells ys) hx (R.cells_length ys) ?_ (R.cells_one ys) (by unfold maxLen; omega) hbytes hbase ?_
    · intro j u hj
      obtain ⟨b, off, ha, hu⟩ := hc j u hj
      cases ha
      rw [Addr.add_lit]; exact hu
    · intro v' w' h2 h3 _
      have h2' : R.Own w' base v' (xs ++ ys) := by unfold Rec.Own; rw [R.cells_append, List.length_append]; exact h2
      have hB : Below base w w' := (Below.refl base w).grown h3 hbase (fun k hk => (Rec.Own.ltV hown k hk).1)
      obtain ⟨A, C, rfl⟩ := owns_slice h2'
      exact h A C w' h2' ⟨hB.os, hB.tape, hB.output, hB.size, fun j hj hne => h3.block j hj (fun e => hne e.symm)⟩
theorem own_apart {α β : Type} {R : Rec α} {R' : Rec β} {w : World} {b1 b2 : Nat} {v v' : Value} {l : List α} {l' : List β} (h : R.Own w b1 v l) (h' : R'.Own w b2 v' l') (ht : R.e ≠ R'.e) : ∀ k, v.ownBlock = some k → ¬ v'.ownBlock = some k := by
  rintro k hk hk'
  rcases h.2 with ⟨rfl, _⟩ | ⟨g, cap, cur, rfl, _, hh, _⟩
  · cases hk
  rcases h'.2 with ⟨rfl, _⟩ | ⟨g', cap', cur', rfl, _, hh', _⟩
  · cases hk'
  obtain rfl : g = k := by injection hk
  obtain rfl : g' = g := by injection hk'
  rw [hh] at hh'
  injection hh' with e
  injection e with _ e2 _
  exact ht e2
theorem ProgR.codeAt {w : World} {tv : Value} {a : Option Addr} {n c : Nat} {texts : List (List UInt8)} {code : List VI} (h : ProgR w tv (.slice a n c) texts code) {k : Nat} (hk : k < code.length) :
    ∃ b off, a = some ⟨b, off, none⟩ ∧ w.cell? ⟨b, off + k * 2, none⟩ = some (.int .u8 (code[k].1.toNat : Int)) ∧ w.cell? ⟨b, off + k * 2 + 1, none⟩ = some (.int .u8 (code[k].2.toNat : Int)) := by
  obtain ⟨a', c', hv, -, hc⟩ := recIns_open h.c
  injection hv with e1 e2 e3
  subst e1
  exact hc k hk
theorem u8_shift (a : UInt8) (n : Nat) : IntKind.u8.wrap ((a.toNat : Int) + IntKind.u8.wrap (n : Int)) = ((a + UInt8.ofNat n).toNat : Int) := by
  simp [IntKind.wrap, IntKind.bits, IntKind.signed, UInt8.toNat_add, UInt8.toNat_ofNat']

set_option maxRecDepth 100000 in
set_option maxHeartbeats 16000000 in
theorem VerifyStraight_any (tpv cpv : Value) (tp : List (List UInt8)) (cp : List VI) (tqv cqv : Value) (tq : List (List UInt8)) (cq : List VI) (w : World) (hp : ProgR w tpv cpv tp cp) (hq : ProgR w tqv cqv tq cq) (hE : EffM w) (hg : 0 < w.heap.size) :
    Calls Tryd.prog 3 #[.agg #[tpv, cpv], .agg #[tqv, cqv]] w fun e w' => e = .returned (.bool true) ∧ Below w.heap.size w w' := by
  obtain ⟨p1, p2, p3, p4, rfl, rfl⟩ := hp.sl
  obtain ⟨q1, q2, q3, q4, rfl, rfl⟩ := hq.sl
  have HP := Lib.hid (fun w' (hB : Below w.heap.size w w') => hp.below hB)
  have HQ := Lib.hid (fun w' (hB : Below w.heap.size w w') => hq.below hB)
  have HAL := Lib.hid (fun w' (hB : Below w.heap.size w w') => alive13_any w' (hE.below hB hg) (Nat.lt_of_lt_of_le hg hB.size))
  have HEF := Lib.hid (fun w' (hB : Below w.heap.size w w') => And.intro (hE.below hB hg) (Nat.lt_of_lt_of_le hg hB.size))
  have l1 : (tp.length : Int) ≤ 140737488355328 := by have := hp.lt; omega
  have l2 : (cp.length : Int) ≤ 140737488355328 := by have := hp.lc; omega
  have l3 : (tq.length : Int) ≤ 140737488355328 := by have := hq.lt; omega
  have l4 : (cq.length : Int) ≤ 140737488355328 := by have := hq.lc; omega
  obtain ⟨W1, hW1⟩ : ∃ W1, W1 = (w.alloc (.cells #[.slice p1 tp.length p2, .slice p3 cp.length p4] 25)).alloc (.cells #[.slice q1 tq.length q2, .slice q3 cq.length q4] 25) := ⟨_, rfl⟩
  have hb1 : Below w.heap.size w W1 := by rw [hW1]; exact bt (b_alloc _ _) (b_alloc _ _)
  have hs1 : W1.heap.size = w.heap.size + 1 + 1 := by rw [hW1, size_alV, size_alV]
  have hx : Blk W1 w.heap.size 25 [.slice p1 tp.length p2, .slice p3 cp.length p4] := by rw [hW1]; exact (Blk.new w _ _).below (b_alloc _ _)
  have hy : Blk W1 (w.heap.size + 1) 25 [.slice q1 tq.length q2, .slice q3 cq.length q4] := by
    rw [hW1]
    have := Blk.new (w.alloc (.cells #[.slice p1 tp.length p2, .slice p3 cp.length p4] 25)) [.slice q1 tq.length q2, .slice q3 cq.length q4] 25
    rw [size_alV] at this
    exact this
  have HX := Lib.hid hx
  have HY := Lib.hid hy
  have HB1 := Lib.hid hb1
  have x0 := hx.cell (k := 0) rfl
  have x1 := hx.cell (k := 1) rfl
  have y0 := hy.cell (k := 0) rfl
  have y1 := hy.cell (k := 1) rfl
  clear hp hq hE hg hb1 hs1 hx hy
  by_cases hlp : largeV tp cp = true
  · have HLP := Lib.hid hlp
    clear hlp
    go_enter Tryd.func3, Tryd.ntmps3
    go_upto_region 1 with fail
    rw [← hW1]
    clear hW1
    go_wp2_with fail
    refine (HP.out _ HB1.out).large.mono ?_
    rintro e w2 ⟨rfl, hB⟩
    have HB2 := Lib.hid (bt HB1.out hB)
    have x0 := Below.keeps hB x0
    have x1 := Below.keeps hB x1
    have y0 := Below.keeps hB y0
    have y1 := Below.keeps hB y1
    have HC2 := Lib.hid hB
    clear hB
    rw [HLP.out]
    go_wp2_with fail
    refine (HAL.out _ HB2.out).mono ?_
    rintro e wz ⟨rfl, hB⟩
    have HZ := Lib.hid (bt HB2.out hB)
    clear hB
    go_wp2_with fail
    go_ret
    exact ⟨rfl, HZ.out⟩
  · have hlp : largeV tp cp = false := by simpa using hlp
    have HLP := Lib.hid hlp
    clear hlp
    by_cases hlq : largeV tq cq = true
    · have HLQ := Lib.hid hlq
      clear hlq
      go_enter Tryd.func3, Tryd.ntmps3
      go_upto_region 1 with fail
      rw [← hW1]
      clear hW1
      go_wp2_with fail
      refine (HP.out _ HB1.out).large.mono ?_
      rintro e w2 ⟨rfl, hB⟩
      have HB2 := Lib.hid (bt HB1.out hB)
      have x0 := Below.keeps hB x0
      have x1 := Below.keeps hB x1
      have y0 := Below.keeps hB y0
      have y1 := Below.keeps hB y1
      have HC2 := Lib.hid hB
      clear hB
      rw [HLP.out]
      go_wp2_with fail
      refine (HQ.out _ HB2.out).large.mono ?_
      rintro e w3 ⟨rfl, hB⟩
      have HB3 := Lib.hid (bt HB2.out hB)
      have x0 := Below.keeps hB x0
      have x1 := Below.keeps hB x1
      have y0 := Below.keeps hB y0
      have y1 := Below.keeps hB y1
      have HC3 := Lib.hid (bt HC2.out hB)
      clear hB
      rw [HLQ.out]
      go_wp2_with fail
      refine (HAL.out _ HB3.out).mono ?_
      rintro e wz ⟨rfl, hB⟩
      have HZ := Lib.hid (bt HB3.out hB)
      clear hB
      go_wp2_with fail
      go_ret
      exact ⟨rfl, HZ.out⟩
    · have hlq : largeV tq cq = false := by simpa using hlq
      have HLQ := Lib.hid hlq
      clear hlq
      by_cases hc : cp.length + cq.length ≤ 256
      · have s1 : ¬ (256 : Int) < (cp.length : Int) + (cq.length : Int) := by omega
        by_cases ht : tp.length + tq.length ≤ 16
        · have s2 : ¬ (16 : Int) < (tp.length : Int) + (tq.length : Int) := by omega
          go_enter Tryd.func3, Tryd.ntmps3
          go_upto_region 1 with fail
          rw [← hW1]
          clear hW1
          go_wp2_with fail
          refine (HP.out _ HB1.out).large.mono ?_
          rintro e w2 ⟨rfl, hB⟩
          have HB2 := Lib.hid (bt HB1.out hB)
          have x0 := Below.keeps hB x0
          have x1 := Below.keeps hB x1
          have y0 := Below.keeps hB y0
          have y1 := Below.keeps hB y1
          have HC2 := Lib.hid hB
          clear hB
          rw [HLP.out]
          go_wp2_with fail
          refine (HQ.out _ HB2.out).large.mono ?_
          rintro e w3 ⟨rfl, hB⟩
          have HB3 := Lib.hid (bt HB2.out hB)
          have x0 := Below.keeps hB x0
          have x1 := Below.keeps hB x1
          have y0 := Below.keeps hB y0
          have y1 := Below.keeps hB y1
          have HC3 := Lib.hid (bt HC2.out hB)
          clear hB
          rw [HLQ.out]
          have HSC := Lib.hid hc
          have HST := Lib.hid ht
          have HA1 := Lib.hid (fun w' (hB : Below w.heap.size w w') => (HP.out w' hB).ask HLP.out (HEF.out w' hB).1 (HEF.out w' hB).2)
          have HA2 := Lib.hid (fun w' (hB : Below w.heap.size w w') => (HQ.out w' hB).ask HLQ.out (HEF.out w' hB).1 (HEF.out w' hB).2)
          obtain ⟨Tp, hTp⟩ : ∃ T, T = throughV tp cp 1 := ⟨_, rfl⟩
          obtain ⟨Tq, hTq⟩ : ∃ T, T = throughV tq cq 1 := ⟨_, rfl⟩
          have HTP := Lib.hid hTp
          have HTQ := Lib.hid hTq
          have HK1 := Lib.hid (fun w' (hB : Below w.heap.size w w') => aliveCheck _ _ tp cp 1 w' Tp.1 Tp.2.1 1 rfl (by rw [hTp]; exact ⟨rfl, rfl⟩) (HA1.out w' hB))
          have HK2 := Lib.hid (fun w' (hB : Below w.heap.size w w') => aliveCheck _ _ tq cq 1 w' Tq.1 Tq.2.1 1 rfl (by rw [hTq]; exact ⟨rfl, rfl⟩) (HA2.out w' hB))
          clear hTp hTq hc ht
          go_wp2_with fail
          refine (HK1.out _ HB3.out).mono ?_
          rintro e w4 ⟨rfl, hB⟩
          have HB4 := Lib.hid (bt HB3.out hB)
          have HC4 := Lib.hid (bt HC3.out hB)
          have x0 := Below.keeps hB x0
          have x1 := Below.keeps hB x1
          have y0 := Below.keeps hB y0
          have y1 := Below.keeps hB y1
          clear hB HB2 HB3 HC2 HC3
          go_wp2_with fail
          refine (HK2.out _ HB4.out).mono ?_
          rintro e w5 ⟨rfl, hB⟩
          have HB5 := Lib.hid (bt HB4.out hB)
          have HC5 := Lib.hid (bt HC4.out hB)
          have x0 := Below.keeps hB x0
          have x1 := Below.keeps hB x1
          have y0 := Below.keeps hB y0
          have y1 := Below.keeps hB y1
          clear hB HB4 HC4
          go_wp2_with fail
          refine (Copy_any _ _ tp cp w5 (HP.out w5 HB5.out).t (HP.out w5 HB5.out).c (by have := HST.out; omega) (by have := HSC.out; omega)).mono ?_
          rintro e w6 ⟨⟨tv6, cv6, rfl, ho1, ho2⟩, hB⟩
          obtain ⟨a6, c6, rfl⟩ := owns_slice ho1
          obtain ⟨a7, c7, rfl⟩ := owns_slice ho2
          obtain ⟨base, hbase⟩ : ∃ base, base = w5.heap.size := ⟨_, rfl⟩
          rw [← hbase] at ho1 ho2
          have hbs : base ≤ w6.heap.size := by rw [hbase]; exact hB.size
          have hwb : w.heap.size ≤ base := by rw [hbase]; exact HB5.out.size
          have HB6 := Lib.hid (bt HB5.out hB)
          have HC6 := Lib.hid (bt HC5.out hB)
          have hb15 : W1.heap.size ≤ base := by rw [hbase]; exact HC5.out.size
          have x0 := Below.keeps hB x0
          have x1 := Below.keeps hB x1
          have y0 := Below.keeps hB y0
          have y1 := Below.keeps hB y1
          clear hB hbase HB5 HC5
          obtain ⟨C, hC⟩ : ∃ C, C = w6.heap.size := ⟨_, rfl⟩
          obtain ⟨w7, hw7⟩ : ∃ w7, w7 = w6.alloc (.cells #[.slice a6 tp.length c6, .slice a7 cp.length c7] 25) := ⟨_, rfl⟩
          have hblk : Blk w7 C 25 [.slice a6 tp.length c6, .slice a7 cp.length c7] := by rw [hw7, hC]; exact Blk.new w6 _ _
          have hb67 : Below w6.heap.size w6 w7 := by rw [hw7]; exact b_alloc _ _
          have x0 := Below.keeps hb67 x0
          have x1 := Below.keeps hb67 x1
          have y0 := Below.keeps hb67 y0
          have y1 := Below.keeps hb67 y1
          have z0 := hblk.cell (k := 0) rfl
          have z1 := hblk.cell (k := 1) rfl
          have hbC : base ≤ C := by rw [hC]; exact hbs
          have HO1 := Lib.hid (ho1.below hb67)
          have HO2 := Lib.hid (ho2.below hb67)
          have HB7 := Lib.hid (bt HB6.out hb67)
          have HC7 := Lib.hid (bt HC6.out hb67)
          have hbs7 : base ≤ w7.heap.size := Nat.le_trans hbs hb67.size
          have HBL := Lib.hid hblk
          clear ho1 ho2 hblk hb67 HB6 HC6
          go_upto_region 6 with fail
          rw [← hw7, ← hC]
          clear hw7 hC
          go_wp2_with (at_builtin; go_must (refine recS.appendNV _ rfl _ _ 22 rfl Tryd.underlying22 base _ tp HO1.out rfl _ tq (HQ.out _ HB7.out).t rfl (by show (tp.length + tq.length) * 16 ≤ _; have := HST.out; omega) hbs7 ?_); go_must (intro A8 C8 w8 ho8 hc8; have hn8 := own_neV HO1.out HBL.out (by decide); have hbl8 : Blk w8 C 25 _ := hc8.at HBL.out (fun hk => hn8 _ hk rfl); have z0 := hbl8.cell (k := 0) rfl; have z1 := hbl8.cell (k := 1) rfl; have f0 := hbl8.free (k := 0) (by simp); rw [List.length_append] at ho8; have H8 := Lib.hid (And.intro ho8 (And.intro hc8 hbl8)); clear ho8 hc8 hn8 hbl8))
          obtain ⟨w9, hw9⟩ : ∃ w9, w9 = w8.setCell ⟨C, 0, none⟩ (.slice A8 (tp.length + tq.length) C8) := ⟨_, rfl⟩
          have hc9 : Chg (fun x => x = C) w8 w9 := by rw [hw9]; exact Chg.setCell _ _ _ rfl
          have hbl9 : Blk w9 C 25 [.slice A8 (tp.length + tq.length) C8, .slice a7 cp.length c7] := by rw [hw9]; exact H8.out.2.2.set 0 _
          have ho9 : recS.Own w9 base (.slice A8 (tp.length + tq.length) C8) (tp ++ tq) := H8.out.1.chgV hc9 (own_neV H8.out.1 H8.out.2.2 (by decide))
          have hoc9 : recIns.Own w9 base (.slice a7 cp.length c7) cp := by
            refine Rec.Own.chgV (Rec.Own.chgV HO2.out H8.out.2.1 (own_apart HO2.out HO1.out (by decide))) hc9 (own_neV (Rec.Own.chgV HO2.out H8.out.2.1 (own_apart HO2.out HO1.out (by decide))) H8.out.2.2 (by decide))
          have hb79 : Below base w7 w9 := (H8.out.2.1.below (fun k hk => (Rec.Own.ltV HO1.out k hk).1) hbs7).trans (hc9.below (fun x (hx : x = C) => by omega) (Nat.le_trans hbs7 H8.out.2.1.size))
          rw [← hw9]
          have HBR := Lib.hid (HC7.out.trans (hb79.mono hb15))
          have HIN := Lib.hid (show Blk w9 C 25 [.slice A8 (tp.length + tq.length) C8, .slice a7 cp.length c7] ∧ recS.Own w9 base (.slice A8 (tp.length + tq.length) C8) (tp ++ tq) ∧ recIns.Own w9 base (.slice a7 cp.length c7) cp from ⟨hbl9, ho9, hoc9⟩)
          clear hw9 hc9 hbl9 ho9 hoc9 hb79 H8 z0 z1 x0 x1 y0 y1 HO1 HO2 HB7 HC7 HBL hbs7 hbs
          go_loopw [10] (fun t wr => ∃ (k : Nat) (A : Option Addr) (B : Nat), t = .int .i64 (k : Int) ∧ k ≤ cq.length ∧ Hid (Blk wr C 25 [.slice A8 (tp.length + tq.length) C8, .slice A (cp.length + k) B]) ∧ Hid (recS.Own wr base (.slice A8 (tp.length + tq.length) C8) (tp ++ tq)) ∧ Hid (recIns.Own wr base (.slice A (cp.length + k) B) (cp ++ (cq.take k).map (shiftV tp.length))) ∧ Hid (Below W1.heap.size W1 wr)) (fun t _ => cq.length - (intOf t).toNat)
          case atStart => exact ⟨0, a7, c7, rfl, Nat.zero_le _, HIN.out.1, HIN.out.2.1, by simpa [Hid] using HIN.out.2.2, HBR.out⟩
          case round =>
            obtain ⟨k, A, B, rfl, hk, HBk, HOt, HOc, HBr⟩ := hrel
            have hBW := bt HB1.out HBr.out
            have hyr := HY.out.below HBr.out
            have hxr := HX.out.below HBr.out
            have y1 := hyr.cell (k := 1) rfl
            have x0 := hxr.cell (k := 0) rfl
            have hlx := hxr.lt
            have hly := hyr.lt
            have HBW := Lib.hid hBW
            clear hBW hyr hxr
            by_cases h0 : k < cq.length
            · obtain ⟨b, off, rfl, d0, d1⟩ := (HQ.out _ HBW.out).codeAt h0
              have kk0 : (0 : Int) ≤ (k : Int) := by omega
              have kk1 : (k : Int) < (cq.length : Int) := by omega
              have HTK := Lib.hid (List.take_succ_eq_append_getElem h0)
              have HLN := Lib.hid (show (cp ++ (cq.take k).map (shiftV tp.length)).length = cp.length + k by simp; omega)
              by_cases h1 : cq[k].1 = 1
              · have t1 : ((cq[k].1.toNat : Int) == 1) = true := by rw [h1]; rfl
                have hsh := u8_shift cq[k].2 tp.length
                have HSH := Lib.hid (show shiftV tp.length cq[k] = (cq[k].1, cq[k].2 + UInt8.ofNat tp.length) by unfold shiftV; rw [if_pos h1])
                clear h1
                go_upto_region 13 with fail
                have hsh2 : ((cq[k].2.toNat : Int) + (tp.length : Int)) % 256 = ((cq[k].2 + UInt8.ofNat tp.length).toNat : Int) := by rw [← u8_shift]; simp [IntKind.wrap, IntKind.bits, IntKind.signed]
                rw [hsh2]
                clear hsh hsh2 d0 d1 x0 y1
                obtain ⟨z, hz⟩ : ∃ z : VI, z = (cq[k].1, cq[k].2 + UInt8.ofNat tp.length) := ⟨_, rfl⟩
                have HZ := Lib.hid (HSH.out.trans hz.symm)
                obtain ⟨WB, hWB⟩ : ∃ WB, WB = wr.alloc (.cells #[.int .u8 (z.1.toNat : Int), .int .u8 (z.2.toNat : Int)] 33) := ⟨_, rfl⟩
                rw [show (cq[k].1.toNat : Int) = (z.1.toNat : Int) by rw [hz], show ((cq[k].2 + UInt8.ofNat tp.length).toNat : Int) = (z.2.toNat : Int) by rw [hz]]
                clear hz
                have hbb : Below wr.heap.size wr WB := by rw [hWB]; exact b_alloc _ _
                rw [← hWB]
                have hbx : Blk WB wr.heap.size 33 [.int .u8 (z.1.toNat : Int), .int .u8 (z.2.toNat : Int)] := by rw [hWB]; exact Blk.new wr _ _
                have v0 := hbx.cell (k := 0) rfl
                have v1 := hbx.cell (k := 1) rfl
                have hbk := HBk.out.below hbb
                have z1 := hbk.cell (k := 1) rfl
                obtain ⟨xs, hxs⟩ : ∃ xs, xs = cp ++ (cq.take k).map (shiftV tp.length) := ⟨_, rfl⟩
                have hoc := HOc.out.below hbb
                rw [← hxs] at hoc HLN
                have HXS := Lib.hid hxs
                have HBK := Lib.hid hbk
                have HOC := Lib.hid hoc
                have HOT := Lib.hid (HOt.out.below hbb)
                have HBB := Lib.hid hbb
                clear hWB hbx hbk hxs hoc hbb HBk HOc HOt
                go_wp2_with (at_builtin; go_must (refine recIns.append1V _ z rfl _ _ 23 rfl Tryd.underlying23 base _ xs (HOC.out.below (b_alloc _ _)) rfl _ rfl (Rec.Row.new (R := recIns) WB [z] _).1 (by show (xs.length + 1) * 2 ≤ _; have := HLN.out; have := HSC.out; omega) (Nat.le_trans hbC (Nat.le_of_lt (HBK.out.below (b_alloc _ _)).lt)) ?_); go_must (intro g cap wn hon hcn _; have hbn := HBK.out.below (b_alloc WB (.cells (recIns.cells [z]).toArray 33)); have hn := own_neV (HOC.out.below (b_alloc WB (.cells (recIns.cells [z]).toArray 33))) hbn (by decide); have hbl : Blk wn C 25 _ := hcn.at hbn (fun hk => hn _ hk rfl); have z1 := hbl.cell (k := 1) rfl; have f1 := hbl.free (k := 1) (by simp); have HN := Lib.hid (And.intro hon (And.intro hcn hbl)); clear hon hcn hn hbl hbn))
                have hcs : Chg (fun x => x = C) wn (wn.setCell ⟨C, 1, none⟩ (.slice (some ⟨g, 0, none⟩) (xs.length + 1) cap)) := Chg.setCell _ _ _ rfl
                obtain ⟨wz, hwz⟩ : ∃ wz, wz = wn.setCell ⟨C, 1, none⟩ (.slice (some ⟨g, 0, none⟩) (xs.length + 1) cap) := ⟨_, rfl⟩
                have hbz := HN.out.2.2.set 1 (.slice (some ⟨g, 0, none⟩) (xs.length + 1) cap)
                rw [← hwz] at hcs hbz ⊢
                have HBZ := Lib.hid hbz
                have HONz := Lib.hid (HN.out.1.chgV hcs (own_neV HN.out.1 HN.out.2.2 (by decide)))
                have hot := Rec.Own.chgV (HOT.out.below (b_alloc WB (.cells (recIns.cells [z]).toArray 33))) HN.out.2.1 (own_apart HOT.out HOC.out (by decide))
                have HOTz := Lib.hid (hot.chgV hcs (own_neV hot HN.out.2.2 (by decide)))
                have hBz : Below base WB wz := by
                  have e1 : Below base WB (WB.alloc (.cells (recIns.cells [z]).toArray 33)) := (b_alloc _ _).mono (Nat.le_trans hbC (Nat.le_of_lt HBK.out.lt))
                  exact (e1.trans (HN.out.2.1.below (fun k hk => (Rec.Own.ltV HOC.out k hk).1) (Nat.le_trans hbC (Nat.le_of_lt (HBK.out.below (b_alloc _ _)).lt)))).trans (hcs.below (fun x (hx : x = C) => by omega) (Nat.le_trans hbC (Nat.le_of_lt HN.out.2.2.lt)))
                have HBz := Lib.hid (HBr.out.trans ((HBB.out.mono (Nat.le_of_lt_succ (Nat.lt_succ_of_le (HBr.out.size)))).trans (hBz.mono hb15)))
                clear hcs hbz hot hBz hwz HN
                go_roundw
                case rel =>
                  refine ⟨k + 1, some ⟨g, 0, none⟩, cap, by go_num, by omega, ?_, HOTz.out, ?_, HBz.out⟩
                  · have := HBZ.out
                    rw [HLN.out] at this
                    exact this
                  · have := HONz.out
                    rw [HLN.out, HXS.out, List.append_assoc, show (cq.take k).map (shiftV tp.length) ++ [z] = (cq.take (k + 1)).map (shiftV tp.length) by rw [HTK.out, List.map_append, List.map_cons, List.map_nil, HZ.out]] at this
                    exact this
                case measure => simp [intOf]; omega
              · have t1 : ((cq[k].1.toNat : Int) == 1) = false := u8_ne (by decide) h1
                have HSH := Lib.hid (show shiftV tp.length cq[k] = cq[k] by unfold shiftV; rw [if_neg h1])
                clear h1
                go_upto_region 13 with fail
                clear d0 d1 x0 y1
                obtain ⟨z, hz⟩ : ∃ z : VI, z = cq[k] := ⟨_, rfl⟩
                have HZ := Lib.hid (HSH.out.trans hz.symm)
                obtain ⟨WB, hWB⟩ : ∃ WB, WB = wr.alloc (.cells #[.int .u8 (z.1.toNat : Int), .int .u8 (z.2.toNat : Int)] 33) := ⟨_, rfl⟩
                rw [show cq[k] = z from hz.symm]
                clear hz
                have hbb : Below wr.heap.size wr WB := by rw [hWB]; exact b_alloc _ _
                rw [← hWB]
                have hbx : Blk WB wr.heap.size 33 [.int .u8 (z.1.toNat : Int), .int .u8 (z.2.toNat : Int)] := by rw [hWB]; exact Blk.new wr _ _
                have v0 := hbx.cell (k := 0) rfl
                have v1 := hbx.cell (k := 1) rfl
                have hbk := HBk.out.below hbb
                have z1 := hbk.cell (k := 1) rfl
                obtain ⟨xs, hxs⟩ : ∃ xs, xs = cp ++ (cq.take k).map (shiftV tp.length) := ⟨_, rfl⟩
                have hoc := HOc.out.below hbb
                rw [← hxs] at hoc HLN
                have HXS := Lib.hid hxs
                have HBK := Lib.hid hbk
                have HOC := Lib.hid hoc
                have HOT := Lib.hid (HOt.out.below hbb)
                have HBB := Lib.hid hbb
                clear hWB hbx hbk hxs hoc hbb HBk HOc HOt
                go_wp2_with (at_builtin; go_must (refine recIns.append1V _ z rfl _ _ 23 rfl Tryd.underlying23 base _ xs (HOC.out.below (b_alloc _ _)) rfl _ rfl (Rec.Row.new (R := recIns) WB [z] _).1 (by show (xs.length + 1) * 2 ≤ _; have := HLN.out; have := HSC.out; omega) (Nat.le_trans hbC (Nat.le_of_lt (HBK.out.below (b_alloc _ _)).lt)) ?_); go_must (intro g cap wn hon hcn _; have hbn := HBK.out.below (b_alloc WB (.cells (recIns.cells [z]).toArray 33)); have hn := own_neV (HOC.out.below (b_alloc WB (.cells (recIns.cells [z]).toArray 33))) hbn (by decide); have hbl : Blk wn C 25 _ := hcn.at hbn (fun hk => hn _ hk rfl); have z1 := hbl.cell (k := 1) rfl; have f1 := hbl.free (k := 1) (by simp); have HN := Lib.hid (And.intro hon (And.intro hcn hbl)); clear hon hcn hn hbl hbn))
                have hcs : Chg (fun x => x = C) wn (wn.setCell ⟨C, 1, none⟩ (.slice (some ⟨g, 0, none⟩) (xs.length + 1) cap)) := Chg.setCell _ _ _ rfl
                obtain ⟨wz, hwz⟩ : ∃ wz, wz = wn.setCell ⟨C, 1, none⟩ (.slice (some ⟨g, 0, none⟩) (xs.length + 1) cap) := ⟨_, rfl⟩
                have hbz := HN.out.2.2.set 1 (.slice (some ⟨g, 0, none⟩) (xs.length + 1) cap)
                rw [← hwz] at hcs hbz ⊢
                have HBZ := Lib.hid hbz
                have HONz := Lib.hid (HN.out.1.chgV hcs (own_neV HN.out.1 HN.out.2.2 (by decide)))
                have hot := Rec.Own.chgV (HOT.out.below (b_alloc WB (.cells (recIns.cells [z]).toArray 33))) HN.out.2.1 (own_apart HOT.out HOC.out (by decide))
                have HOTz := Lib.hid (hot.chgV hcs (own_neV hot HN.out.2.2 (by decide)))
                have hBz : Below base WB wz := by
                  have e1 : Below base WB (WB.alloc (.cells (recIns.cells [z]).toArray 33)) := (b_alloc _ _).mono (Nat.le_trans hbC (Nat.le_of_lt HBK.out.lt))
                  exact (e1.trans (HN.out.2.1.below (fun k hk => (Rec.Own.ltV HOC.out k hk).1) (Nat.le_trans hbC (Nat.le_of_lt (HBK.out.below (b_alloc _ _)).lt)))).trans (hcs.below (fun x (hx : x = C) => by omega) (Nat.le_trans hbC (Nat.le_of_lt HN.out.2.2.lt)))
                have HBz := Lib.hid (HBr.out.trans ((HBB.out.mono (Nat.le_of_lt_succ (Nat.lt_succ_of_le (HBr.out.size)))).trans (hBz.mono hb15)))
                clear hcs hbz hot hBz hwz HN
                go_roundw
                case rel =>
                  refine ⟨k + 1, some ⟨g, 0, none⟩, cap, by go_num, by omega, ?_, HOTz.out, ?_, HBz.out⟩
                  · have := HBZ.out
                    rw [HLN.out] at this
                    exact this
                  · have := HONz.out
                    rw [HLN.out, HXS.out, List.append_assoc, show (cq.take k).map (shiftV tp.length) ++ [z] = (cq.take (k + 1)).map (shiftV tp.length) by rw [HTK.out, List.map_append, List.map_cons, List.map_nil, HZ.out]] at this
                    exact this
                case measure => simp [intOf]; omega
            · obtain rfl : k = cq.length := by omega
              have hocc := HOc.out
              rw [List.take_length] at hocc
              have hask : AskV wr (.slice A8 (tp.length + tq.length) C8) (.slice A (cp.length + cq.length) B) (tp ++ tq) (cp ++ cq.map (shiftV tp.length)) := by
                obtain ⟨b1, b2, b3⟩ := largeV_no HLP.out
                obtain ⟨b4, b5, b6⟩ := largeV_no HLQ.out
                refine ⟨HOt.out.row, hocc.row, ?_, ?_, ?_, (HEF.out _ HBW.out).1, (HEF.out _ HBW.out).2⟩
                · rw [List.length_append]; omega
                · rw [List.length_append, List.length_map]; omega
                · intro s hs
                  rcases List.mem_append.1 hs with hs | hs
                  · have := b3 s hs; omega
                  · have := b6 s hs; omega
              obtain ⟨Tb, hTb⟩ : ∃ T, T = throughV (tp ++ tq) (cp ++ cq.map (shiftV tp.length)) 1 := ⟨_, rfl⟩
              have HKB := Lib.hid (aliveCheck _ _ _ _ 1 wr Tb.1 Tb.2.1 1 rfl (by rw [hTb]; exact ⟨rfl, rfl⟩) hask)
              have HTB := Lib.hid (fun (e1 : Tp.2.1 = 0) (e2 : Tq.2.1 = 0) => show Tb.1 = 0 ∧ Tb.2.1 = 0 by rw [hTb]; exact throughV_both HST.out HSC.out (by rw [← HTP.out]; exact e1) (by rw [← HTQ.out]; exact e2))
              have z0 := HBk.out.cell (k := 0) rfl
              have z1 := HBk.out.cell (k := 1) rfl
              clear hocc hask hTb x0
              go_wp2_with fail
              refine HKB.out.mono ?_
              rintro e wc ⟨rfl, hB⟩
              have HBc := Lib.hid (bt HBW.out hB)
              clear hB z0 z1 y1
              by_cases e1 : Tp.2.1 = 0
              · have u1 : ((Tp.2.1 : Int) == 0) = true := by rw [e1]; rfl
                by_cases e2 : Tq.2.1 = 0
                · have u2 : ((Tq.2.1 : Int) == 0) = true := by rw [e2]; rfl
                  obtain ⟨e3, e4⟩ := HTB.out e1 e2
                  have u3 : ((Tb.1 : Int) == 0) = true := by rw [e3]; rfl
                  have u4 : ((Tb.2.1 : Int) == 0) = true := by rw [e4]; rfl
                  clear e1 e2 e3 e4
                  go_wp2_with fail
                  refine (HAL.out _ HBc.out).mono ?_
                  rintro e wz ⟨rfl, hB⟩
                  have HZ := Lib.hid (bt HBc.out hB)
                  clear hB
                  go_wp2_with fail
                  go_ret
                  exact ⟨rfl, HZ.out⟩
                · have u2 : ((Tq.2.1 : Int) == 0) = false := by rw [beq_eq_false_iff_ne]; omega
                  clear e1 e2
                  go_wp2_with fail
                  refine (HAL.out _ HBc.out).mono ?_
                  rintro e wz ⟨rfl, hB⟩
                  have HZ := Lib.hid (bt HBc.out hB)
                  clear hB
                  go_wp2_with fail
                  go_ret
                  exact ⟨rfl, HZ.out⟩
              · have u1 : ((Tp.2.1 : Int) == 0) = false := by rw [beq_eq_false_iff_ne]; omega
                clear e1
                go_wp2_with fail
                refine (HAL.out _ HBc.out).mono ?_
                rintro e wz ⟨rfl, hB⟩
                have HZ := Lib.hid (bt HBc.out hB)
                clear hB
                go_wp2_with fail
                go_ret
                exact ⟨rfl, HZ.out⟩
        · have s2 : (16 : Int) < (tp.length : Int) + (tq.length : Int) := by omega
          go_enter Tryd.func3, Tryd.ntmps3
          go_upto_region 1 with fail
          rw [← hW1]
          clear hW1
          go_wp2_with fail
          refine (HP.out _ HB1.out).large.mono ?_
          rintro e w2 ⟨rfl, hB⟩
          have HB2 := Lib.hid (bt HB1.out hB)
          have x0 := Below.keeps hB x0
          have x1 := Below.keeps hB x1
          have y0 := Below.keeps hB y0
          have y1 := Below.keeps hB y1
          have HC2 := Lib.hid hB
          clear hB
          rw [HLP.out]
          go_wp2_with fail
          refine (HQ.out _ HB2.out).large.mono ?_
          rintro e w3 ⟨rfl, hB⟩
          have HB3 := Lib.hid (bt HB2.out hB)
          have x0 := Below.keeps hB x0
          have x1 := Below.keeps hB x1
          have y0 := Below.keeps hB y0
          have y1 := Below.keeps hB y1
          have HC3 := Lib.hid (bt HC2.out hB)
          clear hB
          rw [HLQ.out]
          clear hc ht
          go_wp2_with fail
          refine (HAL.out _ HB3.out).mono ?_
          rintro e wz ⟨rfl, hB⟩
          have HZ := Lib.hid (bt HB3.out hB)
          clear hB
          go_wp2_with fail
          go_ret
          exact ⟨rfl, HZ.out⟩
      · have s1 : (256 : Int) < (cp.length : Int) + (cq.length : Int) := by omega
        go_enter Tryd.func3, Tryd.ntmps3
        go_upto_region 1 with fail
        rw [← hW1]
        clear hW1
        go_wp2_with fail
        refine (HP.out _ HB1.out).large.mono ?_
        rintro e w2 ⟨rfl, hB⟩
        have HB2 := Lib.hid (bt HB1.out hB)
        have x0 := Below.keeps hB x0
        have x1 := Below.keeps hB x1
        have y0 := Below.keeps hB y0
        have y1 := Below.keeps hB y1
        have HC2 := Lib.hid hB
        clear hB
        rw [HLP.out]
        go_wp2_with fail
        refine (HQ.out _ HB2.out).large.mono ?_
        rintro e w3 ⟨rfl, hB⟩
        have HB3 := Lib.hid (bt HB2.out hB)
        have x0 := Below.keeps hB x0
        have x1 := Below.keeps hB x1
        have y0 := Below.keeps hB y0
        have y1 := Below.keeps hB y1
        have HC3 := Lib.hid (bt HC2.out hB)
        clear hB
        rw [HLQ.out]
        clear hc
        go_wp2_with fail
        refine (HAL.out _ HB3.out).mono ?_
        rintro e wz ⟨rfl, hB⟩
        have HZ := Lib.hid (bt HB3.out hB)
        clear hB
        go_wp2_with fail
        go_ret
        exact ⟨rfl, HZ.out⟩
end Go.Proofs.YtahmacnmphjhgaaDoor
namespace Go.Proofs.YtahmacnmphjhgaaDoor
open Go.ChangeShapes Go.WideShapes Go.ChangeAt Go.RowKit Oct
open Go.ChangeMaps (open_string shut_string)

theorem u64_nat {a : Int} (h : (Lit.int .u64 a).wf = true) : ∃ n : Nat, a = (n : Int) ∧ n < 18446744073709551616 := by
  have h2 : 0 ≤ a ∧ a < 18446744073709551616 := by
    have := bounds_u64 h; omega
  exact ⟨a.toNat, by omega, by omega⟩

section
variable {P : Program} {H : Type} {enc : TypeId × Value → H} {W : World} {base : Nat}
theorem open_str {t j : Nat} {v : Value} {d : DataW H} {ps : List MemPlace} {ts : List TypeId} {ds : List (DataW H)} (ht : P.underlying t = some .string) (hv : Value.okWide P W .any base t v)
    (h : DataW.Trod enc P W 0 (fun _ => true) true t v d ps) (hsz : (DataW.weightsEach P ts ds).all (· ≤ reachBytes) = true) (hj : ts[j]? = some t) (hd : ds[j]? = some d) :
    ∃ l : List UInt8, v = .string (bs l) ∧ l.length ≤ 140737488355328 := by
  obtain ⟨s, rfl, rfl, _, _⟩ := open_string ht hv h
  refine ⟨s.data.toList, by rw [bs_of], ?_⟩
  have := sized_string hsz hj hd
  have h2 := reachBytes_lt
  omega

theorem weights_strs (e : TypeId) : ∀ (ss : List ByteArray) (s : ByteArray), s ∈ ss → s.data.toList.length ∈ DataW.weightsAll (H := H) P e (strs ss)
  | [], _, h => by simp at h
  | x :: ss, s, h => by
    have hx : strs (H := H) (x :: ss) = DataW.lit (.string x.data.toList) :: strs ss := rfl
    rw [hx, DataW.weightsAll]
    rcases List.mem_cons.1 h with rfl | h
    · simp [DataW.weights]
    · exact List.mem_append.2 (.inr (weights_strs e ss s h))
theorem add_cell {w : World} {a : Addr} {i : Nat} {u : Value} (h : w.cell? (a.add i) = some u) : a.add i = ⟨a.block, a.off + i, none⟩ := by
  unfold Addr.add at h ⊢
  split
  · rename_i hi
    rw [if_pos hi] at h
    subst hi
    cases a with
    | mk b o sp =>
      cases sp with
      | none => rfl
      | some x => exfalso; revert h; simp only [World.cell?]; split <;> simp
  · rfl
theorem open_texts {t e j : Nat} {v : Value} {d : DataW H} {ps : List MemPlace} {ts : List TypeId} {ds : List (DataW H)} (ht : P.underlying t = some (.slice e)) (he : P.underlying e = some .string) (hc : P.cellsOf e = 1) (hby : P.bytesOf e = 16)
    (hv : Value.okWide P W .any base t v) (h : DataW.Trod enc P W 0 (fun _ => true) true t v d ps) (hsz : (DataW.weightsEach P ts ds).all (· ≤ reachBytes) = true) (hj : ts[j]? = some t) (hd : ds[j]? = some d) :
    ∃ r : List (List UInt8), Reads W v r.length (tcells r) ∧ r.length ≤ 140737488355328 ∧ ∀ l ∈ r, l.length ≤ 140737488355328 := by
  have h47 := reachBytes_lt
  obtain ⟨a0, len, cap, rfl⟩ := okWide_slice ht hv
  obtain ⟨fuel, hf⟩ := h
  rcases open_strings ht he hc hf with ⟨hcs, hx⟩ | ⟨a, len', cap', ss, hcs, _, hl, hm, hz, hx, hcell, hws⟩
  · simp [Value.cells] at hcs
    obtain ⟨rfl, rfl, rfl⟩ := hcs
    exact ⟨[], Reads.nil _, by simp, by simp⟩
  · simp [Value.cells] at hcs
    obtain ⟨rfl, rfl, rfl⟩ := hcs
    simp at hz
    simp only [Prod.mk.injEq] at hx
    have hd2 := hx.1
    subst hd2
    have s1 := sized_slice hsz hj hd ht
    rw [hby] at s1
    simp only [strs, List.length_map, List.length_take, List.length_drop] at s1
    have hlen : (ss.take len).length = len := by simp; omega
    refine ⟨(ss.take len).map fun s => s.data.toList, ?_, ?_, ?_⟩
    · refine ⟨some a, cap, by rw [List.length_map, hlen], by simp, fun i u hu => ?_⟩
      have hi : i < len := by
        rcases Nat.lt_or_ge i len with h | h
        · exact h
        · rw [List.getElem?_eq_none (by simp [tcells]; omega)] at hu; simp at hu
      have hcl := hcell i (by omega)
      have e1 := add_cell hcl
      have e2 : a = ⟨a.block, a.off, none⟩ := by
        have h0 := add_cell (hcell 0 (by omega))
        simpa [Addr.add] using h0
      rw [e1] at hcl
      refine ⟨a.block, a.off, by rw [← e2], ?_⟩
      rw [hcl, ← hu]
      have hss : i < ss.length := by omega
      simp [tcells, List.getElem?_take, hi, hss, bs_of, List.getD]
    · simp; omega
    · intro l hl
      obtain ⟨s, hs, rfl⟩ := List.mem_map.1 hl
      have hin : s.data.toList.length ∈ DataW.weightsEach P ts ds := by
        refine DataW.weights_mem_each hj hd _ ?_
        simp only [DataW.weights, ht]
        exact List.mem_cons.2 (.inr (List.mem_append.2 (.inl (weights_strs e _ s hs))))
      have := List.all_eq_true.1 hsz _ hin
      simp at this
      simp
      omega
end
end Go.Proofs.YtahmacnmphjhgaaDoor
namespace Go.Proofs.YtahmacnmphjhgaaDoor
open Go.ChangeShapes Go.WideShapes Go.ChangeAt Go.RowKit Oct
open Go.ChangeMaps (open_string shut_string)

section
variable {P : Program} {H : Type} {enc : TypeId × Value → H} {W : World} {α β γ : Type}

/-- whatever the cells of a type read as, they hold an x; its measure is at most the datum's bulk -/
def Opens (enc : TypeId × Value → H) (P : Program) (W : World) (t : TypeId) (mu : α → Nat) (He : List Value → α → Prop) : Prop :=
  ∀ n cs d ps, DataW.trod enc P W 0 (fun _ => true) true n t cs = some (d, ps) → (∀ x ∈ d.weights P t, x ≤ reachBytes) → ∃ x, He cs x ∧ mu x ≤ Rows.uptoBulk d
theorem bulk_range (D : Nat → DataW H) (f : Nat → α) (mu : α → Nat) : ∀ n, (∀ i, i < n → mu (f i) ≤ Rows.uptoBulk (D i)) → (((List.range n).map f).map mu).sum ≤ Rows.uptoBulkAll ((List.range n).map D)
  | 0, _ => by simp
  | n + 1, h => by
    have ih := bulk_range D f mu n (fun i hi => h i (by omega))
    have app : ∀ (l r : List (DataW H)), Rows.uptoBulkAll (l ++ r) = Rows.uptoBulkAll l + Rows.uptoBulkAll r := by
      intro l r
      induction l with
      | nil => simp [Rows.uptoBulkAll]
      | cons x l ih => simp only [List.cons_append, Rows.uptoBulkAll, ih]; omega
    have := h n (by omega)
    simp only [List.range_succ, List.map_append, List.sum_append, app, List.map_cons, List.map_nil, List.sum_cons, List.sum_nil, Rows.uptoBulkAll]
    omega

theorem Opens.imp {t : TypeId} {mu : α → Nat} {He He' : List Value → α → Prop} (h : Opens enc P W t mu He) (hi : ∀ cs x, He cs x → He' cs x) : Opens enc P W t mu He' := by
  intro n cs d ps hd hw
  obtain ⟨x, hx, hb⟩ := h n cs d ps hd hw
  exact ⟨x, hi _ _ hx, hb⟩
/-- v is a row of elements of 'size' cells -/
def SliceOf (W : World) (size : Nat) (He : List Value → α → Prop) (v : Value) (xs : List α) : Prop :=
  ∃ a cap, v = .slice a xs.length cap ∧ xs.length ≤ cap ∧ (a = none → xs.length = 0 ∧ cap = 0) ∧
    ∀ k (h : k < xs.length), ∃ b off cs, a = some ⟨b, off, none⟩ ∧ cs.length = size ∧ (∀ j u, cs[j]? = some u → W.cell? ⟨b, off + k * size + j, none⟩ = some u) ∧ He cs xs[k]

theorem weights_all_mem (e : TypeId) : ∀ (ds : List (DataW H)) (d : DataW H), d ∈ ds → ∀ x ∈ d.weights P e, x ∈ DataW.weightsAll P e ds
  | [], _, h => by simp at h
  | d0 :: ds, d, h => by
    intro x hx
    rw [DataW.weightsAll]
    rcases List.mem_cons.1 h with rfl | h
    · exact List.mem_append.2 (.inl hx)
    · exact List.mem_append.2 (.inr (weights_all_mem e ds d h x hx))

theorem opens_str {t : TypeId} (ht : P.underlying t = some .string) : Opens enc P W t (fun l : List UInt8 => l.length + 1) fun cs (l : List UInt8) => cs = [.string (bs l)] ∧ l.length ≤ 140737488355328 := by
  intro n cs d ps h hw
  obtain ⟨s, rfl, hx, _⟩ := DataW.trod_string ht h
  simp only [Prod.mk.injEq] at hx
  obtain ⟨rfl, rfl⟩ := hx
  have := hw s.data.toList.length (by simp [DataW.weights])
  have h2 := reachBytes_lt
  exact ⟨s.data.toList, ⟨by rw [bs_of], by omega⟩, by simp [Rows.uptoBulk]⟩
theorem opens_int {t : TypeId} {k : IntKind} (ht : P.underlying t = some (.int k)) : Opens enc P W t (fun _ => 1) fun cs (a : Int) => cs = [.int k a] ∧ (Lit.int k a).wf = true := by
  intro n cs d ps h hw
  obtain ⟨a, rfl, hx, hwf⟩ := DataW.trod_int ht h
  simp only [Prod.mk.injEq] at hx
  obtain ⟨rfl, rfl⟩ := hx
  exact ⟨a, ⟨rfl, hwf⟩, by simp [Rows.uptoBulk]⟩
theorem opens_struct2 {t : TypeId} {f0 f1 : Field} {c0 c1 : Nat} {m0 : α → Nat} {m1 : β → Nat} {H0 : List Value → α → Prop} {H1 : List Value → β → Prop} (ht : P.underlying t = some (.struct #[f0, f1])) (hc : P.cellsOf t = c0 + c1)
    (hc0 : P.cellsOf f0.type = c0) (hc1 : P.cellsOf f1.type = c1) (o0 : f0.offset = 0) (o1 : f1.offset = c0)
    (h0 : Opens enc P W f0.type m0 H0) (h1 : Opens enc P W f1.type m1 H1) : Opens enc P W t (fun p => m0 p.1 + m1 p.2 + 1) fun cs (p : α × β) => ∃ cs0 cs1, cs = cs0 ++ cs1 ∧ cs0.length = c0 ∧ cs1.length = c1 ∧ H0 cs0 p.1 ∧ H1 cs1 p.2 := by
  intro n cs d ps h hw
  obtain ⟨y0, y1, m, hx, hl, e0, e1⟩ := trod_struct2 ht h
  simp only [Prod.mk.injEq] at hx
  obtain ⟨rfl, rfl⟩ := hx
  have hw' : ∀ x, x ∈ y0.1.weights P f0.type ∨ x ∈ y1.1.weights P f1.type → x ≤ reachBytes := by
    intro x hx
    refine hw x ?_
    simp only [DataW.weights, ht, DataW.weightsEach, List.map_cons, List.mem_append]
    rcases hx with hx | hx
    · exact .inl hx
    · exact .inr (.inl hx)
  obtain ⟨x0, k0, b0⟩ := h0 _ _ _ _ e0 (fun x hx => hw' x (.inl hx))
  obtain ⟨x1, k1, b1⟩ := h1 _ _ _ _ e1 (fun x hx => hw' x (.inr hx))
  rw [o0, hc0, List.drop_zero] at k0
  rw [o1, hc1] at k1
  refine ⟨(x0, x1), ⟨cs.take c0, (cs.drop c0).take c1, ?_, ?_, ?_, k0, k1⟩, by simp only [Rows.uptoBulk, Rows.uptoBulkAll]; omega⟩
  · have : (cs.drop c0).take c1 = cs.drop c0 := List.take_of_length_le (by simp; omega)
    rw [this, List.take_append_drop]
  · simp; omega
  · simp; omega
theorem opens_slice {t e : TypeId} {size : Nat} {mu : α → Nat} {He : List Value → α → Prop} (ht : P.underlying t = some (.slice e)) (hc : P.cellsOf e = size) (hpos : 0 < size) (he : Opens enc P W e mu He) :
    Opens enc P W t (fun xs => (xs.map mu).sum + 1) fun cs (xs : List α) => ∃ v, cs = [v] ∧ SliceOf W size He v xs ∧ xs.length * P.bytesOf e ≤ reachBytes := by
  intro n cs d ps h hw
  rcases Deep.open_slice ht h with ⟨rfl, hx⟩ | ⟨a, len, cap, m, n', D, Pl, rfl, _, hl, hm, hmm, hx, hcell⟩
  · simp only [Prod.mk.injEq] at hx
    obtain ⟨rfl, _⟩ := hx
    exact ⟨[], ⟨_, rfl, ⟨none, 0, rfl, Nat.le_refl _, fun _ => ⟨rfl, rfl⟩, fun k hk => by simp at hk⟩, by simp⟩, by simp [Rows.uptoBulk]⟩
  · simp only [Prod.mk.injEq] at hx
    obtain ⟨rfl, _⟩ := hx
    simp only [if_true] at hmm
    subst hmm
    have hin : ∀ i, i < len → ∀ x ∈ (D i).weights P e, x ≤ reachBytes := by
      intro i hi x hx
      refine hw x ?_
      simp only [DataW.weights, ht]
      exact List.mem_cons.2 (.inr (List.mem_append.2 (.inl (weights_all_mem e _ (D i) (List.mem_map.2 ⟨i, by simpa using hi, rfl⟩) x hx))))
    have each : ∀ i, i < len → ∃ x : α, (∃ cs', W.cells? 0 (a.add (i * size)) size = some cs' ∧ He cs' x) ∧ mu x ≤ Rows.uptoBulk (D i) := by
      intro i hi
      obtain ⟨cs', h1, h2⟩ := hcell i (by omega)
      rw [hc] at h1
      obtain ⟨x, hx, hb⟩ := he _ _ _ _ h2 (hin i hi)
      exact ⟨x, ⟨cs', h1, hx⟩, hb⟩
    have hlen := hw ((len + (m - len)) * P.bytesOf e) (by simp [DataW.weights, ht])
    have hlb : len * P.bytesOf e ≤ (len + (m - len)) * P.bytesOf e := Nat.mul_le_mul_right _ (by omega)
    by_cases h0 : len = 0
    · subst h0
      exact ⟨[], ⟨_, rfl, ⟨some a, m, rfl, Nat.zero_le _, by simp, fun k hk => by simp at hk⟩, by simp⟩, by simp [Rows.uptoBulk]⟩
    obtain ⟨x0, _⟩ := each 0 (by omega)
    haveI : Inhabited α := ⟨x0⟩
    obtain ⟨f, hf⟩ := Deep.choose_lt each
    have haddr : a = ⟨a.block, a.off, none⟩ := by
      obtain ⟨⟨cs', h1, _⟩, _⟩ := hf 0 (by omega)
      obtain ⟨_, hl', hcs⟩ := World.cells?_some h1
      have h2 := hcs 0 (by omega)
      rw [Nat.zero_mul] at h2
      have h3 : ∃ u, cs'[0]? = some u := ⟨cs'[0]'(by omega), List.getElem?_eq_getElem _⟩
      obtain ⟨u, hu⟩ := h3
      rw [hu] at h2
      have := add_cell (a := a.add 0) (i := 0) h2
      simpa [Addr.add] using this
    have hbulk := bulk_range D f mu len (fun i hi => (hf i hi).2)
    refine ⟨(List.range len).map f, ⟨_, rfl, ⟨some a, m, by simp, by simpa using hl, by simp, ?_⟩, ?_⟩, by simp only [Rows.uptoBulk]; omega⟩
    · intro k hk
      have hk' : k < len := by simpa using hk
      obtain ⟨⟨cs', h1, hHe⟩, _⟩ := hf k hk'
      obtain ⟨_, hl', hcs⟩ := World.cells?_some h1
      refine ⟨a.block, a.off, cs', by rw [← haddr], hl', ?_, by simpa using hHe⟩
      intro j u hj
      have hjl : j < size := by
        rcases Nat.lt_or_ge j size with h | h
        · exact h
        · rw [List.getElem?_eq_none (by omega)] at hj; cases hj
      have h2 := hcs j hjl
      rw [haddr, hj, Addr.add_lit, Addr.add_lit] at h2
      rw [← h2]
    · simp only [List.length_map, List.length_range]; omega

theorem open_any {t j : Nat} {v : Value} {d : DataW H} {ps : List MemPlace} {ts : List TypeId} {ds : List (DataW H)} {mu : α → Nat} {He : List Value → α → Prop} (ho : Opens enc P W t mu He)
    (h : DataW.Trod enc P W 0 (fun _ => true) true t v d ps) (hsz : (DataW.weightsEach P ts ds).all (· ≤ reachBytes) = true) (hj : ts[j]? = some t) (hd : ds[j]? = some d) : ∃ x, He v.cells.toList x ∧ mu x ≤ Rows.uptoBulk d := by
  obtain ⟨fuel, hf⟩ := h
  refine ho _ _ _ _ hf fun x hx => ?_
  simpa using List.all_eq_true.1 hsz x (DataW.weights_mem_each hj hd x hx)
theorem cells_slice {base : Nat} {t e : TypeId} {v v' : Value} (ht : P.underlying t = some (.slice e)) (hv : Value.okWide P W .any base t v) (h : v.cells.toList = [v']) : v = v' := by
  obtain ⟨a0, len, cap, rfl⟩ := okWide_slice ht hv
  simpa [Value.cells] using h
end
end Go.Proofs.YtahmacnmphjhgaaDoor
namespace Go.Proofs.YtahmacnmphjhgaaDoor
open Go.ChangeShapes Go.WideShapes Go.ChangeAt Go.RowKit Oct

section
variable {H : Type} {enc : TypeId × Value → H} {W : World}
theorem rec_of {α : Type} (R : Rec α) {He : List Value → α → Prop} (hcs0 : ∀ cs x, He cs x → cs = R.cell x) {v : Value} {xs : List α} (h : SliceOf W R.n He v xs) : R.Row W v xs ∧ ∀ x ∈ xs, ∃ cs, He cs x := by
  obtain ⟨a, cap, rfl, hle, hn, hc⟩ := h
  have hpos := R.pos
  refine ⟨⟨⟨a, cap, rfl, hn, ?_⟩, a, cap, rfl, hle⟩, ?_⟩
  · intro j u hj
    have hjl : j < xs.length * R.n := by
      rcases Nat.lt_or_ge j (xs.length * R.n) with h | h
      · exact h
      · rw [List.getElem?_eq_none (by rw [Rec.cells_length]; exact h)] at hj; cases hj
    have hk : j / R.n < xs.length := Nat.div_lt_of_lt_mul (by rw [Nat.mul_comm]; exact hjl)
    obtain ⟨b, off, cs, ha, hl, hcell, hcs⟩ := hc (j / R.n) hk
    obtain rfl := hcs0 _ _ hcs
    refine ⟨b, off, ha, ?_⟩
    have hm : j % R.n < R.n := Nat.mod_lt _ hpos
    have hu : (R.cell xs[j / R.n])[j % R.n]? = some ((R.cell xs[j / R.n])[j % R.n]'(by rw [R.len]; exact hm)) := List.getElem?_eq_getElem _
    have h1 := R.cells_at xs (j / R.n) hk (j % R.n) _ hu
    have e : j / R.n * R.n + j % R.n = j := Nat.div_add_mod' j R.n
    rw [e, hj] at h1
    have h2 := hcell (j % R.n) _ hu
    rw [← Option.some.inj h1, Nat.add_assoc, e] at h2
    exact h2
  · intro p hp
    obtain ⟨k, hk, rfl⟩ := List.getElem_of_mem hp
    obtain ⟨_, _, cs, _, _, _, h⟩ := hc k hk
    exact ⟨cs, h⟩
set_option maxRecDepth 100000 in
theorem open_strs {base j : Nat} {v : Value} {d : DataW H} {ps : List MemPlace} {ts : List TypeId} {ds : List (DataW H)}
    (hv : Value.okWide Tryd.prog W .any base 22 v) (h : DataW.Trod enc Tryd.prog W 0 (fun _ => true) true 22 v d ps) (hsz : (DataW.weightsEach Tryd.prog ts ds).all (· ≤ reachBytes) = true) (hj : ts[j]? = some 22) (hd : ds[j]? = some d) :
    ∃ l : List (List UInt8), recS.Row W v l ∧ l.length ≤ 140737488355328 ∧ ∀ s ∈ l, s.length ≤ 140737488355328 := by
  have ho : Opens enc Tryd.prog W 22 _ _ := opens_slice (size := 1) Tryd.underlying22 (by kernel_rfl) (by decide) (opens_str Tryd.underlying9)
  obtain ⟨l, ⟨v', hcs, h1, h2⟩, _⟩ := open_any ho h hsz hj hd
  obtain rfl := cells_slice Tryd.underlying22 hv hcs
  have hby : Tryd.prog.bytesOf 9 = 16 := by kernel_rfl
  rw [hby] at h2
  have h3 := reachBytes_lt
  obtain ⟨h4, h5⟩ := rec_of recS (fun cs x h => h.1) h1
  exact ⟨l, h4, by omega, fun s hs => by obtain ⟨cs, _, h⟩ := h5 s hs; exact h⟩
end
end Go.Proofs.YtahmacnmphjhgaaDoor
namespace Go.Proofs.YtahmacnmphjhgaaDoor
open Go.ChangeShapes Go.WideShapes Go.ChangeAt Go.RowKit Oct

theorem u8_nat {a : Int} (h : (Lit.int .u8 a).wf = true) : ∃ r : UInt8, a = (r.toNat : Int) := by
  have h2 : 0 ≤ a ∧ a < 256 := by
    simp [Lit.wf, IntKind.min, IntKind.max, IntKind.signed, IntKind.bits] at h
    omega
  refine ⟨UInt8.ofNat a.toNat, ?_⟩
  rw [UInt8.toNat_ofNat']
  omega
section
variable {H : Type} {enc : TypeId × Value → H} {W : World}
theorem Opens.mapV {P : Program} {α β : Type} {t : TypeId} {mu : α → Nat} {mu' : β → Nat} {He : List Value → α → Prop} {He' : List Value → β → Prop} (h : Opens enc P W t mu He) (hi : ∀ cs x, He cs x → ∃ y, He' cs y ∧ mu' y ≤ mu x) : Opens enc P W t mu' He' := by
  intro n cs d ps hd hw
  obtain ⟨x, hx, hb⟩ := h n cs d ps hd hw
  obtain ⟨y, hy, hm⟩ := hi _ _ hx
  exact ⟨y, hy, Nat.le_trans hm hb⟩
theorem opens_ins : Opens enc Tryd.prog W 33 (fun _ : VI => 0) fun cs x => cs = recIns.cell x := by
  refine Opens.mapV (opens_struct2 (c0 := 1) (c1 := 1) Tryd.underlying33 (by kernel_rfl) (by kernel_rfl) (by kernel_rfl) rfl rfl (opens_int (k := .u8) Tryd.underlying5) (opens_int (k := .u8) Tryd.underlying5)) ?_
  rintro cs ⟨a, b⟩ ⟨cs0, cs1, rfl, _, _, ⟨rfl, h0⟩, rfl, h1⟩
  obtain ⟨r0, rfl⟩ := u8_nat h0
  obtain ⟨r1, rfl⟩ := u8_nat h1
  exact ⟨(r0, r1), rfl, Nat.zero_le _⟩
set_option maxRecDepth 100000 in
theorem open_prog {base j : Nat} {v : Value} {d : DataW H} {ps : List MemPlace} {ts : List TypeId} {ds : List (DataW H)}
    (hv : Value.okWide Tryd.prog W .any base 25 v) (h : DataW.Trod enc Tryd.prog W 0 (fun _ => true) true 25 v d ps) (hsz : (DataW.weightsEach Tryd.prog ts ds).all (· ≤ reachBytes) = true) (hj : ts[j]? = some 25) (hd : ds[j]? = some d) :
    ∃ (tv cv : Value) (texts : List (List UInt8)) (code : List VI), v = .agg #[tv, cv] ∧ ProgR W tv cv texts code := by
  have h3 := reachBytes_lt
  have o1 : Opens enc Tryd.prog W 22 _ _ := opens_slice (size := 1) Tryd.underlying22 (by kernel_rfl) (by decide) (opens_str Tryd.underlying9)
  have o2 : Opens enc Tryd.prog W 23 _ _ := opens_slice (size := 2) Tryd.underlying23 (by kernel_rfl) (by decide) opens_ins
  obtain ⟨⟨texts, code⟩, ⟨cs0, cs1, hcs, _, _, ⟨tv, rfl, h1, h2⟩, cv, rfl, h4, h5⟩, _⟩ := open_any (opens_struct2 (c0 := 1) (c1 := 1) Tryd.underlying25 (by kernel_rfl) (by kernel_rfl) (by kernel_rfl) rfl rfl o1 o2) h hsz hj hd
  have hb1 : Tryd.prog.bytesOf 9 = 16 := by kernel_rfl
  have hb2 : Tryd.prog.bytesOf 33 = 2 := by kernel_rfl
  rw [hb1] at h2
  rw [hb2] at h5
  obtain ⟨r1, r2⟩ := rec_of recS (fun cs x h => h.1) h1
  obtain ⟨r3, _⟩ := rec_of recIns (fun cs x h => h) h4
  obtain ⟨cs, rfl, hsize⟩ := okWide_struct Tryd.underlying25 hv
  refine ⟨tv, cv, texts, code, ?_, ⟨r1, r3, ?_, ?_, fun s hs => by obtain ⟨cs, _, h⟩ := r2 s hs; exact h⟩⟩
  · have e : cs.toList = [tv, cv] := by simpa [Value.cells] using hcs
    rw [show cs = #[tv, cv] from by rw [← Array.toArray_toList (xs := cs), e]]
  · have h2' : texts.length * 16 ≤ reachBytes := h2
    omega
  · have h5' : code.length * 2 ≤ reachBytes := h5
    omega
end

/-- what is listed of the package's variables -/
def laidV : List (String × DataW Unit) := [("unicode/utf8.acceptRanges", Rows.laid_unicode_utf8_acceptRanges), ("maslin/verify.effects", Rows.laid_maslin_verify_effects), ("unicode/utf8.first", Rows.laid_unicode_utf8_first)]
theorem laid_effs : Rows.laid_maslin_verify_effects (H := Unit) = .agg (effs.map fun e => .agg [.lit (.string e.1), .lit (.string e.2)]) := by kernel_rfl
theorem str_eqV {s : ByteArray} {l : List UInt8} (h : s.data.toList = l) : Value.string s = .string (bs l) := by subst h; rw [bs_of]
set_option maxRecDepth 100000 in
theorem eff_of_laid {W : World} (h : laidMetH Tryd.prog laidV W) : EffM W ∧ 0 < W.heap.size := by
  rw [MakeChecks.laidMetH_plain _ _ _ (by kernel_rfl)] at h
  obtain ⟨g, t, cs, fuel, p, hg, ht, hv, hd⟩ := Lib.laidMet.reads (n := "maslin/verify.effects") (d := Rows.laid_maslin_verify_effects) h (.tail _ (.head _))
  obtain rfl := Option.some.inj ((show Tryd.prog.globalNamed "maslin/verify.effects" = some 0 by kernel_rfl).symm.trans hg)
  obtain rfl := Option.some.inj ((show (Tryd.prog.globals[0]?).map (·.type) = some 86 by kernel_rfl).symm.trans ht)
  rw [laid_effs] at hd
  obtain ⟨xs, m, _, ex, _, hl, hel⟩ := DataW.trod_array Tryd.underlying86 hd
  have c2 : Tryd.prog.cellsOf 85 = 2 := by kernel_rfl
  have c1 : Tryd.prog.cellsOf 9 = 1 := by kernel_rfl
  have e3 : xs.map (·.1) = effs.map fun e => .agg [.lit (.string e.1), .lit (.string e.2)] := (DataW.agg.inj (Prod.mk.inj ex).1).symm
  have key : EffM W := by
    intro k hk
    have hE := hel k hk
    rw [c2, List.getElem?_eq_getElem (by omega)] at hE
    have hlen : effs.length = 24 := effs_len
    have e4 : (xs.map (·.1))[k]? = (effs.map fun e => (DataW.agg [.lit (.string e.1), .lit (.string e.2)] : DataW Unit))[k]? := by rw [e3]
    rw [List.getElem?_map, List.getElem?_map, List.getElem?_eq_getElem (by omega : k < xs.length), List.getElem?_eq_getElem (by omega : k < effs.length)] at e4
    obtain ⟨y0, y1, n, hx, _, t0, t1⟩ := trod_struct2 Tryd.underlying85 hE
    obtain ⟨s0, q0, hy0, _⟩ := DataW.trod_string Tryd.underlying9 t0
    obtain ⟨s1, q1, hy1, _⟩ := DataW.trod_string Tryd.underlying9 t1
    rw [hx, hy0, hy1] at e4
    simp only [Option.map_some, Option.some.injEq, DataW.agg.injEq, List.cons.injEq, DataW.lit.injEq, Lit.string.injEq, and_true] at e4
    have hd' : effs.getD k ([], []) = effs[k]'(by omega) := by rw [List.getD, List.getElem?_eq_getElem (by omega : k < effs.length)]; rfl
    rw [World.var?_cell hg hv, World.var?_cell hg hv, hd']
    rw [c1] at q0 q1
    have p0 : cs.toList[k * 2]? = some (.string s0) := by
      have : ((((cs.toList.drop (k * 2)).take 2).drop 0).take 1)[0]? = some (.string s0) := by rw [q0]; rfl
      simpa using this
    have p1 : cs.toList[k * 2 + 1]? = some (.string s1) := by
      have : ((((cs.toList.drop (k * 2)).take 2).drop 1).take 1)[0]? = some (.string s1) := by rw [q1]; rfl
      simpa using this
    refine ⟨?_, ?_⟩
    · rw [← str_eqV e4.1]; simpa using p0
    · rw [← str_eqV e4.2]; simpa using p1
  refine ⟨key, ?_⟩
  have := (key 0 (by decide)).1
  rcases Nat.lt_or_ge 0 W.heap.size with hn | hn
  · exact hn
  · exfalso
    rw [World.cell?, Array.getElem?_eq_none hn] at this
    cases this
end Go.Proofs.YtahmacnmphjhgaaDoor
