/- Lemmas for VerifyBlocks, part 7: walks of the functions that it reaches, and the plain laws behind them. -/
import Derived.ProofKit
import Derived.OpenShut
import Derived.ShutString
import Derived.ChangeOld
import Derived.SizedLaws
import Derived.SliceStrings
import Derived.Test.YtahmacnmphjhgaaDoorRows
import Derived.Deep.Slices
import Derived.ChangeSame
import Derived.Test.YtahmacnmphjhgaaDoorVerifyBlocksK6
set_option linter.unusedSimpArgs false
set_option linter.unusedVariables false
namespace Go.Proofs.YtahmacnmphjhgaaDoor
open Go.RowKit Oct
attribute [local irreducible] wpG
/-- a program that came in -/
structure ProgR (w : World) (tv cv : Value) (texts : List (List UInt8)) (code : List VI) : Prop where
  t : recS.Row w tv texts
  c : recIns.Row w cv code
  lt : texts.length ≤ 140737488355328
  lc : code.length ≤ 140737488355328
  m : ∀ s ∈ texts, s.length ≤ 140737488355328
theorem ProgR.below {w w' : World} {tv cv : Value} {texts : List (List UInt8)} {code : List VI} (h : ProgR w tv cv texts code) (hB : Below w.heap.size w w') : ProgR w' tv cv texts code := ⟨h.t.below hB, h.c.below hB, h.lt, h.lc, h.m⟩
theorem ProgR.large {w : World} {tv cv : Value} {texts : List (List UInt8)} {code : List VI} (h : ProgR w tv cv texts code) :
    Calls Tryd.prog 7 #[.agg #[tv, cv]] w fun e w' => e = .returned (.bool (largeV texts code)) ∧ Below w.heap.size w w' := Large_any tv cv texts code w h.t h.c h.lt h.lc h.m
theorem ProgR.ask {w : World} {tv cv : Value} {texts : List (List UInt8)} {code : List VI} (h : ProgR w tv cv texts code) (hl : largeV texts code = false) (hE : EffM w) (hg : 0 < w.heap.size) : AskV w tv cv texts code := by
  obtain ⟨h1, h2, h3⟩ := largeV_no hl
  exact ⟨h.t, h.c, by omega, by omega, fun s hs => by have := h3 s hs; omega, hE, hg⟩
theorem ProgR.sl {w : World} {tv cv : Value} {texts : List (List UInt8)} {code : List VI} (h : ProgR w tv cv texts code) : ∃ a1 c1 a2 c2, tv = .slice a1 texts.length c1 ∧ cv = .slice a2 code.length c2 := by
  obtain ⟨a1, c1, h1, -, -⟩ := recS_open h.t
  obtain ⟨a2, c2, h2, -, -⟩ := recIns_open h.c
  exact ⟨a1, c1, a2, c2, h1, h2⟩
/-- append(s, x...), and what it leaves alone -/
theorem Rec.appendNV {α : Type} {ops : Array Oper} {rest : List Oper} {o : Oper} {a : Act} {Q : Exit → Act → World → Prop} (R : Rec α) (w : World) (hgd : o.guard = none) (s x : Operand) (t : TypeId)
    (ho : o.op = .call { callee := .builtin .append, args := #[s, x], argTypes := #[t, t] }) (ht : Tryd.prog.underlying t = some (.slice R.e))
    (base : Nat) (v : Value) (xs : List α) (hown : R.Own w base v xs) (hs : a.eval s = v)
    (vx : Value) (ys : List α) (hr : R.Row w vx ys) (hx : a.eval x = vx) (hbytes : (xs.length + ys.length) * R.bytes ≤ 140737488355328) (hbase : base ≤ w.heap.size)
    (h : ∀ A C w', R.Own w' base (.slice A (xs ++ ys).length C) (xs ++ ys) → Chg (fun k => v.ownBlock = some k) w w' → wpList Tryd.prog ops Q rest (a.put o.dst (.slice A (xs ++ ys).length C)) w') : wpList Tryd.prog ops Q (o :: rest) a w := by
  obtain ⟨i, hi, hz, hi1, hi2⟩ := info_parts R.info
  have hn : xs.length + ys.length ≤ (xs.length + ys.length) * R.bytes := Nat.le_mul_of_pos_right _ R.bpos
  obtain ⟨⟨ax, cap, rfl, hnone, hc⟩, _⟩ := hr
  cases ax with
  | none =>
    obtain ⟨h0, rfl⟩ := hnone rfl
    obtain rfl : ys = [] := List.eq_nil_of_length_eq_zero h0
    refine wpList_append_own_none hgd s x t ho base R.e i R.n ht hi v xs.length (R.cells xs) hs hown hx ?_
    obtain ⟨A, C, rfl⟩ := owns_slice hown
    have := h A C w (by rw [List.append_nil]; exact hown) (Chg.refl _ _)
    rw [List.append_nil] at this
    exact this
  | some ad =>
    refine wpList_append_own _ hgd s x t ho base R.e i R.z R.n R.bytes ht hi hz hi1 hi2 R.zs R.pos v xs.length (R.cells xs) hs hown ad ys.length cap (R.cells ys) hx (R.cells_length ys) ?_ (R.cells_one ys) (by unfold maxLen; omega) hbytes hbase ?_
    · intro j u hj
      obtain ⟨b, off, ha, hu⟩ := hc j u hj
      cases ha
      rw [Addr.add_lit]; exact hu
    · intro v' w' h2 h3 _
      have h2' : R.Own w' base v' (xs ++ ys) := by unfold Rec.Own; rw [R.cells_append, List.length_append]; exact h2
      have hB : Below base w w' := (Below.refl base w).grown h3 hbase (fun k hk => (Rec.Own.ltV hown k hk).1)
      obtain ⟨A, C, rfl⟩ := owns_slice h2'
      exact h A C w' h2' ⟨hB.os, hB.tape, hB.output, hB.size, fun j hj hne => h3.block j hj (fun e => hne e.symm)⟩
theorem own_apart {α β : Type} {R : Rec α} {R' : Rec β} {w : World} {b1 b2 : Nat} {v v' : Value} {l : List α} {l' : List β} (h : R.Own w b1 v l) (h' : R'.Own w b2 v' l') (ht : R.e ≠ R'.e) : ∀ k, v.ownBlock = some k → ¬ v'.ownBlock = some k := by
  rintro k hk hk'
  rcases h.2 with ⟨rfl, _⟩ | ⟨g, cap, cur, rfl, _, hh, _⟩
  · cases hk
  rcases h'.2 with ⟨rfl, _⟩ | ⟨g', cap', cur', rfl, _, hh', _⟩
  · cases hk'
  obtain rfl : g = k := by injection hk
  obtain rfl : g' = g := by injection hk'
  rw [hh] at hh'
  injection hh' with e
  injection e with _ e2 _
  exact ht e2
theorem ProgR.codeAt {w : World} {tv : Value} {a : Option Addr} {n c : Nat} {texts : List (List UInt8)} {code : List VI} (h : ProgR w tv (.slice a n c) texts code) {k : Nat} (hk : k < code.length) :
    ∃ b off, a = some ⟨b, off, none⟩ ∧ w.cell? ⟨b, off + k * 2, none⟩ = some (.int .u8 (code[k].1.toNat : Int)) ∧ w.cell? ⟨b, off + k * 2 + 1, none⟩ = some (.int .u8 (code[k].2.toNat : Int)) := by
  obtain ⟨a', c', hv, -, hc⟩ := recIns_open h.c
  injection hv with e1 e2 e3
  subst e1
  exact hc k hk
theorem u8_shift (a : UInt8) (n : Nat) : IntKind.u8.wrap ((a.toNat : Int) + IntKind.u8.wrap (n : Int)) = ((a + UInt8.ofNat n).toNat : Int) := by
  simp [IntKind.wrap, IntKind.bits, IntKind.signed, UInt8.toNat_add, UInt8.toNat_ofNat']

set_option maxRecDepth 100000 in
set_option maxHeartbeats 16000000 in
theorem VerifyStraight_any (tpv cpv : Value) (tp : List (List UInt8)) (cp : List VI) (tqv cqv : Value) (tq : List (List UInt8)) (cq : List VI) (w : World) (hp : ProgR w tpv cpv tp cp) (hq : ProgR w tqv cqv tq cq) (hE : EffM w) (hg : 0 < w.heap.size) :
    Calls Tryd.prog 3 #[.agg #[tpv, cpv], .agg #[tqv, cqv]] w fun e w' => e = .returned (.bool true) ∧ Below w.heap.size w w' := by
  obtain ⟨p1, p2, p3, p4, rfl, rfl⟩ := hp.sl
  obtain ⟨q1, q2, q3, q4, rfl, rfl⟩ := hq.sl
  have HP := Lib.hid (fun w' (hB : Below w.heap.size w w') => hp.below hB)
  have HQ := Lib.hid (fun w' (hB : Below w.heap.size w w') => hq.below hB)
  have HAL := Lib.hid (fun w' (hB : Below w.heap.size w w') => alive13_any w' (hE.below hB hg) (Nat.lt_of_lt_of_le hg hB.size))
  have HEF := Lib.hid (fun w' (hB : Below w.heap.size w w') => And.intro (hE.below hB hg) (Nat.lt_of_lt_of_le hg hB.size))
  have l1 : (tp.length : Int) ≤ 140737488355328 := by have := hp.lt; omega
  have l2 : (cp.length : Int) ≤ 140737488355328 := by have := hp.lc; omega
  have l3 : (tq.length : Int) ≤ 140737488355328 := by have := hq.lt; omega
  have l4 : (cq.length : Int) ≤ 140737488355328 := by have := hq.lc; omega
  obtain ⟨W1, hW1⟩ : ∃ W1, W1 = (w.alloc (.cells #[.slice p1 tp.length p2, .slice p3 cp.length p4] 25)).alloc (.cells #[.slice q1 tq.length q2, .slice q3 cq.length q4] 25) := ⟨_, rfl⟩
  have hb1 : Below w.heap.size w W1 := by rw [hW1]; exact bt (b_alloc _ _) (b_alloc _ _)
  have hs1 : W1.heap.size = w.heap.size + 1 + 1 := by rw [hW1, size_alV, size_alV]
  have hx : Blk W1 w.heap.size 25 [.slice p1 tp.length p2, .slice p3 cp.length p4] := by rw [hW1]; exact (Blk.new w _ _).below (b_alloc _ _)
  have hy : Blk W1 (w.heap.size + 1) 25 [.slice q1 tq.length q2, .slice q3 cq.length q4] := by
    rw [hW1]
    have := Blk.new (w.alloc (.cells #[.slice p1 tp.length p2, .slice p3 cp.length p4] 25)) [.slice q1 tq.length q2, .slice q3 cq.length q4] 25
    rw [size_alV] at this
    exact this
  have HX := Lib.hid hx
  have HY := Lib.hid hy
  have HB1 := Lib.hid hb1
  have x0 := hx.cell (k := 0) rfl
  have x1 := hx.cell (k := 1) rfl
  have y0 := hy.cell (k := 0) rfl
  have y1 := hy.cell (k := 1) rfl
  clear hp hq hE hg hb1 hs1 hx hy
  by_cases hlp : largeV tp cp = true
  · have HLP := Lib.hid hlp
    clear hlp
    go_enter Tryd.func3, Tryd.ntmps3
    go_upto_region 1 with fail
    rw [← hW1]
    clear hW1
    go_wp2_with fail
    refine (HP.out _ HB1.out).large.mono ?_
    rintro e w2 ⟨rfl, hB⟩
    have HB2 := Lib.hid (bt HB1.out hB)
    have x0 := Below.keeps hB x0
    have x1 := Below.keeps hB x1
    have y0 := Below.keeps hB y0
    have y1 := Below.keeps hB y1
    have HC2 := Lib.hid hB
    clear hB
    rw [HLP.out]
    go_wp2_with fail
    refine (HAL.out _ HB2.out).mono ?_
    rintro e wz ⟨rfl, hB⟩
    have HZ := Lib.hid (bt HB2.out hB)
    clear hB
    go_wp2_with fail
    go_ret
    exact ⟨rfl, HZ.out⟩
  · have hlp : largeV tp cp = false := by simpa using hlp
    have HLP := Lib.hid hlp
    clear hlp
    by_cases hlq : largeV tq cq = true
    · have HLQ := Lib.hid hlq
      clear hlq
      go_enter Tryd.func3, Tryd.ntmps3
      go_upto_region 1 with fail
      rw [← hW1]
      clear hW1
      go_wp2_with fail
      refine (HP.out _ HB1.out).large.mono ?_
      rintro e w2 ⟨rfl, hB⟩
      have HB2 := Lib.hid (bt HB1.out hB)
      have x0 := Below.keeps hB x0
      have x1 := Below.keeps hB x1
      have y0 := Below.keeps hB y0
      have y1 := Below.keeps hB y1
      have HC2 := Lib.hid hB
      clear hB
      rw [HLP.out]
      go_wp2_with fail
      refine (HQ.out _ HB2.out).large.mono ?_
      rintro e w3 ⟨rfl, hB⟩
      have HB3 := Lib.hid (bt HB2.out hB)
      have x0 := Below.keeps hB x0
      have x1 := Below.keeps hB x1
      have y0 := Below.keeps hB y0
      have y1 := Below.keeps hB y1
      have HC3 := Lib.hid (bt HC2.out hB)
      clear hB
      rw [HLQ.out]
      go_wp2_with fail
      refine (HAL.out _ HB3.out).mono ?_
      rintro e wz ⟨rfl, hB⟩
      have HZ := Lib.hid (bt HB3.out hB)
      clear hB
      go_wp2_with fail
      go_ret
      exact ⟨rfl, HZ.out⟩
    · have hlq : largeV tq cq = false := by simpa using hlq
      have HLQ := Lib.hid hlq
      clear hlq
      by_cases hc : cp.length + cq.length ≤ 256
      · have s1 : ¬ (256 : Int) < (cp.length : Int) + (cq.length : Int) := by omega
        by_cases ht : tp.length + tq.length ≤ 16
        · have s2 : ¬ (16 : Int) < (tp.length : Int) + (tq.length : Int) := by omega
          go_enter Tryd.func3, Tryd.ntmps3
          go_upto_region 1 with fail
          rw [← hW1]
          clear hW1
          go_wp2_with fail
          refine (HP.out _ HB1.out).large.mono ?_
          rintro e w2 ⟨rfl, hB⟩
          have HB2 := Lib.hid (bt HB1.out hB)
          have x0 := Below.keeps hB x0
          have x1 := Below.keeps hB x1
          have y0 := Below.keeps hB y0
          have y1 := Below.keeps hB y1
          have HC2 := Lib.hid hB
          clear hB
          rw [HLP.out]
          go_wp2_with fail
          refine (HQ.out _ HB2.out).large.mono ?_
          rintro e w3 ⟨rfl, hB⟩
          have HB3 := Lib.hid (bt HB2.out hB)
          have x0 := Below.keeps hB x0
          have x1 := Below.keeps hB x1
          have y0 := Below.keeps hB y0
          have y1 := Below.keeps hB y1
          have HC3 := Lib.hid (bt HC2.out hB)
          clear hB
          rw [HLQ.out]
          have HSC := Lib.hid hc
          have HST := Lib.hid ht
          have HA1 := Lib.hid (fun w' (hB : Below w.heap.size w w') => (HP.out w' hB).ask HLP.out (HEF.out w' hB).1 (HEF.out w' hB).2)
          have HA2 := Lib.hid (fun w' (hB : Below w.heap.size w w') => (HQ.out w' hB).ask HLQ.out (HEF.out w' hB).1 (HEF.out w' hB).2)
          obtain ⟨Tp, hTp⟩ : ∃ T, T = throughV tp cp 1 := ⟨_, rfl⟩
          obtain ⟨Tq, hTq⟩ : ∃ T, T = throughV tq cq 1 := ⟨_, rfl⟩
          have HTP := Lib.hid hTp
          have HTQ := Lib.hid hTq
          have HK1 := Lib.hid (fun w' (hB : Below w.heap.size w w') => aliveCheck _ _ tp cp 1 w' Tp.1 Tp.2.1 1 rfl (by rw [hTp]; exact ⟨rfl, rfl⟩) (HA1.out w' hB))
          have HK2 := Lib.hid (fun w' (hB : Below w.heap.size w w') => aliveCheck _ _ tq cq 1 w' Tq.1 Tq.2.1 1 rfl (by rw [hTq]; exact ⟨rfl, rfl⟩) (HA2.out w' hB))
          clear hTp hTq hc ht
          go_wp2_with fail
          refine (HK1.out _ HB3.out).mono ?_
          rintro e w4 ⟨rfl, hB⟩
          have HB4 := Lib.hid (bt HB3.out hB)
          have HC4 := Lib.hid (bt HC3.out hB)
          have x0 := Below.keeps hB x0
          have x1 := Below.keeps hB x1
          have y0 := Below.keeps hB y0
          have y1 := Below.keeps hB y1
          clear hB HB2 HB3 HC2 HC3
          go_wp2_with fail
          refine (HK2.out _ HB4.out).mono ?_
          rintro e w5 ⟨rfl, hB⟩
          have HB5 := Lib.hid (bt HB4.out hB)
          have HC5 := Lib.hid (bt HC4.out hB)
          have x0 := Below.keeps hB x0
          have x1 := Below.keeps hB x1
          have y0 := Below.keeps hB y0
          have y1 := Below.keeps hB y1
          clear hB HB4 HC4
          go_wp2_with fail
          refine (Copy_any _ _ tp cp w5 (HP.out w5 HB5.out).t (HP.out w5 HB5.out).c (by have := HST.out; omega) (by have := HSC.out; omega)).mono ?_
          rintro e w6 ⟨⟨tv6, cv6, rfl, ho1, ho2⟩, hB⟩
          obtain ⟨a6, c6, rfl⟩ := owns_slice ho1
          obtain ⟨a7, c7, rfl⟩ := owns_slice ho2
          obtain ⟨base, hbase⟩ : ∃ base, base = w5.heap.size := ⟨_, rfl⟩
          rw [← hbase] at ho1 ho2
          have hbs : base ≤ w6.heap.size := by rw [hbase]; exact hB.size
          have hwb : w.heap.size ≤ base := by rw [hbase]; exact HB5.out.size
          have HB6 := Lib.hid (bt HB5.out hB)
          have HC6 := Lib.hid (bt HC5.out hB)
          have hb15 : W1.heap.size ≤ base := by rw [hbase]; exact HC5.out.size
          have x0 := Below.keeps hB x0
          have x1 := Below.keeps hB x1
          have y0 := Below.keeps hB y0
          have y1 := Below.keeps hB y1
          clear hB hbase HB5 HC5
          obtain ⟨C, hC⟩ : ∃ C, C = w6.heap.size := ⟨_, rfl⟩
          obtain ⟨w7, hw7⟩ : ∃ w7, w7 = w6.alloc (.cells #[.slice a6 tp.length c6, .slice a7 cp.length c7] 25) := ⟨_, rfl⟩
          have hblk : Blk w7 C 25 [.slice a6 tp.length c6, .slice a7 cp.length c7] := by rw [hw7, hC]; exact Blk.new w6 _ _
          have hb67 : Below w6.heap.size w6 w7 := by rw [hw7]; exact b_alloc _ _
          have x0 := Below.keeps hb67 x0
          have x1 := Below.keeps hb67 x1
          have y0 := Below.keeps hb67 y0
          have y1 := Below.keeps hb67 y1
          have z0 := hblk.cell (k := 0) rfl
          have z1 := hblk.cell (k := 1) rfl
          have hbC : base ≤ C := by rw [hC]; exact hbs
          have HO1 := Lib.hid (ho1.below hb67)
          have HO2 := Lib.hid (ho2.below hb67)
          have HB7 := Lib.hid (bt HB6.out hb67)
          have HC7 := Lib.hid (bt HC6.out hb67)
          have hbs7 : base ≤ w7.heap.size := Nat.le_trans hbs hb67.size
          have HBL := Lib.hid hblk
          clear ho1 ho2 hblk hb67 HB6 HC6
          go_upto_region 6 with fail
          rw [← hw7, ← hC]
          clear hw7 hC
          go_wp2_with (at_builtin; go_must (refine recS.appendNV _ rfl _ _ 22 rfl Tryd.underlying22 base _ tp HO1.out rfl _ tq (HQ.out _ HB7.out).t rfl (by show (tp.length + tq.length) * 16 ≤ _; have := HST.out; omega) hbs7 ?_); go_must (intro A8 C8 w8 ho8 hc8; have hn8 := own_neV HO1.out HBL.out (by decide); have hbl8 : Blk w8 C 25 _ := hc8.at HBL.out (fun hk => hn8 _ hk rfl); have z0 := hbl8.cell (k := 0) rfl; have z1 := hbl8.cell (k := 1) rfl; have f0 := hbl8.free (k := 0) (by simp); rw [List.length_append] at ho8; have H8 := Lib.hid (And.intro ho8 (And.intro hc8 hbl8)); clear ho8 hc8 hn8 hbl8))
          obtain ⟨w9, hw9⟩ : ∃ w9, w9 = w8.setCell ⟨C, 0, none⟩ (.slice A8 (tp.length + tq.length) C8) := ⟨_, rfl⟩
          have hc9 : Chg (fun x => x = C) w8 w9 := by rw [hw9]; exact Chg.setCell _ _ _ rfl
          have hbl9 : Blk w9 C 25 [.slice A8 (tp.length + tq.length) C8, .slice a7 cp.length c7] := by rw [hw9]; exact H8.out.2.2.set 0 _
          have ho9 : recS.Own w9 base (.slice A8 (tp.length + tq.length) C8) (tp ++ tq) := H8.out.1.chgV hc9 (own_neV H8.out.1 H8.out.2.2 (by decide))
          have hoc9 : recIns.Own w9 base (.slice a7 cp.length c7) cp := by
            refine Rec.Own.chgV (Rec.Own.chgV HO2.out H8.out.2.1 (own_apart HO2.out HO1.out (by decide))) hc9 (own_neV (Rec.Own.chgV HO2.out H8.out.2.1 (own_apart HO2.out HO1.out (by decide))) H8.out.2.2 (by decide))
          have hb79 : Below base w7 w9 := (H8.out.2.1.below (fun k hk => (Rec.Own.ltV HO1.out k hk).1) hbs7).trans (hc9.below (fun x (hx : x = C) => by omega) (Nat.le_trans hbs7 H8.out.2.1.size))
          rw [← hw9]
          have HBR := Lib.hid (HC7.out.trans (hb79.mono hb15))
          have HIN := Lib.hid (show Blk w9 C 25 [.slice A8 (tp.length + tq.length) C8, .slice a7 cp.length c7] ∧ recS.Own w9 base (.slice A8 (tp.length + tq.length) C8) (tp ++ tq) ∧ recIns.Own w9 base (.slice a7 cp.length c7) cp from ⟨hbl9, ho9, hoc9⟩)
          clear hw9 hc9 hbl9 ho9 hoc9 hb79 H8 z0 z1 x0 x1 y0 y1 HO1 HO2 HB7 HC7 HBL hbs7 hbs
          go_loopw [10] (fun t wr => ∃ (k : Nat) (A : Option Addr) (B : Nat), t = .int .i64 (k : Int) ∧ k ≤ cq.length ∧ Hid (Blk wr C 25 [.slice A8 (tp.length + tq.length) C8, .slice A (cp.length + k) B]) ∧ Hid (recS.Own wr base (.slice A8 (tp.length + tq.length) C8) (tp ++ tq)) ∧ Hid (recIns.Own wr base (.slice A (cp.length + k) B) (cp ++ (cq.take k).map (shiftV tp.length))) ∧ Hid (Below W1.heap.size W1 wr)) (fun t _ => cq.length - (intOf t).toNat)
          case atStart => exact ⟨0, a7, c7, rfl, Nat.zero_le _, HIN.out.1, HIN.out.2.1, by simpa [Hid] using HIN.out.2.2, HBR.out⟩
          case round =>
            obtain ⟨k, A, B, rfl, hk, HBk, HOt, HOc, HBr⟩ := hrel
            have hBW := bt HB1.out HBr.out
            have hyr := HY.out.below HBr.out
            have hxr := HX.out.below HBr.out
            have y1 := hyr.cell (k := 1) rfl
            have x0 := hxr.cell (k := 0) rfl
            have hlx := hxr.lt
            have hly := hyr.lt
            have HBW := Lib.hid hBW
            clear hBW hyr hxr
            by_cases h0 : k < cq.length
            · obtain ⟨b, off, rfl, d0, d1⟩ := (HQ.out _ HBW.out).codeAt h0
              have kk0 : (0 : Int) ≤ (k : Int) := by omega
              have kk1 : (k : Int) < (cq.length : Int) := by omega
              have HTK := Lib.hid (List.take_succ_eq_append_getElem h0)
              have HLN := Lib.hid (show (cp ++ (cq.take k).map (shiftV tp.length)).length = cp.length + k by simp; omega)
              by_cases h1 : cq[k].1 = 1
              · have t1 : ((cq[k].1.toNat : Int) == 1) = true := by rw [h1]; rfl
                have hsh := u8_shift cq[k].2 tp.length
                have HSH := Lib.hid (show shiftV tp.length cq[k] = (cq[k].1, cq[k].2 + UInt8.ofNat tp.length) by unfold shiftV; rw [if_pos h1])
                clear h1
                go_upto_region 13 with fail
                have hsh2 : ((cq[k].2.toNat : Int) + (tp.length : Int)) % 256 = ((cq[k].2 + UInt8.ofNat tp.length).toNat : Int) := by rw [← u8_shift]; simp [IntKind.wrap, IntKind.bits, IntKind.signed]
                rw [hsh2]
                clear hsh hsh2 d0 d1 x0 y1
                obtain ⟨z, hz⟩ : ∃ z : VI, z = (cq[k].1, cq[k].2 + UInt8.ofNat tp.length) := ⟨_, rfl⟩
                have HZ := Lib.hid (HSH.out.trans hz.symm)
                obtain ⟨WB, hWB⟩ : ∃ WB, WB = wr.alloc (.cells #[.int .u8 (z.1.toNat : Int), .int .u8 (z.2.toNat : Int)] 33) := ⟨_, rfl⟩
                rw [show (cq[k].1.toNat : Int) = (z.1.toNat : Int) by rw [hz], show ((cq[k].2 + UInt8.ofNat tp.length).toNat : Int) = (z.2.toNat : Int) by rw [hz]]
                clear hz
                have hbb : Below wr.heap.size wr WB := by rw [hWB]; exact b_alloc _ _
                rw [← hWB]
                have hbx : Blk WB wr.heap.size 33 [.int .u8 (z.1.toNat : Int), .int .u8 (z.2.toNat : Int)] := by rw [hWB]; exact Blk.new wr _ _
                have v0 := hbx.cell (k := 0) rfl
                have v1 := hbx.cell (k := 1) rfl
                have hbk := HBk.out.below hbb
                have z1 := hbk.cell (k := 1) rfl
                obtain ⟨xs, hxs⟩ : ∃ xs, xs = cp ++ (cq.take k).map (shiftV tp.length) := ⟨_, rfl⟩
                have hoc := HOc.out.below hbb
                rw [← hxs] at hoc HLN
                have HXS := Lib.hid hxs
                have HBK := Lib.hid hbk
                have HOC := Lib.hid hoc
                have HOT := Lib.hid (HOt.out.below hbb)
                have HBB := Lib.hid hbb
                clear hWB hbx hbk hxs hoc hbb HBk HOc HOt
                go_wp2_with (at_builtin; go_must (refine recIns.append1V _ z rfl _ _ 23 rfl Tryd.underlying23 base _ xs (HOC.out.below (b_alloc _ _)) rfl _ rfl (Rec.Row.new (R := recIns) WB [z] _).1 (by show (xs.length + 1) * 2 ≤ _; have := HLN.out; have := HSC.out; omega) (Nat.le_trans hbC (Nat.le_of_lt (HBK.out.below (b_alloc _ _)).lt)) ?_); go_must (intro g cap wn hon hcn _; have hbn := HBK.out.below (b_alloc WB (.cells (recIns.cells [z]).toArray 33)); have hn := own_neV (HOC.out.below (b_alloc WB (.cells (recIns.cells [z]).toArray 33))) hbn (by decide); have hbl : Blk wn C 25 _ := hcn.at hbn (fun hk => hn _ hk rfl); have z1 := hbl.cell (k := 1) rfl; have f1 := hbl.free (k := 1) (by simp); have HN := Lib.hid (And.intro hon (And.intro hcn hbl)); clear hon hcn hn hbl hbn))
                have hcs : Chg (fun x => x = C) wn (wn.setCell ⟨C, 1, none⟩ (.slice (some ⟨g, 0, none⟩) (xs.length + 1) cap)) := Chg.setCell _ _ _ rfl
                obtain ⟨wz, hwz⟩ : ∃ wz, wz = wn.setCell ⟨C, 1, none⟩ (.slice (some ⟨g, 0, none⟩) (xs.length + 1) cap) := ⟨_, rfl⟩
                have hbz := HN.out.2.2.set 1 (.slice (some ⟨g, 0, none⟩) (xs.length + 1) cap)
                rw [← hwz] at hcs hbz ⊢
                have HBZ := Lib.hid hbz
                have HONz := Lib.hid (HN.out.1.chgV hcs (own_neV HN.out.1 HN.out.2.2 (by decide)))
                have hot := Rec.Own.chgV (HOT.out.below (b_alloc WB (.cells (recIns.cells [z]).toArray 33))) HN.out.2.1 (own_apart HOT.out HOC.out (by decide))
                have HOTz := Lib.hid (hot.chgV hcs (own_neV hot HN.out.2.2 (by decide)))
                have hBz : Below base WB wz := by
                  have e1 : Below base WB (WB.alloc (.cells (recIns.cells [z]).toArray 33)) := (b_alloc _ _).mono (Nat.le_trans hbC (Nat.le_of_lt HBK.out.lt))
                  exact (e1.trans (HN.out.2.1.below (fun k hk => (Rec.Own.ltV HOC.out k hk).1) (Nat.le_trans hbC (Nat.le_of_lt (HBK.out.below (b_alloc _ _)).lt)))).trans (hcs.below (fun x (hx : x = C) => by omega) (Nat.le_trans hbC (Nat.le_of_lt HN.out.2.2.lt)))
                have HBz := Lib.hid (HBr.out.trans ((HBB.out.mono (Nat.le_of_lt_succ (Nat.lt_succ_of_le (HBr.out.size)))).trans (hBz.mono hb15)))
                clear hcs hbz hot hBz hwz HN
                go_roundw
                case rel =>
                  refine ⟨k + 1, some ⟨g, 0, none⟩, cap, by go_num, by omega, ?_, HOTz.out, ?_, HBz.out⟩
                  · have := HBZ.out
                    rw [HLN.out] at this
                    exact this
                  · have := HONz.out
                    rw [HLN.out, HXS.out, List.append_assoc, show (cq.take k).map (shiftV tp.length) ++ [z] = (cq.take (k + 1)).map (shiftV tp.length) by rw [HTK.out, List.map_append, List.map_cons, List.map_nil, HZ.out]] at this
                    exact this
                case measure => simp [intOf]; omega
              · have t1 : ((cq[k].1.toNat : Int) == 1) = false := u8_ne (by decide) h1
                have HSH := Lib.hid (show shiftV tp.length cq[k] = cq[k] by unfold shiftV; rw [if_neg h1])
                clear h1
                go_upto_region 13 with fail
                clear d0 d1 x0 y1
                obtain ⟨z, hz⟩ : ∃ z : VI, z = cq[k] := ⟨_, rfl⟩
                have HZ := Lib.hid (HSH.out.trans hz.symm)
                obtain ⟨WB, hWB⟩ : ∃ WB, WB = wr.alloc (.cells #[.int .u8 (z.1.toNat : Int), .int .u8 (z.2.toNat : Int)] 33) := ⟨_, rfl⟩
                rw [show cq[k] = z from hz.symm]
                clear hz
                have hbb : Below wr.heap.size wr WB := by rw [hWB]; exact b_alloc _ _
                rw [← hWB]
                have hbx : Blk WB wr.heap.size 33 [.int .u8 (z.1.toNat : Int), .int .u8 (z.2.toNat : Int)] := by rw [hWB]; exact Blk.new wr _ _
                have v0 := hbx.cell (k := 0) rfl
                have v1 := hbx.cell (k := 1) rfl
                have hbk := HBk.out.below hbb
                have z1 := hbk.cell (k := 1) rfl
                obtain ⟨xs, hxs⟩ : ∃ xs, xs = cp ++ (cq.take k).map (shiftV tp.length) := ⟨_, rfl⟩
                have hoc := HOc.out.below hbb
                rw [← hxs] at hoc HLN
                have HXS := Lib.hid hxs
                have HBK := Lib.hid hbk
                have HOC := Lib.hid hoc
                have HOT := Lib.hid (HOt.out.below hbb)
                have HBB := Lib.hid hbb
                clear hWB hbx hbk hxs hoc hbb HBk HOc HOt
                go_wp2_with (at_builtin; go_must (refine recIns.append1V _ z rfl _ _ 23 rfl Tryd.underlying23 base _ xs (HOC.out.below (b_alloc _ _)) rfl _ rfl (Rec.Row.new (R := recIns) WB [z] _).1 (by show (xs.length + 1) * 2 ≤ _; have := HLN.out; have := HSC.out; omega) (Nat.le_trans hbC (Nat.le_of_lt (HBK.out.below (b_alloc _ _)).lt)) ?_); go_must (intro g cap wn hon hcn _; have hbn := HBK.out.below (b_alloc WB (.cells (recIns.cells [z]).toArray 33)); have hn := own_neV (HOC.out.below (b_alloc WB (.cells (recIns.cells [z]).toArray 33))) hbn (by decide); have hbl : Blk wn C 25 _ := hcn.at hbn (fun hk => hn _ hk rfl); have z1 := hbl.cell (k := 1) rfl; have f1 := hbl.free (k := 1) (by simp); have HN := Lib.hid (And.intro hon (And.intro hcn hbl)); clear hon hcn hn hbl hbn))
                have hcs : Chg (fun x => x = C) wn (wn.setCell ⟨C, 1, none⟩ (.slice (some ⟨g, 0, none⟩) (xs.length + 1) cap)) := Chg.setCell _ _ _ rfl
                obtain ⟨wz, hwz⟩ : ∃ wz, wz = wn.setCell ⟨C, 1, none⟩ (.slice (some ⟨g, 0, none⟩) (xs.length + 1) cap) := ⟨_, rfl⟩
                have hbz := HN.out.2.2.set 1 (.slice (some ⟨g, 0, none⟩) (xs.length + 1) cap)
                rw [← hwz] at hcs hbz ⊢
                have HBZ := Lib.hid hbz
                have HONz := Lib.hid (HN.out.1.chgV hcs (own_neV HN.out.1 HN.out.2.2 (by decide)))
                have hot := Rec.Own.chgV (HOT.out.below (b_alloc WB (.cells (recIns.cells [z]).toArray 33))) HN.out.2.1 (own_apart HOT.out HOC.out (by decide))
                have HOTz := Lib.hid (hot.chgV hcs (own_neV hot HN.out.2.2 (by decide)))
                have hBz : Below base WB wz := by
                  have e1 : Below base WB (WB.alloc (.cells (recIns.cells [z]).toArray 33)) := (b_alloc _ _).mono (Nat.le_trans hbC (Nat.le_of_lt HBK.out.lt))
                  exact (e1.trans (HN.out.2.1.below (fun k hk => (Rec.Own.ltV HOC.out k hk).1) (Nat.le_trans hbC (Nat.le_of_lt (HBK.out.below (b_alloc _ _)).lt)))).trans (hcs.below (fun x (hx : x = C) => by omega) (Nat.le_trans hbC (Nat.le_of_lt HN.out.2.2.lt)))
                have HBz := Lib.hid (HBr.out.trans ((HBB.out.mono (Nat.le_of_lt_succ (Nat.lt_succ_of_le (HBr.out.size)))).trans (hBz.mono hb15)))
                clear hcs hbz hot hBz hwz HN
                go_roundw
                case rel =>
                  refine ⟨k + 1, some ⟨g, 0, none⟩, cap, by go_num, by omega, ?_, HOTz.out, ?_, HBz.out⟩
                  · have := HBZ.out
                    rw [HLN.out] at this
                    exact this
                  · have := HONz.out
                    rw [HLN.out, HXS.out, List.append_assoc, show (cq.take k).map (shiftV tp.length) ++ [z] = (cq.take (k + 1)).map (shiftV tp.length) by rw [HTK.out, List.map_append, List.map_cons, List.map_nil, HZ.out]] at this
                    exact this
                case measure => simp [intOf]; omega
            · obtain rfl : k = cq.length := by omega
              have hocc := HOc.out
              rw [List.take_length] at hocc
              have hask : AskV wr (.slice A8 (tp.length + tq.length) C8) (.slice A (cp.length + cq.length) B) (tp ++ tq) (cp ++ cq.map (shiftV tp.length)) := by
                obtain ⟨b1, b2, b3⟩ := largeV_no HLP.out
                obtain ⟨b4, b5, b6⟩ := largeV_no HLQ.out
                refine ⟨HOt.out.row, hocc.row, ?_, ?_, ?_, (HEF.out _ HBW.out).1, (HEF.out _ HBW.out).2⟩
                · rw [List.length_append]; omega
                · rw [List.length_append, List.length_map]; omega
                · intro s hs
                  rcases List.mem_append.1 hs with hs | hs
                  · have := b3 s hs; omega
                  · have := b6 s hs; omega
              obtain ⟨Tb, hTb⟩ : ∃ T, T = throughV (tp ++ tq) (cp ++ cq.map (shiftV tp.length)) 1 := ⟨_, rfl⟩
              have HKB := Lib.hid (aliveCheck _ _ _ _ 1 wr Tb.1 Tb.2.1 1 rfl (by rw [hTb]; exact ⟨rfl, rfl⟩) hask)
              have HTB := Lib.hid (fun (e1 : Tp.2.1 = 0) (e2 : Tq.2.1 = 0) => show Tb.1 = 0 ∧ Tb.2.1 = 0 by rw [hTb]; exact throughV_both HST.out HSC.out (by rw [← HTP.out]; exact e1) (by rw [← HTQ.out]; exact e2))
              have z0 := HBk.out.cell (k := 0) rfl
              have z1 := HBk.out.cell (k := 1) rfl
              clear hocc hask hTb x0
              go_wp2_with fail
              refine HKB.out.mono ?_
              rintro e wc ⟨rfl, hB⟩
              have HBc := Lib.hid (bt HBW.out hB)
              clear hB z0 z1 y1
              by_cases e1 : Tp.2.1 = 0
              · have u1 : ((Tp.2.1 : Int) == 0) = true := by rw [e1]; rfl
                by_cases e2 : Tq.2.1 = 0
                · have u2 : ((Tq.2.1 : Int) == 0) = true := by rw [e2]; rfl
                  obtain ⟨e3, e4⟩ := HTB.out e1 e2
                  have u3 : ((Tb.1 : Int) == 0) = true := by rw [e3]; rfl
                  have u4 : ((Tb.2.1 : Int) == 0) = true := by rw [e4]; rfl
                  clear e1 e2 e3 e4
                  go_wp2_with fail
                  refine (HAL.out _ HBc.out).mono ?_
                  rintro e wz ⟨rfl, hB⟩
                  have HZ := Lib.hid (bt HBc.out hB)
                  clear hB
                  go_wp2_with fail
                  go_ret
                  exact ⟨rfl, HZ.out⟩
                · have u2 : ((Tq.2.1 : Int) == 0) = false := by rw [beq_eq_false_iff_ne]; omega
                  clear e1 e2
                  go_wp2_with fail
                  refine (HAL.out _ HBc.out).mono ?_
                  rintro e wz ⟨rfl, hB⟩
                  have HZ := Lib.hid (bt HBc.out hB)
                  clear hB
                  go_wp2_with fail
                  go_ret
                  exact ⟨rfl, HZ.out⟩
              · have u1 : ((Tp.2.1 : Int) == 0) = false := by rw [beq_eq_false_iff_ne]; omega
                clear e1
                go_wp2_with fail
                refine (HAL.out _ HBc.out).mono ?_
                rintro e wz ⟨rfl, hB⟩
                have HZ := Lib.hid (bt HBc.out hB)
                clear hB
                go_wp2_with fail
                go_ret
                exact ⟨rfl, HZ.out⟩
        · have s2 : (16 : Int) < (tp.length : Int) + (tq.length : Int) := by omega
          go_enter Tryd.func3, Tryd.ntmps3
          go_upto_region 1 with fail
          rw [← hW1]
          clear hW1
          go_wp2_with fail
          refine (HP.out _ HB1.out).large.mono ?_
          rintro e w2 ⟨rfl, hB⟩
          have HB2 := Lib.hid (bt HB1.out hB)
          have x0 := Below.keeps hB x0
          have x1 := Below.keeps hB x1
          have y0 := Below.keeps hB y0
          have y1 := Below.keeps hB y1
          have HC2 := Lib.hid hB
          clear hB
          rw [HLP.out]
          go_wp2_with fail
          refine (HQ.out _ HB2.out).large.mono ?_
          rintro e w3 ⟨rfl, hB⟩
          have HB3 := Lib.hid (bt HB2.out hB)
          have x0 := Below.keeps hB x0
          have x1 := Below.keeps hB x1
          have y0 := Below.keeps hB y0
          have y1 := Below.keeps hB y1
          have HC3 := Lib.hid (bt HC2.out hB)
          clear hB
          rw [HLQ.out]
          clear hc ht
          go_wp2_with fail
          refine (HAL.out _ HB3.out).mono ?_
          rintro e wz ⟨rfl, hB⟩
          have HZ := Lib.hid (bt HB3.out hB)
          clear hB
          go_wp2_with fail
          go_ret
          exact ⟨rfl, HZ.out⟩
      · have s1 : (256 : Int) < (cp.length : Int) + (cq.length : Int) := by omega
        go_enter Tryd.func3, Tryd.ntmps3
        go_upto_region 1 with fail
        rw [← hW1]
        clear hW1
        go_wp2_with fail
        refine (HP.out _ HB1.out).large.mono ?_
        rintro e w2 ⟨rfl, hB⟩
        have HB2 := Lib.hid (bt HB1.out hB)
        have x0 := Below.keeps hB x0
        have x1 := Below.keeps hB x1
        have y0 := Below.keeps hB y0
        have y1 := Below.keeps hB y1
        have HC2 := Lib.hid hB
        clear hB
        rw [HLP.out]
        go_wp2_with fail
        refine (HQ.out _ HB2.out).large.mono ?_
        rintro e w3 ⟨rfl, hB⟩
        have HB3 := Lib.hid (bt HB2.out hB)
        have x0 := Below.keeps hB x0
        have x1 := Below.keeps hB x1
        have y0 := Below.keeps hB y0
        have y1 := Below.keeps hB y1
        have HC3 := Lib.hid (bt HC2.out hB)
        clear hB
        rw [HLQ.out]
        clear hc
        go_wp2_with fail
        refine (HAL.out _ HB3.out).mono ?_
        rintro e wz ⟨rfl, hB⟩
        have HZ := Lib.hid (bt HB3.out hB)
        clear hB
        go_wp2_with fail
        go_ret
        exact ⟨rfl, HZ.out⟩
end Go.Proofs.YtahmacnmphjhgaaDoor
namespace Go.Proofs.YtahmacnmphjhgaaDoor
open Go.RowKit Oct
attribute [local irreducible] wpG
theorem recS_atB {w : World} {a : Option Addr} {n c : Nat} {l : List (List UInt8)} (h : recS.Row w (.slice a n c) l) {k : Nat} (hk : k < l.length) : ∃ b off, a = some ⟨b, off, none⟩ ∧ w.cell? ⟨b, off + k, none⟩ = some (.string (bs (l.getD k []))) := by
  obtain ⟨a', cap, hv, hle, hc⟩ := recS_open h
  injection hv with e1 e2 e3
  subst e1
  obtain ⟨b, off, ha, hu⟩ := hc k hk
  rw [List.getD, List.getElem?_eq_getElem hk]
  exact ⟨b, off, ha, hu⟩
theorem recJ_atB {w : World} {a : Option Addr} {n c : Nat} {l : List Int} (h : recJ.Row w (.slice a n c) l) {k : Nat} (hk : k < l.length) : ∃ b off, a = some ⟨b, off, none⟩ ∧ w.cell? ⟨b, off + k, none⟩ = some (.int .i64 (l.getD k 0)) := by
  obtain ⟨a', cap, hv, hle, hc⟩ := Rec.Row.open h
  injection hv with e1 e2 e3
  subst e1
  obtain ⟨b, off, ha, hu⟩ := hc k hk
  have := hu 0 _ rfl
  rw [show recJ.n = 1 from rfl, Nat.mul_one, Nat.add_zero] at this
  rw [List.getD, List.getElem?_eq_getElem hk]
  exact ⟨b, off, ha, this⟩
theorem recJ_topB {w : World} {base n c : Nat} {a : Option Addr} {r : List Int} {x : Int} (h : recJ.Own w base (.slice a n c) (r ++ [x])) : ∃ g, a = some ⟨g, 0, none⟩ ∧ n = r.length + 1 ∧ w.cell? ⟨g, r.length, none⟩ = some (.int .i64 x) := by
  obtain ⟨g, hg⟩ := h.at0 (by simp)
  subst hg
  obtain ⟨b, off, ha, hu⟩ := recJ_atB h.row (k := r.length) (by simp)
  injection ha with ha
  injection ha with e1 e2 _
  subst e1 e2
  obtain ⟨a', cap, hv, _⟩ := Rec.Row.open h.row
  injection hv with _ e2 _
  refine ⟨g, rfl, by rw [e2]; simp, ?_⟩
  rw [Nat.zero_add] at hu
  rw [hu]
  simp [List.getD]
theorem bsSelf (l : List UInt8) : (bs l == bs l) = true := by
  exact beq_self_eq_true (α := Array UInt8) _
/-- the places of the open blocks, as numbers -/
def natsB (l : List Nat) : List Int := l.map (fun (k : Nat) => (k : Int))
theorem natsB_app (a b : List Nat) : natsB (a ++ b) = natsB a ++ natsB b := List.map_append
theorem natsB_len (a : List Nat) : (natsB a).length = a.length := List.length_map _
theorem opV_lt {code : List VI} {i : Nat} (h : i < code.length) : code[i].1 = opV code i := by unfold opV; rw [List.getD, List.getElem?_eq_getElem h]; rfl
theorem getD_memLe {l : List Int} {i : Nat} {n : Int} (h : ∀ x ∈ l, x ≤ n) (hn : 0 ≤ n) : l.getD i 0 ≤ n := by
  rw [List.getD]
  cases hi : l[i]? with
  | none => exact hn
  | some x => exact h x (List.mem_of_getElem? hi)

set_option maxRecDepth 100000 in
set_option maxHeartbeats 32000000 in
theorem VerifyBlocks_any (tpv cpv : Value) (tp : List (List UInt8)) (cp : List VI) (role : UInt8) (w : World) (hp : ProgR w tpv cpv tp cp) (hE : EffM w) (hg : 0 < w.heap.size) :
    Calls Tryd.prog 6 #[.agg #[tpv, cpv], .int .u8 (role.toNat : Int)] w fun e w' => e = .returned (.bool true) ∧ Below w.heap.size w w' := by
  obtain ⟨p1, p2, p3, p4, rfl, rfl⟩ := hp.sl
  have HP := Lib.hid (fun w' (hB : Below w.heap.size w w') => hp.below hB)
  have HAL := Lib.hid (fun w' (hB : Below w.heap.size w w') => alive13_any w' (hE.below hB hg) (Nat.lt_of_lt_of_le hg hB.size))
  have HEF := Lib.hid (fun w' (hB : Below w.heap.size w w') => And.intro (hE.below hB hg) (Nat.lt_of_lt_of_le hg hB.size))
  obtain ⟨W1, hW1⟩ : ∃ W1, W1 = w.alloc (.cells #[.slice p1 tp.length p2, .slice p3 cp.length p4] 25) := ⟨_, rfl⟩
  have hb1 : Below w.heap.size w W1 := by rw [hW1]; exact b_alloc _ _
  have hx : Blk W1 w.heap.size 25 [.slice p1 tp.length p2, .slice p3 cp.length p4] := by rw [hW1]; exact Blk.new w _ _
  have HX := Lib.hid hx
  have HB1 := Lib.hid hb1
  have x0 := hx.cell (k := 0) rfl
  have x1 := hx.cell (k := 1) rfl
  clear hp hE hg hb1 hx
  by_cases hlp : largeV tp cp = true
  · have HLP := Lib.hid hlp
    clear hlp
    go_enter Tryd.func6, Tryd.ntmps6
    go_upto_region 1 with fail
    rw [← hW1]
    clear hW1
    go_wp2_with fail
    refine (HP.out _ HB1.out).large.mono ?_
    rintro e w2 ⟨rfl, hB⟩
    have HB2 := Lib.hid (bt HB1.out hB)
    clear hB
    rw [HLP.out]
    go_wp2_with fail
    refine (HAL.out _ HB2.out).mono ?_
    rintro e wz ⟨rfl, hB⟩
    have HZ := Lib.hid (bt HB2.out hB)
    clear hB
    go_wp2_with fail
    go_ret
    exact ⟨rfl, HZ.out⟩
  · have hlp : largeV tp cp = false := by simpa using hlp
    obtain ⟨b1, b2, b3⟩ := largeV_no hlp
    have HLP := Lib.hid hlp
    clear hlp
    have HA1 := Lib.hid (fun w' (hB : Below w.heap.size w w') => (HP.out w' hB).ask HLP.out (HEF.out w' hB).1 (HEF.out w' hB).2)
    have HKN := Lib.hid (fun w' (hB : Below w.heap.size w w') => Kinds_any _ _ tp cp role w' (HA1.out w' hB))
    have HEN := Lib.hid (fun w' (hB : Below w.heap.size w w') => Ends_any _ _ tp cp role w' (HA1.out w' hB))
    have HDP := Lib.hid (fun w' (hB : Below w.heap.size w w') => Deep_any _ _ tp cp role w' (HA1.out w' hB))
    have HBL := Lib.hid (@throughV_blocks tp cp role)
    obtain ⟨T, hT⟩ : ∃ T, T = throughV tp cp role := ⟨_, rfl⟩
    rw [← hT] at HKN HEN HDP HBL
    have HB2c := Lib.hid b2
    clear hT b1 b3 b2
    have t0 : ((T.2.1 : Int) != (T.2.1 : Int)) = false := by simp
    by_cases hz : T.2.1 = 0
    · obtain ⟨hdp, O, hO⟩ := HBL.out hz
      have HKN := Lib.hid (fun w' hB => (HKN.out w' hB).mono (fun e w'' h => show (∃ v, e = .returned (.tuple #[v, .int .i64 (T.2.1 : Int)]) ∧ recS.Row w'' v T.2.2.seen) ∧ Below w'.heap.size w' w'' from by rw [if_pos hz] at h; exact h))
      have HEN := Lib.hid (fun w' hB => (HEN.out w' hB).mono (fun e w'' h => show (∃ v, e = .returned (.tuple #[v, .int .i64 (T.2.1 : Int)]) ∧ recJ.Row w'' v T.2.2.ends) ∧ Below w'.heap.size w' w'' from by rw [if_pos hz] at h; exact h))
      have HDP := Lib.hid (fun w' hB => (HDP.out w' hB).mono (fun e w'' h => show e = .returned (.tuple #[.int .i64 (T.2.2.deep : Int), .int .i64 (T.2.1 : Int)]) ∧ Below w'.heap.size w' w'' from by rw [if_pos hz] at h; exact h))
      have t1 : ((T.2.1 : Int) != 0) = false := by rw [hz]; rfl
      obtain ⟨K, hK⟩ : ∃ K, K = T.2.2.seen := ⟨_, rfl⟩
      obtain ⟨L, hL⟩ : ∃ L, L = T.2.2.ends := ⟨_, rfl⟩
      obtain ⟨d, hd⟩ : ∃ d, d = T.2.2.deep := ⟨_, rfl⟩
      obtain ⟨er, her⟩ : ∃ er, er = T.2.1 := ⟨_, rfl⟩
      rw [← hK] at HKN hO
      rw [← hL] at HEN hO
      rw [← hd] at HDP hdp
      rw [← her] at HKN HEN HDP t0 t1
      have HO := Lib.hid hO
      have HKL := Lib.hid hO.kl
      have HLL := Lib.hid hO.ll
      have d0 : ¬ (d : Int) < 0 := by omega
      have d1 : ¬ (16 : Int) < (d : Int) := by omega
      have n0 : ((cp.length : Int) != (cp.length : Int)) = false := by simp
      have n1 : (cp.length : Int) ≤ 4000 := by have := HB2c.out; omega
      clear hK hL hd her hO hz hdp HBL
      go_enter Tryd.func6, Tryd.ntmps6
      go_upto_region 1 with fail
      rw [← hW1]
      clear hW1
      go_wp2_with fail
      refine (HP.out _ HB1.out).large.mono ?_
      rintro e w2 ⟨rfl, hB⟩
      have HB2 := Lib.hid (bt HB1.out hB)
      have x0 := Below.keeps hB x0
      have x1 := Below.keeps hB x1
      have HC2 := Lib.hid hB
      clear hB
      rw [HLP.out]
      go_wp2_with fail
      refine (HKN.out _ HB2.out).mono ?_
      rintro e w3 ⟨⟨vk, rfl, hvk⟩, hB⟩
      obtain ⟨ka, kc, rfl, -, -⟩ := recS_open hvk
      rw [HKL.out] at hvk
      rw [HKL.out]
      have HVK := Lib.hid hvk
      have HB3 := Lib.hid (bt HB2.out hB)
      have x0 := Below.keeps hB x0
      have x1 := Below.keeps hB x1
      have HC3 := Lib.hid (bt HC2.out hB)
      clear hB hvk
      go_wp2_with fail
      refine (HEN.out _ HB3.out).mono ?_
      rintro e w4 ⟨⟨vl, rfl, hvl⟩, hB⟩
      obtain ⟨la, lc, rfl, -, -⟩ := Rec.Row.open hvl
      rw [HLL.out] at hvl
      rw [HLL.out]
      have HVL := Lib.hid hvl
      have HVK := Lib.hid (HVK.out.below hB)
      have HB4 := Lib.hid (bt HB3.out hB)
      have x0 := Below.keeps hB x0
      have x1 := Below.keeps hB x1
      have HC4 := Lib.hid (bt HC3.out hB)
      clear hB hvl
      go_wp2_with fail
      refine (HDP.out _ HB4.out).mono ?_
      rintro e w5 ⟨rfl, hB⟩
      have HVL := Lib.hid (HVL.out.below hB)
      have HVK := Lib.hid (HVK.out.below hB)
      have HB5 := Lib.hid (bt HB4.out hB)
      have x0 := Below.keeps hB x0
      have x1 := Below.keeps hB x1
      have HC5 := Lib.hid (bt HC4.out hB)
      clear hB HB2 HB3 HB4 HC2 HC3 HC4 HKN HEN HDP
      go_wp2_with fail
      have HX5 := Lib.hid (HX.out.below HC5.out)
      clear x0 x1
      go_loopw [11, 12] (fun vo vi wr => ∃ (i : Nat) (A : Option Addr) (C : Nat), vo = .slice A (O i).length C ∧ vi = .int .i64 (i : Int) ∧ i ≤ cp.length ∧ Hid (recJ.Own wr w5.heap.size (.slice A (O i).length C) (natsB (O i))) ∧ Hid (Below w5.heap.size w5 wr)) (fun _ vi _ => cp.length - (intOf vi).toNat)
      case atStart => exact ⟨0, none, 0, by rw [HO.out.o0]; rfl, rfl, Nat.zero_le _, by unfold Hid; rw [HO.out.o0]; exact Rec.Own.nil _ _, Below.refl _ _⟩
      case round =>
        obtain ⟨i, A, C, rfl, rfl, hi, HOi, HBr⟩ := hrel
        have hxr := HX5.out.below HBr.out
        have x1 := hxr.cell (k := 1) rfl
        clear hxr
        by_cases h0 : i < cp.length
        · have hpr := (HP.out _ (bt HB5.out HBr.out)).codeAt h0
          obtain ⟨cb, co, rfl, c0, -⟩ := hpr
          obtain ⟨kb, ko, rfl, k0⟩ := recS_atB HVK.out (k := i) (by rw [HKL.out]; exact h0)
          obtain ⟨lb, lo, rfl, l0⟩ := recJ_atB HVL.out (k := i) (by rw [HLL.out]; exact h0)
          have k0 := Below.keeps HBr.out k0
          have l0 := Below.keeps HBr.out l0
          rw [opV_lt h0] at c0
          obtain ⟨op, hop⟩ : ∃ op, op = opV cp i := ⟨_, rfl⟩
          obtain ⟨ki, hki⟩ : ∃ ki, ki = K.getD i [] := ⟨_, rfl⟩
          obtain ⟨li, hli⟩ : ∃ li, li = L.getD i 0 := ⟨_, rfl⟩
          have hkl := HO.out.lk i h0
          have hcl := HO.out.cl i h0
          have hst := HO.out.st i h0
          have hpp := HO.out.op i h0
          have hno := HO.out.no i h0
          have hol := HO.out.ol i (by omega)
          have hos := HO.out.ol (i + 1) (by omega)
          rw [← hop] at c0 hcl hst hpp hno
          rw [← hki] at k0 hkl hcl
          rw [← hli] at l0 hpp hno
          have kk0 : (0 : Int) ≤ (i : Int) := by omega
          have kk1 : (i : Int) < (cp.length : Int) := by omega
          have kk2 : ¬ (16 : Int) < (ki.length : Int) := by omega
          have hn5 := HB2c.out
          have hbz := HBr.out.size
          clear hkl hki hli
          by_cases h19 : op = 19
          · obtain ⟨p1, p2⟩ := hpp (by rw [h19]; rfl)
            have v0 : (0 : Int) < li := by omega
            have v1 : ¬ li ≤ (i : Int) := by omega
            have v2 : ¬ (cp.length : Int) ≤ li := by omega
            have hst := hst (by rw [h19]; decide) (by rw [h19]; decide)
            rw [if_pos (by rw [h19]; rfl)] at hst
            obtain ⟨R, hR⟩ : ∃ R, R = O i := ⟨_, rfl⟩
            rw [← hR] at hst hol HOi ⊢
            have HRL := Lib.hid hst
            have HR := Lib.hid HOi.out
            clear hst hcl hpp hno hos HOi hR
            have u19 : ((op.toNat : Int) == 19) = true := by rw [h19]; rfl
            have u20 : ((op.toNat : Int) == 20) = false := by rw [h19]; rfl
            have u21 : ((op.toNat : Int) == 21) = false := by rw [h19]; rfl
            clear h19 hop p1 p2
            go_upto_region 18 with fail
            go_quiet (fail)
            obtain ⟨wq, hWq⟩ : ∃ W, W = wr.drewN nq := ⟨_, rfl⟩
            rw [← hWq]
            have hBq : Below wr.heap.size wr wq := by rw [hWq]; exact Below.drewN' _ _
            have HBr := Lib.hid (bt HBr.out hBq)
            have HR := Lib.hid (HR.out.below hBq)
            have hbz := HBr.out.size
            have x1 := Below.keeps hBq x1
            clear hWq hBq nq
            go_wp2_with (at_builtin; go_must (refine recJ.append1V _ (i : Int) rfl _ _ 39 rfl Tryd.underlying39 w5.heap.size _ (natsB R) (HR.out.below (b_alloc _ _)) rfl _ rfl (Rec.Row.new (R := recJ) wq [(i : Int)] _).1 (by show ((natsB R).length + 1) * 8 ≤ _; rw [natsB_len]; omega) (Nat.le_trans hbz (b_alloc _ _).size) ?_); go_must (intro g cap wn hon hcn _; rw [natsB_len] at hon; rw [natsB_len]; have hbn := hcn.below (B := w5.heap.size) (fun k hk => (Rec.Own.ltV (HR.out.below (b_alloc wq (.cells (recJ.cells [(i : Int)]).toArray 3))) k hk).1) (Nat.le_trans hbz (b_alloc _ _).size); have HN := Lib.hid (And.intro hon (HBr.out.trans ((b_alloc wq (.cells (recJ.cells [(i : Int)]).toArray 3)).mono hbz |>.trans hbn))); clear hon hcn hbn))
            go_roundw
            case rel =>
              refine ⟨i + 1, some ⟨g, 0, none⟩, cap, ?_, by go_num, by omega, ?_, HN.out.2⟩
              · rw [HRL.out]; simp
              · unfold Hid
                rw [HRL.out, natsB_app, List.length_append]
                exact HN.out.1
            case measure => simp [intOf]; omega
          · by_cases h22 : op = 22
            · obtain ⟨p1, p2⟩ := hpp (by rw [h22]; rfl)
              have v0 : (0 : Int) < li := by omega
              have v1 : ¬ li ≤ (i : Int) := by omega
              have v2 : ¬ (cp.length : Int) ≤ li := by omega
              have hst := hst (by rw [h22]; decide) (by rw [h22]; decide)
              rw [if_pos (by rw [h22]; rfl)] at hst
              obtain ⟨R, hR⟩ : ∃ R, R = O i := ⟨_, rfl⟩
              rw [← hR] at hst hol HOi ⊢
              have HRL := Lib.hid hst
              have HR := Lib.hid HOi.out
              clear hst hcl hpp hno hos HOi hR
              have u19 : ((op.toNat : Int) == 19) = false := by rw [h22]; rfl
              have u22 : ((op.toNat : Int) == 22) = true := by rw [h22]; rfl
              have u20 : ((op.toNat : Int) == 20) = false := by rw [h22]; rfl
              have u21 : ((op.toNat : Int) == 21) = false := by rw [h22]; rfl
              clear h19 h22 hop p1 p2
              go_upto_region 18 with fail
              go_quiet (fail)
              obtain ⟨wq, hWq⟩ : ∃ W, W = wr.drewN nq := ⟨_, rfl⟩
              rw [← hWq]
              have hBq : Below wr.heap.size wr wq := by rw [hWq]; exact Below.drewN' _ _
              have HBr := Lib.hid (bt HBr.out hBq)
              have HR := Lib.hid (HR.out.below hBq)
              have hbz := HBr.out.size
              have x1 := Below.keeps hBq x1
              clear hWq hBq nq
              go_wp2_with (at_builtin; go_must (refine recJ.append1V _ (i : Int) rfl _ _ 39 rfl Tryd.underlying39 w5.heap.size _ (natsB R) (HR.out.below (b_alloc _ _)) rfl _ rfl (Rec.Row.new (R := recJ) wq [(i : Int)] _).1 (by show ((natsB R).length + 1) * 8 ≤ _; rw [natsB_len]; omega) (Nat.le_trans hbz (b_alloc _ _).size) ?_); go_must (intro g cap wn hon hcn _; rw [natsB_len] at hon; rw [natsB_len]; have hbn := hcn.below (B := w5.heap.size) (fun k hk => (Rec.Own.ltV (HR.out.below (b_alloc wq (.cells (recJ.cells [(i : Int)]).toArray 3))) k hk).1) (Nat.le_trans hbz (b_alloc _ _).size); have HN := Lib.hid (And.intro hon (HBr.out.trans ((b_alloc wq (.cells (recJ.cells [(i : Int)]).toArray 3)).mono hbz |>.trans hbn))); clear hon hcn hbn))
              go_roundw
              case rel =>
                refine ⟨i + 1, some ⟨g, 0, none⟩, cap, ?_, by go_num, by omega, ?_, HN.out.2⟩
                · rw [HRL.out]; simp
                · unfold Hid
                  rw [HRL.out, natsB_app, List.length_append]
                  exact HN.out.1
              case measure => simp [intOf]; omega
            · by_cases h20 : op = 20
              · obtain ⟨p1, p2⟩ := hpp (by rw [h20]; rfl)
                have v0 : (0 : Int) < li := by omega
                have v1 : ¬ li ≤ (i : Int) := by omega
                have v2 : ¬ (cp.length : Int) ≤ li := by omega
                obtain ⟨R, b, hOi, hb, hbl, hO1, -⟩ := hcl (.inl h20)
                rw [if_pos h20] at hO1
                rw [hOi] at HOi hol ⊢
                obtain ⟨g, rfl, hn, o0⟩ := recJ_topB (r := natsB R) (x := (b : Int)) (by rw [natsB_app] at HOi; exact HOi.out)
                rw [natsB_len] at o0
                have hRl : (R ++ [b]).length = R.length + 1 := by simp
                rw [hRl] at HOi hol ⊢
                have m0 : ((R.length : Int) + 1) - 1 = (R.length : Int) := by omega
                have m1 : (R.length : Int) < (R.length : Int) + 1 := by omega
                have m2 : (0 : Int) ≤ (R.length : Int) := by omega
                have m3 : ((R.length : Int) + 1 == 0) = false := by rw [beq_eq_false_iff_ne]; omega
                have m4 : (R.length : Int) ≤ 4000 := by omega
                have m5 : (((R.length + 1 : Nat) : Int)) = (R.length : Int) + 1 := by omega
                have hown := HOi.out
                have hshort := hown.short R.length (by rw [natsB_len]; simp)
                rw [natsB_app, List.take_left' (natsB_len R)] at hshort
                have hrun := Rec.Own.shortRun (l := natsB (R ++ [b])) (by rw [natsB_len, hRl]; exact hown) 39 Tryd.underlying39 (by intro wx; kernel_rfl) R.length (by rw [natsB_len]; simp)
                rw [natsB_len, hRl] at hrun
                obtain ⟨lb', lo', hl', lx0⟩ := recJ_atB HVL.out (k := b) (by rw [HLL.out]; omega)
                obtain ⟨rfl, rfl⟩ : lb = lb' ∧ lo = lo' := by injection hl' with e; injection e with e1 e2 _; exact ⟨e1, e2⟩
                have lx0 := Below.keeps HBr.out lx0
                rw [hbl] at lx0
                obtain ⟨kb', ko', hk', kx0⟩ := recS_atB HVK.out (k := b) (by rw [HKL.out]; omega)
                obtain ⟨rfl, rfl⟩ : kb = kb' ∧ ko = ko' := by injection hk' with e; injection e with e1 e2 _; exact ⟨e1, e2⟩
                have kx0 := Below.keeps HBr.out kx0
                obtain ⟨cb', co', hc', cx0, -⟩ := (HP.out _ (bt HB5.out HBr.out)).codeAt (k := b) (by omega)
                obtain ⟨rfl, rfl⟩ : cb = cb' ∧ co = co' := by injection hc' with e; injection e with e1 e2 _; exact ⟨e1, e2⟩
                rw [opV_lt (show b < cp.length by omega)] at cx0
                have b0 : (0 : Int) ≤ (b : Int) := by omega
                have b1 : (b : Int) < (cp.length : Int) := by omega
                have i0 : ((i : Int) != (i : Int)) = false := by simp
                have HR := Lib.hid hshort
                have HRL := Lib.hid hO1
                clear hl' hk' hc' hO1 hOi hown hshort hn hbl hRl HOi
                have u19 : ((op.toNat : Int) == 19) = false := u8_ne (by decide) h19
                have u22 : ((op.toNat : Int) == 22) = false := u8_ne (by decide) h22
                have u20 : ((op.toNat : Int) == 20) = true := by rw [h20]; rfl
                have u21 : ((op.toNat : Int) == 21) = false := by rw [h20]; rfl
                clear hst hpp hno hos h19 h22 h20 hop p1 p2 kx0 cx0
                go_upto_region 18 with fail
                go_quiet (fail)
                obtain ⟨wq, hWq⟩ : ∃ W, W = wr.drewN nq := ⟨_, rfl⟩
                rw [← hWq]
                have hBq : Below wr.heap.size wr wq := by rw [hWq]; exact Below.drewN' _ _
                have HBr := Lib.hid (bt HBr.out hBq)
                have HR := Lib.hid (HR.out.below hBq)
                have hbz := HBr.out.size
                have x1 := Below.keeps hBq x1
                have o0 := Below.keeps hBq o0
                have lx0 := Below.keeps hBq lx0
                clear hWq hBq nq
                go_upto_region 26 with fail
                go_quiet (fail)
                obtain ⟨wq2, hWq⟩ : ∃ W, W = wq.drewN nq := ⟨_, rfl⟩
                rw [← hWq]
                have hBq : Below wq.heap.size wq wq2 := by rw [hWq]; exact Below.drewN' _ _
                have HBr := Lib.hid (bt HBr.out hBq)
                have HR := Lib.hid (HR.out.below hBq)
                have hbz := HBr.out.size
                have x1 := Below.keeps hBq x1
                clear hWq hBq nq
                go_upto_region 28 with fail
                go_quiet (fail)
                obtain ⟨wq3, hWq⟩ : ∃ W, W = wq2.drewN nq := ⟨_, rfl⟩
                rw [← hWq]
                have hBq : Below wq2.heap.size wq2 wq3 := by rw [hWq]; exact Below.drewN' _ _
                have HBr := Lib.hid (bt HBr.out hBq)
                have HR := Lib.hid (HR.out.below hBq)
                have hbz := HBr.out.size
                have x1 := Below.keeps hBq x1
                clear hWq hBq nq
                go_wp2_with (at_builtin; go_must (refine recJ.append1V _ (i : Int) rfl _ _ 39 rfl Tryd.underlying39 w5.heap.size _ (natsB R) (HR.out.below (b_alloc _ _)) rfl _ rfl (Rec.Row.new (R := recJ) wq3 [(i : Int)] _).1 (by show ((natsB R).length + 1) * 8 ≤ _; rw [natsB_len]; omega) (Nat.le_trans hbz (b_alloc _ _).size) ?_); go_must (intro g cap wn hon hcn _; rw [natsB_len] at hon; rw [natsB_len]; have hbn := hcn.below (B := w5.heap.size) (fun k hk => (Rec.Own.ltV (HR.out.below (b_alloc wq3 (.cells (recJ.cells [(i : Int)]).toArray 3))) k hk).1) (Nat.le_trans hbz (b_alloc _ _).size); have HN := Lib.hid (And.intro hon (HBr.out.trans ((b_alloc wq3 (.cells (recJ.cells [(i : Int)]).toArray 3)).mono hbz |>.trans hbn))); clear hon hcn hbn))
                go_roundw
                case rel =>
                  refine ⟨i + 1, some ⟨g, 0, none⟩, cap, ?_, by go_num, by omega, ?_, HN.out.2⟩
                  · rw [HRL.out]; simp
                  · unfold Hid
                    rw [HRL.out, natsB_app, List.length_append]
                    exact HN.out.1
                case measure => simp [intOf]; omega
              · by_cases h21 : op = 21
                · obtain ⟨R, b, hOi, hb, hbl, hO1, hkk⟩ := hcl (.inr h21)
                  rw [if_neg (by rw [h21]; decide), List.append_nil] at hO1
                  have hkk := hkk h21
                  have v0 : ¬ (0 : Int) < li := by rw [hno (by rw [h21]; rfl)]; decide
                  rw [hOi] at HOi hol ⊢
                  obtain ⟨g, rfl, hn, o0⟩ := recJ_topB (r := natsB R) (x := (b : Int)) (by rw [natsB_app] at HOi; exact HOi.out)
                  rw [natsB_len] at o0
                  have hRl : (R ++ [b]).length = R.length + 1 := by simp
                  rw [hRl] at HOi hol ⊢
                  have m0 : ((R.length : Int) + 1) - 1 = (R.length : Int) := by omega
                  have m1 : (R.length : Int) < (R.length : Int) + 1 := by omega
                  have m2 : (0 : Int) ≤ (R.length : Int) := by omega
                  have m3 : ((R.length : Int) + 1 == 0) = false := by rw [beq_eq_false_iff_ne]; omega
                  have m4 : (R.length : Int) ≤ 4000 := by omega
                  have m5 : (((R.length + 1 : Nat) : Int)) = (R.length : Int) + 1 := by omega
                  have hown := HOi.out
                  have hshort := hown.short R.length (by rw [natsB_len]; simp)
                  rw [natsB_app, List.take_left' (natsB_len R)] at hshort
                  have hrun := Rec.Own.shortRun (l := natsB (R ++ [b])) (by rw [natsB_len, hRl]; exact hown) 39 Tryd.underlying39 (by intro wx; kernel_rfl) R.length (by rw [natsB_len]; simp)
                  rw [natsB_len, hRl] at hrun
                  obtain ⟨lb', lo', hl', lx0⟩ := recJ_atB HVL.out (k := b) (by rw [HLL.out]; omega)
                  obtain ⟨rfl, rfl⟩ : lb = lb' ∧ lo = lo' := by injection hl' with e; injection e with e1 e2 _; exact ⟨e1, e2⟩
                  have lx0 := Below.keeps HBr.out lx0
                  rw [hbl] at lx0
                  obtain ⟨kb', ko', hk', kx0⟩ := recS_atB HVK.out (k := b) (by rw [HKL.out]; omega)
                  obtain ⟨rfl, rfl⟩ : kb = kb' ∧ ko = ko' := by injection hk' with e; injection e with e1 e2 _; exact ⟨e1, e2⟩
                  have kx0 := Below.keeps HBr.out kx0
                  obtain ⟨cb', co', hc', cx0, -⟩ := (HP.out _ (bt HB5.out HBr.out)).codeAt (k := b) (by omega)
                  obtain ⟨rfl, rfl⟩ : cb = cb' ∧ co = co' := by injection hc' with e; injection e with e1 e2 _; exact ⟨e1, e2⟩
                  rw [opV_lt (show b < cp.length by omega)] at cx0
                  have b0 : (0 : Int) ≤ (b : Int) := by omega
                  have b1 : (b : Int) < (cp.length : Int) := by omega
                  have i0 : ((i : Int) != (i : Int)) = false := by simp
                  have HR := Lib.hid hshort
                  have HRL := Lib.hid hO1
                  clear hl' hk' hc' hO1 hOi hown hshort hn hbl hRl HOi
                  have u19 : ((op.toNat : Int) == 19) = false := by rw [h21]; rfl
                  have u22 : ((op.toNat : Int) == 22) = false := by rw [h21]; rfl
                  have u20 : ((op.toNat : Int) == 20) = false := by rw [h21]; rfl
                  have u21 : ((op.toNat : Int) == 21) = true := by rw [h21]; rfl
                  clear hst hpp hno hos h19 h22 h20 hop
                  clear h21
                  obtain ⟨ob, hob⟩ : ∃ ob, ob = opV cp b := ⟨_, rfl⟩
                  obtain ⟨kb2, hkb2⟩ : ∃ kb2, kb2 = K.getD b [] := ⟨_, rfl⟩
                  rw [← hob] at cx0 hkk
                  rw [← hkb2] at kx0 hkk
                  have hkb3 := HO.out.lk b (by omega)
                  rw [← hkb2] at hkb3
                  clear hob hkb2
                  by_cases g20 : ob = 20
                  · rw [if_pos g20] at hkk
                    subst hkk
                    have w20 : ((ob.toNat : Int) == 20) = true := by rw [g20]; rfl
                    have w20n : ((ob.toNat : Int) != 20) = false := by rw [g20]; rfl
                    have w21 : (ki != ki) = false := by simp
                    have w22 : (bs ki == bs ki) = true := bsSelf _
                    have w23 : (bs ki != bs ki) = false := by rw [bne, w22]; rfl
                    clear g20
                    go_upto_region 18 with fail
                    go_quiet (fail)
                    obtain ⟨wq, hWq⟩ : ∃ W, W = wr.drewN nq := ⟨_, rfl⟩
                    rw [← hWq]
                    have hBq : Below wr.heap.size wr wq := by rw [hWq]; exact Below.drewN' _ _
                    have HBr := Lib.hid (bt HBr.out hBq)
                    have HR := Lib.hid (HR.out.below hBq)
                    have hbz := HBr.out.size
                    have x1 := Below.keeps hBq x1
                    have o0 := Below.keeps hBq o0
                    have lx0 := Below.keeps hBq lx0
                    have kx0 := Below.keeps hBq kx0
                    have cx0 := Below.keeps hBq cx0
                    have k0 := Below.keeps hBq k0
                    clear hWq hBq nq
                    go_upto_region 26 with fail
                    go_quiet (fail)
                    obtain ⟨wq2, hWq⟩ : ∃ W, W = wq.drewN nq := ⟨_, rfl⟩
                    rw [← hWq]
                    have hBq : Below wq.heap.size wq wq2 := by rw [hWq]; exact Below.drewN' _ _
                    have HBr := Lib.hid (bt HBr.out hBq)
                    have HR := Lib.hid (HR.out.below hBq)
                    have hbz := HBr.out.size
                    have x1 := Below.keeps hBq x1
                    have kx0 := Below.keeps hBq kx0
                    have cx0 := Below.keeps hBq cx0
                    have k0 := Below.keeps hBq k0
                    clear hWq hBq nq
                    go_upto_region 28 with fail
                    go_quiet (fail)
                    obtain ⟨wq3, hWq⟩ : ∃ W, W = wq2.drewN nq := ⟨_, rfl⟩
                    rw [← hWq]
                    have hBq : Below wq2.heap.size wq2 wq3 := by rw [hWq]; exact Below.drewN' _ _
                    have HBr := Lib.hid (bt HBr.out hBq)
                    have HR := Lib.hid (HR.out.below hBq)
                    have hbz := HBr.out.size
                    have x1 := Below.keeps hBq x1
                    clear hWq hBq nq
                    go_wp2_with fail
                    go_roundw
                    case rel =>
                      refine ⟨i + 1, some ⟨g, 0, none⟩, C, ?_, by go_num, by omega, ?_, HBr.out⟩
                      · rw [HRL.out]
                      · unfold Hid
                        rw [HRL.out]
                        exact HR.out
                    case measure => simp [intOf]; omega
                  · rw [if_neg g20] at hkk
                    have w20 : ((ob.toNat : Int) == 20) = false := u8_ne (by decide) g20
                    have w20n : ((ob.toNat : Int) != 20) = true := by rw [bne, w20]; rfl
                    obtain ⟨m, hm⟩ : ∃ m, m = min 1 kb2.length := ⟨_, rfl⟩
                    have hmin : min (1 : Int) (kb2.length : Int) = (m : Int) := by omega
                    obtain ⟨j, hj⟩ : ∃ j, j = kb2.length - m := ⟨_, rfl⟩
                    have q2 : (kb2.length : Int) - (m : Int) = (j : Int) := by omega
                    have q0 : (0 : Int) ≤ (j : Int) := by omega
                    have q1 : (j : Int) ≤ (kb2.length : Int) := by omega
                    have q3 : (kb2.length : Int) ≤ 16 := by omega
                    have hkk' : (ki != kb2.take j) = false := by rw [hkk, hj, hm]; simp [shortK]
                    have hkk'' : (ki == kb2.take j) = true := by rw [hkk, hj, hm]; simp [shortK]
                    have hkk3 : (bs ki == bs (kb2.take j)) = true := by
                      have e : ki = kb2.take j := by rw [hkk, hj, hm]; rfl
                      rw [e]; exact bsSelf _
                    have hkk4 : (bs ki != bs (kb2.take j)) = false := by rw [bne, hkk3]; rfl
                    clear hj hm
                    clear g20 hkk
                    go_upto_region 18 with fail
                    go_quiet (fail)
                    obtain ⟨wq, hWq⟩ : ∃ W, W = wr.drewN nq := ⟨_, rfl⟩
                    rw [← hWq]
                    have hBq : Below wr.heap.size wr wq := by rw [hWq]; exact Below.drewN' _ _
                    have HBr := Lib.hid (bt HBr.out hBq)
                    have HR := Lib.hid (HR.out.below hBq)
                    have hbz := HBr.out.size
                    have x1 := Below.keeps hBq x1
                    have o0 := Below.keeps hBq o0
                    have lx0 := Below.keeps hBq lx0
                    have kx0 := Below.keeps hBq kx0
                    have cx0 := Below.keeps hBq cx0
                    have k0 := Below.keeps hBq k0
                    clear hWq hBq nq
                    go_upto_region 26 with fail
                    go_quiet (fail)
                    obtain ⟨wq2, hWq⟩ : ∃ W, W = wq.drewN nq := ⟨_, rfl⟩
                    rw [← hWq]
                    have hBq : Below wq.heap.size wq wq2 := by rw [hWq]; exact Below.drewN' _ _
                    have HBr := Lib.hid (bt HBr.out hBq)
                    have HR := Lib.hid (HR.out.below hBq)
                    have hbz := HBr.out.size
                    have x1 := Below.keeps hBq x1
                    have kx0 := Below.keeps hBq kx0
                    have cx0 := Below.keeps hBq cx0
                    have k0 := Below.keeps hBq k0
                    clear hWq hBq nq
                    go_upto_region 28 with fail
                    go_quiet (fail)
                    obtain ⟨wq3, hWq⟩ : ∃ W, W = wq2.drewN nq := ⟨_, rfl⟩
                    rw [← hWq]
                    have hBq : Below wq2.heap.size wq2 wq3 := by rw [hWq]; exact Below.drewN' _ _
                    have HBr := Lib.hid (bt HBr.out hBq)
                    have HR := Lib.hid (HR.out.below hBq)
                    have hbz := HBr.out.size
                    have x1 := Below.keeps hBq x1
                    clear hWq hBq nq
                    go_wp2_with fail
                    go_roundw
                    case rel =>
                      refine ⟨i + 1, some ⟨g, 0, none⟩, C, ?_, by go_num, by omega, ?_, HBr.out⟩
                      · rw [HRL.out]
                      · unfold Hid
                        rw [HRL.out]
                        exact HR.out
                    case measure => simp [intOf]; omega
                · have hnn : opensV op = false := by unfold opensV; simp [h19, h22, h20]
                  have v0 : ¬ (0 : Int) < li := by rw [hno hnn]; decide
                  have hst := hst h20 h21
                  rw [if_neg (by rw [hnn]; decide), List.append_nil] at hst
                  obtain ⟨R, hR⟩ : ∃ R, R = O i := ⟨_, rfl⟩
                  rw [← hR] at hst hol HOi ⊢
                  have HRL := Lib.hid hst
                  have HR := Lib.hid HOi.out
                  have u19 : ((op.toNat : Int) == 19) = false := u8_ne (by decide) h19
                  have u22 : ((op.toNat : Int) == 22) = false := u8_ne (by decide) h22
                  have u20 : ((op.toNat : Int) == 20) = false := u8_ne (by decide) h20
                  have u21 : ((op.toNat : Int) == 21) = false := u8_ne (by decide) h21
                  clear hst hcl hpp hno hos HOi hR hnn h19 h22 h20 h21 hop
                  go_upto_region 18 with fail
                  go_quiet (fail)
                  obtain ⟨wq, hWq⟩ : ∃ W, W = wr.drewN nq := ⟨_, rfl⟩
                  rw [← hWq]
                  have hBq : Below wr.heap.size wr wq := by rw [hWq]; exact Below.drewN' _ _
                  have HBr := Lib.hid (bt HBr.out hBq)
                  have HR := Lib.hid (HR.out.below hBq)
                  have hbz := HBr.out.size
                  have x1 := Below.keeps hBq x1
                  clear hWq hBq nq
                  go_wp2_with fail
                  go_roundw
                  case rel =>
                    refine ⟨i + 1, A, C, ?_, by go_num, by omega, ?_, HBr.out⟩
                    · rw [HRL.out]
                    · unfold Hid
                      rw [HRL.out]
                      exact HR.out
                  case measure => simp [intOf]; omega
        · obtain rfl : i = cp.length := by omega
          have HON := Lib.hid HO.out.on
          have e1 : ¬ (cp.length : Int) < (cp.length : Int) := by omega
          have e2 : (((O cp.length).length : Int) == 0) = true := by rw [HON.out]; rfl
          go_wp2_with fail
          refine (HAL.out _ (bt HB5.out HBr.out)).mono ?_
          rintro e wz ⟨rfl, hB⟩
          have HZ := Lib.hid (bt (bt HB5.out HBr.out) hB)
          clear hB
          go_wp2_with fail
          go_ret
          exact ⟨rfl, HZ.out⟩
    · have t1 : ((T.2.1 : Int) != 0) = true := by rw [bne_iff_ne]; omega
      have HKN := Lib.hid (fun w' hB => (HKN.out w' hB).mono (fun e w'' h => show (∃ v, e = .returned (.tuple #[v, .int .i64 (T.2.1 : Int)])) ∧ Below w'.heap.size w' w'' from by rw [if_neg hz] at h; exact ⟨by obtain ⟨⟨v, h1, _⟩, _⟩ := h; exact ⟨v, h1⟩, h.2⟩))
      have HEN := Lib.hid (fun w' hB => (HEN.out w' hB).mono (fun e w'' h => show (∃ v, e = .returned (.tuple #[v, .int .i64 (T.2.1 : Int)])) ∧ Below w'.heap.size w' w'' from by rw [if_neg hz] at h; exact ⟨by obtain ⟨⟨v, h1, _⟩, _⟩ := h; exact ⟨v, h1⟩, h.2⟩))
      have HDP := Lib.hid (fun w' hB => (HDP.out w' hB).mono (fun e w'' h => show (∃ v, e = .returned (.tuple #[v, .int .i64 (T.2.1 : Int)])) ∧ Below w'.heap.size w' w'' from by rw [if_neg hz] at h; exact ⟨⟨_, h.1⟩, h.2⟩))
      obtain ⟨er, her⟩ : ∃ er, er = T.2.1 := ⟨_, rfl⟩
      rw [← her] at HKN HEN HDP t0 t1
      clear her hz HBL
      go_enter Tryd.func6, Tryd.ntmps6
      go_upto_region 1 with fail
      rw [← hW1]
      clear hW1
      go_wp2_with fail
      refine (HP.out _ HB1.out).large.mono ?_
      rintro e w2 ⟨rfl, hB⟩
      have HB2 := Lib.hid (bt HB1.out hB)
      have x0 := Below.keeps hB x0
      have x1 := Below.keeps hB x1
      clear hB
      rw [HLP.out]
      go_wp2_with fail
      refine (HKN.out _ HB2.out).mono ?_
      rintro e w3 ⟨⟨vk, rfl⟩, hB⟩
      have HB3 := Lib.hid (bt HB2.out hB)
      have x0 := Below.keeps hB x0
      have x1 := Below.keeps hB x1
      clear hB
      go_wp2_with fail
      refine (HEN.out _ HB3.out).mono ?_
      rintro e w4 ⟨⟨vl, rfl⟩, hB⟩
      have HB4 := Lib.hid (bt HB3.out hB)
      have x0 := Below.keeps hB x0
      have x1 := Below.keeps hB x1
      clear hB
      go_wp2_with fail
      refine (HDP.out _ HB4.out).mono ?_
      rintro e w5 ⟨⟨vd, rfl⟩, hB⟩
      have HB5 := Lib.hid (bt HB4.out hB)
      clear hB x0 x1
      go_wp2_with fail
      refine (HAL.out _ HB5.out).mono ?_
      rintro e wz ⟨rfl, hB⟩
      have HZ := Lib.hid (bt HB5.out hB)
      clear hB
      go_wp2_with fail
      go_ret
      exact ⟨rfl, HZ.out⟩
end Go.Proofs.YtahmacnmphjhgaaDoor
namespace Go.Proofs.YtahmacnmphjhgaaDoor
open Go.ChangeShapes Go.WideShapes Go.ChangeAt Go.RowKit Oct
open Go.ChangeMaps (open_string shut_string)

theorem u64_nat {a : Int} (h : (Lit.int .u64 a).wf = true) : ∃ n : Nat, a = (n : Int) ∧ n < 18446744073709551616 := by
  have h2 : 0 ≤ a ∧ a < 18446744073709551616 := by
    have := bounds_u64 h; omega
  exact ⟨a.toNat, by omega, by omega⟩

section
variable {P : Program} {H : Type} {enc : TypeId × Value → H} {W : World} {base : Nat}
theorem open_str {t j : Nat} {v : Value} {d : DataW H} {ps : List MemPlace} {ts : List TypeId} {ds : List (DataW H)} (ht : P.underlying t = some .string) (hv : Value.okWide P W .any base t v)
    (h : DataW.Trod enc P W 0 (fun _ => true) true t v d ps) (hsz : (DataW.weightsEach P ts ds).all (· ≤ reachBytes) = true) (hj : ts[j]? = some t) (hd : ds[j]? = some d) :
    ∃ l : List UInt8, v = .string (bs l) ∧ l.length ≤ 140737488355328 := by
  obtain ⟨s, rfl, rfl, _, _⟩ := open_string ht hv h
  refine ⟨s.data.toList, by rw [bs_of], ?_⟩
  have := sized_string hsz hj hd
  have h2 := reachBytes_lt
  omega

theorem weights_strs (e : TypeId) : ∀ (ss : List ByteArray) (s : ByteArray), s ∈ ss → s.data.toList.length ∈ DataW.weightsAll (H := H) P e (strs ss)
  | [], _, h => by simp at h
  | x :: ss, s, h => by
    have hx : strs (H := H) (x :: ss) = DataW.lit (.string x.data.toList) :: strs ss := rfl
    rw [hx, DataW.weightsAll]
    rcases List.mem_cons.1 h with rfl | h
    · simp [DataW.weights]
    · exact List.mem_append.2 (.inr (weights_strs e ss s h))
theorem add_cell {w : World} {a : Addr} {i : Nat} {u : Value} (h : w.cell? (a.add i) = some u) : a.add i = ⟨a.block, a.off + i, none⟩ := by
  unfold Addr.add at h ⊢
  split
  · rename_i hi
    rw [if_pos hi] at h
    subst hi
    cases a with
    | mk b o sp =>
      cases sp with
      | none => rfl
      | some x => exfalso; revert h; simp only [World.cell?]; split <;> simp
  · rfl
theorem open_texts {t e j : Nat} {v : Value} {d : DataW H} {ps : List MemPlace} {ts : List TypeId} {ds : List (DataW H)} (ht : P.underlying t = some (.slice e)) (he : P.underlying e = some .string) (hc : P.cellsOf e = 1) (hby : P.bytesOf e = 16)
    (hv : Value.okWide P W .any base t v) (h : DataW.Trod enc P W 0 (fun _ => true) true t v d ps) (hsz : (DataW.weightsEach P ts ds).all (· ≤ reachBytes) = true) (hj : ts[j]? = some t) (hd : ds[j]? = some d) :
    ∃ r : List (List UInt8), Reads W v r.length (tcells r) ∧ r.length ≤ 140737488355328 ∧ ∀ l ∈ r, l.length ≤ 140737488355328 := by
  have h47 := reachBytes_lt
  obtain ⟨a0, len, cap, rfl⟩ := okWide_slice ht hv
  obtain ⟨fuel, hf⟩ := h
  rcases open_strings ht he hc hf with ⟨hcs, hx⟩ | ⟨a, len', cap', ss, hcs, _, hl, hm, hz, hx, hcell, hws⟩
  · simp [Value.cells] at hcs
    obtain ⟨rfl, rfl, rfl⟩ := hcs
    exact ⟨[], Reads.nil _, by simp, by simp⟩
  · simp [Value.cells] at hcs
    obtain ⟨rfl, rfl, rfl⟩ := hcs
    simp at hz
    simp only [Prod.mk.injEq] at hx
    have hd2 := hx.1
    subst hd2
    have s1 := sized_slice hsz hj hd ht
    rw [hby] at s1
    simp only [strs, List.length_map, List.length_take, List.length_drop] at s1
    have hlen : (ss.take len).length = len := by simp; omega
    refine ⟨(ss.take len).map fun s => s.data.toList, ?_, ?_, ?_⟩
    · refine ⟨some a, cap, by rw [List.length_map, hlen], by simp, fun i u hu => ?_⟩
      have hi : i < len := by
        rcases Nat.lt_or_ge i len with h | h
        · exact h
        · rw [List.getElem?_eq_none (by simp [tcells]; omega)] at hu; simp at hu
      have hcl := hcell i (by omega)
      have e1 := add_cell hcl
      have e2 : a = ⟨a.block, a.off, none⟩ := by
        have h0 := add_cell (hcell 0 (by omega))
        simpa [Addr.add] using h0
      rw [e1] at hcl
      refine ⟨a.block, a.off, by rw [← e2], ?_⟩
      rw [hcl, ← hu]
      have hss : i < ss.length := by omega
      simp [tcells, List.getElem?_take, hi, hss, bs_of, List.getD]
    · simp; omega
    · intro l hl
      obtain ⟨s, hs, rfl⟩ := List.mem_map.1 hl
      have hin : s.data.toList.length ∈ DataW.weightsEach P ts ds := by
        refine DataW.weights_mem_each hj hd _ ?_
        simp only [DataW.weights, ht]
        exact List.mem_cons.2 (.inr (List.mem_append.2 (.inl (weights_strs e _ s hs))))
      have := List.all_eq_true.1 hsz _ hin
      simp at this
      simp
      omega
end
end Go.Proofs.YtahmacnmphjhgaaDoor
namespace Go.Proofs.YtahmacnmphjhgaaDoor
open Go.ChangeShapes Go.WideShapes Go.ChangeAt Go.RowKit Oct
open Go.ChangeMaps (open_string shut_string)

section
variable {P : Program} {H : Type} {enc : TypeId × Value → H} {W : World} {α β γ : Type}

/-- whatever the cells of a type read as, they hold an x; its measure is at most the datum's bulk -/
def Opens (enc : TypeId × Value → H) (P : Program) (W : World) (t : TypeId) (mu : α → Nat) (He : List Value → α → Prop) : Prop :=
  ∀ n cs d ps, DataW.trod enc P W 0 (fun _ => true) true n t cs = some (d, ps) → (∀ x ∈ d.weights P t, x ≤ reachBytes) → ∃ x, He cs x ∧ mu x ≤ Rows.uptoBulk d
theorem bulk_range (D : Nat → DataW H) (f : Nat → α) (mu : α → Nat) : ∀ n, (∀ i, i < n → mu (f i) ≤ Rows.uptoBulk (D i)) → (((List.range n).map f).map mu).sum ≤ Rows.uptoBulkAll ((List.range n).map D)
  | 0, _ => by simp
  | n + 1, h => by
    have ih := bulk_range D f mu n (fun i hi => h i (by omega))
    have app : ∀ (l r : List (DataW H)), Rows.uptoBulkAll (l ++ r) = Rows.uptoBulkAll l + Rows.uptoBulkAll r := by
      intro l r
      induction l with
      | nil => simp [Rows.uptoBulkAll]
      | cons x l ih => simp only [List.cons_append, Rows.uptoBulkAll, ih]; omega
    have := h n (by omega)
    simp only [List.range_succ, List.map_append, List.sum_append, app, List.map_cons, List.map_nil, List.sum_cons, List.sum_nil, Rows.uptoBulkAll]
    omega

theorem Opens.imp {t : TypeId} {mu : α → Nat} {He He' : List Value → α → Prop} (h : Opens enc P W t mu He) (hi : ∀ cs x, He cs x → He' cs x) : Opens enc P W t mu He' := by
  intro n cs d ps hd hw
  obtain ⟨x, hx, hb⟩ := h n cs d ps hd hw
  exact ⟨x, hi _ _ hx, hb⟩
/-- v is a row of elements of 'size' cells -/
def SliceOf (W : World) (size : Nat) (He : List Value → α → Prop) (v : Value) (xs : List α) : Prop :=
  ∃ a cap, v = .slice a xs.length cap ∧ xs.length ≤ cap ∧ (a = none → xs.length = 0 ∧ cap = 0) ∧
    ∀ k (h : k < xs.length), ∃ b off cs, a = some ⟨b, off, none⟩ ∧ cs.length = size ∧ (∀ j u, cs[j]? = some u → W.cell? ⟨b, off + k * size + j, none⟩ = some u) ∧ He cs xs[k]

theorem weights_all_mem (e : TypeId) : ∀ (ds : List (DataW H)) (d : DataW H), d ∈ ds → ∀ x ∈ d.weights P e, x ∈ DataW.weightsAll P e ds
  | [], _, h => by simp at h
  | d0 :: ds, d, h => by
    intro x hx
    rw [DataW.weightsAll]
    rcases List.mem_cons.1 h with rfl | h
    · exact List.mem_append.2 (.inl hx)
    · exact List.mem_append.2 (.inr (weights_all_mem e ds d h x hx))

theorem opens_str {t : TypeId} (ht : P.underlying t = some .string) : Opens enc P W t (fun l : List UInt8 => l.length + 1) fun cs (l : List UInt8) => cs = [.string (bs l)] ∧ l.length ≤ 140737488355328 := by
  intro n cs d ps h hw
  obtain ⟨s, rfl, hx, _⟩ := DataW.trod_string ht h
  simp only [Prod.mk.injEq] at hx
  obtain ⟨rfl, rfl⟩ := hx
  have := hw s.data.toList.length (by simp [DataW.weights])
  have h2 := reachBytes_lt
  exact ⟨s.data.toList, ⟨by rw [bs_of], by omega⟩, by simp [Rows.uptoBulk]⟩
theorem opens_int {t : TypeId} {k : IntKind} (ht : P.underlying t = some (.int k)) : Opens enc P W t (fun _ => 1) fun cs (a : Int) => cs = [.int k a] ∧ (Lit.int k a).wf = true := by
  intro n cs d ps h hw
  obtain ⟨a, rfl, hx, hwf⟩ := DataW.trod_int ht h
  simp only [Prod.mk.injEq] at hx
  obtain ⟨rfl, rfl⟩ := hx
  exact ⟨a, ⟨rfl, hwf⟩, by simp [Rows.uptoBulk]⟩
theorem opens_struct2 {t : TypeId} {f0 f1 : Field} {c0 c1 : Nat} {m0 : α → Nat} {m1 : β → Nat} {H0 : List Value → α → Prop} {H1 : List Value → β → Prop} (ht : P.underlying t = some (.struct #[f0, f1])) (hc : P.cellsOf t = c0 + c1)
    (hc0 : P.cellsOf f0.type = c0) (hc1 : P.cellsOf f1.type = c1) (o0 : f0.offset = 0) (o1 : f1.offset = c0)
    (h0 : Opens enc P W f0.type m0 H0) (h1 : Opens enc P W f1.type m1 H1) : Opens enc P W t (fun p => m0 p.1 + m1 p.2 + 1) fun cs (p : α × β) => ∃ cs0 cs1, cs = cs0 ++ cs1 ∧ cs0.length = c0 ∧ cs1.length = c1 ∧ H0 cs0 p.1 ∧ H1 cs1 p.2 := by
  intro n cs d ps h hw
  obtain ⟨y0, y1, m, hx, hl, e0, e1⟩ := trod_struct2 ht h
  simp only [Prod.mk.injEq] at hx
  obtain ⟨rfl, rfl⟩ := hx
  have hw' : ∀ x, x ∈ y0.1.weights P f0.type ∨ x ∈ y1.1.weights P f1.type → x ≤ reachBytes := by
    intro x hx
    refine hw x ?_
    simp only [DataW.weights, ht, DataW.weightsEach, List.map_cons, List.mem_append]
    rcases hx with hx | hx
    · exact .inl hx
    · exact .inr (.inl hx)
  obtain ⟨x0, k0, b0⟩ := h0 _ _ _ _ e0 (fun x hx => hw' x (.inl hx))
  obtain ⟨x1, k1, b1⟩ := h1 _ _ _ _ e1 (fun x hx => hw' x (.inr hx))
  rw [o0, hc0, List.drop_zero] at k0
  rw [o1, hc1] at k1
  refine ⟨(x0, x1), ⟨cs.take c0, (cs.drop c0).take c1, ?_, ?_, ?_, k0, k1⟩, by simp only [Rows.uptoBulk, Rows.uptoBulkAll]; omega⟩
  · have : (cs.drop c0).take c1 = cs.drop c0 := List.take_of_length_le (by simp; omega)
    rw [this, List.take_append_drop]
  · simp; omega
  · simp; omega
theorem opens_slice {t e : TypeId} {size : Nat} {mu : α → Nat} {He : List Value → α → Prop} (ht : P.underlying t = some (.slice e)) (hc : P.cellsOf e = size) (hpos : 0 < size) (he : Opens enc P W e mu He) :
    Opens enc P W t (fun xs => (xs.map mu).sum + 1) fun cs (xs : List α) => ∃ v, cs = [v] ∧ SliceOf W size He v xs ∧ xs.length * P.bytesOf e ≤ reachBytes := by
  intro n cs d ps h hw
  rcases Deep.open_slice ht h with ⟨rfl, hx⟩ | ⟨a, len, cap, m, n', D, Pl, rfl, _, hl, hm, hmm, hx, hcell⟩
  · simp only [Prod.mk.injEq] at hx
    obtain ⟨rfl, _⟩ := hx
    exact ⟨[], ⟨_, rfl, ⟨none, 0, rfl, Nat.le_refl _, fun _ => ⟨rfl, rfl⟩, fun k hk => by simp at hk⟩, by simp⟩, by simp [Rows.uptoBulk]⟩
  · simp only [Prod.mk.injEq] at hx
    obtain ⟨rfl, _⟩ := hx
    simp only [if_true] at hmm
    subst hmm
    have hin : ∀ i, i < len → ∀ x ∈ (D i).weights P e, x ≤ reachBytes := by
      intro i hi x hx
      refine hw x ?_
      simp only [DataW.weights, ht]
      exact List.mem_cons.2 (.inr (List.mem_append.2 (.inl (weights_all_mem e _ (D i) (List.mem_map.2 ⟨i, by simpa using hi, rfl⟩) x hx))))
    have each : ∀ i, i < len → ∃ x : α, (∃ cs', W.cells? 0 (a.add (i * size)) size = some cs' ∧ He cs' x) ∧ mu x ≤ Rows.uptoBulk (D i) := by
      intro i hi
      obtain ⟨cs', h1, h2⟩ := hcell i (by omega)
      rw [hc] at h1
      obtain ⟨x, hx, hb⟩ := he _ _ _ _ h2 (hin i hi)
      exact ⟨x, ⟨cs', h1, hx⟩, hb⟩
    have hlen := hw ((len + (m - len)) * P.bytesOf e) (by simp [DataW.weights, ht])
    have hlb : len * P.bytesOf e ≤ (len + (m - len)) * P.bytesOf e := Nat.mul_le_mul_right _ (by omega)
    by_cases h0 : len = 0
    · subst h0
      exact ⟨[], ⟨_, rfl, ⟨some a, m, rfl, Nat.zero_le _, by simp, fun k hk => by simp at hk⟩, by simp⟩, by simp [Rows.uptoBulk]⟩
    obtain ⟨x0, _⟩ := each 0 (by omega)
    haveI : Inhabited α := ⟨x0⟩
    obtain ⟨f, hf⟩ := Deep.choose_lt each
    have haddr : a = ⟨a.block, a.off, none⟩ := by
      obtain ⟨⟨cs', h1, _⟩, _⟩ := hf 0 (by omega)
      obtain ⟨_, hl', hcs⟩ := World.cells?_some h1
      have h2 := hcs 0 (by omega)
      rw [Nat.zero_mul] at h2
      have h3 : ∃ u, cs'[0]? = some u := ⟨cs'[0]'(by omega), List.getElem?_eq_getElem _⟩
      obtain ⟨u, hu⟩ := h3
      rw [hu] at h2
      have := add_cell (a := a.add 0) (i := 0) h2
      simpa [Addr.add] using this
    have hbulk := bulk_range D f mu len (fun i hi => (hf i hi).2)
    refine ⟨(List.range len).map f, ⟨_, rfl, ⟨some a, m, by simp, by simpa using hl, by simp, ?_⟩, ?_⟩, by simp only [Rows.uptoBulk]; omega⟩
    · intro k hk
      have hk' : k < len := by simpa using hk
      obtain ⟨⟨cs', h1, hHe⟩, _⟩ := hf k hk'
      obtain ⟨_, hl', hcs⟩ := World.cells?_some h1
      refine ⟨a.block, a.off, cs', by rw [← haddr], hl', ?_, by simpa using hHe⟩
      intro j u hj
      have hjl : j < size := by
        rcases Nat.lt_or_ge j size with h | h
        · exact h
        · rw [List.getElem?_eq_none (by omega)] at hj; cases hj
      have h2 := hcs j hjl
      rw [haddr, hj, Addr.add_lit, Addr.add_lit] at h2
      rw [← h2]
    · simp only [List.length_map, List.length_range]; omega

theorem open_any {t j : Nat} {v : Value} {d : DataW H} {ps : List MemPlace} {ts : List TypeId} {ds : List (DataW H)} {mu : α → Nat} {He : List Value → α → Prop} (ho : Opens enc P W t mu He)
    (h : DataW.Trod enc P W 0 (fun _ => true) true t v d ps) (hsz : (DataW.weightsEach P ts ds).all (· ≤ reachBytes) = true) (hj : ts[j]? = some t) (hd : ds[j]? = some d) : ∃ x, He v.cells.toList x ∧ mu x ≤ Rows.uptoBulk d := by
  obtain ⟨fuel, hf⟩ := h
  refine ho _ _ _ _ hf fun x hx => ?_
  simpa using List.all_eq_true.1 hsz x (DataW.weights_mem_each hj hd x hx)
theorem cells_slice {base : Nat} {t e : TypeId} {v v' : Value} (ht : P.underlying t = some (.slice e)) (hv : Value.okWide P W .any base t v) (h : v.cells.toList = [v']) : v = v' := by
  obtain ⟨a0, len, cap, rfl⟩ := okWide_slice ht hv
  simpa [Value.cells] using h
end
end Go.Proofs.YtahmacnmphjhgaaDoor
namespace Go.Proofs.YtahmacnmphjhgaaDoor
open Go.ChangeShapes Go.WideShapes Go.ChangeAt Go.RowKit Oct

section
variable {H : Type} {enc : TypeId × Value → H} {W : World}
theorem rec_of {α : Type} (R : Rec α) {He : List Value → α → Prop} (hcs0 : ∀ cs x, He cs x → cs = R.cell x) {v : Value} {xs : List α} (h : SliceOf W R.n He v xs) : R.Row W v xs ∧ ∀ x ∈ xs, ∃ cs, He cs x := by
  obtain ⟨a, cap, rfl, hle, hn, hc⟩ := h
  have hpos := R.pos
  refine ⟨⟨⟨a, cap, rfl, hn, ?_⟩, a, cap, rfl, hle⟩, ?_⟩
  · intro j u hj
    have hjl : j < xs.length * R.n := by
      rcases Nat.lt_or_ge j (xs.length * R.n) with h | h
      · exact h
      · rw [List.getElem?_eq_none (by rw [Rec.cells_length]; exact h)] at hj; cases hj
    have hk : j / R.n < xs.length := Nat.div_lt_of_lt_mul (by rw [Nat.mul_comm]; exact hjl)
    obtain ⟨b, off, cs, ha, hl, hcell, hcs⟩ := hc (j / R.n) hk
    obtain rfl := hcs0 _ _ hcs
    refine ⟨b, off, ha, ?_⟩
    have hm : j % R.n < R.n := Nat.mod_lt _ hpos
    have hu : (R.cell xs[j / R.n])[j % R.n]? = some ((R.cell xs[j / R.n])[j % R.n]'(by rw [R.len]; exact hm)) := List.getElem?_eq_getElem _
    have h1 := R.cells_at xs (j / R.n) hk (j % R.n) _ hu
    have e : j / R.n * R.n + j % R.n = j := Nat.div_add_mod' j R.n
    rw [e, hj] at h1
    have h2 := hcell (j % R.n) _ hu
    rw [← Option.some.inj h1, Nat.add_assoc, e] at h2
    exact h2
  · intro p hp
    obtain ⟨k, hk, rfl⟩ := List.getElem_of_mem hp
    obtain ⟨_, _, cs, _, _, _, h⟩ := hc k hk
    exact ⟨cs, h⟩
set_option maxRecDepth 100000 in
theorem open_strs {base j : Nat} {v : Value} {d : DataW H} {ps : List MemPlace} {ts : List TypeId} {ds : List (DataW H)}
    (hv : Value.okWide Tryd.prog W .any base 22 v) (h : DataW.Trod enc Tryd.prog W 0 (fun _ => true) true 22 v d ps) (hsz : (DataW.weightsEach Tryd.prog ts ds).all (· ≤ reachBytes) = true) (hj : ts[j]? = some 22) (hd : ds[j]? = some d) :
    ∃ l : List (List UInt8), recS.Row W v l ∧ l.length ≤ 140737488355328 ∧ ∀ s ∈ l, s.length ≤ 140737488355328 := by
  have ho : Opens enc Tryd.prog W 22 _ _ := opens_slice (size := 1) Tryd.underlying22 (by kernel_rfl) (by decide) (opens_str Tryd.underlying9)
  obtain ⟨l, ⟨v', hcs, h1, h2⟩, _⟩ := open_any ho h hsz hj hd
  obtain rfl := cells_slice Tryd.underlying22 hv hcs
  have hby : Tryd.prog.bytesOf 9 = 16 := by kernel_rfl
  rw [hby] at h2
  have h3 := reachBytes_lt
  obtain ⟨h4, h5⟩ := rec_of recS (fun cs x h => h.1) h1
  exact ⟨l, h4, by omega, fun s hs => by obtain ⟨cs, _, h⟩ := h5 s hs; exact h⟩
end
end Go.Proofs.YtahmacnmphjhgaaDoor
