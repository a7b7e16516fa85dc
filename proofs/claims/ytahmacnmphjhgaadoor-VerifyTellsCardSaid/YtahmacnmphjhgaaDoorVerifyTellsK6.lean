/- Lemmas for VerifyTells, part 6: walks of the functions that it reaches, and the plain laws behind them. -/
import Derived.Test.YtahmacnmphjhgaaDoorVerifyTellsK5
set_option linter.unusedSimpArgs false
set_option linter.unusedVariables false
namespace Go.Proofs.YtahmacnmphjhgaaDoor
open Go.RowKit Oct
attribute [local irreducible] wpG
/-- a program that came in -/
structure ProgR (w : World) (tv cv : Value) (texts : List (List UInt8)) (code : List VI) : Prop where
  t : recS.Row w tv texts
  c : recIns.Row w cv code
  lt : texts.length ≤ 140737488355328
  lc : code.length ≤ 140737488355328
  m : ∀ s ∈ texts, s.length ≤ 140737488355328
theorem ProgR.below {w w' : World} {tv cv : Value} {texts : List (List UInt8)} {code : List VI} (h : ProgR w tv cv texts code) (hB : Below w.heap.size w w') : ProgR w' tv cv texts code := ⟨h.t.below hB, h.c.below hB, h.lt, h.lc, h.m⟩
theorem ProgR.large {w : World} {tv cv : Value} {texts : List (List UInt8)} {code : List VI} (h : ProgR w tv cv texts code) :
    Calls Tryd.prog 7 #[.agg #[tv, cv]] w fun e w' => e = .returned (.bool (largeV texts code)) ∧ Below w.heap.size w w' := Large_any tv cv texts code w h.t h.c h.lt h.lc h.m
theorem ProgR.ask {w : World} {tv cv : Value} {texts : List (List UInt8)} {code : List VI} (h : ProgR w tv cv texts code) (hl : largeV texts code = false) (hE : EffM w) (hg : 0 < w.heap.size) : AskV w tv cv texts code := by
  obtain ⟨h1, h2, h3⟩ := largeV_no hl
  exact ⟨h.t, h.c, by omega, by omega, fun s hs => by have := h3 s hs; omega, hE, hg⟩
theorem ProgR.sl {w : World} {tv cv : Value} {texts : List (List UInt8)} {code : List VI} (h : ProgR w tv cv texts code) : ∃ a1 c1 a2 c2, tv = .slice a1 texts.length c1 ∧ cv = .slice a2 code.length c2 := by
  obtain ⟨a1, c1, h1, -, -⟩ := recS_open h.t
  obtain ⟨a2, c2, h2, -, -⟩ := recIns_open h.c
  exact ⟨a1, c1, a2, c2, h1, h2⟩
/-- append(s, x...), and what it leaves alone -/
theorem Rec.appendNV {α : Type} {ops : Array Oper} {rest : List Oper} {o : Oper} {a : Act} {Q : Exit → Act → World → Prop} (R : Rec α) (w : World) (hgd : o.guard = none) (s x : Operand) (t : TypeId)
    (ho : o.op = .call { callee := .builtin .append, args := #[s, x], argTypes := #[t, t] }) (ht : Tryd.prog.underlying t = some (.slice R.e))
    (base : Nat) (v : Value) (xs : List α) (hown : R.Own w base v xs) (hs : a.eval s = v)
    (vx : Value) (ys : List α) (hr : R.Row w vx ys) (hx : a.eval x = vx) (hbytes : (xs.length + ys.length) * R.bytes ≤ 140737488355328) (hbase : base ≤ w.heap.size)
    (h : ∀ A C w', R.Own w' base (.slice A (xs ++ ys).length C) (xs ++ ys) → Chg (fun k => v.ownBlock = some k) w w' → wpList Tryd.prog ops Q rest (a.put o.dst (.slice A (xs ++ ys).length C)) w') : wpList Tryd.prog ops Q (o :: rest) a w := by
  obtain ⟨i, hi, hz, hi1, hi2⟩ := info_parts R.info
  have hn : xs.length + ys.length ≤ (xs.length + ys.length) * R.bytes := Nat.le_mul_of_pos_right _ R.bpos
  obtain ⟨⟨ax, cap, rfl, hnone, hc⟩, _⟩ := hr
  cases ax with
  | none =>
    obtain ⟨h0, rfl⟩ := hnone rfl
    obtain rfl : ys = [] := List.eq_nil_of_length_eq_zero h0
    refine wpList_append_own_none hgd s x t ho base R.e i R.n ht hi v xs.length (R.cells xs) hs hown hx ?_
    obtain ⟨A, C, rfl⟩ := owns_slice hown
    have := h A C w (by rw [List.append_nil]; exact hown) (Chg.refl _ _)
    rw [List.append_nil] at this
    exact this
  | some ad =>
    refine wpList_append_own _ hgd s x t ho base R.e i R.z R.n R.bytes ht hi hz hi1 hi2 R.zs R.pos v xs.length (R.cells xs) hs hown ad ys.length cap (R.cells ys) hx (R.cells_length ys) ?_ (R.cells_one ys) (by unfold maxLen; omega) hbytes hbase ?_
    · intro j u hj
      obtain ⟨b, off, ha, hu⟩ := hc j u hj
      cases ha
      rw [Addr.add_lit]; exact hu
    · intro v' w' h2 h3 _
      have h2' : R.Own w' base v' (xs ++ ys) := by unfold Rec.Own; rw [R.cells_append, List.length_append]; exact h2
      have hB : Below base w w' := (Below.refl base w).grown h3 hbase (fun k hk => (Rec.Own.ltV hown k hk).1)
      obtain ⟨A, C, rfl⟩ := owns_slice h2'
      exact h A C w' h2' ⟨hB.os, hB.tape, hB.output, hB.size, fun j hj hne => h3.block j hj (fun e => hne e.symm)⟩
theorem own_apart {α β : Type} {R : Rec α} {R' : Rec β} {w : World} {b1 b2 : Nat} {v v' : Value} {l : List α} {l' : List β} (h : R.Own w b1 v l) (h' : R'.Own w b2 v' l') (ht : R.e ≠ R'.e) : ∀ k, v.ownBlock = some k → ¬ v'.ownBlock = some k := by
  rintro k hk hk'
  rcases h.2 with ⟨rfl, _⟩ | ⟨g, cap, cur, rfl, _, hh, _⟩
  · cases hk
  rcases h'.2 with ⟨rfl, _⟩ | ⟨g', cap', cur', rfl, _, hh', _⟩
  · cases hk'
  obtain rfl : g = k := by injection hk
  obtain rfl : g' = g := by injection hk'
  rw [hh] at hh'
  injection hh' with e
  injection e with _ e2 _
  exact ht e2
theorem ProgR.codeAt {w : World} {tv : Value} {a : Option Addr} {n c : Nat} {texts : List (List UInt8)} {code : List VI} (h : ProgR w tv (.slice a n c) texts code) {k : Nat} (hk : k < code.length) :
    ∃ b off, a = some ⟨b, off, none⟩ ∧ w.cell? ⟨b, off + k * 2, none⟩ = some (.int .u8 (code[k].1.toNat : Int)) ∧ w.cell? ⟨b, off + k * 2 + 1, none⟩ = some (.int .u8 (code[k].2.toNat : Int)) := by
  obtain ⟨a', c', hv, -, hc⟩ := recIns_open h.c
  injection hv with e1 e2 e3
  subst e1
  exact hc k hk
theorem u8_shift (a : UInt8) (n : Nat) : IntKind.u8.wrap ((a.toNat : Int) + IntKind.u8.wrap (n : Int)) = ((a + UInt8.ofNat n).toNat : Int) := by
  simp [IntKind.wrap, IntKind.bits, IntKind.signed, UInt8.toNat_add, UInt8.toNat_ofNat']

set_option maxRecDepth 100000 in
set_option maxHeartbeats 16000000 in
theorem VerifyStraight_any (tpv cpv : Value) (tp : List (List UInt8)) (cp : List VI) (tqv cqv : Value) (tq : List (List UInt8)) (cq : List VI) (w : World) (hp : ProgR w tpv cpv tp cp) (hq : ProgR w tqv cqv tq cq) (hE : EffM w) (hg : 0 < w.heap.size) :
    Calls Tryd.prog 3 #[.agg #[tpv, cpv], .agg #[tqv, cqv]] w fun e w' => e = .returned (.bool true) ∧ Below w.heap.size w w' := by
  obtain ⟨p1, p2, p3, p4, rfl, rfl⟩ := hp.sl
  obtain ⟨q1, q2, q3, q4, rfl, rfl⟩ := hq.sl
  have HP := Lib.hid (fun w' (hB : Below w.heap.size w w') => hp.below hB)
  have HQ := Lib.hid (fun w' (hB : Below w.heap.size w w') => hq.below hB)
  have HAL := Lib.hid (fun w' (hB : Below w.heap.size w w') => alive13_any w' (hE.below hB hg) (Nat.lt_of_lt_of_le hg hB.size))
  have HEF := Lib.hid (fun w' (hB : Below w.heap.size w w') => And.intro (hE.below hB hg) (Nat.lt_of_lt_of_le hg hB.size))
  have l1 : (tp.length : Int) ≤ 140737488355328 := by have := hp.lt; omega
  have l2 : (cp.length : Int) ≤ 140737488355328 := by have := hp.lc; omega
  have l3 : (tq.length : Int) ≤ 140737488355328 := by have := hq.lt; omega
  have l4 : (cq.length : Int) ≤ 140737488355328 := by have := hq.lc; omega
  obtain ⟨W1, hW1⟩ : ∃ W1, W1 = (w.alloc (.cells #[.slice p1 tp.length p2, .slice p3 cp.length p4] 25)).alloc (.cells #[.slice q1 tq.length q2, .slice q3 cq.length q4] 25) := ⟨_, rfl⟩
  have hb1 : Below w.heap.size w W1 := by rw [hW1]; exact bt (b_alloc _ _) (b_alloc _ _)
  have hs1 : W1.heap.size = w.heap.size + 1 + 1 := by rw [hW1, size_alV, size_alV]
  have hx : Blk W1 w.heap.size 25 [.slice p1 tp.length p2, .slice p3 cp.length p4] := by rw [hW1]; exact (Blk.new w _ _).below (b_alloc _ _)
  have hy : Blk W1 (w.heap.size + 1) 25 [.slice q1 tq.length q2, .slice q3 cq.length q4] := by
    rw [hW1]
    have := Blk.new (w.alloc (.cells #[.slice p1 tp.length p2, .slice p3 cp.length p4] 25)) [.slice q1 tq.length q2, .slice q3 cq.length q4] 25
    rw [size_alV] at this
    exact this
  have HX := Lib.hid hx
  have HY := Lib.hid hy
  have HB1 := Lib.hid hb1
  have x0 := hx.cell (k := 0) rfl
  have x1 := hx.cell (k := 1) rfl
  have y0 := hy.cell (k := 0) rfl
  have y1 := hy.cell (k := 1) rfl
  clear hp hq hE hg hb1 hs1 hx hy
  by_cases hlp : largeV tp cp = true
  · have HLP := Lib.hid hlp
    clear hlp
    go_enter Tryd.func3, Tryd.ntmps3
    go_upto_region 1 with fail
    rw [← hW1]
    clear hW1
    go_wp2_with fail
    refine (HP.out _ HB1.out).large.mono ?_
    rintro e w2 ⟨rfl, hB⟩
    have HB2 := Lib.hid (bt HB1.out hB)
    have x0 := Below.keeps hB x0
    have x1 := Below.keeps hB x1
    have y0 := Below.keeps hB y0
    have y1 := Below.keeps hB y1
    have HC2 := Lib.hid hB
    clear hB
    rw [HLP.out]
    go_wp2_with fail
    refine (HAL.out _ HB2.out).mono ?_
    rintro e wz ⟨rfl, hB⟩
    have HZ := Lib.hid (bt HB2.out hB)
    clear hB
    go_wp2_with fail
    go_ret
    exact ⟨rfl, HZ.out⟩
  · have hlp : largeV tp cp = false := by simpa using hlp
    have HLP := Lib.hid hlp
    clear hlp
    by_cases hlq : largeV tq cq = true
    · have HLQ := Lib.hid hlq
      clear hlq
      go_enter Tryd.func3, Tryd.ntmps3
      go_upto_region 1 with fail
      rw [← hW1]
      clear hW1
      go_wp2_with fail
      refine (HP.out _ HB1.out).large.mono ?_
      rintro e w2 ⟨rfl, hB⟩
      have HB2 := Lib.hid (bt HB1.out hB)
      have x0 := Below.keeps hB x0
      have x1 := Below.keeps hB x1
      have y0 := Below.keeps hB y0
      have y1 := Below.keeps hB y1
      have HC2 := Lib.hid hB
      clear hB
      rw [HLP.out]
      go_wp2_with fail
      refine (HQ.out _ HB2.out).large.mono ?_
      rintro e w3 ⟨rfl, hB⟩
      have HB3 := Lib.hid (bt HB2.out hB)
      have x0 := Below.keeps hB x0
      have x1 := Below.keeps hB x1
      have y0 := Below.keeps hB y0
      have y1 := Below.keeps hB y1
      have HC3 := Lib.hid (bt HC2.out hB)
      clear hB
      rw [HLQ.out]
      go_wp2_with fail
      refine (HAL.out _ HB3.out).mono ?_
      rintro e wz ⟨rfl, hB⟩
      have HZ := Lib.hid (bt HB3.out hB)
      clear hB
      go_wp2_with fail
      go_ret
      exact ⟨rfl, HZ.out⟩
    · have hlq : largeV tq cq = false := by simpa using hlq
      have HLQ := Lib.hid hlq
      clear hlq
      by_cases hc : cp.length + cq.length ≤ 256
      · have s1 : ¬ (256 : Int) < (cp.length : Int) + (cq.length : Int) := by omega
        by_cases ht : tp.length + tq.length ≤ 16
        · have s2 : ¬ (16 : Int) < (tp.length : Int) + (tq.length : Int) := by omega
          go_enter Tryd.func3, Tryd.ntmps3
          go_upto_region 1 with fail
          rw [← hW1]
          clear hW1
          go_wp2_with fail
          refine (HP.out _ HB1.out).large.mono ?_
          rintro e w2 ⟨rfl, hB⟩
          have HB2 := Lib.hid (bt HB1.out hB)
          have x0 := Below.keeps hB x0
          have x1 := Below.keeps hB x1
          have y0 := Below.keeps hB y0
          have y1 := Below.keeps hB y1
          have HC2 := Lib.hid hB
          clear hB
          rw [HLP.out]
          go_wp2_with fail
          refine (HQ.out _ HB2.out).large.mono ?_
          rintro e w3 ⟨rfl, hB⟩
          have HB3 := Lib.hid (bt HB2.out hB)
          have x0 := Below.keeps hB x0
          have x1 := Below.keeps hB x1
          have y0 := Below.keeps hB y0
          have y1 := Below.keeps hB y1
          have HC3 := Lib.hid (bt HC2.out hB)
          clear hB
          rw [HLQ.out]
          have HSC := Lib.hid hc
          have HST := Lib.hid ht
          have HA1 := Lib.hid (fun w' (hB : Below w.heap.size w w') => (HP.out w' hB).ask HLP.out (HEF.out w' hB).1 (HEF.out w' hB).2)
          have HA2 := Lib.hid (fun w' (hB : Below w.heap.size w w') => (HQ.out w' hB).ask HLQ.out (HEF.out w' hB).1 (HEF.out w' hB).2)
          obtain ⟨Tp, hTp⟩ : ∃ T, T = throughV tp cp 1 := ⟨_, rfl⟩
          obtain ⟨Tq, hTq⟩ : ∃ T, T = throughV tq cq 1 := ⟨_, rfl⟩
          have HTP := Lib.hid hTp
          have HTQ := Lib.hid hTq
          have HK1 := Lib.hid (fun w' (hB : Below w.heap.size w w') => aliveCheck _ _ tp cp 1 w' Tp.1 Tp.2.1 1 rfl (by rw [hTp]; exact ⟨rfl, rfl⟩) (HA1.out w' hB))
          have HK2 := Lib.hid (fun w' (hB : Below w.heap.size w w') => aliveCheck _ _ tq cq 1 w' Tq.1 Tq.2.1 1 rfl (by rw [hTq]; exact ⟨rfl, rfl⟩) (HA2.out w' hB))
          clear hTp hTq hc ht
          go_wp2_with fail
          refine (HK1.out _ HB3.out).mono ?_
          rintro e w4 ⟨rfl, hB⟩
          have HB4 := Lib.hid (bt HB3.out hB)
          have HC4 := Lib.hid (bt HC3.out hB)
          have x0 := Below.keeps hB x0
          have x1 := Below.keeps hB x1
          have y0 := Below.keeps hB y0
          have y1 := Below.keeps hB y1
          clear hB HB2 HB3 HC2 HC3
          go_wp2_with fail
          refine (HK2.out _ HB4.out).mono ?_
          rintro e w5 ⟨rfl, hB⟩
          have HB5 := Lib.hid (bt HB4.out hB)
          have HC5 := Lib.hid (bt HC4.out hB)
          have x0 := Below.keeps hB x0
          have x1 := Below.keeps hB x1
          have y0 := Below.keeps hB y0
          have y1 := Below.keeps hB y1
          clear hB HB4 HC4
          go_wp2_with fail
          refine (Copy_any _ _ tp cp w5 (HP.out w5 HB5.out).t (HP.out w5 HB5.out).c (by have := HST.out; omega) (by have := HSC.out; omega)).mono ?_
          rintro e w6 ⟨⟨tv6, cv6, rfl, ho1, ho2⟩, hB⟩
          obtain ⟨a6, c6, rfl⟩ := owns_slice ho1
          obtain ⟨a7, c7, rfl⟩ := owns_slice ho2
          obtain ⟨base, hbase⟩ : ∃ base, base = w5.heap.size := ⟨_, rfl⟩
          rw [← hbase] at ho1 ho2
          have hbs : base ≤ w6.heap.size := by rw [hbase]; exact hB.size
          have hwb : w.heap.size ≤ base := by rw [hbase]; exact HB5.out.size
          have HB6 := Lib.hid (bt HB5.out hB)
          have HC6 := Lib.hid (bt HC5.out hB)
          have hb15 : W1.heap.size ≤ base := by rw [hbase]; exact HC5.out.size
          have x0 := Below.keeps hB x0
          have x1 := Below.keeps hB x1
          have y0 := Below.keeps hB y0
          have y1 := Below.keeps hB y1
          clear hB hbase HB5 HC5
          obtain ⟨C, hC⟩ : ∃ C, C = w6.heap.size := ⟨_, rfl⟩
          obtain ⟨w7, hw7⟩ : ∃ w7, w7 = w6.alloc (.cells #[.slice a6 tp.length c6, .slice a7 cp.length c7] 25) := ⟨_, rfl⟩
          have hblk : Blk w7 C 25 [.slice a6 tp.length c6, .slice a7 cp.length c7] := by rw [hw7, hC]; exact Blk.new w6 _ _
          have hb67 : Below w6.heap.size w6 w7 := by rw [hw7]; exact b_alloc _ _
          have x0 := Below.keeps hb67 x0
          have x1 := Below.keeps hb67 x1
          have y0 := Below.keeps hb67 y0
          have y1 := Below.keeps hb67 y1
          have z0 := hblk.cell (k := 0) rfl
          have z1 := hblk.cell (k := 1) rfl
          have hbC : base ≤ C := by rw [hC]; exact hbs
          have HO1 := Lib.hid (ho1.below hb67)
          have HO2 := Lib.hid (ho2.below hb67)
          have HB7 := Lib.hid (bt HB6.out hb67)
          have HC7 := Lib.hid (bt HC6.out hb67)
          have hbs7 : base ≤ w7.heap.size := Nat.le_trans hbs hb67.size
          have HBL := Lib.hid hblk
          clear ho1 ho2 hblk hb67 HB6 HC6
          go_upto_region 6 with fail
          rw [← hw7, ← hC]
          clear hw7 hC
          go_wp2_with (at_builtin; go_must (refine recS.appendNV _ rfl _ _ 22 rfl Tryd.underlying22 base _ tp HO1.out rfl _ tq (HQ.out _ HB7.out).t rfl (by show (tp.length + tq.length) * 16 ≤ _; have := HST.out; omega) hbs7 ?_); go_must (intro A8 C8 w8 ho8 hc8; have hn8 := own_neV HO1.out HBL.out (by decide); have hbl8 : Blk w8 C 25 _ := hc8.at HBL.out (fun hk => hn8 _ hk rfl); have z0 := hbl8.cell (k := 0) rfl; have z1 := hbl8.cell (k := 1) rfl; have f0 := hbl8.free (k := 0) (by simp); rw [List.length_append] at ho8; have H8 := Lib.hid (And.intro ho8 (And.intro hc8 hbl8)); clear ho8 hc8 hn8 hbl8))
          obtain ⟨w9, hw9⟩ : ∃ w9, w9 = w8.setCell ⟨C, 0, none⟩ (.slice A8 (tp.length + tq.length) C8) := ⟨_, rfl⟩
          have hc9 : Chg (fun x => x = C) w8 w9 := by rw [hw9]; exact Chg.setCell _ _ _ rfl
          have hbl9 : Blk w9 C 25 [.slice A8 (tp.length + tq.length) C8, .slice a7 cp.length c7] := by rw [hw9]; exact H8.out.2.2.set 0 _
          have ho9 : recS.Own w9 base (.slice A8 (tp.length + tq.length) C8) (tp ++ tq) := H8.out.1.chgV hc9 (own_neV H8.out.1 H8.out.2.2 (by decide))
          have hoc9 : recIns.Own w9 base (.slice a7 cp.length c7) cp := by
            refine Rec.Own.chgV (Rec.Own.chgV HO2.out H8.out.2.1 (own_apart HO2.out HO1.out (by decide))) hc9 (own_neV (Rec.Own.chgV HO2.out H8.out.2.1 (own_apart HO2.out HO1.out (by decide))) H8.out.2.2 (by decide))
          have hb79 : Below base w7 w9 := (H8.out.2.1.below (fun k hk => (Rec.Own.ltV HO1.out k hk).1) hbs7).trans (hc9.below (fun x (hx : x = C) => by omega) (Nat.le_trans hbs7 H8.out.2.1.size))
          rw [← hw9]
          have HBR := Lib.hid (HC7.out.trans (hb79.mono hb15))
          have HIN := Lib.hid (show Blk w9 C 25 [.slice A8 (tp.length + tq.length) C8, .slice a7 cp.length c7] ∧ recS.Own w9 base (.slice A8 (tp.length + tq.length) C8) (tp ++ tq) ∧ recIns.Own w9 base (.slice a7 cp.length c7) cp from ⟨hbl9, ho9, hoc9⟩)
          clear hw9 hc9 hbl9 ho9 hoc9 hb79 H8 z0 z1 x0 x1 y0 y1 HO1 HO2 HB7 HC7 HBL hbs7 hbs
          go_loopw [10] (fun t wr => ∃ (k : Nat) (A : Option Addr) (B : Nat), t = .int .i64 (k : Int) ∧ k ≤ cq.length ∧ Hid (Blk wr C 25 [.slice A8 (tp.length + tq.length) C8, .slice A (cp.length + k) B]) ∧ Hid (recS.Own wr base (.slice A8 (tp.length + tq.length) C8) (tp ++ tq)) ∧ Hid (recIns.Own wr base (.slice A (cp.length + k) B) (cp ++ (cq.take k).map (shiftV tp.length))) ∧ Hid (Below W1.heap.size W1 wr)) (fun t _ => cq.length - (intOf t).toNat)
          case atStart => exact ⟨0, a7, c7, rfl, Nat.zero_le _, HIN.out.1, HIN.out.2.1, by simpa [Hid] using HIN.out.2.2, HBR.out⟩
          case round =>
            obtain ⟨k, A, B, rfl, hk, HBk, HOt, HOc, HBr⟩ := hrel
            have hBW := bt HB1.out HBr.out
            have hyr := HY.out.below HBr.out
            have hxr := HX.out.below HBr.out
            have y1 := hyr.cell (k := 1) rfl
            have x0 := hxr.cell (k := 0) rfl
            have hlx := hxr.lt
            have hly := hyr.lt
            have HBW := Lib.hid hBW
            clear hBW hyr hxr
            by_cases h0 : k < cq.length
            · obtain ⟨b, off, rfl, d0, d1⟩ := (HQ.out _ HBW.out).codeAt h0
              have kk0 : (0 : Int) ≤ (k : Int) := by omega
              have kk1 : (k : Int) < (cq.length : Int) := by omega
              have HTK := Lib.hid (List.take_succ_eq_append_getElem h0)
              have HLN := Lib.hid (show (cp ++ (cq.take k).map (shiftV tp.length)).length = cp.length + k by simp; omega)
              by_cases h1 : cq[k].1 = 1
              · have t1 : ((cq[k].1.toNat : Int) == 1) = true := by rw [h1]; rfl
                have hsh := u8_shift cq[k].2 tp.length
                have HSH := Lib.hid (show shiftV tp.length cq[k] = (cq[k].1, cq[k].2 + UInt8.ofNat tp.length) by unfold shiftV; rw [if_pos h1])
                clear h1
                go_upto_region 13 with fail
                have hsh2 : ((cq[k].2.toNat : Int) + (tp.length : Int)) % 256 = ((cq[k].2 + UInt8.ofNat tp.length).toNat : Int) := by rw [← u8_shift]; simp [IntKind.wrap, IntKind.bits, IntKind.signed]
                rw [hsh2]
                clear hsh hsh2 d0 d1 x0 y1
                obtain ⟨z, hz⟩ : ∃ z : VI, z = (cq[k].1, cq[k].2 + UInt8.ofNat tp.length) := ⟨_, rfl⟩
                have HZ := Lib.hid (HSH.out.trans hz.symm)
                obtain ⟨WB, hWB⟩ : ∃ WB, WB = wr.alloc (.cells #[.int .u8 (z.1.toNat : Int), .int .u8 (z.2.toNat : Int)] 33) := ⟨_, rfl⟩
                rw [show (cq[k].1.toNat : Int) = (z.1.toNat : Int) by rw [hz], show ((cq[k].2 + UInt8.ofNat tp.length).toNat : Int) = (z.2.toNat : Int) by rw [hz]]
                clear hz
                have hbb : Below wr.heap.size wr WB := by rw [hWB]; exact b_alloc _ _
                rw [← hWB]
                have hbx : Blk WB wr.heap.size 33 [.int .u8 (z.1.toNat : Int), .int .u8 (z.2.toNat : Int)] := by rw [hWB]; exact Blk.new wr _ _
                have v0 := hbx.cell (k := 0) rfl
                have v1 := hbx.cell (k := 1) rfl
                have hbk := HBk.out.below hbb
                have z1 := hbk.cell (k := 1) rfl
                obtain ⟨xs, hxs⟩ : ∃ xs, xs = cp ++ (cq.take k).map (shiftV tp.length) := ⟨_, rfl⟩
                have hoc := HOc.out.below hbb
                rw [← hxs] at hoc HLN
                have HXS := Lib.hid hxs
                have HBK := Lib.hid hbk
                have HOC := Lib.hid hoc
                have HOT := Lib.hid (HOt.out.below hbb)
                have HBB := Lib.hid hbb
                clear hWB hbx hbk hxs hoc hbb HBk HOc HOt
                go_wp2_with (at_builtin; go_must (refine recIns.append1V _ z rfl _ _ 23 rfl Tryd.underlying23 base _ xs (HOC.out.below (b_alloc _ _)) rfl _ rfl (Rec.Row.new (R := recIns) WB [z] _).1 (by show (xs.length + 1) * 2 ≤ _; have := HLN.out; have := HSC.out; omega) (Nat.le_trans hbC (Nat.le_of_lt (HBK.out.below (b_alloc _ _)).lt)) ?_); go_must (intro g cap wn hon hcn _; have hbn := HBK.out.below (b_alloc WB (.cells (recIns.cells [z]).toArray 33)); have hn := own_neV (HOC.out.below (b_alloc WB (.cells (recIns.cells [z]).toArray 33))) hbn (by decide); have hbl : Blk wn C 25 _ := hcn.at hbn (fun hk => hn _ hk rfl); have z1 := hbl.cell (k := 1) rfl; have f1 := hbl.free (k := 1) (by simp); have HN := Lib.hid (And.intro hon (And.intro hcn hbl)); clear hon hcn hn hbl hbn))
                have hcs : Chg (fun x => x = C) wn (wn.setCell ⟨C, 1, none⟩ (.slice (some ⟨g, 0, none⟩) (xs.length + 1) cap)) := Chg.setCell _ _ _ rfl
                obtain ⟨wz, hwz⟩ : ∃ wz, wz = wn.setCell ⟨C, 1, none⟩ (.slice (some ⟨g, 0, none⟩) (xs.length + 1) cap) := ⟨_, rfl⟩
                have hbz := HN.out.2.2.set 1 (.slice (some ⟨g, 0, none⟩) (xs.length + 1) cap)
                rw [← hwz] at hcs hbz ⊢
                have HBZ := Lib.hid hbz
                have HONz := Lib.hid (HN.out.1.chgV hcs (own_neV HN.out.1 HN.out.2.2 (by decide)))
                have hot := Rec.Own.chgV (HOT.out.below (b_alloc WB (.cells (recIns.cells [z]).toArray 33))) HN.out.2.1 (own_apart HOT.out HOC.out (by decide))
                have HOTz := Lib.hid (hot.chgV hcs (own_neV hot HN.out.2.2 (by decide)))
                have hBz : Below base WB wz := by
                  have e1 : Below base WB (WB.alloc (.cells (recIns.cells [z]).toArray 33)) := (b_alloc _ _).mono (Nat.le_trans hbC (Nat.le_of_lt HBK.out.lt))
                  exact (e1.trans (HN.out.2.1.below (fun k hk => (Rec.Own.ltV HOC.out k hk).1) (Nat.le_trans hbC (Nat.le_of_lt (HBK.out.below (b_alloc _ _)).lt)))).trans (hcs.below (fun x (hx : x = C) => by omega) (Nat.le_trans hbC (Nat.le_of_lt HN.out.2.2.lt)))
                have HBz := Lib.hid (HBr.out.trans ((HBB.out.mono (Nat.le_of_lt_succ (Nat.lt_succ_of_le (HBr.out.size)))).trans (hBz.mono hb15)))
                clear hcs hbz hot hBz hwz HN
                go_roundw
                case rel =>
                  refine ⟨k + 1, some ⟨g, 0, none⟩, cap, by go_num, by omega, ?_, HOTz.out, ?_, HBz.out⟩
                  · have := HBZ.out
                    rw [HLN.out] at this
                    exact this
                  · have := HONz.out
                    rw [HLN.out, HXS.out, List.append_assoc, show (cq.take k).map (shiftV tp.length) ++ [z] = (cq.take (k + 1)).map (shiftV tp.length) by rw [HTK.out, List.map_append, List.map_cons, List.map_nil, HZ.out]] at this
                    exact this
                case measure => simp [intOf]; omega
              · have t1 : ((cq[k].1.toNat : Int) == 1) = false := u8_ne (by decide) h1
                have HSH := Lib.hid (show shiftV tp.length cq[k] = cq[k] by unfold shiftV; rw [if_neg h1])
                clear h1
                go_upto_region 13 with fail
                clear d0 d1 x0 y1
                obtain ⟨z, hz⟩ : ∃ z : VI, z = cq[k] := ⟨_, rfl⟩
                have HZ := Lib.hid (HSH.out.trans hz.symm)
                obtain ⟨WB, hWB⟩ : ∃ WB, WB = wr.alloc (.cells #[.int .u8 (z.1.toNat : Int), .int .u8 (z.2.toNat : Int)] 33) := ⟨_, rfl⟩
                rw [show cq[k] = z from hz.symm]
                clear hz
                have hbb : Below wr.heap.size wr WB := by rw [hWB]; exact b_alloc _ _
                rw [← hWB]
                have hbx : Blk WB wr.heap.size 33 [.int .u8 (z.1.toNat : Int), .int .u8 (z.2.toNat : Int)] := by rw [hWB]; exact Blk.new wr _ _
                have v0 := hbx.cell (k := 0) rfl
                have v1 := hbx.cell (k := 1) rfl
                have hbk := HBk.out.below hbb
                have z1 := hbk.cell (k := 1) rfl
                obtain ⟨xs, hxs⟩ : ∃ xs, xs = cp ++ (cq.take k).map (shiftV tp.length) := ⟨_, rfl⟩
                have hoc := HOc.out.below hbb
                rw [← hxs] at hoc HLN
                have HXS := Lib.hid hxs
                have HBK := Lib.hid hbk
                have HOC := Lib.hid hoc
                have HOT := Lib.hid (HOt.out.below hbb)
                have HBB := Lib.hid hbb
                clear hWB hbx hbk hxs hoc hbb HBk HOc HOt
                go_wp2_with (at_builtin; go_must (refine recIns.append1V _ z rfl _ _ 23 rfl Tryd.underlying23 base _ xs (HOC.out.below (b_alloc _ _)) rfl _ rfl (Rec.Row.new (R := recIns) WB [z] _).1 (by show (xs.length + 1) * 2 ≤ _; have := HLN.out; have := HSC.out; omega) (Nat.le_trans hbC (Nat.le_of_lt (HBK.out.below (b_alloc _ _)).lt)) ?_); go_must (intro g cap wn hon hcn _; have hbn := HBK.out.below (b_alloc WB (.cells (recIns.cells [z]).toArray 33)); have hn := own_neV (HOC.out.below (b_alloc WB (.cells (recIns.cells [z]).toArray 33))) hbn (by decide); have hbl : Blk wn C 25 _ := hcn.at hbn (fun hk => hn _ hk rfl); have z1 := hbl.cell (k := 1) rfl; have f1 := hbl.free (k := 1) (by simp); have HN := Lib.hid (And.intro hon (And.intro hcn hbl)); clear hon hcn hn hbl hbn))
                have hcs : Chg (fun x => x = C) wn (wn.setCell ⟨C, 1, none⟩ (.slice (some ⟨g, 0, none⟩) (xs.length + 1) cap)) := Chg.setCell _ _ _ rfl
                obtain ⟨wz, hwz⟩ : ∃ wz, wz = wn.setCell ⟨C, 1, none⟩ (.slice (some ⟨g, 0, none⟩) (xs.length + 1) cap) := ⟨_, rfl⟩
                have hbz := HN.out.2.2.set 1 (.slice (some ⟨g, 0, none⟩) (xs.length + 1) cap)
                rw [← hwz] at hcs hbz ⊢
                have HBZ := Lib.hid hbz
                have HONz := Lib.hid (HN.out.1.chgV hcs (own_neV HN.out.1 HN.out.2.2 (by decide)))
                have hot := Rec.Own.chgV (HOT.out.below (b_alloc WB (.cells (recIns.cells [z]).toArray 33))) HN.out.2.1 (own_apart HOT.out HOC.out (by decide))
                have HOTz := Lib.hid (hot.chgV hcs (own_neV hot HN.out.2.2 (by decide)))
                have hBz : Below base WB wz := by
                  have e1 : Below base WB (WB.alloc (.cells (recIns.cells [z]).toArray 33)) := (b_alloc _ _).mono (Nat.le_trans hbC (Nat.le_of_lt HBK.out.lt))
                  exact (e1.trans (HN.out.2.1.below (fun k hk => (Rec.Own.ltV HOC.out k hk).1) (Nat.le_trans hbC (Nat.le_of_lt (HBK.out.below (b_alloc _ _)).lt)))).trans (hcs.below (fun x (hx : x = C) => by omega) (Nat.le_trans hbC (Nat.le_of_lt HN.out.2.2.lt)))
                have HBz := Lib.hid (HBr.out.trans ((HBB.out.mono (Nat.le_of_lt_succ (Nat.lt_succ_of_le (HBr.out.size)))).trans (hBz.mono hb15)))
                clear hcs hbz hot hBz hwz HN
                go_roundw
                case rel =>
                  refine ⟨k + 1, some ⟨g, 0, none⟩, cap, by go_num, by omega, ?_, HOTz.out, ?_, HBz.out⟩
                  · have := HBZ.out
                    rw [HLN.out] at this
                    exact this
                  · have := HONz.out
                    rw [HLN.out, HXS.out, List.append_assoc, show (cq.take k).map (shiftV tp.length) ++ [z] = (cq.take (k + 1)).map (shiftV tp.length) by rw [HTK.out, List.map_append, List.map_cons, List.map_nil, HZ.out]] at this
                    exact this
                case measure => simp [intOf]; omega
            · obtain rfl : k = cq.length := by omega
              have hocc := HOc.out
              rw [List.take_length] at hocc
              have hask : AskV wr (.slice A8 (tp.length + tq.length) C8) (.slice A (cp.length + cq.length) B) (tp ++ tq) (cp ++ cq.map (shiftV tp.length)) := by
                obtain ⟨b1, b2, b3⟩ := largeV_no HLP.out
                obtain ⟨b4, b5, b6⟩ := largeV_no HLQ.out
                refine ⟨HOt.out.row, hocc.row, ?_, ?_, ?_, (HEF.out _ HBW.out).1, (HEF.out _ HBW.out).2⟩
                · rw [List.length_append]; omega
                · rw [List.length_append, List.length_map]; omega
                · intro s hs
                  rcases List.mem_append.1 hs with hs | hs
                  · have := b3 s hs; omega
                  · have := b6 s hs; omega
              obtain ⟨Tb, hTb⟩ : ∃ T, T = throughV (tp ++ tq) (cp ++ cq.map (shiftV tp.length)) 1 := ⟨_, rfl⟩
              have HKB := Lib.hid (aliveCheck _ _ _ _ 1 wr Tb.1 Tb.2.1 1 rfl (by rw [hTb]; exact ⟨rfl, rfl⟩) hask)
              have HTB := Lib.hid (fun (e1 : Tp.2.1 = 0) (e2 : Tq.2.1 = 0) => show Tb.1 = 0 ∧ Tb.2.1 = 0 by rw [hTb]; exact throughV_both HST.out HSC.out (by rw [← HTP.out]; exact e1) (by rw [← HTQ.out]; exact e2))
              have z0 := HBk.out.cell (k := 0) rfl
              have z1 := HBk.out.cell (k := 1) rfl
              clear hocc hask hTb x0
              go_wp2_with fail
              refine HKB.out.mono ?_
              rintro e wc ⟨rfl, hB⟩
              have HBc := Lib.hid (bt HBW.out hB)
              clear hB z0 z1 y1
              by_cases e1 : Tp.2.1 = 0
              · have u1 : ((Tp.2.1 : Int) == 0) = true := by rw [e1]; rfl
                by_cases e2 : Tq.2.1 = 0
                · have u2 : ((Tq.2.1 : Int) == 0) = true := by rw [e2]; rfl
                  obtain ⟨e3, e4⟩ := HTB.out e1 e2
                  have u3 : ((Tb.1 : Int) == 0) = true := by rw [e3]; rfl
                  have u4 : ((Tb.2.1 : Int) == 0) = true := by rw [e4]; rfl
                  clear e1 e2 e3 e4
                  go_wp2_with fail
                  refine (HAL.out _ HBc.out).mono ?_
                  rintro e wz ⟨rfl, hB⟩
                  have HZ := Lib.hid (bt HBc.out hB)
                  clear hB
                  go_wp2_with fail
                  go_ret
                  exact ⟨rfl, HZ.out⟩
                · have u2 : ((Tq.2.1 : Int) == 0) = false := by rw [beq_eq_false_iff_ne]; omega
                  clear e1 e2
                  go_wp2_with fail
                  refine (HAL.out _ HBc.out).mono ?_
                  rintro e wz ⟨rfl, hB⟩
                  have HZ := Lib.hid (bt HBc.out hB)
                  clear hB
                  go_wp2_with fail
                  go_ret
                  exact ⟨rfl, HZ.out⟩
              · have u1 : ((Tp.2.1 : Int) == 0) = false := by rw [beq_eq_false_iff_ne]; omega
                clear e1
                go_wp2_with fail
                refine (HAL.out _ HBc.out).mono ?_
                rintro e wz ⟨rfl, hB⟩
                have HZ := Lib.hid (bt HBc.out hB)
                clear hB
                go_wp2_with fail
                go_ret
                exact ⟨rfl, HZ.out⟩
        · have s2 : (16 : Int) < (tp.length : Int) + (tq.length : Int) := by omega
          go_enter Tryd.func3, Tryd.ntmps3
          go_upto_region 1 with fail
          rw [← hW1]
          clear hW1
          go_wp2_with fail
          refine (HP.out _ HB1.out).large.mono ?_
          rintro e w2 ⟨rfl, hB⟩
          have HB2 := Lib.hid (bt HB1.out hB)
          have x0 := Below.keeps hB x0
          have x1 := Below.keeps hB x1
          have y0 := Below.keeps hB y0
          have y1 := Below.keeps hB y1
          have HC2 := Lib.hid hB
          clear hB
          rw [HLP.out]
          go_wp2_with fail
          refine (HQ.out _ HB2.out).large.mono ?_
          rintro e w3 ⟨rfl, hB⟩
          have HB3 := Lib.hid (bt HB2.out hB)
          have x0 := Below.keeps hB x0
          have x1 := Below.keeps hB x1
          have y0 := Below.keeps hB y0
          have y1 := Below.keeps hB y1
          have HC3 := Lib.hid (bt HC2.out hB)
          clear hB
          rw [HLQ.out]
          clear hc ht
          go_wp2_with fail
          refine (HAL.out _ HB3.out).mono ?_
          rintro e wz ⟨rfl, hB⟩
          have HZ := Lib.hid (bt HB3.out hB)
          clear hB
          go_wp2_with fail
          go_ret
          exact ⟨rfl, HZ.out⟩
      · have s1 : (256 : Int) < (cp.length : Int) + (cq.length : Int) := by omega
        go_enter Tryd.func3, Tryd.ntmps3
        go_upto_region 1 with fail
        rw [← hW1]
        clear hW1
        go_wp2_with fail
        refine (HP.out _ HB1.out).large.mono ?_
        rintro e w2 ⟨rfl, hB⟩
        have HB2 := Lib.hid (bt HB1.out hB)
        have x0 := Below.keeps hB x0
        have x1 := Below.keeps hB x1
        have y0 := Below.keeps hB y0
        have y1 := Below.keeps hB y1
        have HC2 := Lib.hid hB
        clear hB
        rw [HLP.out]
        go_wp2_with fail
        refine (HQ.out _ HB2.out).large.mono ?_
        rintro e w3 ⟨rfl, hB⟩
        have HB3 := Lib.hid (bt HB2.out hB)
        have x0 := Below.keeps hB x0
        have x1 := Below.keeps hB x1
        have y0 := Below.keeps hB y0
        have y1 := Below.keeps hB y1
        have HC3 := Lib.hid (bt HC2.out hB)
        clear hB
        rw [HLQ.out]
        clear hc
        go_wp2_with fail
        refine (HAL.out _ HB3.out).mono ?_
        rintro e wz ⟨rfl, hB⟩
        have HZ := Lib.hid (bt HB3.out hB)
        clear hB
        go_wp2_with fail
        go_ret
        exact ⟨rfl, HZ.out⟩
end Go.Proofs.YtahmacnmphjhgaaDoor
namespace Go.Proofs.YtahmacnmphjhgaaDoor
open Go.RowKit Oct
attribute [local irreducible] wpG
/-- what a block of the reference keeps -/
def keptR (b : Vb) : List UInt8 := if b.did = true then b.want else []
/-- a block of the reference -/
def recRb : Rec Vb where
  cell b := [.int .u8 (b.op.toNat : Int), .string (bs b.opn), .string (bs (keptR b)), .bool b.did, .int .i64 (b.at_ : Int)]
  e := 65
  n := 5
  bytes := 56
  z := .agg #[.int .u8 0, .string ByteArray.empty, .string ByteArray.empty, .bool false, .int .i64 0]
  len := fun _ => rfl
  one := by intro x u h; simp at h; rcases h with rfl | rfl | rfl | rfl | rfl <;> rfl
  info := by kernel_rfl
  zs := rfl
  pos := by decide
  bpos := by decide
/-- what goes through a program: its block, its rows -/
structure RG (w : World) (base G : Nat) (tv cv : Value) (role : UInt8) (s : Vs) (bv sv ev : Value) : Prop where
  blk : Blk w G 47 [tv, cv, .int .u8 (role.toNat : Int), .string (bs s.kinds), bv, sv, ev, .int .i64 (s.deep : Int)]
  ob : recRb.Own w base bv s.blocks
  os : recS.Own w base sv s.seen
  oe : recJ.Own w base ev s.ends
  gb : base ≤ G
  a1 : ∀ b, bv.ownBlock = some b → b ≠ G ∧ sv.ownBlock ≠ some b ∧ ev.ownBlock ≠ some b
  a2 : ∀ b, sv.ownBlock = some b → b ≠ G ∧ ev.ownBlock ≠ some b
  a3 : ∀ b, ev.ownBlock = some b → b ≠ G
section
variable {w w' : World} {base G : Nat} {tv cv bv sv ev : Value} {role : UInt8} {s : Vs}
theorem RG.below (h : RG w base G tv cv role s bv sv ev) (hB : Below w.heap.size w w') : RG w' base G tv cv role s bv sv ev :=
  ⟨h.blk.below hB, h.ob.below hB, h.os.below hB, h.oe.below hB, h.gb, h.a1, h.a2, h.a3⟩
theorem RG.cell (h : RG w base G tv cv role s bv sv ev) {k : Nat} {v : Value} (hv : [tv, cv, .int .u8 (role.toNat : Int), .string (bs s.kinds), bv, sv, ev, .int .i64 (s.deep : Int)][k]? = some v) : w.cell? ⟨G, k, none⟩ = some v := h.blk.cell hv
theorem RG.free (h : RG w base G tv cv role s bv sv ev) {k : Nat} (hk : k < 8) : w.frozen? ⟨G, k, none⟩ = false := h.blk.free hk
/-- a cell of it that is no row -/
theorem RG.setG (h : RG w base G tv cv role s bv sv ev) (k : Nat) (v : Value) {kinds : List UInt8} {deep : Nat}
    (hs : [tv, cv, .int .u8 (role.toNat : Int), .string (bs s.kinds), bv, sv, ev, .int .i64 (s.deep : Int)].set k v = [tv, cv, .int .u8 (role.toNat : Int), .string (bs kinds), bv, sv, ev, .int .i64 (deep : Int)]) :
    RG (w.setCell ⟨G, k, none⟩ v) base G tv cv role { s with kinds := kinds, deep := deep } bv sv ev ∧ Below base w (w.setCell ⟨G, k, none⟩ v) := by
  have hc : Chg (fun x => x = G) w (w.setCell ⟨G, k, none⟩ v) := Chg.setCell _ _ _ rfl
  have key : ∀ {β : Type} (R : Rec β) (x : Value) (l : List β), R.Own w base x l → (∀ b, x.ownBlock = some b → b ≠ G) → R.Own (w.setCell ⟨G, k, none⟩ v) base x l := fun R x l ho hn => by
    obtain ⟨h1, h2⟩ := ho
    refine ⟨h1, ?_⟩
    rcases h2 with h2 | ⟨g, cap, cur, rfl, hg, hh, r⟩
    · exact .inl h2
    · exact .inr ⟨g, cap, cur, rfl, hg, hc.at hh (hn g rfl), r⟩
  have hb := h.blk.set k v
  rw [hs] at hb
  exact ⟨⟨hb, key _ _ _ h.ob (fun b hb => (h.a1 b hb).1), key _ _ _ h.os (fun b hb => (h.a2 b hb).1), key _ _ _ h.oe h.a3, h.gb, h.a1, h.a2, h.a3⟩, hc.below (fun x hx => by have := h.gb; omega) (Nat.le_trans h.gb (Nat.le_of_lt h.blk.lt))⟩
theorem RG.kinds (h : RG w base G tv cv role s bv sv ev) (k : List UInt8) : RG (w.setCell ⟨G, 3, none⟩ (.string (bs k))) base G tv cv role { s with kinds := k } bv sv ev ∧ Below base w (w.setCell ⟨G, 3, none⟩ (.string (bs k))) := h.setG 3 _ rfl
theorem RG.deep (h : RG w base G tv cv role s bv sv ev) (d : Nat) : RG (w.setCell ⟨G, 7, none⟩ (.int .i64 (d : Int))) base G tv cv role { s with deep := d } bv sv ev ∧ Below base w (w.setCell ⟨G, 7, none⟩ (.int .i64 (d : Int))) := h.setG 7 _ rfl
end
section
variable {w w' w3 : World} {base G : Nat} {tv cv bv sv ev bv' sv' : Value} {role : UInt8} {s : Vs}
/-- another row of blocks, laid down -/
theorem RG.newB (h : RG w base G tv cv role s bv sv ev) {l : List Vb} (hc : Chg (fun k => bv.ownBlock = some k) w w3) (hg : ∀ k, bv'.ownBlock = some k → bv.ownBlock = some k ∨ w.heap.size ≤ k) (ho : recRb.Own w3 base bv' l) :
    RG (w3.setCell ⟨G, 4, none⟩ bv') base G tv cv role { s with blocks := l } bv' sv ev ∧ Below base w (w3.setCell ⟨G, 4, none⟩ bv') := by
  have hs : Chg (fun k => k = G) w3 (w3.setCell ⟨G, 4, none⟩ bv') := Chg.setCell _ _ _ rfl
  have hlt := h.blk.lt
  have nb : ∀ b, bv'.ownBlock = some b → b ≠ G ∧ sv.ownBlock ≠ some b ∧ ev.ownBlock ≠ some b := fun b hb => by
    rcases hg b hb with e | e
    · exact h.a1 b e
    · refine ⟨by omega, fun e2 => ?_, fun e2 => ?_⟩
      · have := (h.os.ltV b e2).2; omega
      · have := (h.oe.ltV b e2).2; omega
  have hb3 : Blk w3 G 47 _ := h.blk.chg hc (fun e => (h.a1 G e).1 rfl)
  have o1 := (h.os.chgV hc (fun k hk e => (h.a1 k e).2.1 hk)).chgV hs (fun k hk => (h.a2 k hk).1)
  have o2 := (h.oe.chgV hc (fun k hk e => (h.a1 k e).2.2 hk)).chgV hs (fun k hk => h.a3 k hk)
  refine ⟨⟨hb3.set 4 bv', ho.chgV hs (fun k hk => (nb k hk).1), o1, o2, h.gb, nb, h.a2, h.a3⟩, ?_⟩
  exact (hc.below (fun k hk => (h.ob.ltV k hk).1) (Nat.le_trans h.gb (Nat.le_of_lt hlt))).trans (hs.below (fun k hk => by have := h.gb; omega) (by have := hc.size; have := h.gb; omega))
/-- another row of what was seen, laid down -/
theorem RG.newS (h : RG w base G tv cv role s bv sv ev) {l : List (List UInt8)} (hc : Chg (fun k => sv.ownBlock = some k) w w3) (hg : ∀ k, sv'.ownBlock = some k → sv.ownBlock = some k ∨ w.heap.size ≤ k) (ho : recS.Own w3 base sv' l) :
    RG (w3.setCell ⟨G, 5, none⟩ sv') base G tv cv role { s with seen := l } bv sv' ev ∧ Below base w (w3.setCell ⟨G, 5, none⟩ sv') := by
  have hs : Chg (fun k => k = G) w3 (w3.setCell ⟨G, 5, none⟩ sv') := Chg.setCell _ _ _ rfl
  have hlt := h.blk.lt
  have nb : ∀ b, sv'.ownBlock = some b → b ≠ G ∧ ev.ownBlock ≠ some b ∧ bv.ownBlock ≠ some b := fun b hb => by
    rcases hg b hb with e | e
    · exact ⟨(h.a2 b e).1, (h.a2 b e).2, fun e2 => (h.a1 b e2).2.1 e⟩
    · refine ⟨by omega, fun e2 => ?_, fun e2 => ?_⟩
      · have := (h.oe.ltV b e2).2; omega
      · have := (h.ob.ltV b e2).2; omega
  have hb3 : Blk w3 G 47 _ := h.blk.chg hc (fun e => (h.a2 G e).1 rfl)
  have o1 := (h.ob.chgV hc (fun k hk e => (h.a1 k hk).2.1 e)).chgV hs (fun k hk => (h.a1 k hk).1)
  have o2 := (h.oe.chgV hc (fun k hk e => (h.a2 k e).2 hk)).chgV hs (fun k hk => h.a3 k hk)
  refine ⟨⟨hb3.set 5 sv', o1, ho.chgV hs (fun k hk => (nb k hk).1), o2, h.gb, fun b hb => ⟨(h.a1 b hb).1, fun e => (nb b e).2.2 hb, (h.a1 b hb).2.2⟩, fun b hb => ⟨(nb b hb).1, (nb b hb).2.1⟩, h.a3⟩, ?_⟩
  exact (hc.below (fun k hk => (h.os.ltV k hk).1) (Nat.le_trans h.gb (Nat.le_of_lt hlt))).trans (hs.below (fun k hk => by have := h.gb; omega) (by have := hc.size; have := h.gb; omega))
/-- the row of blocks, written -/
theorem RG.chgB (h : RG w base G tv cv role s bv sv ev) {l : List Vb} (hc : Chg (fun k => bv.ownBlock = some k) w w') (ho : recRb.Own w' base bv l) : RG w' base G tv cv role { s with blocks := l } bv sv ev ∧ Below base w w' :=
  ⟨⟨h.blk.chg hc (fun e => (h.a1 G e).1 rfl), ho, h.os.chgV hc (fun k hk e => (h.a1 k e).2.1 hk), h.oe.chgV hc (fun k hk e => (h.a1 k e).2.2 hk), h.gb, h.a1, h.a2, h.a3⟩, hc.below (fun k hk => (h.ob.ltV k hk).1) (Nat.le_trans h.gb (Nat.le_of_lt h.blk.lt))⟩
/-- the row of ends, written -/
theorem RG.chgE (h : RG w base G tv cv role s bv sv ev) {l : List Int} (hc : Chg (fun k => ev.ownBlock = some k) w w') (ho : recJ.Own w' base ev l) : RG w' base G tv cv role { s with ends := l } bv sv ev ∧ Below base w w' :=
  ⟨⟨h.blk.chg hc (fun e => h.a3 G e rfl), h.ob.chgV hc (fun k hk e => (h.a1 k hk).2.2 e), h.os.chgV hc (fun k hk e => (h.a2 k hk).2 e), ho, h.gb, h.a1, h.a2, h.a3⟩, hc.below (fun k hk => (h.oe.ltV k hk).1) (Nat.le_trans h.gb (Nat.le_of_lt h.blk.lt))⟩
theorem RG.slices (h : RG w base G tv cv role s bv sv ev) : (∃ ab cb, bv = .slice ab s.blocks.length cb) ∧ (∃ a1 c1, sv = .slice a1 s.seen.length c1) ∧ ∃ ae ce, ev = .slice ae s.ends.length ce := ⟨owns_slice h.ob, owns_slice h.os, owns_slice h.oe⟩
end

set_option maxRecDepth 100000 in
theorem rRole_any (r : UInt8) (w : World) : Calls Tryd.prog 20 #[.int .u8 (r.toNat : Int)] w fun e w' => e = .returned (.bool (roleOk r)) ∧ w' = w := by
  by_cases h1 : 1 ≤ r.toNat
  · have t1 : (1 : Int) ≤ (r.toNat : Int) := by omega
    by_cases h2 : r.toNat ≤ 3
    · have t2 : (r.toNat : Int) ≤ 3 := by omega
      have H := Lib.hid (show roleOk r = true by unfold roleOk; rw [decide_eq_true h1, decide_eq_true h2]; rfl)
      clear h1 h2
      go_enter Tryd.func20, Tryd.ntmps20
      go_wp2
      go_ret
      exact ⟨by rw [H.out]; rfl, rfl⟩
    · have t2 : ¬ (r.toNat : Int) ≤ 3 := by omega
      have H := Lib.hid (show roleOk r = false by unfold roleOk; rw [decide_eq_false h2]; simp)
      clear h1 h2
      go_enter Tryd.func20, Tryd.ntmps20
      go_wp2
      go_ret
      exact ⟨by rw [H.out]; rfl, rfl⟩
  · have t1 : ¬ (1 : Int) ≤ (r.toNat : Int) := by omega
    have H := Lib.hid (show roleOk r = false by unfold roleOk; rw [decide_eq_false h1]; simp)
    clear h1
    go_enter Tryd.func20, Tryd.ntmps20
    go_wp2
    go_ret
    exact ⟨by rw [H.out]; rfl, rfl⟩
set_option maxRecDepth 100000 in
theorem rInputs_any (r : UInt8) (w : World) : Calls Tryd.prog 29 #[.int .u8 (r.toNat : Int)] w fun e w' => e = .returned (.int .i64 (inputsV r : Int)) ∧ w' = w := by
  by_cases h1 : r = 1
  · have t1 : ((r.toNat : Int) == 1) = true := by rw [h1]; rfl
    have H := Lib.hid (show inputsV r = 1 by unfold inputsV; rw [if_pos h1])
    clear h1
    go_enter Tryd.func29, Tryd.ntmps29
    go_wp2
    go_ret
    exact ⟨by rw [H.out]; rfl, rfl⟩
  · have t1 : ((r.toNat : Int) == 1) = false := u8_ne (by decide) h1
    have H := Lib.hid (show inputsV r = 2 by unfold inputsV; rw [if_neg h1])
    clear h1
    go_enter Tryd.func29, Tryd.ntmps29
    go_wp2
    go_ret
    exact ⟨by rw [H.out]; rfl, rfl⟩
set_option maxRecDepth 100000 in
theorem rReg_any (r : UInt8) (w : World) : Calls Tryd.prog 42 #[.int .u8 (r.toNat : Int)] w fun e w' => e = .returned (.string (bs (regV r))) ∧ w' = w := by
  by_cases h1 : 4 ≤ r.toNat
  · have t1 : ¬ (r.toNat : Int) < 4 := by omega
    have H := Lib.hid (show regV r = [84] by unfold regV; rw [if_pos h1])
    clear h1
    go_enter Tryd.func42, Tryd.ntmps42
    go_wp2
    go_ret
    exact ⟨by rw [H.out]; rfl, rfl⟩
  · have t1 : (r.toNat : Int) < 4 := by omega
    have H := Lib.hid (show regV r = [78] by unfold regV; rw [if_neg h1])
    clear h1
    go_enter Tryd.func42, Tryd.ntmps42
    go_wp2
    go_ret
    exact ⟨by rw [H.out]; rfl, rfl⟩
theorem effV_restR {p a : UInt8} (h1 : p ≠ 1) (h2 : p ≠ 2) (h3 : p ≠ 3) (h4 : p ≠ 4) (h5 : p ≠ 5) (h6 : p ≠ 6) (h7 : p ≠ 7) (h8 : p ≠ 8) (h9 : p ≠ 9) (h10 : p ≠ 10) (h11 : p ≠ 11) (h12 : p ≠ 12) (h13 : p ≠ 13) (h14 : p ≠ 14) (h15 : p ≠ 15) (h16 : p ≠ 16) (h17 : p ≠ 17) (h18 : p ≠ 18) (h19 : p ≠ 19) (h22 : p ≠ 22) (h23 : p ≠ 23) : effV (p, a) = ([], []) := by
  have h : p.toNat = 0 ∨ p.toNat = 20 ∨ p.toNat = 21 ∨ 24 ≤ p.toNat := by
    have e1 : p.toNat ≠ 1 := fun e => h1 (UInt8.toNat_inj.1 e)
    have e2 : p.toNat ≠ 2 := fun e => h2 (UInt8.toNat_inj.1 e)
    have e3 : p.toNat ≠ 3 := fun e => h3 (UInt8.toNat_inj.1 e)
    have e4 : p.toNat ≠ 4 := fun e => h4 (UInt8.toNat_inj.1 e)
    have e5 : p.toNat ≠ 5 := fun e => h5 (UInt8.toNat_inj.1 e)
    have e6 : p.toNat ≠ 6 := fun e => h6 (UInt8.toNat_inj.1 e)
    have e7 : p.toNat ≠ 7 := fun e => h7 (UInt8.toNat_inj.1 e)
    have e8 : p.toNat ≠ 8 := fun e => h8 (UInt8.toNat_inj.1 e)
    have e9 : p.toNat ≠ 9 := fun e => h9 (UInt8.toNat_inj.1 e)
    have e10 : p.toNat ≠ 10 := fun e => h10 (UInt8.toNat_inj.1 e)
    have e11 : p.toNat ≠ 11 := fun e => h11 (UInt8.toNat_inj.1 e)
    have e12 : p.toNat ≠ 12 := fun e => h12 (UInt8.toNat_inj.1 e)
    have e13 : p.toNat ≠ 13 := fun e => h13 (UInt8.toNat_inj.1 e)
    have e14 : p.toNat ≠ 14 := fun e => h14 (UInt8.toNat_inj.1 e)
    have e15 : p.toNat ≠ 15 := fun e => h15 (UInt8.toNat_inj.1 e)
    have e16 : p.toNat ≠ 16 := fun e => h16 (UInt8.toNat_inj.1 e)
    have e17 : p.toNat ≠ 17 := fun e => h17 (UInt8.toNat_inj.1 e)
    have e18 : p.toNat ≠ 18 := fun e => h18 (UInt8.toNat_inj.1 e)
    have e19 : p.toNat ≠ 19 := fun e => h19 (UInt8.toNat_inj.1 e)
    have e22 : p.toNat ≠ 22 := fun e => h22 (UInt8.toNat_inj.1 e)
    have e23 : p.toNat ≠ 23 := fun e => h23 (UInt8.toNat_inj.1 e)
    omega
  unfold effV
  rcases h with h | h | h | h
  · rw [show ((p, a) : VI).1.toNat = 0 from h]; rfl
  · rw [show ((p, a) : VI).1.toNat = 20 from h]; rfl
  · rw [show ((p, a) : VI).1.toNat = 21 from h]; rfl
  · have : effs.getD ((p, a) : VI).1.toNat ([], []) = ([], []) := by
      rw [List.getD, List.getElem?_eq_none (by rw [effs_len]; exact h)]; rfl
    rw [this]; rfl
set_option maxRecDepth 100000 in
set_option maxHeartbeats 8000000 in
theorem rEffect_any (x : VI) (w : World) : Calls Tryd.prog 30 #[.agg #[.int .u8 (x.1.toNat : Int), .int .u8 (x.2.toNat : Int)]] w fun e w' => e = .returned (.tuple #[.string (bs (effV x).1), .string (bs (effV x).2)]) ∧ Below w.heap.size w w' := by
  obtain ⟨p, a⟩ := x
  have hb := b_alloc w (.cells #[.int .u8 (p.toNat : Int), .int .u8 (a.toNat : Int)] 33)
  by_cases h1 : p = 1
  · subst h1
    rw [show (((1 : UInt8).toNat : Nat) : Int) = 1 from rfl] at hb ⊢
    go_enter Tryd.func30, Tryd.ntmps30
    go_wp2
    go_ret2
    exact ⟨rfl, hb⟩
  by_cases h2 : p = 2
  · subst h2
    rw [show (((2 : UInt8).toNat : Nat) : Int) = 2 from rfl] at hb ⊢
    go_enter Tryd.func30, Tryd.ntmps30
    go_wp2
    go_ret2
    exact ⟨rfl, hb⟩
  by_cases h3 : p = 3
  · subst h3
    rw [show (((3 : UInt8).toNat : Nat) : Int) = 3 from rfl] at hb ⊢
    go_enter Tryd.func30, Tryd.ntmps30
    go_wp2
    go_ret2
    exact ⟨rfl, hb⟩
  by_cases h4 : p = 4
  · subst h4
    rw [show (((4 : UInt8).toNat : Nat) : Int) = 4 from rfl] at hb ⊢
    go_enter Tryd.func30, Tryd.ntmps30
    go_wp2
    go_ret2
    exact ⟨rfl, hb⟩
  by_cases h5 : p = 5
  · subst h5
    rw [show (((5 : UInt8).toNat : Nat) : Int) = 5 from rfl] at hb ⊢
    go_enter Tryd.func30, Tryd.ntmps30
    go_wp2
    go_ret2
    exact ⟨rfl, hb⟩
  by_cases h6 : p = 6
  · subst h6
    rw [show (((6 : UInt8).toNat : Nat) : Int) = 6 from rfl] at hb ⊢
    go_enter Tryd.func30, Tryd.ntmps30
    go_wp2
    go_ret2
    exact ⟨rfl, hb⟩
  by_cases h7 : p = 7
  · subst h7
    rw [show (((7 : UInt8).toNat : Nat) : Int) = 7 from rfl] at hb ⊢
    go_enter Tryd.func30, Tryd.ntmps30
    go_wp2
    go_ret2
    exact ⟨rfl, hb⟩
  by_cases h8 : p = 8
  · subst h8
    rw [show (((8 : UInt8).toNat : Nat) : Int) = 8 from rfl] at hb ⊢
    go_enter Tryd.func30, Tryd.ntmps30
    go_wp2
    go_ret2
    exact ⟨rfl, hb⟩
  by_cases h9 : p = 9
  · subst h9
    rw [show (((9 : UInt8).toNat : Nat) : Int) = 9 from rfl] at hb ⊢
    go_enter Tryd.func30, Tryd.ntmps30
    go_wp2
    go_ret2
    exact ⟨rfl, hb⟩
  by_cases h10 : p = 10
  · subst h10
    rw [show (((10 : UInt8).toNat : Nat) : Int) = 10 from rfl] at hb ⊢
    go_enter Tryd.func30, Tryd.ntmps30
    go_wp2
    go_ret2
    exact ⟨rfl, hb⟩
  by_cases h11 : p = 11
  · subst h11
    rw [show (((11 : UInt8).toNat : Nat) : Int) = 11 from rfl] at hb ⊢
    go_enter Tryd.func30, Tryd.ntmps30
    go_wp2
    go_ret2
    exact ⟨rfl, hb⟩
  by_cases h12 : p = 12
  · subst h12
    rw [show (((12 : UInt8).toNat : Nat) : Int) = 12 from rfl] at hb ⊢
    go_enter Tryd.func30, Tryd.ntmps30
    go_wp2
    go_ret2
    exact ⟨rfl, hb⟩
  by_cases h13 : p = 13
  · subst h13
    rw [show (((13 : UInt8).toNat : Nat) : Int) = 13 from rfl] at hb ⊢
    go_enter Tryd.func30, Tryd.ntmps30
    go_wp2
    go_ret2
    exact ⟨rfl, hb⟩
  by_cases h14 : p = 14
  · subst h14
    rw [show (((14 : UInt8).toNat : Nat) : Int) = 14 from rfl] at hb ⊢
    go_enter Tryd.func30, Tryd.ntmps30
    go_wp2
    go_ret2
    exact ⟨rfl, hb⟩
  by_cases h15 : p = 15
  · subst h15
    rw [show (((15 : UInt8).toNat : Nat) : Int) = 15 from rfl] at hb ⊢
    go_enter Tryd.func30, Tryd.ntmps30
    go_wp2
    go_ret2
    exact ⟨rfl, hb⟩
  by_cases h16 : p = 16
  · subst h16
    rw [show (((16 : UInt8).toNat : Nat) : Int) = 16 from rfl] at hb ⊢
    go_enter Tryd.func30, Tryd.ntmps30
    go_wp2
    go_ret2
    exact ⟨rfl, hb⟩
  by_cases h17 : p = 17
  · subst h17
    rw [show (((17 : UInt8).toNat : Nat) : Int) = 17 from rfl] at hb ⊢
    go_enter Tryd.func30, Tryd.ntmps30
    go_wp2_with (go_at_call 42; refine (rReg_any a _).mono ?_; rintro e w1 ⟨rfl, rfl⟩)
    go_ret2
    exact ⟨by first | rfl | (unfold effV regV; split <;> rfl), hb⟩
  by_cases h18 : p = 18
  · subst h18
    rw [show (((18 : UInt8).toNat : Nat) : Int) = 18 from rfl] at hb ⊢
    go_enter Tryd.func30, Tryd.ntmps30
    go_wp2_with (go_at_call 42; refine (rReg_any a _).mono ?_; rintro e w1 ⟨rfl, rfl⟩)
    go_ret2
    exact ⟨by first | rfl | (unfold effV regV; split <;> rfl), hb⟩
  by_cases h19 : p = 19
  · subst h19
    rw [show (((19 : UInt8).toNat : Nat) : Int) = 19 from rfl] at hb ⊢
    go_enter Tryd.func30, Tryd.ntmps30
    go_wp2
    go_ret2
    exact ⟨rfl, hb⟩
  by_cases h22 : p = 22
  · subst h22
    rw [show (((22 : UInt8).toNat : Nat) : Int) = 22 from rfl] at hb ⊢
    go_enter Tryd.func30, Tryd.ntmps30
    go_wp2
    go_ret2
    exact ⟨rfl, hb⟩
  by_cases h23 : p = 23
  · subst h23
    rw [show (((23 : UInt8).toNat : Nat) : Int) = 23 from rfl] at hb ⊢
    go_enter Tryd.func30, Tryd.ntmps30
    go_wp2
    go_ret2
    exact ⟨rfl, hb⟩
  have q1 : ((p.toNat : Int) == 1) = false := u8_ne (by decide) h1
  have q2 : ((p.toNat : Int) == 2) = false := u8_ne (by decide) h2
  have q3 : ((p.toNat : Int) == 3) = false := u8_ne (by decide) h3
  have q4 : ((p.toNat : Int) == 4) = false := u8_ne (by decide) h4
  have q5 : ((p.toNat : Int) == 5) = false := u8_ne (by decide) h5
  have q6 : ((p.toNat : Int) == 6) = false := u8_ne (by decide) h6
  have q7 : ((p.toNat : Int) == 7) = false := u8_ne (by decide) h7
  have q8 : ((p.toNat : Int) == 8) = false := u8_ne (by decide) h8
  have q9 : ((p.toNat : Int) == 9) = false := u8_ne (by decide) h9
  have q10 : ((p.toNat : Int) == 10) = false := u8_ne (by decide) h10
  have q11 : ((p.toNat : Int) == 11) = false := u8_ne (by decide) h11
  have q12 : ((p.toNat : Int) == 12) = false := u8_ne (by decide) h12
  have q13 : ((p.toNat : Int) == 13) = false := u8_ne (by decide) h13
  have q14 : ((p.toNat : Int) == 14) = false := u8_ne (by decide) h14
  have q15 : ((p.toNat : Int) == 15) = false := u8_ne (by decide) h15
  have q16 : ((p.toNat : Int) == 16) = false := u8_ne (by decide) h16
  have q17 : ((p.toNat : Int) == 17) = false := u8_ne (by decide) h17
  have q18 : ((p.toNat : Int) == 18) = false := u8_ne (by decide) h18
  have q19 : ((p.toNat : Int) == 19) = false := u8_ne (by decide) h19
  have q22 : ((p.toNat : Int) == 22) = false := u8_ne (by decide) h22
  have q23 : ((p.toNat : Int) == 23) = false := u8_ne (by decide) h23
  have HE := Lib.hid (show effV (p, a) = ([], []) from effV_restR h1 h2 h3 h4 h5 h6 h7 h8 h9 h10 h11 h12 h13 h14 h15 h16 h17 h18 h19 h22 h23)
  clear h1 h2 h3 h4 h5 h6 h7 h8 h9 h10 h11 h12 h13 h14 h15 h16 h17 h18 h19 h22 h23
  go_enter Tryd.func30, Tryd.ntmps30
  go_wp2
  go_ret2
  exact ⟨by rw [HE.out]; rfl, hb⟩

def rbV (b : Vb) : Value := .agg #[.int .u8 (b.op.toNat : Int), .string (bs b.opn), .string (bs (keptR b)), .bool b.did, .int .i64 (b.at_ : Int)]
def noVb : Vb := ⟨0, [], [], 0, false⟩
theorem recRb_at {w : World} {a : Option Addr} {n c : Nat} {l : List Vb} (h : recRb.Row w (.slice a n c) l) {k : Nat} (hk : k < l.length) : ∃ b off, a = some ⟨b, off, none⟩ ∧ w.cell? ⟨b, off + k * 5, none⟩ = some (.int .u8 (l[k].op.toNat : Int)) ∧ w.cell? ⟨b, off + k * 5 + 1, none⟩ = some (.string (bs l[k].opn)) ∧
    w.cell? ⟨b, off + k * 5 + 2, none⟩ = some (.string (bs (keptR l[k]))) ∧ w.cell? ⟨b, off + k * 5 + 3, none⟩ = some (.bool l[k].did) ∧ w.cell? ⟨b, off + k * 5 + 4, none⟩ = some (.int .i64 (l[k].at_ : Int)) := by
  obtain ⟨a', cap, hv, hle, hc⟩ := Rec.Row.open h
  injection hv with e1 e2 e3
  subst e1
  obtain ⟨b, off, ha, hu⟩ := hc k hk
  exact ⟨b, off, ha, hu 0 _ rfl, hu 1 _ rfl, hu 2 _ rfl, hu 3 _ rfl, hu 4 _ rfl⟩
theorem load_rb {w : World} {b : Nat} {v0 v1 v2 v3 v4 : Value} (h0 : w.cell? ⟨b, 0, none⟩ = some v0) (h1 : w.cell? ⟨b, 1, none⟩ = some v1) (h2 : w.cell? ⟨b, 2, none⟩ = some v2) (h3 : w.cell? ⟨b, 3, none⟩ = some v3) (h4 : w.cell? ⟨b, 4, none⟩ = some v4) :
    (loadVar 65 ⟨b, 0, none⟩).run Tryd.prog w = .ok (.agg #[v0, v1, v2, v3, v4]) w := by
  go_simp
theorem results_cell_tmpR {P : Program} {fn : Func} {p u : Tmp} {ty : TypeId} {tmps : Array Value} {w : World} {v : Value} {b : Nat} (hr : fn.results = #[.cell p ty, .tmp u]) (hp : tmps.getD p undef = .pointer (some ⟨b, 0, none⟩))
    (hl : (loadVar ty ⟨b, 0, none⟩).run P w = .ok v w) : (results fn tmps).run P w = .ok (.tuple #[v, tmps.getD u undef]) w := by
  simp only [Array.getD_eq_getD_getElem?] at hp ⊢
  simp [results, hr, Sem.run_bind, Result.andThen, hp, asAddr, hl]
theorem Chg.set1R {w : World} {b k : Nat} {v : Value} : Chg (fun x => x = b) w (w.setCell ⟨b, k, none⟩ v) := Chg.setCell _ _ _ rfl
/-- five cells, written -/
theorem rb_store {w : World} {b : Nat} {t : TypeId} {a0 a1 a2 a3 a4 : Value} (hx : Blk w b t [a0, a1, a2, a3, a4]) (v0 v1 v2 v3 v4 : Value) :
    Blk (((((w.setCell ⟨b, 0, none⟩ v0).setCell ⟨b, 1, none⟩ v1).setCell ⟨b, 2, none⟩ v2).setCell ⟨b, 3, none⟩ v3).setCell ⟨b, 4, none⟩ v4) b t [v0, v1, v2, v3, v4] ∧
    Chg (fun x => x = b) w (((((w.setCell ⟨b, 0, none⟩ v0).setCell ⟨b, 1, none⟩ v1).setCell ⟨b, 2, none⟩ v2).setCell ⟨b, 3, none⟩ v3).setCell ⟨b, 4, none⟩ v4) :=
  ⟨((((hx.set 0 v0).set 1 v1).set 2 v2).set 3 v3).set 4 v4, (((Chg.set1R.trans Chg.set1R).trans Chg.set1R).trans Chg.set1R).trans Chg.set1R⟩
section
variable {w : World} {base G : Nat} {tv cv bv sv ev : Value} {role : UInt8} {s : Vs}
set_option maxRecDepth 100000 in
set_option maxHeartbeats 2000000 in
theorem rLast_any (h : RG w base G tv cv role s bv sv ev) (hl : s.blocks.length ≤ 1000) :
    Calls Tryd.prog 28 #[.pointer (some ⟨G, 0, none⟩)] w fun e w' => e = .returned (.tuple #[rbV (s.blocks.getLast?.getD noVb), .bool (s.blocks.getLast?.isSome)]) ∧ Below w.heap.size w w' := by
  obtain ⟨⟨ab, cb, rfl⟩, _, _⟩ := h.slices
  obtain ⟨W1, hW1⟩ : ∃ W1, W1 = w.alloc (.cells #[.int .u8 0, .string ⟨#[]⟩, .string ⟨#[]⟩, .bool false, .int .i64 0] 65) := ⟨_, rfl⟩
  have hb1 : Below w.heap.size w W1 := by rw [hW1]; exact b_alloc _ _
  have hx : Blk W1 w.heap.size 65 [.int .u8 0, .string ⟨#[]⟩, .string ⟨#[]⟩, .bool false, .int .i64 0] := by rw [hW1]; exact Blk.new w _ _
  have h1 := h.below hb1
  have c4 := h1.cell (k := 4) rfl
  have HX := Lib.hid hx
  have HB1 := Lib.hid hb1
  rcases Nat.eq_zero_or_pos s.blocks.length with h0 | h0
  · have hb0 : s.blocks = [] := List.eq_nil_of_length_eq_zero h0
    have t1 : ((s.blocks.length : Int) == 0) = true := by rw [beq_iff_eq]; omega
    have f0 := hx.free (k := 0) (by decide)
    have f1 := hx.free (k := 1) (by decide)
    have f2 := hx.free (k := 2) (by decide)
    have f3 := hx.free (k := 3) (by decide)
    have f4 := hx.free (k := 4) (by decide)
    have x0 := hx.cell (k := 0) rfl
    have x1 := hx.cell (k := 1) rfl
    have x2 := hx.cell (k := 2) rfl
    have x3 := hx.cell (k := 3) rfl
    have x4 := hx.cell (k := 4) rfl
    have HB0 := Lib.hid hb0
    clear h h1 h0 hb0 hx hb1
    go_enter Tryd.func28, Tryd.ntmps28
    go_upto_region 1 with fail
    rw [← hW1]
    clear hW1
    go_wp2_with fail
    obtain ⟨hy, hc⟩ := rb_store HX.out (.int .u8 0) (.string ⟨#[]⟩) (.string ⟨#[]⟩) (.bool false) (.int .i64 0)
    refine bodyPost_ret (results_cell_tmpR rfl rfl (load_rb (hy.cell (k := 0) rfl) (hy.cell (k := 1) rfl) (hy.cell (k := 2) rfl) (hy.cell (k := 3) rfl) (hy.cell (k := 4) rfl))) rfl ?_
    exact ⟨by rw [HB0.out]; rfl, HB1.out.trans (hc.below (fun x (hx : x = w.heap.size) => by omega) HB1.out.size)⟩
  · obtain ⟨m, hm⟩ : ∃ m, s.blocks.length = m + 1 := ⟨s.blocks.length - 1, by omega⟩
    obtain ⟨g, rfl⟩ := h.ob.at0 h0
    have t1 : ((s.blocks.length : Int) == 0) = false := by rw [beq_eq_false_iff_ne]; omega
    have hm1 : (s.blocks.length : Int) - 1 = (m : Int) := by omega
    have hm2 : (m : Int) < (s.blocks.length : Int) := by omega
    have hm3 : (0 : Int) ≤ (m : Int) := by omega
    have hm4 : (s.blocks.length : Int) ≤ 1000 := by omega
    obtain ⟨b', off, ha, e0, e1, e2, e3, e4⟩ := recRb_at h1.ob.row (k := m) (by omega)
    injection ha with ha
    injection ha with ha1 ha2 _
    subst ha1 ha2
    rw [Nat.zero_add] at e0 e1 e2 e3 e4
    have hgl : s.blocks.getLast? = some (s.blocks[m]'(by omega)) := by
      rw [List.getLast?_eq_getElem?, show s.blocks.length - 1 = m by omega]; exact List.getElem?_eq_getElem _
    obtain ⟨q, hq⟩ : ∃ q, q = s.blocks[m]'(by omega) := ⟨_, rfl⟩
    rw [← hq] at e0 e1 e2 e3 e4 hgl
    have HGL := Lib.hid hgl
    have HM := Lib.hid hm
    have f0 := hx.free (k := 0) (by decide)
    have f1 := hx.free (k := 1) (by decide)
    have f2 := hx.free (k := 2) (by decide)
    have f3 := hx.free (k := 3) (by decide)
    have f4 := hx.free (k := 4) (by decide)
    have x0 := hx.cell (k := 0) rfl
    have x1 := hx.cell (k := 1) rfl
    have x2 := hx.cell (k := 2) rfl
    have x3 := hx.cell (k := 3) rfl
    have x4 := hx.cell (k := 4) rfl
    clear h h1 h0 hx hb1 hgl hm hq
    go_enter Tryd.func28, Tryd.ntmps28
    go_upto_region 1 with fail
    rw [← hW1]
    clear hW1
    go_upto_region 3 with fail
    go_region
    obtain ⟨hy, hc⟩ := rb_store HX.out (.int .u8 (q.op.toNat : Int)) (.string (bs q.opn)) (.string (bs (keptR q))) (.bool q.did) (.int .i64 (q.at_ : Int))
    obtain ⟨W2, hW2⟩ : ∃ W2, W2 = (((((W1.setCell ⟨w.heap.size, 0, none⟩ (.int .u8 (q.op.toNat : Int))).setCell ⟨w.heap.size, 1, none⟩ (.string (bs q.opn))).setCell ⟨w.heap.size, 2, none⟩ (.string (bs (keptR q)))).setCell ⟨w.heap.size, 3, none⟩ (.bool q.did)).setCell ⟨w.heap.size, 4, none⟩ (.int .i64 (q.at_ : Int))) := ⟨_, rfl⟩
    rw [← hW2] at hy hc ⊢
    have hz := hy.below (b_drew W2)
    have HB2 := Lib.hid ((HB1.out.trans (hc.below (fun x (hx : x = w.heap.size) => by omega) HB1.out.size)).trans (Below.mono (b_drew W2) (Nat.le_trans HB1.out.size hc.size)))
    have HZ := Lib.hid hz
    clear hW2 hy hc hz
    go_wp2_with fail
    have hz := HZ.out
    refine bodyPost_ret (results_cell_tmpR rfl rfl (load_rb (hz.cell (k := 0) rfl) (hz.cell (k := 1) rfl) (hz.cell (k := 2) rfl) (hz.cell (k := 3) rfl) (hz.cell (k := 4) rfl))) rfl ?_
    exact ⟨by rw [HGL.out]; rfl, HB2.out⟩
end
end Go.Proofs.YtahmacnmphjhgaaDoor
namespace Go.Proofs.YtahmacnmphjhgaaDoor
open Go.RowKit Oct
attribute [local irreducible] wpG
/-- the innermost block, or none -/
def lastR (l : List Vb) : Vb := l.getLast?.getD noVb
theorem elseBad_last (l : List Vb) : elseBad l.getLast? = (!l.getLast?.isSome || ((lastR l).op != 19 || (lastR l).did)) := by
  unfold lastR elseBad
  cases l.getLast? <;> rfl
theorem some_last (l : List Vb) : l.getLast?.isSome = !decide (l = []) := by
  cases l with
  | nil => rfl
  | cons x l => rw [List.getLast?_cons]; simp
section
variable {w : World} {base G : Nat} {tv cv bv sv ev : Value} {role : UInt8} {s : Vs}
set_option maxRecDepth 100000 in
set_option maxHeartbeats 16000000 in
theorem rAhead_any (x : VI) (nt ct : Nat) (at_ : Option Addr) (h : RG w base G (.slice at_ nt ct) cv role s bv sv ev) (hl : s.blocks.length ≤ 1000) (hnt : nt ≤ 1000) :
    Calls Tryd.prog 21 #[.pointer (some ⟨G, 0, none⟩), .agg #[.int .u8 (x.1.toNat : Int), .int .u8 (x.2.toNat : Int)]] w fun e w' => e = .returned (.int .i64 (thereV nt (inputsV role) role s.blocks x : Int)) ∧ Below w.heap.size w w' := by
  obtain ⟨p, a⟩ := x
  obtain ⟨⟨ab, cb, rfl⟩, _, _⟩ := h.slices
  obtain ⟨W1, hW1⟩ : ∃ W1, W1 = w.alloc (.cells #[.int .u8 (p.toNat : Int), .int .u8 (a.toNat : Int)] 33) := ⟨_, rfl⟩
  have hb1 : Below w.heap.size w W1 := by rw [hW1]; exact b_alloc _ _
  have hx : Blk W1 w.heap.size 33 [.int .u8 (p.toNat : Int), .int .u8 (a.toNat : Int)] := by rw [hW1]; exact Blk.new w _ _
  have HB1 := Lib.hid hb1
  have HX := Lib.hid hx
  have HH := Lib.hid h
  have H1 := Lib.hid (h.below hb1)
  have HLST := Lib.hid (fun w' (hB : Below w.heap.size w w') => rLast_any (h.below hB) hl)
  have a1 : (a.toNat : Int) < 256 := by have := a.toNat_lt; omega
  have a0 : (0 : Int) ≤ (a.toNat : Int) := by omega
  have n1 : (nt : Int) ≤ 1000 := by omega
  have aw : IntKind.i64.wrap (a.toNat : Int) = (a.toNat : Int) := by simp [IntKind.wrap, IntKind.bits, IntKind.signed]; omega
  have l1 : (s.blocks.length : Int) ≤ 1000 := by omega
  obtain ⟨q, hq⟩ : ∃ q, q = lastR s.blocks := ⟨_, rfl⟩
  obtain ⟨is_, his⟩ : ∃ is_, is_ = s.blocks.getLast?.isSome := ⟨_, rfl⟩
  have HEB := Lib.hid (elseBad_last s.blocks)
  have HSL := Lib.hid (some_last s.blocks)
  rw [← hq, ← his] at HEB
  rw [← his] at HSL
  obtain ⟨t, ht⟩ : ∃ t, t = thereV nt (inputsV role) role s.blocks (p, a) := ⟨_, rfl⟩
  rw [← ht]
  have HT := Lib.hid ht
  have HLQ := Lib.hid (show rbV (s.blocks.getLast?.getD noVb) = .agg #[.int .u8 (q.op.toNat : Int), .string (bs q.opn), .string (bs (keptR q)), .bool q.did, .int .i64 (q.at_ : Int)] by rw [hq]; rfl)
  have HIS := Lib.hid his
  clear h hb1 hx ht hq his
  go_enter Tryd.func21, Tryd.ntmps21
  go_upto_region 1 with fail
  rw [← hW1]
  clear hW1
  go_upto_region 2 with (go_at_call 28; refine (HLST.out _ HB1.out).mono ?_; rintro e w2 ⟨rfl, hB2⟩; rw [HLQ.out, ← HIS.out]; have HB2 := Lib.hid (bt HB1.out hB2); have HX2 := Lib.hid (HX.out.below hB2); clear hB2)
  obtain ⟨W3, hW3⟩ : ∃ W3, W3 = w2.alloc (.cells #[.int .u8 (q.op.toNat : Int), .string (bs q.opn), .string (bs (keptR q)), .bool q.did, .int .i64 (q.at_ : Int)] 65) := ⟨_, rfl⟩
  have hb23 : Below w2.heap.size w2 W3 := by rw [hW3]; exact b_alloc _ _
  have hy : Blk W3 w2.heap.size 65 [.int .u8 (q.op.toNat : Int), .string (bs q.opn), .string (bs (keptR q)), .bool q.did, .int .i64 (q.at_ : Int)] := by rw [hW3]; exact Blk.new w2 _ _
  rw [← hW3]
  have hb3 := bt HB2.out hb23
  have h3 := HH.out.below hb3
  have g0 := h3.cell (k := 0) rfl
  have g2 := h3.cell (k := 2) rfl
  have g4 := h3.cell (k := 4) rfl
  have hx3 := HX2.out.below hb23
  have x0 := hx3.cell (k := 0) rfl
  have x1 := hx3.cell (k := 1) rfl
  obtain ⟨C, hC⟩ : ∃ C, C = w2.heap.size := ⟨_, rfl⟩
  rw [← hC] at hy ⊢
  have y0 := hy.cell (k := 0) rfl
  have y3 := hy.cell (k := 3) rfl
  have HB3 := Lib.hid hb3
  clear hW3 hy hb23 hb3 h3 hx3 HB2 HX2 hC
  by_cases h1 : p = 1
  · have u1 : ((p.toNat : Int) == 1) = true := by rw [h1]; rfl
    by_cases hc : nt ≤ a.toNat
    · have tt : (nt : Int) ≤ (a.toNat : Int) := by omega
      have HV := Lib.hid (show t = 3 by rw [HT.out]; unfold thereV; simp [h1, hc])
      clear HT
      go_upto_region 4 with fail
      go_quiet (fail)
      go_wp2_with fail
      go_ret
      exact ⟨by rw [HV.out]; rfl, bt HB3.out (Below.drewN' _ _)⟩
    · have tt : ¬ (nt : Int) ≤ (a.toNat : Int) := by omega
      have HV := Lib.hid (show t = 0 by rw [HT.out]; unfold thereV; simp [h1, hc])
      clear HT
      go_upto_region 4 with fail
      go_quiet (fail)
      go_wp2_with fail
      go_ret
      exact ⟨by rw [HV.out]; rfl, bt HB3.out (Below.drewN' _ _)⟩
  by_cases h3 : p = 3
  · have u1 : ((p.toNat : Int) == 1) = false := u8_ne (by decide) h1
    have u3 : ((p.toNat : Int) == 3) = true := by rw [h3]; rfl
    by_cases hc : inputsV role ≤ a.toNat
    · have tt : (inputsV role : Int) ≤ (a.toNat : Int) := by omega
      have HV := Lib.hid (show t = 3 by rw [HT.out]; unfold thereV; simp [h3, hc])
      clear HT
      go_upto_region 7 with fail
      go_quiet (exact Calls.quiet_of_same (rInputs_any role _))
      go_wp2_with fail
      go_ret
      exact ⟨by rw [HV.out]; rfl, bt HB3.out (Below.drewN' _ _)⟩
    · have tt : ¬ (inputsV role : Int) ≤ (a.toNat : Int) := by omega
      have HV := Lib.hid (show t = 0 by rw [HT.out]; unfold thereV; simp [h3, hc])
      clear HT
      go_upto_region 7 with fail
      go_quiet (exact Calls.quiet_of_same (rInputs_any role _))
      go_wp2_with fail
      go_ret
      exact ⟨by rw [HV.out]; rfl, bt HB3.out (Below.drewN' _ _)⟩
  by_cases h17 : p = 17
  · have u1 : ((p.toNat : Int) == 1) = false := u8_ne (by decide) h1
    have u3 : ((p.toNat : Int) == 3) = false := u8_ne (by decide) h3
    have u17 : ((p.toNat : Int) == 17) = true := by rw [h17]; rfl
    by_cases hc : 8 ≤ a.toNat
    · have tt : (8 : Int) ≤ (a.toNat : Int) := by omega
      have HV := Lib.hid (show t = 3 by rw [HT.out]; unfold thereV; simp [h17, hc])
      clear HT
      go_wp2_with fail
      go_ret
      exact ⟨by rw [HV.out]; rfl, HB3.out⟩
    · have tt : ¬ (8 : Int) ≤ (a.toNat : Int) := by omega
      have HV := Lib.hid (show t = 0 by rw [HT.out]; unfold thereV; simp [h17, hc])
      clear HT
      go_wp2_with fail
      go_ret
      exact ⟨by rw [HV.out]; rfl, HB3.out⟩
  by_cases h18 : p = 18
  · have u1 : ((p.toNat : Int) == 1) = false := u8_ne (by decide) h1
    have u3 : ((p.toNat : Int) == 3) = false := u8_ne (by decide) h3
    have u17 : ((p.toNat : Int) == 17) = false := u8_ne (by decide) h17
    have u18 : ((p.toNat : Int) == 18) = true := by rw [h18]; rfl
    by_cases hc : 8 ≤ a.toNat
    · have tt : (8 : Int) ≤ (a.toNat : Int) := by omega
      have HV := Lib.hid (show t = 3 by rw [HT.out]; unfold thereV; simp [h18, hc])
      clear HT
      go_wp2_with fail
      go_ret
      exact ⟨by rw [HV.out]; rfl, HB3.out⟩
    · have tt : ¬ (8 : Int) ≤ (a.toNat : Int) := by omega
      have HV := Lib.hid (show t = 0 by rw [HT.out]; unfold thereV; simp [h18, hc])
      clear HT
      go_wp2_with fail
      go_ret
      exact ⟨by rw [HV.out]; rfl, HB3.out⟩
  by_cases h23 : p = 23
  · have u1 : ((p.toNat : Int) == 1) = false := u8_ne (by decide) h1
    have u3 : ((p.toNat : Int) == 3) = false := u8_ne (by decide) h3
    have u17 : ((p.toNat : Int) == 17) = false := u8_ne (by decide) h17
    have u18 : ((p.toNat : Int) == 18) = false := u8_ne (by decide) h18
    have u23 : ((p.toNat : Int) == 23) = true := by rw [h23]; rfl
    by_cases hc : role = 1
    · have tt : ((role.toNat : Int) != 1) = false := by rw [hc]; rfl
      have HV := Lib.hid (show t = 0 by rw [HT.out]; unfold thereV; simp [h23, hc])
      clear HT
      go_wp2_with fail
      go_ret
      exact ⟨by rw [HV.out]; rfl, HB3.out⟩
    · have tt : ((role.toNat : Int) != 1) = true := by rw [bne, show ((role.toNat : Int) == 1) = false from u8_ne (by decide) hc]; rfl
      have HV := Lib.hid (show t = 133 by rw [HT.out]; unfold thereV; simp [h23, hc])
      clear HT
      go_wp2_with fail
      go_ret
      exact ⟨by rw [HV.out]; rfl, HB3.out⟩
  by_cases h20 : p = 20
  · have u1 : ((p.toNat : Int) == 1) = false := u8_ne (by decide) h1
    have u3 : ((p.toNat : Int) == 3) = false := u8_ne (by decide) h3
    have u17 : ((p.toNat : Int) == 17) = false := u8_ne (by decide) h17
    have u18 : ((p.toNat : Int) == 18) = false := u8_ne (by decide) h18
    have u23 : ((p.toNat : Int) == 23) = false := u8_ne (by decide) h23
    have u20 : ((p.toNat : Int) == 20) = true := by rw [h20]; rfl
    by_cases hi : is_ = true
    · subst hi
      have HE := HEB.out
      by_cases hc : q.op = 19
      · have tt : ((q.op.toNat : Int) != 19) = false := by rw [hc]; rfl
        by_cases hd : q.did = true
        · have HW : elseBad s.blocks.getLast? = true := by rw [HE, hd]; simp
          rw [hd] at y3
          have HV := Lib.hid (show t = 132 by rw [HT.out]; unfold thereV; simp [h20, HW])
          clear HT
          go_wp2_with fail
          go_ret
          exact ⟨by rw [HV.out]; rfl, HB3.out⟩
        · have hd : q.did = false := by simpa using hd
          have HW : elseBad s.blocks.getLast? = false := by rw [HE, hd, hc]; rfl
          rw [hd] at y3
          have HV := Lib.hid (show t = 0 by rw [HT.out]; unfold thereV; simp [h20, HW])
          clear HT
          go_wp2_with fail
          go_ret
          exact ⟨by rw [HV.out]; rfl, HB3.out⟩
      · have tt : ((q.op.toNat : Int) != 19) = true := by rw [bne, show ((q.op.toNat : Int) == 19) = false from u8_ne (by decide) hc]; rfl
        have HW : elseBad s.blocks.getLast? = true := by rw [HE]; simp [hc]
        have HV := Lib.hid (show t = 132 by rw [HT.out]; unfold thereV; simp [h20, HW])
        clear HT
        go_wp2_with fail
        go_ret
        exact ⟨by rw [HV.out]; rfl, HB3.out⟩
    · have hi : is_ = false := by simpa using hi
      subst hi
      have HW : elseBad s.blocks.getLast? = true := by rw [HEB.out]; rfl
      have HV := Lib.hid (show t = 132 by rw [HT.out]; unfold thereV; simp [h20, HW])
      clear HT
      go_wp2_with fail
      go_ret
      exact ⟨by rw [HV.out]; rfl, HB3.out⟩
  by_cases h21 : p = 21
  · have u1 : ((p.toNat : Int) == 1) = false := u8_ne (by decide) h1
    have u3 : ((p.toNat : Int) == 3) = false := u8_ne (by decide) h3
    have u17 : ((p.toNat : Int) == 17) = false := u8_ne (by decide) h17
    have u18 : ((p.toNat : Int) == 18) = false := u8_ne (by decide) h18
    have u23 : ((p.toNat : Int) == 23) = false := u8_ne (by decide) h23
    have u20 : ((p.toNat : Int) == 20) = false := u8_ne (by decide) h20
    have u21 : ((p.toNat : Int) == 21) = true := by rw [h21]; rfl
    by_cases hi : s.blocks = []
    · have HI : is_ = false := by rw [HSL.out, decide_eq_true hi]; rfl
      subst HI
      have HV := Lib.hid (show t = 132 by rw [HT.out]; unfold thereV; simp [h21, hi])
      clear HT
      go_wp2_with fail
      go_ret
      exact ⟨by rw [HV.out]; rfl, HB3.out⟩
    · have HI : is_ = true := by rw [HSL.out, decide_eq_false hi]; rfl
      subst HI
      have HV := Lib.hid (show t = 0 by rw [HT.out]; unfold thereV; simp [h21, hi])
      clear HT
      go_wp2_with fail
      go_ret
      exact ⟨by rw [HV.out]; rfl, HB3.out⟩
  by_cases h19 : p = 19
  · have u1 : ((p.toNat : Int) == 1) = false := u8_ne (by decide) h1
    have u3 : ((p.toNat : Int) == 3) = false := u8_ne (by decide) h3
    have u17 : ((p.toNat : Int) == 17) = false := u8_ne (by decide) h17
    have u18 : ((p.toNat : Int) == 18) = false := u8_ne (by decide) h18
    have u23 : ((p.toNat : Int) == 23) = false := u8_ne (by decide) h23
    have u20 : ((p.toNat : Int) == 20) = false := u8_ne (by decide) h20
    have u21 : ((p.toNat : Int) == 21) = false := u8_ne (by decide) h21
    have u19 : ((p.toNat : Int) == 19) = true := by rw [h19]; rfl
    by_cases hc : 8 ≤ s.blocks.length
    · have tt : (8 : Int) ≤ (s.blocks.length : Int) := by omega
      have HV := Lib.hid (show t = 132 by rw [HT.out]; unfold thereV; simp [h19, hc])
      clear HT
      go_wp2_with fail
      go_ret
      exact ⟨by rw [HV.out]; rfl, HB3.out⟩
    · have tt : ¬ (8 : Int) ≤ (s.blocks.length : Int) := by omega
      have HV := Lib.hid (show t = 0 by rw [HT.out]; unfold thereV; simp [h19, hc])
      clear HT
      go_wp2_with fail
      go_ret
      exact ⟨by rw [HV.out]; rfl, HB3.out⟩
  by_cases h22 : p = 22
  · have u1 : ((p.toNat : Int) == 1) = false := u8_ne (by decide) h1
    have u3 : ((p.toNat : Int) == 3) = false := u8_ne (by decide) h3
    have u17 : ((p.toNat : Int) == 17) = false := u8_ne (by decide) h17
    have u18 : ((p.toNat : Int) == 18) = false := u8_ne (by decide) h18
    have u23 : ((p.toNat : Int) == 23) = false := u8_ne (by decide) h23
    have u20 : ((p.toNat : Int) == 20) = false := u8_ne (by decide) h20
    have u21 : ((p.toNat : Int) == 21) = false := u8_ne (by decide) h21
    have u19 : ((p.toNat : Int) == 19) = false := u8_ne (by decide) h19
    have u22 : ((p.toNat : Int) == 22) = true := by rw [h22]; rfl
    by_cases hc : 8 ≤ s.blocks.length
    · have tt : (8 : Int) ≤ (s.blocks.length : Int) := by omega
      have HV := Lib.hid (show t = 132 by rw [HT.out]; unfold thereV; simp [h22, hc])
      clear HT
      go_wp2_with fail
      go_ret
      exact ⟨by rw [HV.out]; rfl, HB3.out⟩
    · have tt : ¬ (8 : Int) ≤ (s.blocks.length : Int) := by omega
      have HV := Lib.hid (show t = 0 by rw [HT.out]; unfold thereV; simp [h22, hc])
      clear HT
      go_wp2_with fail
      go_ret
      exact ⟨by rw [HV.out]; rfl, HB3.out⟩
  have u1 : ((p.toNat : Int) == 1) = false := u8_ne (by decide) h1
  have u3 : ((p.toNat : Int) == 3) = false := u8_ne (by decide) h3
  have u17 : ((p.toNat : Int) == 17) = false := u8_ne (by decide) h17
  have u18 : ((p.toNat : Int) == 18) = false := u8_ne (by decide) h18
  have u23 : ((p.toNat : Int) == 23) = false := u8_ne (by decide) h23
  have u20 : ((p.toNat : Int) == 20) = false := u8_ne (by decide) h20
  have u21 : ((p.toNat : Int) == 21) = false := u8_ne (by decide) h21
  have u19 : ((p.toNat : Int) == 19) = false := u8_ne (by decide) h19
  have u22 : ((p.toNat : Int) == 22) = false := u8_ne (by decide) h22
  have HV := Lib.hid (show t = 0 by rw [HT.out]; unfold thereV; simp [h1, h3, h17, h18, h23, h20, h21, h19, h22])
  clear HT
  go_wp2_with fail
  go_ret
  exact ⟨by rw [HV.out]; rfl, HB3.out⟩
end
end Go.Proofs.YtahmacnmphjhgaaDoor
namespace Go.Proofs.YtahmacnmphjhgaaDoor
open Go.RowKit Oct
attribute [local irreducible] wpG
theorem effs_g5 : ∀ k, k < 24 → (50 ∈ (effs.getD k ([], [])).2 → (effs.getD k ([], [])).1.length = 2) := by decide
theorem eff_two (x : VI) (hx : x.1.toNat < 24) (h : 50 ∈ (effV x).2) : (effV x).1.length = 2 := by
  have hl : ∀ s : List UInt8, (replV s (regV x.2)).length = s.length := fun s => by
    unfold replV
    split
    · rename_i h; rw [h]; rcases regV_two x.2 with e | e <;> rw [e] <;> rfl
    · rfl
  unfold effV at h ⊢
  rw [hl]
  rcases replV_mem h with h | ⟨_, h⟩
  · exact effs_g5 _ hx h
  · rcases regV_two x.2 with e | e <;> (rw [e] at h; simp at h)
theorem valuesV_A {k : List UInt8} {x : VI} (h : k.length < (effV x).1.length) : valuesV k x = (130, k) := by unfold valuesV; rw [if_pos h]
theorem valuesV_B {k : List UInt8} {x : VI} (h : ¬ k.length < (effV x).1.length) (hf : fitV (effV x).1 (k.drop (k.length - (effV x).1.length)) = false) : valuesV k x = (131, k) := by unfold valuesV; rw [if_neg h, if_pos hf]
theorem valuesV_C {k : List UInt8} {x : VI} (h : ¬ k.length < (effV x).1.length) (hf : fitV (effV x).1 (k.drop (k.length - (effV x).1.length)) = true) {r : List UInt8}
    (hr : r = k.take (k.length - (effV x).1.length) ++ givesV (k.drop (k.length - (effV x).1.length)) (effV x).2) (hm : (x.1 = 22 ∧ 16 ≤ r.length) ∨ 16 < r.length) : valuesV k x = (130, k) := by
  unfold valuesV; rw [if_neg h, if_neg (by rw [hf]; decide), ← hr, if_pos hm]
theorem valuesV_D {k : List UInt8} {x : VI} (h : ¬ k.length < (effV x).1.length) (hf : fitV (effV x).1 (k.drop (k.length - (effV x).1.length)) = true) {r : List UInt8}
    (hr : r = k.take (k.length - (effV x).1.length) ++ givesV (k.drop (k.length - (effV x).1.length)) (effV x).2) (hm : ¬ ((x.1 = 22 ∧ 16 ≤ r.length) ∨ 16 < r.length)) : valuesV k x = (0, r) := by
  unfold valuesV; rw [if_neg h, if_neg (by rw [hf]; decide), ← hr, if_neg hm]
section
variable {w : World} {base G : Nat} {tv cv bv sv ev : Value} {role : UInt8} {s : Vs}
set_option maxRecDepth 100000 in
set_option maxHeartbeats 16000000 in
theorem rValues_any (x : VI) (hxo : x.1.toNat < 24) (h : RG w base G tv cv role s bv sv ev) (hl : s.kinds.length ≤ 1000) :
    Calls Tryd.prog 22 #[.pointer (some ⟨G, 0, none⟩), .agg #[.int .u8 (x.1.toNat : Int), .int .u8 (x.2.toNat : Int)]] w fun e w' => e = .returned (.int .i64 ((valuesV s.kinds x).1 : Int)) ∧ ((valuesV s.kinds x).1 = 0 → RG w' base G tv cv role { s with kinds := (valuesV s.kinds x).2 } bv sv ev) ∧ Below base w w' := by
  obtain ⟨F1, F2, F3, F4, F5, F6⟩ := eff_facts x hxo
  have F7 := eff_two x hxo
  have HEF := Lib.hid (rEffect_any x)
  have VA := Lib.hid (@valuesV_A s.kinds x)
  have VB := Lib.hid (@valuesV_B s.kinds x)
  have VC := Lib.hid (@valuesV_C s.kinds x)
  have VD := Lib.hid (@valuesV_D s.kinds x)
  obtain ⟨t, ht⟩ : ∃ t, t = (effV x).1 := ⟨_, rfl⟩
  obtain ⟨gv, hgv⟩ : ∃ gv, gv = (effV x).2 := ⟨_, rfl⟩
  obtain ⟨k, hk⟩ : ∃ k, k = s.kinds := ⟨_, rfl⟩
  rw [← ht] at HEF VA VB VC VD F1 F3 F4 F5 F7
  rw [← hgv] at HEF VC VD F2 F3 F4 F6 F7
  rw [← hk] at VA VB VC VD hl ⊢
  have HK := Lib.hid hk
  obtain ⟨W1, hW1⟩ : ∃ W1, W1 = w.alloc (.cells #[.int .u8 (x.1.toNat : Int), .int .u8 (x.2.toNat : Int)] 33) := ⟨_, rfl⟩
  have hb1 : Below w.heap.size w W1 := by rw [hW1]; exact b_alloc _ _
  have hx : Blk W1 w.heap.size 33 [.int .u8 (x.1.toNat : Int), .int .u8 (x.2.toNat : Int)] := by rw [hW1]; exact Blk.new w _ _
  have x0 := hx.cell (k := 0) rfl
  have x1 := hx.cell (k := 1) rfl
  have HX := Lib.hid hx
  have HB1 := Lib.hid hb1
  have HH := Lib.hid h
  have hGb := Nat.le_trans h.gb (Nat.le_of_lt h.blk.lt)
  have k1 : (k.length : Int) ≤ 1000 := by omega
  have t1 : (t.length : Int) ≤ 3 := by omega
  have g1 : (gv.length : Int) ≤ 2 := by omega
  have HF2 := Lib.hid F2
  have HF3 := Lib.hid F3
  have HF7 := Lib.hid F7
  clear h hb1 hx ht hgv hk F1 F2 F3 F4 F7
  go_enter Tryd.func22, Tryd.ntmps22
  go_upto_region 1 with fail
  rw [← hW1]
  clear hW1
  go_upto_region 2 with (go_at_call 30; refine (HEF.out _).mono ?_; rintro e w2 ⟨rfl, hB2⟩; have HB2 := Lib.hid (bt HB1.out hB2); have HC2 := Lib.hid hB2; clear hB2)
  have h2 := HH.out.below HB2.out
  have g3 := h2.cell (k := 3) rfl
  rw [← HK.out] at g3
  have H2 := Lib.hid h2
  clear h2 x0 x1
  by_cases hA : k.length < t.length
  · have tt : (k.length : Int) < (t.length : Int) := by omega
    have HV := Lib.hid (VA.out hA)
    go_wp2_with fail
    go_ret
    exact ⟨by rw [HV.out]; rfl, (fun e => by rw [HV.out] at e; cases e), HB2.out.mono hGb⟩
  · have tt : ¬ (k.length : Int) < (t.length : Int) := by omega
    obtain ⟨n, hn⟩ : ∃ n, n = k.length - t.length := ⟨_, rfl⟩
    have hn1 : (k.length : Int) - (t.length : Int) = (n : Int) := by omega
    have hn2 : (n : Int) ≤ (k.length : Int) := by omega
    have hn3 : (0 : Int) ≤ (n : Int) := by omega
    have VB := Lib.hid (VB.out hA)
    have VC := Lib.hid (@(VC.out hA))
    have VD := Lib.hid (@(VD.out hA))
    rw [← hn] at VB VC VD
    have hlen : (k.drop n).length = t.length := by rw [List.length_drop]; omega
    clear hA hn VA
    go_upto_region 4 with fail
    go_quiet (fail)
    obtain ⟨w3, hw3⟩ : ∃ W, W = w2.drewN nq := ⟨_, rfl⟩
    rw [← hw3]
    have hBq : Below w2.heap.size w2 w3 := by rw [hw3]; exact Below.drewN' _ _
    have HB3 := Lib.hid (bt HB2.out hBq)
    have HC3 := Lib.hid (bt HC2.out hBq)
    clear hw3 hBq nq g3
    obtain ⟨top, htop⟩ : ∃ top, top = k.drop n := ⟨_, rfl⟩
    obtain ⟨r0, hr0⟩ : ∃ r0, r0 = k.take n := ⟨_, rfl⟩
    have hr0l : r0.length ≤ 1000 := by rw [hr0, List.length_take]; omega
    rw [← htop] at hlen VB VC VD
    rw [← hr0] at VC VD
    have HTOP := Lib.hid htop
    have HR0 := Lib.hid hr0
    have HLEN := Lib.hid hlen
    have tl : (top.length : Int) = (t.length : Int) := by omega
    have HB3w := Lib.hid HB3.out.size
    clear htop hr0 hlen
    go_wp2_with fail
    rw [← HTOP.out, ← HR0.out]
    go_loopw [9] (fun v wr => ∃ i : Nat, v = .int .i64 (i : Int) ∧ i ≤ t.length ∧ Hid (∀ j (hj : j < t.length) (hj' : j < top.length), j < i → t[j] = 63 ∨ t[j] = top[j]) ∧ Hid (Below W1.heap.size W1 wr)) (fun v _ => t.length - (intOf v).toNat)
    case atStart => exact ⟨0, rfl, Nat.zero_le _, fun j _ _ h => absurd h (by omega), HC3.out⟩
    case round =>
      obtain ⟨i, rfl, hi, HFI, HBr⟩ := hrel
      by_cases h0 : i < t.length
      · have h0' : i < top.length := by rw [HLEN.out]; exact h0
        have kk0 : (0 : Int) ≤ (i : Int) := by omega
        have kk1 : (i : Int) < (t.length : Int) := by omega
        have kk2 : (i : Int) < (top.length : Int) := by omega
        by_cases h63 : t[i] = 63
        · have e1 : ((t[i].toNat : Int) != 63) = false := by rw [h63]; rfl
          have HN := Lib.hid (show ∀ j (hj : j < t.length) (hj' : j < top.length), j < i + 1 → t[j] = 63 ∨ t[j] = top[j] from fun j hj hj' hlt => by
            by_cases e : j = i
            · subst e; exact .inl h63
            · exact HFI.out j hj hj' (by omega))
          clear h63 HFI
          go_upto_region 8 with fail
          go_quiet (fail)
          go_wp2_with fail
          go_roundw
          case rel => exact ⟨i + 1, by go_num, by omega, HN.out, bt HBr.out (Below.drewN' _ _)⟩
          case measure => simp [intOf]; omega
        · have e1 : ((t[i].toNat : Int) != 63) = true := by rw [bne, show ((t[i].toNat : Int) == 63) = false from u8_ne (by decide) h63]; rfl
          by_cases hq : t[i] = top[i]
          · have e2 : ((t[i].toNat : Int) != (top[i].toNat : Int)) = false := by rw [hq]; simp
            have HN := Lib.hid (show ∀ j (hj : j < t.length) (hj' : j < top.length), j < i + 1 → t[j] = 63 ∨ t[j] = top[j] from fun j hj hj' hlt => by
              by_cases e : j = i
              · subst e; exact .inr hq
              · exact HFI.out j hj hj' (by omega))
            clear h63 hq HFI
            go_upto_region 8 with fail
            go_quiet (fail)
            go_wp2_with fail
            go_roundw
            case rel => exact ⟨i + 1, by go_num, by omega, HN.out, bt HBr.out (Below.drewN' _ _)⟩
            case measure => simp [intOf]; omega
          · have e2 : ((t[i].toNat : Int) != (top[i].toNat : Int)) = true := by rw [bne_iff_ne]; intro e; exact hq (UInt8.toNat_inj.1 (by omega))
            have HV := Lib.hid (VB.out (by
              cases hft : fitV t top with
              | false => rfl
              | true =>
                rcases (fitV_iff t top (by rw [HLEN.out]; exact Nat.le_refl _)).1 hft i h0 h0' with e | e
                · exact absurd e h63
                · exact absurd e hq))
            clear h63 hq HFI
            go_upto_region 8 with fail
            go_quiet (fail)
            go_wp2_with fail
            go_ret
            exact ⟨by rw [HV.out]; rfl, (fun e => by rw [HV.out] at e; cases e), (bt (bt HB1.out HBr.out) (Below.drewN' _ _)).mono hGb⟩
      · obtain rfl : i = t.length := by omega
        have hfit : fitV t top = true := (fitV_iff t top (by rw [HLEN.out]; exact Nat.le_refl _)).2 (fun j hj hj' => HFI.out j hj hj' hj)
        have HC := Lib.hid (VC.out hfit rfl)
        have HD := Lib.hid (VD.out hfit rfl)
        have e0 : ¬ (t.length : Int) < (t.length : Int) := by omega
        clear hfit HFI h0 VB VC VD
        go_wp2_with fail
        go_loop [7, 10] (fun vr vi => ∃ (i : Nat) (r : List UInt8), vr = .string (bs r) ∧ vi = .int .i64 (i : Int) ∧ i ≤ gv.length ∧ r.length ≤ 1000 + 3 * i ∧ Hid (r = r0 ++ givesV top (gv.take i))) (fun _ vi => gv.length - (intOf vi).toNat)
        case atStart => exact ⟨0, r0, rfl, rfl, Nat.zero_le _, by omega, by unfold Hid; simp [givesV]⟩
        case round =>
          obtain ⟨i, r, rfl, rfl, hi, hrl, HRI⟩ := hrel
          by_cases h0 : i < gv.length
          · have kk0 : (0 : Int) ≤ (i : Int) := by omega
            have kk1 : (i : Int) < (gv.length : Int) := by omega
            have HS := Lib.hid (givesV_succ (top := top) h0)
            have hmem := List.getElem_mem h0
            have hr1 : (r.length : Int) ≤ 1006 := by omega
            have tp3 : (top.length : Int) ≤ 3 := by omega
            by_cases h49 : gv[i] = 49
            · have e1 : ((gv[i].toNat : Int) == 49) = true := by rw [h49]; rfl
              have hp1 : 1 ≤ top.length := by rw [HLEN.out]; exact HF3.out (h49 ▸ hmem)
              have hp2 : (1 : Int) ≤ (top.length : Int) := by omega
              have HQ := Lib.hid (show r0 ++ givesV top (gv.take (i + 1)) = r ++ top.take 1 by rw [HS.out, if_pos h49, ← List.append_assoc, HRI.out])
              have hlt : (top.take 1).length = 1 := by rw [List.length_take]; omega
              clear h49 hmem
              go_wp2_with fail
              go_round
              case rel => exact ⟨i + 1, r ++ top.take 1, rfl, by go_num, by omega, by rw [List.length_append, hlt]; omega, HQ.out.symm⟩
              case measure => simp [intOf]; omega
            · have e1 : ((gv[i].toNat : Int) == 49) = false := u8_ne (by decide) h49
              by_cases h50 : gv[i] = 50
              · have e2 : ((gv[i].toNat : Int) == 50) = true := by rw [h50]; rfl
                have hp1 : top.length = 2 := by rw [HLEN.out]; exact HF7.out (h50 ▸ hmem)
                have hp2 : (top.length : Int) = 2 := by omega
                have hdl : (top.tail.take 1).length = 1 := by rw [List.length_take, List.length_tail]; omega
                have HQ := Lib.hid (show r0 ++ givesV top (gv.take (i + 1)) = r ++ top.tail.take 1 by rw [HS.out, if_neg h49, if_pos h50, ← List.append_assoc, ← HRI.out, List.drop_one])
                clear h49 h50 hmem
                go_wp2_with fail
                go_round
                case rel => exact ⟨i + 1, r ++ top.tail.take 1, rfl, by go_num, by omega, by rw [List.length_append, hdl]; omega, HQ.out.symm⟩
                case measure => simp [intOf]; omega
              · have e2 : ((gv[i].toNat : Int) == 50) = false := u8_ne (by decide) h50
                have HQ := Lib.hid (show r0 ++ givesV top (gv.take (i + 1)) = r ++ [gv[i]] by rw [HS.out, if_neg h49, if_neg h50, ← List.append_assoc, ← HRI.out])
                have hi1 : (0 : Int) ≤ (i : Int) + 1 := by omega
                have hi2 : (i : Int) + 1 ≤ (gv.length : Int) := by omega
                have hi3 : (i : Int) ≤ (i : Int) + 1 := by omega
                clear h49 h50 hmem
                have hd1 : (gv.drop i).take 1 = [gv[i]] := by rw [List.drop_eq_getElem_cons h0]; rfl
                have HD1 := Lib.hid hd1
                clear hd1
                go_wp2_with fail
                rw [HD1.out]
                refine ⟨⟨i + 1, r ++ [gv[i]], rfl, by go_num, by omega, by rw [List.length_append, List.length_singleton]; omega, HQ.out.symm⟩, by simp [intOf]; omega⟩
          · obtain rfl : i = gv.length := by omega
            have hrr := HRI.out
            rw [List.take_length] at hrr
            rw [← hrr] at HC HD
            have hbw := bt HB1.out HBr.out
            have hr6 := HH.out.below hbw
            have f3 := hr6.free (k := 3) (by decide)
            have c3 := hr6.cell (k := 3) rfl
            have hxr := HX.out.below HBr.out
            have x0 := hxr.cell (k := 0) rfl
            have r6 : (r.length : Int) ≤ 1006 := by omega
            have e9 : ¬ (gv.length : Int) < (gv.length : Int) := by omega
            have HR6 := Lib.hid hr6
            have HBW := Lib.hid hbw
            clear hrr h0 HRI hxr hr6 hbw
            by_cases h22 : x.1 = 22
            · have u22 : ((x.1.toNat : Int) == 22) = true := by rw [h22]; rfl
              by_cases hm : 16 ≤ r.length
              · have hm1 : (16 : Int) < (r.length : Int) + 1 := by omega
                have HV := Lib.hid (HC.out (.inl ⟨h22, hm⟩))
                clear h22 hm
                go_wp2_with fail
                go_ret
                exact ⟨by rw [HV.out]; rfl, (fun e => by rw [HV.out] at e; cases e), HBW.out.mono hGb⟩
              · have hm1 : ¬ (16 : Int) < (r.length : Int) + 1 := by omega
                have HV := Lib.hid (HD.out (by rintro (h | h) <;> omega))
                clear h22 hm
                go_wp2_with fail
                go_ret
                have hk := HR6.out.kinds r
                exact ⟨by rw [HV.out]; rfl, (fun _ => by rw [HV.out]; exact hk.1), (HBW.out.mono hGb).trans hk.2⟩
            · have u22 : ((x.1.toNat : Int) == 22) = false := u8_ne (by decide) h22
              by_cases hm : 16 < r.length
              · have hm1 : (16 : Int) < (r.length : Int) := by omega
                have HV := Lib.hid (HC.out (.inr hm))
                clear h22 hm
                go_wp2_with fail
                go_ret
                exact ⟨by rw [HV.out]; rfl, (fun e => by rw [HV.out] at e; cases e), HBW.out.mono hGb⟩
              · have hm1 : ¬ (16 : Int) < (r.length : Int) := by omega
                have HV := Lib.hid (HD.out (by rintro (h | h); exact h22 h.1; exact hm h))
                clear h22 hm
                go_wp2_with fail
                go_ret
                have hk := HR6.out.kinds r
                exact ⟨by rw [HV.out]; rfl, (fun _ => by rw [HV.out]; exact hk.1), (HBW.out.mono hGb).trans hk.2⟩
end
end Go.Proofs.YtahmacnmphjhgaaDoor
