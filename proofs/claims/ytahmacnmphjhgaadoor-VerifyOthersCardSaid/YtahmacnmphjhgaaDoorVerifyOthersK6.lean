/- Lemmas for VerifyOthers, part 6: walks of the functions that it reaches, and the plain laws behind them. -/
import Derived.ProofKit
import Derived.OpenShut
import Derived.ShutString
import Derived.ChangeOld
import Derived.SizedLaws
import Derived.SliceStrings
import Derived.Test.YtahmacnmphjhgaaDoorVerifyOthersK5
set_option linter.unusedSimpArgs false
set_option linter.unusedVariables false
namespace Go.Proofs.YtahmacnmphjhgaaDoor
open Go.RowKit Oct
attribute [local irreducible] wpG
/-- a program that came in -/
structure ProgR (w : World) (tv cv : Value) (texts : List (List UInt8)) (code : List VI) : Prop where
  t : recS.Row w tv texts
  c : recIns.Row w cv code
  lt : texts.length ≤ 140737488355328
  lc : code.length ≤ 140737488355328
  m : ∀ s ∈ texts, s.length ≤ 140737488355328
theorem ProgR.below {w w' : World} {tv cv : Value} {texts : List (List UInt8)} {code : List VI} (h : ProgR w tv cv texts code) (hB : Below w.heap.size w w') : ProgR w' tv cv texts code := ⟨h.t.below hB, h.c.below hB, h.lt, h.lc, h.m⟩
theorem ProgR.large {w : World} {tv cv : Value} {texts : List (List UInt8)} {code : List VI} (h : ProgR w tv cv texts code) :
    Calls Tryd.prog 7 #[.agg #[tv, cv]] w fun e w' => e = .returned (.bool (largeV texts code)) ∧ Below w.heap.size w w' := Large_any tv cv texts code w h.t h.c h.lt h.lc h.m
theorem ProgR.ask {w : World} {tv cv : Value} {texts : List (List UInt8)} {code : List VI} (h : ProgR w tv cv texts code) (hl : largeV texts code = false) (hE : EffM w) (hg : 0 < w.heap.size) : AskV w tv cv texts code := by
  obtain ⟨h1, h2, h3⟩ := largeV_no hl
  exact ⟨h.t, h.c, by omega, by omega, fun s hs => by have := h3 s hs; omega, hE, hg⟩
theorem ProgR.sl {w : World} {tv cv : Value} {texts : List (List UInt8)} {code : List VI} (h : ProgR w tv cv texts code) : ∃ a1 c1 a2 c2, tv = .slice a1 texts.length c1 ∧ cv = .slice a2 code.length c2 := by
  obtain ⟨a1, c1, h1, -, -⟩ := recS_open h.t
  obtain ⟨a2, c2, h2, -, -⟩ := recIns_open h.c
  exact ⟨a1, c1, a2, c2, h1, h2⟩
/-- append(s, x...), and what it leaves alone -/
theorem Rec.appendNV {α : Type} {ops : Array Oper} {rest : List Oper} {o : Oper} {a : Act} {Q : Exit → Act → World → Prop} (R : Rec α) (w : World) (hgd : o.guard = none) (s x : Operand) (t : TypeId)
    (ho : o.op = .call { callee := .builtin .append, args := #[s, x], argTypes := #[t, t] }) (ht : Tryd.prog.underlying t = some (.slice R.e))
    (base : Nat) (v : Value) (xs : List α) (hown : R.Own w base v xs) (hs : a.eval s = v)
    (vx : Value) (ys : List α) (hr : R.Row w vx ys) (hx : a.eval x = vx) (hbytes : (xs.length + ys.length) * R.bytes ≤ 140737488355328) (hbase : base ≤ w.heap.size)
    (h : ∀ A C w', R.Own w' base (.slice A (xs ++ ys).length C) (xs ++ ys) → Chg (fun k => v.ownBlock = some k) w w' → wpList Tryd.prog ops Q rest (a.put o.dst (.slice A (xs ++ ys).length C)) w') : wpList Tryd.prog ops Q (o :: rest) a w := by
  obtain ⟨i, hi, hz, hi1, hi2⟩ := info_parts R.info
  have hn : xs.length + ys.length ≤ (xs.length + ys.length) * R.bytes := Nat.le_mul_of_pos_right _ R.bpos
  obtain ⟨⟨ax, cap, rfl, hnone, hc⟩, _⟩ := hr
  cases ax with
  | none =>
    obtain ⟨h0, rfl⟩ := hnone rfl
    obtain rfl : ys = [] := List.eq_nil_of_length_eq_zero h0
    refine wpList_append_own_none hgd s x t ho base R.e i R.n ht hi v xs.length (R.cells xs) hs hown hx ?_
    obtain ⟨A, C, rfl⟩ := owns_slice hown
    have := h A C w (by rw [List.append_nil]; exact hown) (Chg.refl _ _)
    rw [List.append_nil] at this
    exact this
  | some ad =>
    refine wpList_append_own _ hgd s x t ho base R.e i R.z R.n R.bytes ht hi hz hi1 hi2 R.zs R.pos v xs.length (R.cells xs) hs hown ad ys.length cap (R.cells ys) hx (R.cells_length ys) ?_ (R.cells_one ys) (by unfold maxLen; omega) hbytes hbase ?_
    · intro j u hj
      obtain ⟨b, off, ha, hu⟩ := hc j u hj
      cases ha
      rw [Addr.add_lit]; exact hu
    · intro v' w' h2 h3 _
      have h2' : R.Own w' base v' (xs ++ ys) := by unfold Rec.Own; rw [R.cells_append, List.length_append]; exact h2
      have hB : Below base w w' := (Below.refl base w).grown h3 hbase (fun k hk => (Rec.Own.ltV hown k hk).1)
      obtain ⟨A, C, rfl⟩ := owns_slice h2'
      exact h A C w' h2' ⟨hB.os, hB.tape, hB.output, hB.size, fun j hj hne => h3.block j hj (fun e => hne e.symm)⟩
theorem own_apart {α β : Type} {R : Rec α} {R' : Rec β} {w : World} {b1 b2 : Nat} {v v' : Value} {l : List α} {l' : List β} (h : R.Own w b1 v l) (h' : R'.Own w b2 v' l') (ht : R.e ≠ R'.e) : ∀ k, v.ownBlock = some k → ¬ v'.ownBlock = some k := by
  rintro k hk hk'
  rcases h.2 with ⟨rfl, _⟩ | ⟨g, cap, cur, rfl, _, hh, _⟩
  · cases hk
  rcases h'.2 with ⟨rfl, _⟩ | ⟨g', cap', cur', rfl, _, hh', _⟩
  · cases hk'
  obtain rfl : g = k := by injection hk
  obtain rfl : g' = g := by injection hk'
  rw [hh] at hh'
  injection hh' with e
  injection e with _ e2 _
  exact ht e2
theorem ProgR.codeAt {w : World} {tv : Value} {a : Option Addr} {n c : Nat} {texts : List (List UInt8)} {code : List VI} (h : ProgR w tv (.slice a n c) texts code) {k : Nat} (hk : k < code.length) :
    ∃ b off, a = some ⟨b, off, none⟩ ∧ w.cell? ⟨b, off + k * 2, none⟩ = some (.int .u8 (code[k].1.toNat : Int)) ∧ w.cell? ⟨b, off + k * 2 + 1, none⟩ = some (.int .u8 (code[k].2.toNat : Int)) := by
  obtain ⟨a', c', hv, -, hc⟩ := recIns_open h.c
  injection hv with e1 e2 e3
  subst e1
  exact hc k hk
theorem u8_shift (a : UInt8) (n : Nat) : IntKind.u8.wrap ((a.toNat : Int) + IntKind.u8.wrap (n : Int)) = ((a + UInt8.ofNat n).toNat : Int) := by
  simp [IntKind.wrap, IntKind.bits, IntKind.signed, UInt8.toNat_add, UInt8.toNat_ofNat']

set_option maxRecDepth 100000 in
set_option maxHeartbeats 16000000 in
theorem VerifyStraight_any (tpv cpv : Value) (tp : List (List UInt8)) (cp : List VI) (tqv cqv : Value) (tq : List (List UInt8)) (cq : List VI) (w : World) (hp : ProgR w tpv cpv tp cp) (hq : ProgR w tqv cqv tq cq) (hE : EffM w) (hg : 0 < w.heap.size) :
    Calls Tryd.prog 3 #[.agg #[tpv, cpv], .agg #[tqv, cqv]] w fun e w' => e = .returned (.bool true) ∧ Below w.heap.size w w' := by
  obtain ⟨p1, p2, p3, p4, rfl, rfl⟩ := hp.sl
  obtain ⟨q1, q2, q3, q4, rfl, rfl⟩ := hq.sl
  have HP := Lib.hid (fun w' (hB : Below w.heap.size w w') => hp.below hB)
  have HQ := Lib.hid (fun w' (hB : Below w.heap.size w w') => hq.below hB)
  have HAL := Lib.hid (fun w' (hB : Below w.heap.size w w') => alive13_any w' (hE.below hB hg) (Nat.lt_of_lt_of_le hg hB.size))
  have HEF := Lib.hid (fun w' (hB : Below w.heap.size w w') => And.intro (hE.below hB hg) (Nat.lt_of_lt_of_le hg hB.size))
  have l1 : (tp.length : Int) ≤ 140737488355328 := by have := hp.lt; omega
  have l2 : (cp.length : Int) ≤ 140737488355328 := by have := hp.lc; omega
  have l3 : (tq.length : Int) ≤ 140737488355328 := by have := hq.lt; omega
  have l4 : (cq.length : Int) ≤ 140737488355328 := by have := hq.lc; omega
  obtain ⟨W1, hW1⟩ : ∃ W1, W1 = (w.alloc (.cells #[.slice p1 tp.length p2, .slice p3 cp.length p4] 25)).alloc (.cells #[.slice q1 tq.length q2, .slice q3 cq.length q4] 25) := ⟨_, rfl⟩
  have hb1 : Below w.heap.size w W1 := by rw [hW1]; exact bt (b_alloc _ _) (b_alloc _ _)
  have hs1 : W1.heap.size = w.heap.size + 1 + 1 := by rw [hW1, size_alV, size_alV]
  have hx : Blk W1 w.heap.size 25 [.slice p1 tp.length p2, .slice p3 cp.length p4] := by rw [hW1]; exact (Blk.new w _ _).below (b_alloc _ _)
  have hy : Blk W1 (w.heap.size + 1) 25 [.slice q1 tq.length q2, .slice q3 cq.length q4] := by
    rw [hW1]
    have := Blk.new (w.alloc (.cells #[.slice p1 tp.length p2, .slice p3 cp.length p4] 25)) [.slice q1 tq.length q2, .slice q3 cq.length q4] 25
    rw [size_alV] at this
    exact this
  have HX := Lib.hid hx
  have HY := Lib.hid hy
  have HB1 := Lib.hid hb1
  have x0 := hx.cell (k := 0) rfl
  have x1 := hx.cell (k := 1) rfl
  have y0 := hy.cell (k := 0) rfl
  have y1 := hy.cell (k := 1) rfl
  clear hp hq hE hg hb1 hs1 hx hy
  by_cases hlp : largeV tp cp = true
  · have HLP := Lib.hid hlp
    clear hlp
    go_enter Tryd.func3, Tryd.ntmps3
    go_upto_region 1 with fail
    rw [← hW1]
    clear hW1
    go_wp2_with fail
    refine (HP.out _ HB1.out).large.mono ?_
    rintro e w2 ⟨rfl, hB⟩
    have HB2 := Lib.hid (bt HB1.out hB)
    have x0 := Below.keeps hB x0
    have x1 := Below.keeps hB x1
    have y0 := Below.keeps hB y0
    have y1 := Below.keeps hB y1
    have HC2 := Lib.hid hB
    clear hB
    rw [HLP.out]
    go_wp2_with fail
    refine (HAL.out _ HB2.out).mono ?_
    rintro e wz ⟨rfl, hB⟩
    have HZ := Lib.hid (bt HB2.out hB)
    clear hB
    go_wp2_with fail
    go_ret
    exact ⟨rfl, HZ.out⟩
  · have hlp : largeV tp cp = false := by simpa using hlp
    have HLP := Lib.hid hlp
    clear hlp
    by_cases hlq : largeV tq cq = true
    · have HLQ := Lib.hid hlq
      clear hlq
      go_enter Tryd.func3, Tryd.ntmps3
      go_upto_region 1 with fail
      rw [← hW1]
      clear hW1
      go_wp2_with fail
      refine (HP.out _ HB1.out).large.mono ?_
      rintro e w2 ⟨rfl, hB⟩
      have HB2 := Lib.hid (bt HB1.out hB)
      have x0 := Below.keeps hB x0
      have x1 := Below.keeps hB x1
      have y0 := Below.keeps hB y0
      have y1 := Below.keeps hB y1
      have HC2 := Lib.hid hB
      clear hB
      rw [HLP.out]
      go_wp2_with fail
      refine (HQ.out _ HB2.out).large.mono ?_
      rintro e w3 ⟨rfl, hB⟩
      have HB3 := Lib.hid (bt HB2.out hB)
      have x0 := Below.keeps hB x0
      have x1 := Below.keeps hB x1
      have y0 := Below.keeps hB y0
      have y1 := Below.keeps hB y1
      have HC3 := Lib.hid (bt HC2.out hB)
      clear hB
      rw [HLQ.out]
      go_wp2_with fail
      refine (HAL.out _ HB3.out).mono ?_
      rintro e wz ⟨rfl, hB⟩
      have HZ := Lib.hid (bt HB3.out hB)
      clear hB
      go_wp2_with fail
      go_ret
      exact ⟨rfl, HZ.out⟩
    · have hlq : largeV tq cq = false := by simpa using hlq
      have HLQ := Lib.hid hlq
      clear hlq
      by_cases hc : cp.length + cq.length ≤ 256
      · have s1 : ¬ (256 : Int) < (cp.length : Int) + (cq.length : Int) := by omega
        by_cases ht : tp.length + tq.length ≤ 16
        · have s2 : ¬ (16 : Int) < (tp.length : Int) + (tq.length : Int) := by omega
          go_enter Tryd.func3, Tryd.ntmps3
          go_upto_region 1 with fail
          rw [← hW1]
          clear hW1
          go_wp2_with fail
          refine (HP.out _ HB1.out).large.mono ?_
          rintro e w2 ⟨rfl, hB⟩
          have HB2 := Lib.hid (bt HB1.out hB)
          have x0 := Below.keeps hB x0
          have x1 := Below.keeps hB x1
          have y0 := Below.keeps hB y0
          have y1 := Below.keeps hB y1
          have HC2 := Lib.hid hB
          clear hB
          rw [HLP.out]
          go_wp2_with fail
          refine (HQ.out _ HB2.out).large.mono ?_
          rintro e w3 ⟨rfl, hB⟩
          have HB3 := Lib.hid (bt HB2.out hB)
          have x0 := Below.keeps hB x0
          have x1 := Below.keeps hB x1
          have y0 := Below.keeps hB y0
          have y1 := Below.keeps hB y1
          have HC3 := Lib.hid (bt HC2.out hB)
          clear hB
          rw [HLQ.out]
          have HSC := Lib.hid hc
          have HST := Lib.hid ht
          have HA1 := Lib.hid (fun w' (hB : Below w.heap.size w w') => (HP.out w' hB).ask HLP.out (HEF.out w' hB).1 (HEF.out w' hB).2)
          have HA2 := Lib.hid (fun w' (hB : Below w.heap.size w w') => (HQ.out w' hB).ask HLQ.out (HEF.out w' hB).1 (HEF.out w' hB).2)
          obtain ⟨Tp, hTp⟩ : ∃ T, T = throughV tp cp 1 := ⟨_, rfl⟩
          obtain ⟨Tq, hTq⟩ : ∃ T, T = throughV tq cq 1 := ⟨_, rfl⟩
          have HTP := Lib.hid hTp
          have HTQ := Lib.hid hTq
          have HK1 := Lib.hid (fun w' (hB : Below w.heap.size w w') => aliveCheck _ _ tp cp 1 w' Tp.1 Tp.2.1 1 rfl (by rw [hTp]; exact ⟨rfl, rfl⟩) (HA1.out w' hB))
          have HK2 := Lib.hid (fun w' (hB : Below w.heap.size w w') => aliveCheck _ _ tq cq 1 w' Tq.1 Tq.2.1 1 rfl (by rw [hTq]; exact ⟨rfl, rfl⟩) (HA2.out w' hB))
          clear hTp hTq hc ht
          go_wp2_with fail
          refine (HK1.out _ HB3.out).mono ?_
          rintro e w4 ⟨rfl, hB⟩
          have HB4 := Lib.hid (bt HB3.out hB)
          have HC4 := Lib.hid (bt HC3.out hB)
          have x0 := Below.keeps hB x0
          have x1 := Below.keeps hB x1
          have y0 := Below.keeps hB y0
          have y1 := Below.keeps hB y1
          clear hB HB2 HB3 HC2 HC3
          go_wp2_with fail
          refine (HK2.out _ HB4.out).mono ?_
          rintro e w5 ⟨rfl, hB⟩
          have HB5 := Lib.hid (bt HB4.out hB)
          have HC5 := Lib.hid (bt HC4.out hB)
          have x0 := Below.keeps hB x0
          have x1 := Below.keeps hB x1
          have y0 := Below.keeps hB y0
          have y1 := Below.keeps hB y1
          clear hB HB4 HC4
          go_wp2_with fail
          refine (Copy_any _ _ tp cp w5 (HP.out w5 HB5.out).t (HP.out w5 HB5.out).c (by have := HST.out; omega) (by have := HSC.out; omega)).mono ?_
          rintro e w6 ⟨⟨tv6, cv6, rfl, ho1, ho2⟩, hB⟩
          obtain ⟨a6, c6, rfl⟩ := owns_slice ho1
          obtain ⟨a7, c7, rfl⟩ := owns_slice ho2
          obtain ⟨base, hbase⟩ : ∃ base, base = w5.heap.size := ⟨_, rfl⟩
          rw [← hbase] at ho1 ho2
          have hbs : base ≤ w6.heap.size := by rw [hbase]; exact hB.size
          have hwb : w.heap.size ≤ base := by rw [hbase]; exact HB5.out.size
          have HB6 := Lib.hid (bt HB5.out hB)
          have HC6 := Lib.hid (bt HC5.out hB)
          have hb15 : W1.heap.size ≤ base := by rw [hbase]; exact HC5.out.size
          have x0 := Below.keeps hB x0
          have x1 := Below.keeps hB x1
          have y0 := Below.keeps hB y0
          have y1 := Below.keeps hB y1
          clear hB hbase HB5 HC5
          obtain ⟨C, hC⟩ : ∃ C, C = w6.heap.size := ⟨_, rfl⟩
          obtain ⟨w7, hw7⟩ : ∃ w7, w7 = w6.alloc (.cells #[.slice a6 tp.length c6, .slice a7 cp.length c7] 25) := ⟨_, rfl⟩
          have hblk : Blk w7 C 25 [.slice a6 tp.length c6, .slice a7 cp.length c7] := by rw [hw7, hC]; exact Blk.new w6 _ _
          have hb67 : Below w6.heap.size w6 w7 := by rw [hw7]; exact b_alloc _ _
          have x0 := Below.keeps hb67 x0
          have x1 := Below.keeps hb67 x1
          have y0 := Below.keeps hb67 y0
          have y1 := Below.keeps hb67 y1
          have z0 := hblk.cell (k := 0) rfl
          have z1 := hblk.cell (k := 1) rfl
          have hbC : base ≤ C := by rw [hC]; exact hbs
          have HO1 := Lib.hid (ho1.below hb67)
          have HO2 := Lib.hid (ho2.below hb67)
          have HB7 := Lib.hid (bt HB6.out hb67)
          have HC7 := Lib.hid (bt HC6.out hb67)
          have hbs7 : base ≤ w7.heap.size := Nat.le_trans hbs hb67.size
          have HBL := Lib.hid hblk
          clear ho1 ho2 hblk hb67 HB6 HC6
          go_upto_region 6 with fail
          rw [← hw7, ← hC]
          clear hw7 hC
          go_wp2_with (at_builtin; go_must (refine recS.appendNV _ rfl _ _ 22 rfl Tryd.underlying22 base _ tp HO1.out rfl _ tq (HQ.out _ HB7.out).t rfl (by show (tp.length + tq.length) * 16 ≤ _; have := HST.out; omega) hbs7 ?_); go_must (intro A8 C8 w8 ho8 hc8; have hn8 := own_neV HO1.out HBL.out (by decide); have hbl8 : Blk w8 C 25 _ := hc8.at HBL.out (fun hk => hn8 _ hk rfl); have z0 := hbl8.cell (k := 0) rfl; have z1 := hbl8.cell (k := 1) rfl; have f0 := hbl8.free (k := 0) (by simp); rw [List.length_append] at ho8; have H8 := Lib.hid (And.intro ho8 (And.intro hc8 hbl8)); clear ho8 hc8 hn8 hbl8))
          obtain ⟨w9, hw9⟩ : ∃ w9, w9 = w8.setCell ⟨C, 0, none⟩ (.slice A8 (tp.length + tq.length) C8) := ⟨_, rfl⟩
          have hc9 : Chg (fun x => x = C) w8 w9 := by rw [hw9]; exact Chg.setCell _ _ _ rfl
          have hbl9 : Blk w9 C 25 [.slice A8 (tp.length + tq.length) C8, .slice a7 cp.length c7] := by rw [hw9]; exact H8.out.2.2.set 0 _
          have ho9 : recS.Own w9 base (.slice A8 (tp.length + tq.length) C8) (tp ++ tq) := H8.out.1.chgV hc9 (own_neV H8.out.1 H8.out.2.2 (by decide))
          have hoc9 : recIns.Own w9 base (.slice a7 cp.length c7) cp := by
            refine Rec.Own.chgV (Rec.Own.chgV HO2.out H8.out.2.1 (own_apart HO2.out HO1.out (by decide))) hc9 (own_neV (Rec.Own.chgV HO2.out H8.out.2.1 (own_apart HO2.out HO1.out (by decide))) H8.out.2.2 (by decide))
          have hb79 : Below base w7 w9 := (H8.out.2.1.below (fun k hk => (Rec.Own.ltV HO1.out k hk).1) hbs7).trans (hc9.below (fun x (hx : x = C) => by omega) (Nat.le_trans hbs7 H8.out.2.1.size))
          rw [← hw9]
          have HBR := Lib.hid (HC7.out.trans (hb79.mono hb15))
          have HIN := Lib.hid (show Blk w9 C 25 [.slice A8 (tp.length + tq.length) C8, .slice a7 cp.length c7] ∧ recS.Own w9 base (.slice A8 (tp.length + tq.length) C8) (tp ++ tq) ∧ recIns.Own w9 base (.slice a7 cp.length c7) cp from ⟨hbl9, ho9, hoc9⟩)
          clear hw9 hc9 hbl9 ho9 hoc9 hb79 H8 z0 z1 x0 x1 y0 y1 HO1 HO2 HB7 HC7 HBL hbs7 hbs
          go_loopw [10] (fun t wr => ∃ (k : Nat) (A : Option Addr) (B : Nat), t = .int .i64 (k : Int) ∧ k ≤ cq.length ∧ Hid (Blk wr C 25 [.slice A8 (tp.length + tq.length) C8, .slice A (cp.length + k) B]) ∧ Hid (recS.Own wr base (.slice A8 (tp.length + tq.length) C8) (tp ++ tq)) ∧ Hid (recIns.Own wr base (.slice A (cp.length + k) B) (cp ++ (cq.take k).map (shiftV tp.length))) ∧ Hid (Below W1.heap.size W1 wr)) (fun t _ => cq.length - (intOf t).toNat)
          case atStart => exact ⟨0, a7, c7, rfl, Nat.zero_le _, HIN.out.1, HIN.out.2.1, by simpa [Hid] using HIN.out.2.2, HBR.out⟩
          case round =>
            obtain ⟨k, A, B, rfl, hk, HBk, HOt, HOc, HBr⟩ := hrel
            have hBW := bt HB1.out HBr.out
            have hyr := HY.out.below HBr.out
            have hxr := HX.out.below HBr.out
            have y1 := hyr.cell (k := 1) rfl
            have x0 := hxr.cell (k := 0) rfl
            have hlx := hxr.lt
            have hly := hyr.lt
            have HBW := Lib.hid hBW
            clear hBW hyr hxr
            by_cases h0 : k < cq.length
            · obtain ⟨b, off, rfl, d0, d1⟩ := (HQ.out _ HBW.out).codeAt h0
              have kk0 : (0 : Int) ≤ (k : Int) := by omega
              have kk1 : (k : Int) < (cq.length : Int) := by omega
              have HTK := Lib.hid (List.take_succ_eq_append_getElem h0)
              have HLN := Lib.hid (show (cp ++ (cq.take k).map (shiftV tp.length)).length = cp.length + k by simp; omega)
              by_cases h1 : cq[k].1 = 1
              · have t1 : ((cq[k].1.toNat : Int) == 1) = true := by rw [h1]; rfl
                have hsh := u8_shift cq[k].2 tp.length
                have HSH := Lib.hid (show shiftV tp.length cq[k] = (cq[k].1, cq[k].2 + UInt8.ofNat tp.length) by unfold shiftV; rw [if_pos h1])
                clear h1
                go_upto_region 13 with fail
                have hsh2 : ((cq[k].2.toNat : Int) + (tp.length : Int)) % 256 = ((cq[k].2 + UInt8.ofNat tp.length).toNat : Int) := by rw [← u8_shift]; simp [IntKind.wrap, IntKind.bits, IntKind.signed]
                rw [hsh2]
                clear hsh hsh2 d0 d1 x0 y1
                obtain ⟨z, hz⟩ : ∃ z : VI, z = (cq[k].1, cq[k].2 + UInt8.ofNat tp.length) := ⟨_, rfl⟩
                have HZ := Lib.hid (HSH.out.trans hz.symm)
                obtain ⟨WB, hWB⟩ : ∃ WB, WB = wr.alloc (.cells #[.int .u8 (z.1.toNat : Int), .int .u8 (z.2.toNat : Int)] 33) := ⟨_, rfl⟩
                rw [show (cq[k].1.toNat : Int) = (z.1.toNat : Int) by rw [hz], show ((cq[k].2 + UInt8.ofNat tp.length).toNat : Int) = (z.2.toNat : Int) by rw [hz]]
                clear hz
                have hbb : Below wr.heap.size wr WB := by rw [hWB]; exact b_alloc _ _
                rw [← hWB]
                have hbx : Blk WB wr.heap.size 33 [.int .u8 (z.1.toNat : Int), .int .u8 (z.2.toNat : Int)] := by rw [hWB]; exact Blk.new wr _ _
                have v0 := hbx.cell (k := 0) rfl
                have v1 := hbx.cell (k := 1) rfl
                have hbk := HBk.out.below hbb
                have z1 := hbk.cell (k := 1) rfl
                obtain ⟨xs, hxs⟩ : ∃ xs, xs = cp ++ (cq.take k).map (shiftV tp.length) := ⟨_, rfl⟩
                have hoc := HOc.out.below hbb
                rw [← hxs] at hoc HLN
                have HXS := Lib.hid hxs
                have HBK := Lib.hid hbk
                have HOC := Lib.hid hoc
                have HOT := Lib.hid (HOt.out.below hbb)
                have HBB := Lib.hid hbb
                clear hWB hbx hbk hxs hoc hbb HBk HOc HOt
                go_wp2_with (at_builtin; go_must (refine recIns.append1V _ z rfl _ _ 23 rfl Tryd.underlying23 base _ xs (HOC.out.below (b_alloc _ _)) rfl _ rfl (Rec.Row.new (R := recIns) WB [z] _).1 (by show (xs.length + 1) * 2 ≤ _; have := HLN.out; have := HSC.out; omega) (Nat.le_trans hbC (Nat.le_of_lt (HBK.out.below (b_alloc _ _)).lt)) ?_); go_must (intro g cap wn hon hcn _; have hbn := HBK.out.below (b_alloc WB (.cells (recIns.cells [z]).toArray 33)); have hn := own_neV (HOC.out.below (b_alloc WB (.cells (recIns.cells [z]).toArray 33))) hbn (by decide); have hbl : Blk wn C 25 _ := hcn.at hbn (fun hk => hn _ hk rfl); have z1 := hbl.cell (k := 1) rfl; have f1 := hbl.free (k := 1) (by simp); have HN := Lib.hid (And.intro hon (And.intro hcn hbl)); clear hon hcn hn hbl hbn))
                have hcs : Chg (fun x => x = C) wn (wn.setCell ⟨C, 1, none⟩ (.slice (some ⟨g, 0, none⟩) (xs.length + 1) cap)) := Chg.setCell _ _ _ rfl
                obtain ⟨wz, hwz⟩ : ∃ wz, wz = wn.setCell ⟨C, 1, none⟩ (.slice (some ⟨g, 0, none⟩) (xs.length + 1) cap) := ⟨_, rfl⟩
                have hbz := HN.out.2.2.set 1 (.slice (some ⟨g, 0, none⟩) (xs.length + 1) cap)
                rw [← hwz] at hcs hbz ⊢
                have HBZ := Lib.hid hbz
                have HONz := Lib.hid (HN.out.1.chgV hcs (own_neV HN.out.1 HN.out.2.2 (by decide)))
                have hot := Rec.Own.chgV (HOT.out.below (b_alloc WB (.cells (recIns.cells [z]).toArray 33))) HN.out.2.1 (own_apart HOT.out HOC.out (by decide))
                have HOTz := Lib.hid (hot.chgV hcs (own_neV hot HN.out.2.2 (by decide)))
                have hBz : Below base WB wz := by
                  have e1 : Below base WB (WB.alloc (.cells (recIns.cells [z]).toArray 33)) := (b_alloc _ _).mono (Nat.le_trans hbC (Nat.le_of_lt HBK.out.lt))
                  exact (e1.trans (HN.out.2.1.below (fun k hk => (Rec.Own.ltV HOC.out k hk).1) (Nat.le_trans hbC (Nat.le_of_lt (HBK.out.below (b_alloc _ _)).lt)))).trans (hcs.below (fun x (hx : x = C) => by omega) (Nat.le_trans hbC (Nat.le_of_lt HN.out.2.2.lt)))
                have HBz := Lib.hid (HBr.out.trans ((HBB.out.mono (Nat.le_of_lt_succ (Nat.lt_succ_of_le (HBr.out.size)))).trans (hBz.mono hb15)))
                clear hcs hbz hot hBz hwz HN
                go_roundw
                case rel =>
                  refine ⟨k + 1, some ⟨g, 0, none⟩, cap, by go_num, by omega, ?_, HOTz.out, ?_, HBz.out⟩
                  · have := HBZ.out
                    rw [HLN.out] at this
                    exact this
                  · have := HONz.out
                    rw [HLN.out, HXS.out, List.append_assoc, show (cq.take k).map (shiftV tp.length) ++ [z] = (cq.take (k + 1)).map (shiftV tp.length) by rw [HTK.out, List.map_append, List.map_cons, List.map_nil, HZ.out]] at this
                    exact this
                case measure => simp [intOf]; omega
              · have t1 : ((cq[k].1.toNat : Int) == 1) = false := u8_ne (by decide) h1
                have HSH := Lib.hid (show shiftV tp.length cq[k] = cq[k] by unfold shiftV; rw [if_neg h1])
                clear h1
                go_upto_region 13 with fail
                clear d0 d1 x0 y1
                obtain ⟨z, hz⟩ : ∃ z : VI, z = cq[k] := ⟨_, rfl⟩
                have HZ := Lib.hid (HSH.out.trans hz.symm)
                obtain ⟨WB, hWB⟩ : ∃ WB, WB = wr.alloc (.cells #[.int .u8 (z.1.toNat : Int), .int .u8 (z.2.toNat : Int)] 33) := ⟨_, rfl⟩
                rw [show cq[k] = z from hz.symm]
                clear hz
                have hbb : Below wr.heap.size wr WB := by rw [hWB]; exact b_alloc _ _
                rw [← hWB]
                have hbx : Blk WB wr.heap.size 33 [.int .u8 (z.1.toNat : Int), .int .u8 (z.2.toNat : Int)] := by rw [hWB]; exact Blk.new wr _ _
                have v0 := hbx.cell (k := 0) rfl
                have v1 := hbx.cell (k := 1) rfl
                have hbk := HBk.out.below hbb
                have z1 := hbk.cell (k := 1) rfl
                obtain ⟨xs, hxs⟩ : ∃ xs, xs = cp ++ (cq.take k).map (shiftV tp.length) := ⟨_, rfl⟩
                have hoc := HOc.out.below hbb
                rw [← hxs] at hoc HLN
                have HXS := Lib.hid hxs
                have HBK := Lib.hid hbk
                have HOC := Lib.hid hoc
                have HOT := Lib.hid (HOt.out.below hbb)
                have HBB := Lib.hid hbb
                clear hWB hbx hbk hxs hoc hbb HBk HOc HOt
                go_wp2_with (at_builtin; go_must (refine recIns.append1V _ z rfl _ _ 23 rfl Tryd.underlying23 base _ xs (HOC.out.below (b_alloc _ _)) rfl _ rfl (Rec.Row.new (R := recIns) WB [z] _).1 (by show (xs.length + 1) * 2 ≤ _; have := HLN.out; have := HSC.out; omega) (Nat.le_trans hbC (Nat.le_of_lt (HBK.out.below (b_alloc _ _)).lt)) ?_); go_must (intro g cap wn hon hcn _; have hbn := HBK.out.below (b_alloc WB (.cells (recIns.cells [z]).toArray 33)); have hn := own_neV (HOC.out.below (b_alloc WB (.cells (recIns.cells [z]).toArray 33))) hbn (by decide); have hbl : Blk wn C 25 _ := hcn.at hbn (fun hk => hn _ hk rfl); have z1 := hbl.cell (k := 1) rfl; have f1 := hbl.free (k := 1) (by simp); have HN := Lib.hid (And.intro hon (And.intro hcn hbl)); clear hon hcn hn hbl hbn))
                have hcs : Chg (fun x => x = C) wn (wn.setCell ⟨C, 1, none⟩ (.slice (some ⟨g, 0, none⟩) (xs.length + 1) cap)) := Chg.setCell _ _ _ rfl
                obtain ⟨wz, hwz⟩ : ∃ wz, wz = wn.setCell ⟨C, 1, none⟩ (.slice (some ⟨g, 0, none⟩) (xs.length + 1) cap) := ⟨_, rfl⟩
                have hbz := HN.out.2.2.set 1 (.slice (some ⟨g, 0, none⟩) (xs.length + 1) cap)
                rw [← hwz] at hcs hbz ⊢
                have HBZ := Lib.hid hbz
                have HONz := Lib.hid (HN.out.1.chgV hcs (own_neV HN.out.1 HN.out.2.2 (by decide)))
                have hot := Rec.Own.chgV (HOT.out.below (b_alloc WB (.cells (recIns.cells [z]).toArray 33))) HN.out.2.1 (own_apart HOT.out HOC.out (by decide))
                have HOTz := Lib.hid (hot.chgV hcs (own_neV hot HN.out.2.2 (by decide)))
                have hBz : Below base WB wz := by
                  have e1 : Below base WB (WB.alloc (.cells (recIns.cells [z]).toArray 33)) := (b_alloc _ _).mono (Nat.le_trans hbC (Nat.le_of_lt HBK.out.lt))
                  exact (e1.trans (HN.out.2.1.below (fun k hk => (Rec.Own.ltV HOC.out k hk).1) (Nat.le_trans hbC (Nat.le_of_lt (HBK.out.below (b_alloc _ _)).lt)))).trans (hcs.below (fun x (hx : x = C) => by omega) (Nat.le_trans hbC (Nat.le_of_lt HN.out.2.2.lt)))
                have HBz := Lib.hid (HBr.out.trans ((HBB.out.mono (Nat.le_of_lt_succ (Nat.lt_succ_of_le (HBr.out.size)))).trans (hBz.mono hb15)))
                clear hcs hbz hot hBz hwz HN
                go_roundw
                case rel =>
                  refine ⟨k + 1, some ⟨g, 0, none⟩, cap, by go_num, by omega, ?_, HOTz.out, ?_, HBz.out⟩
                  · have := HBZ.out
                    rw [HLN.out] at this
                    exact this
                  · have := HONz.out
                    rw [HLN.out, HXS.out, List.append_assoc, show (cq.take k).map (shiftV tp.length) ++ [z] = (cq.take (k + 1)).map (shiftV tp.length) by rw [HTK.out, List.map_append, List.map_cons, List.map_nil, HZ.out]] at this
                    exact this
                case measure => simp [intOf]; omega
            · obtain rfl : k = cq.length := by omega
              have hocc := HOc.out
              rw [List.take_length] at hocc
              have hask : AskV wr (.slice A8 (tp.length + tq.length) C8) (.slice A (cp.length + cq.length) B) (tp ++ tq) (cp ++ cq.map (shiftV tp.length)) := by
                obtain ⟨b1, b2, b3⟩ := largeV_no HLP.out
                obtain ⟨b4, b5, b6⟩ := largeV_no HLQ.out
                refine ⟨HOt.out.row, hocc.row, ?_, ?_, ?_, (HEF.out _ HBW.out).1, (HEF.out _ HBW.out).2⟩
                · rw [List.length_append]; omega
                · rw [List.length_append, List.length_map]; omega
                · intro s hs
                  rcases List.mem_append.1 hs with hs | hs
                  · have := b3 s hs; omega
                  · have := b6 s hs; omega
              obtain ⟨Tb, hTb⟩ : ∃ T, T = throughV (tp ++ tq) (cp ++ cq.map (shiftV tp.length)) 1 := ⟨_, rfl⟩
              have HKB := Lib.hid (aliveCheck _ _ _ _ 1 wr Tb.1 Tb.2.1 1 rfl (by rw [hTb]; exact ⟨rfl, rfl⟩) hask)
              have HTB := Lib.hid (fun (e1 : Tp.2.1 = 0) (e2 : Tq.2.1 = 0) => show Tb.1 = 0 ∧ Tb.2.1 = 0 by rw [hTb]; exact throughV_both HST.out HSC.out (by rw [← HTP.out]; exact e1) (by rw [← HTQ.out]; exact e2))
              have z0 := HBk.out.cell (k := 0) rfl
              have z1 := HBk.out.cell (k := 1) rfl
              clear hocc hask hTb x0
              go_wp2_with fail
              refine HKB.out.mono ?_
              rintro e wc ⟨rfl, hB⟩
              have HBc := Lib.hid (bt HBW.out hB)
              clear hB z0 z1 y1
              by_cases e1 : Tp.2.1 = 0
              · have u1 : ((Tp.2.1 : Int) == 0) = true := by rw [e1]; rfl
                by_cases e2 : Tq.2.1 = 0
                · have u2 : ((Tq.2.1 : Int) == 0) = true := by rw [e2]; rfl
                  obtain ⟨e3, e4⟩ := HTB.out e1 e2
                  have u3 : ((Tb.1 : Int) == 0) = true := by rw [e3]; rfl
                  have u4 : ((Tb.2.1 : Int) == 0) = true := by rw [e4]; rfl
                  clear e1 e2 e3 e4
                  go_wp2_with fail
                  refine (HAL.out _ HBc.out).mono ?_
                  rintro e wz ⟨rfl, hB⟩
                  have HZ := Lib.hid (bt HBc.out hB)
                  clear hB
                  go_wp2_with fail
                  go_ret
                  exact ⟨rfl, HZ.out⟩
                · have u2 : ((Tq.2.1 : Int) == 0) = false := by rw [beq_eq_false_iff_ne]; omega
                  clear e1 e2
                  go_wp2_with fail
                  refine (HAL.out _ HBc.out).mono ?_
                  rintro e wz ⟨rfl, hB⟩
                  have HZ := Lib.hid (bt HBc.out hB)
                  clear hB
                  go_wp2_with fail
                  go_ret
                  exact ⟨rfl, HZ.out⟩
              · have u1 : ((Tp.2.1 : Int) == 0) = false := by rw [beq_eq_false_iff_ne]; omega
                clear e1
                go_wp2_with fail
                refine (HAL.out _ HBc.out).mono ?_
                rintro e wz ⟨rfl, hB⟩
                have HZ := Lib.hid (bt HBc.out hB)
                clear hB
                go_wp2_with fail
                go_ret
                exact ⟨rfl, HZ.out⟩
        · have s2 : (16 : Int) < (tp.length : Int) + (tq.length : Int) := by omega
          go_enter Tryd.func3, Tryd.ntmps3
          go_upto_region 1 with fail
          rw [← hW1]
          clear hW1
          go_wp2_with fail
          refine (HP.out _ HB1.out).large.mono ?_
          rintro e w2 ⟨rfl, hB⟩
          have HB2 := Lib.hid (bt HB1.out hB)
          have x0 := Below.keeps hB x0
          have x1 := Below.keeps hB x1
          have y0 := Below.keeps hB y0
          have y1 := Below.keeps hB y1
          have HC2 := Lib.hid hB
          clear hB
          rw [HLP.out]
          go_wp2_with fail
          refine (HQ.out _ HB2.out).large.mono ?_
          rintro e w3 ⟨rfl, hB⟩
          have HB3 := Lib.hid (bt HB2.out hB)
          have x0 := Below.keeps hB x0
          have x1 := Below.keeps hB x1
          have y0 := Below.keeps hB y0
          have y1 := Below.keeps hB y1
          have HC3 := Lib.hid (bt HC2.out hB)
          clear hB
          rw [HLQ.out]
          clear hc ht
          go_wp2_with fail
          refine (HAL.out _ HB3.out).mono ?_
          rintro e wz ⟨rfl, hB⟩
          have HZ := Lib.hid (bt HB3.out hB)
          clear hB
          go_wp2_with fail
          go_ret
          exact ⟨rfl, HZ.out⟩
      · have s1 : (256 : Int) < (cp.length : Int) + (cq.length : Int) := by omega
        go_enter Tryd.func3, Tryd.ntmps3
        go_upto_region 1 with fail
        rw [← hW1]
        clear hW1
        go_wp2_with fail
        refine (HP.out _ HB1.out).large.mono ?_
        rintro e w2 ⟨rfl, hB⟩
        have HB2 := Lib.hid (bt HB1.out hB)
        have x0 := Below.keeps hB x0
        have x1 := Below.keeps hB x1
        have y0 := Below.keeps hB y0
        have y1 := Below.keeps hB y1
        have HC2 := Lib.hid hB
        clear hB
        rw [HLP.out]
        go_wp2_with fail
        refine (HQ.out _ HB2.out).large.mono ?_
        rintro e w3 ⟨rfl, hB⟩
        have HB3 := Lib.hid (bt HB2.out hB)
        have x0 := Below.keeps hB x0
        have x1 := Below.keeps hB x1
        have y0 := Below.keeps hB y0
        have y1 := Below.keeps hB y1
        have HC3 := Lib.hid (bt HC2.out hB)
        clear hB
        rw [HLQ.out]
        clear hc
        go_wp2_with fail
        refine (HAL.out _ HB3.out).mono ?_
        rintro e wz ⟨rfl, hB⟩
        have HZ := Lib.hid (bt HB3.out hB)
        clear hB
        go_wp2_with fail
        go_ret
        exact ⟨rfl, HZ.out⟩
end Go.Proofs.YtahmacnmphjhgaaDoor
namespace Go.Proofs.YtahmacnmphjhgaaDoor
open Go.RowKit Oct
attribute [local irreducible] wpG
theorem Rec.Own.freeV {α : Type} {R : Rec α} {w : World} {base g n c : Nat} {l : List α} (h : R.Own w base (.slice (some ⟨g, 0, none⟩) n c) l) {k : Nat} (hk : k < l.length * R.n) : (∃ v, w.cell? ⟨g, k, none⟩ = some v) ∧ w.frozen? ⟨g, k, none⟩ = false := by
  obtain ⟨_, h2⟩ := h
  rcases h2 with ⟨hv, _⟩ | ⟨g', cap, cur, hv, hb, hh, r1, r2, r3, r4⟩
  · cases hv
  · obtain ⟨rfl, rfl, rfl⟩ : g = g' ∧ n = l.length ∧ c = cap := by simpa using hv
    have hlt : k < cur.size := by
      rw [r3]
      exact Nat.lt_of_lt_of_le hk (Nat.mul_le_mul_right _ r1)
    exact ⟨⟨cur[k], by simp [World.cell?, hh, hlt]⟩, by simp [World.frozen?, hh]⟩
theorem codeAtV {w : World} {base g n c : Nat} {l : List VI} (h : recIns.Own w base (.slice (some ⟨g, 0, none⟩) n c) l) {k : Nat} (hk : k < l.length) :
    w.cell? ⟨g, k * 2, none⟩ = some (.int .u8 (l[k].1.toNat : Int)) ∧ w.cell? ⟨g, k * 2 + 1, none⟩ = some (.int .u8 (l[k].2.toNat : Int)) := by
  obtain ⟨_, _, hv, -, hc⟩ := recIns_open h.row
  obtain ⟨b, o, he, d0, d1⟩ := hc k hk
  injection hv with e1 e2 e3
  rw [← e1] at he
  injection he with he
  injection he with e4 e5 _
  subst e4 e5
  rw [Nat.zero_add] at d0 d1
  exact ⟨d0, d1⟩
/-- the first k texts are others -/
def replT (a b : List (List UInt8)) (k : Nat) : List (List UInt8) := (b.take k).map (fun s => s.take 64) ++ a.drop k
theorem replT_len {a b : List (List UInt8)} {k : Nat} (h1 : k ≤ a.length) (h2 : k ≤ b.length) : (replT a b k).length = a.length := by unfold replT; simp; omega
theorem replT_succ {a b : List (List UInt8)} {k : Nat} (h1 : k < a.length) (h2 : k < b.length) : (replT a b k).set k (b[k].take 64) = replT a b (k + 1) := by
  unfold replT
  have hl : ((b.take k).map (fun s => s.take 64)).length = k := by simp; omega
  rw [List.set_append_right _ _ (by omega), hl, Nat.sub_self, List.drop_eq_getElem_cons h1, List.set_cons_zero, List.take_succ_eq_append_getElem h2, List.map_append, List.append_assoc]
  rfl
theorem replT_ok {a b : List (List UInt8)} {k : Nat} (h : ∀ s ∈ a, s.length ≤ 64) : ∀ s ∈ replT a b k, s.length ≤ 64 := by
  intro s hs
  rcases List.mem_append.1 hs with hs | hs
  · obtain ⟨t, _, rfl⟩ := List.mem_map.1 hs
    simp; omega
  · exact h s (List.mem_of_mem_drop hs)
theorem replT_max {a b : List (List UInt8)} {k : Nat} {m : Nat} (hm : 64 ≤ m) (h : ∀ s ∈ a, s.length ≤ m) : ∀ s ∈ replT a b k, s.length ≤ m := by
  intro s hs
  rcases List.mem_append.1 hs with hs | hs
  · obtain ⟨t, _, rfl⟩ := List.mem_map.1 hs
    simp; omega
  · exact h s (List.mem_of_mem_drop hs)
/-- the first k instructions are others -/
def codeT (c : List VI) (y : UInt8) (k : Nat) : List VI := (c.take k).map (moreV y) ++ c.drop k
theorem codeT_len {c : List VI} {y : UInt8} {k : Nat} (h : k ≤ c.length) : (codeT c y k).length = c.length := by unfold codeT; simp; omega
theorem codeT_at {c : List VI} {y : UInt8} {k : Nat} (h : k < c.length) : (codeT c y k)[k]'(by rw [codeT_len (by omega)]; exact h) = c[k] := by
  unfold codeT
  rw [List.getElem_append_right (by simp; omega)]
  simp
  congr 1
  omega
theorem codeT_succ {c : List VI} {y : UInt8} {k : Nat} (h : k < c.length) : (codeT c y k).set k (moreV y c[k]) = codeT c y (k + 1) := by
  unfold codeT
  have hl : ((c.take k).map (moreV y)).length = k := by simp; omega
  rw [List.set_append_right _ _ (by omega), hl, Nat.sub_self, List.drop_eq_getElem_cons h, List.set_cons_zero, List.take_succ_eq_append_getElem h, List.map_append, List.append_assoc]
  rfl
theorem oneV_seen (nt inp : Nat) (role : UInt8) (i : Nat) (x : VI) (s : Vs) : (oneV nt inp role i x s).2.seen = s.seen ++ [s.kinds] := by
  unfold oneV
  split
  · rfl
  split
  · rfl
  unfold turnsV
  split
  · rfl
  split
  · rfl
  split
  · split <;> rfl
  split
  · split
    · rfl
    · split <;> rfl
  rfl
theorem runV_seen (nt inp : Nat) (role : UInt8) : ∀ (c : List VI) (i : Nat) (s : Vs), (runV nt inp role i c s).2.2.seen.length ≤ s.seen.length + c.length
  | [], _, _ => by rw [runV_nil]; simp
  | x :: c, i, s => by
    by_cases h : (oneV nt inp role i x s).1 = 0
    · rw [runV_ok h]
      have := runV_seen nt inp role c (i + 1) (oneV nt inp role i x s).2
      rw [oneV_seen] at this
      simp at this ⊢
      omega
    · rw [runV_bad h, oneV_seen]; simp
theorem throughV_seen (texts : List (List UInt8)) (code : List VI) (role : UInt8) : (throughV texts code role).2.2.seen.length ≤ code.length := by
  unfold throughV
  have h := runV_seen texts.length (inputsV role) role code 0 (startV code.length)
  have h0 : (startV code.length).seen.length = 0 := rfl
  rw [h0] at h
  split
  · split
    · simpa using h
    · simpa using h
  · simp [startV]
/-- the kinds that Kinds tells -/
def kindsV (T : Nat × Nat × Vs) : List (List UInt8) := if T.2.1 = 0 then T.2.2.seen else []
theorem kindsV_len (texts : List (List UInt8)) (code : List VI) (role : UInt8) : (kindsV (throughV texts code role)).length ≤ code.length := by
  unfold kindsV; split
  · exact throughV_seen _ _ _
  · exact Nat.zero_le _

set_option maxRecDepth 100000 in
set_option maxHeartbeats 16000000 in
theorem VerifyOthers_any (tpv cpv : Value) (tp : List (List UInt8)) (cp : List VI) (role : UInt8) (xv : Value) (xs : List (List UInt8)) (y : UInt8) (w : World) (hp : ProgR w tpv cpv tp cp) (hr : recS.Row w xv xs) (hxl : xs.length ≤ 140737488355328) (hxm : ∀ s ∈ xs, s.length ≤ 140737488355328) (hE : EffM w) (hg : 0 < w.heap.size) :
    Calls Tryd.prog 4 #[.agg #[tpv, cpv], .int .u8 (role.toNat : Int), xv, .int .u8 (y.toNat : Int)] w fun e w' => e = .returned (.bool true) ∧ Below w.heap.size w w' := by
  obtain ⟨p1, p2, p3, p4, rfl, rfl⟩ := hp.sl
  obtain ⟨q1, q2, rfl, -, hcx⟩ := recS_open hr
  have HCX := Lib.hid hcx
  have HXM := Lib.hid hxm
  obtain ⟨_, _, hpv, -, hct⟩ := recS_open hp.t
  injection hpv with e1 e2 e3
  subst e1 e3
  have HCT := Lib.hid hct
  have HP := Lib.hid (fun w' (hB : Below w.heap.size w w') => hp.below hB)
  have HAL := Lib.hid (fun w' (hB : Below w.heap.size w w') => alive13_any w' (hE.below hB hg) (Nat.lt_of_lt_of_le hg hB.size))
  have HEF := Lib.hid (fun w' (hB : Below w.heap.size w w') => And.intro (hE.below hB hg) (Nat.lt_of_lt_of_le hg hB.size))
  have l1 : (tp.length : Int) ≤ 140737488355328 := by have := hp.lt; omega
  have l2 : (cp.length : Int) ≤ 140737488355328 := by have := hp.lc; omega
  have l3 : (xs.length : Int) ≤ 140737488355328 := by omega
  obtain ⟨W1, hW1⟩ : ∃ W1, W1 = w.alloc (.cells #[.slice p1 tp.length p2, .slice p3 cp.length p4] 25) := ⟨_, rfl⟩
  have hb1 : Below w.heap.size w W1 := by rw [hW1]; exact b_alloc _ _
  have hs1 : W1.heap.size = w.heap.size + 1 := by rw [hW1, size_alV]
  have hx : Blk W1 w.heap.size 25 [.slice p1 tp.length p2, .slice p3 cp.length p4] := by rw [hW1]; exact Blk.new w _ _
  have HX := Lib.hid hx
  have HB1 := Lib.hid hb1
  have x0 := hx.cell (k := 0) rfl
  have x1 := hx.cell (k := 1) rfl
  clear hp hr hxm hE hg hb1 hs1 hx hct hcx
  by_cases hlp : largeV tp cp = true
  · have HLP := Lib.hid hlp
    clear hlp
    go_enter Tryd.func4, Tryd.ntmps4
    go_upto_region 1 with fail
    rw [← hW1]
    clear hW1
    go_wp2_with fail
    refine (HP.out _ HB1.out).large.mono ?_
    rintro e w2 ⟨rfl, hB⟩
    have HB2 := Lib.hid (bt HB1.out hB)
    have x0 := Below.keeps hB x0
    have x1 := Below.keeps hB x1
    have HC2 := Lib.hid hB
    clear hB
    rw [HLP.out]
    go_wp2_with fail
    refine (HAL.out _ HB2.out).mono ?_
    rintro e wz ⟨rfl, hB⟩
    have HZ := Lib.hid (bt HB2.out hB)
    clear hB
    go_wp2_with fail
    go_ret
    exact ⟨rfl, HZ.out⟩
  · have hlp : largeV tp cp = false := by simpa using hlp
    have HLP := Lib.hid hlp
    clear hlp
    by_cases ht : xs.length ≤ 20
    · have s1 : ¬ (20 : Int) < (xs.length : Int) := by omega
      go_enter Tryd.func4, Tryd.ntmps4
      go_upto_region 1 with fail
      rw [← hW1]
      clear hW1
      go_wp2_with fail
      refine (HP.out _ HB1.out).large.mono ?_
      rintro e w2 ⟨rfl, hB⟩
      have HB2 := Lib.hid (bt HB1.out hB)
      have x0 := Below.keeps hB x0
      have x1 := Below.keeps hB x1
      have HC2 := Lib.hid hB
      clear hB
      rw [HLP.out]
      have HSL := Lib.hid (largeV_no HLP.out)
      have HST := Lib.hid ht
      have HA1 := Lib.hid (fun w' (hB : Below w.heap.size w w') => (HP.out w' hB).ask HLP.out (HEF.out w' hB).1 (HEF.out w' hB).2)
      have HK1 := Lib.hid (fun w' (hB : Below w.heap.size w w') => Kinds_any _ _ tp cp role w' (HA1.out w' hB))
      obtain ⟨T, hT⟩ : ∃ T, T = throughV tp cp role := ⟨_, rfl⟩
      have HT := Lib.hid hT
      rw [← hT] at HK1
      clear hT ht
      go_wp2_with fail
      refine (HK1.out _ HB2.out).mono ?_
      rintro e w3 ⟨⟨va, rfl, hva⟩, hB⟩
      have HVA := Lib.hid (show recS.Row w3 va (kindsV T) from hva)
      have HB3 := Lib.hid (bt HB2.out hB)
      have HC3 := Lib.hid (bt HC2.out hB)
      have x0 := Below.keeps hB x0
      have x1 := Below.keeps hB x1
      clear hB hva HB2 HC2
      go_wp2_with fail
      refine (Copy_any _ _ tp cp w3 (HP.out w3 HB3.out).t (HP.out w3 HB3.out).c (by have := HSL.out.1; omega) (by have := HSL.out.2.1; omega)).mono ?_
      rintro e w6 ⟨⟨tv6, cv6, rfl, ho1, ho2⟩, hB⟩
      obtain ⟨a6, c6, rfl⟩ := owns_slice ho1
      obtain ⟨a7, c7, rfl⟩ := owns_slice ho2
      obtain ⟨C, hC⟩ : ∃ C, C = w6.heap.size := ⟨_, rfl⟩
      obtain ⟨w7, hw7⟩ : ∃ w7, w7 = w6.alloc (.cells #[.slice a6 tp.length c6, .slice a7 cp.length c7] 25) := ⟨_, rfl⟩
      have hblk : Blk w7 C 25 [.slice a6 tp.length c6, .slice a7 cp.length c7] := by rw [hw7, hC]; exact Blk.new w6 _ _
      have hb67 : Below w6.heap.size w6 w7 := by rw [hw7]; exact b_alloc _ _
      have hbC : w3.heap.size ≤ C := by rw [hC]; exact hB.size
      have HO1 := Lib.hid (ho1.below hb67)
      have HO2 := Lib.hid (ho2.below hb67)
      have HB7 := Lib.hid (bt hB hb67)
      have HBL := Lib.hid hblk
      clear ho1 ho2 hblk hb67 hB x0 x1
      go_upto_region 5 with fail
      rw [← hw7, ← hC]
      clear hw7 hC
      go_wp2_with fail
      go_loopw [12] (fun t wr => ∃ k : Nat, t = .int .i64 (k : Int) ∧ k ≤ tp.length ∧ k ≤ xs.length ∧ Hid (Blk wr C 25 [.slice a6 tp.length c6, .slice a7 cp.length c7]) ∧ Hid (recS.Own wr w3.heap.size (.slice a6 tp.length c6) (replT tp xs k)) ∧ Hid (recIns.Own wr w3.heap.size (.slice a7 cp.length c7) cp) ∧ Hid (Below w3.heap.size w3 wr)) (fun t _ => tp.length - (intOf t).toNat)
      case atStart => exact ⟨0, rfl, Nat.zero_le _, Nat.zero_le _, HBL.out, by simpa [Hid, replT] using HO1.out, HO2.out, HB7.out⟩
      case round =>
        obtain ⟨k, rfl, hk1, hk2, HBk, HOt, HOc, HBr⟩ := hrel
        have z0 := HBk.out.cell (k := 0) rfl
        have z1 := HBk.out.cell (k := 1) rfl
        by_cases h0 : k < tp.length
        · have kk0 : (0 : Int) ≤ (k : Int) := by omega
          have kk1 : (k : Int) < (tp.length : Int) := by omega
          by_cases h1 : k < xs.length
          · have kk2 : (k : Int) < (xs.length : Int) := by omega
            have hlen := replT_len hk1 hk2
            obtain ⟨g, hg⟩ := HOt.out.at0 (by rw [hlen]; omega)
            subst hg
            obtain ⟨b, off, rfl, d0⟩ := HCX.out k h1
            have d0 := Below.keeps (bt HB3.out HBr.out) d0
            obtain ⟨⟨v0, c0⟩, f0⟩ := HOt.out.freeV (k := k) (by rw [hlen]; show k < tp.length * 1; omega)
            have hml := HXM.out xs[k] (List.getElem_mem h1)
            obtain ⟨m, hm⟩ : ∃ m, m = min xs[k].length 64 := ⟨_, rfl⟩
            have hmin : min (xs[k].length : Int) 64 = (m : Int) := by omega
            have m1 : (m : Int) ≤ (xs[k].length : Int) := by omega
            have m0 : (0 : Int) ≤ (m : Int) := by omega
            have HML := Lib.hid hml
            have HM := Lib.hid hm
            have HLEN := Lib.hid hlen
            clear hlen hm hml
            go_upto_region 8 with fail
            go_region
            go_simp
            obtain ⟨wz, hwz⟩ : ∃ wz, wz = wr.setCell ⟨g, k, none⟩ (.string (bs (xs[k].take m))) := ⟨_, rfl⟩
            have hcg : Chg (fun x => x = g) wr wz := by rw [hwz]; exact Chg.setCell _ _ _ rfl
            have htk : xs[k].take m = xs[k].take 64 := by
              rw [HM.out]
              rcases Nat.le_total xs[k].length 64 with h | h
              · rw [Nat.min_eq_left h, List.take_length, List.take_of_length_le h]
              · rw [Nat.min_eq_right h]
            have hoz : recS.Own wz w3.heap.size (.slice (some ⟨g, 0, none⟩) tp.length c6) (replT tp xs (k + 1)) := by
              have h := HOt.out.setCell (k := k) (by rw [HLEN.out]; exact h0) (y := xs[k].take 64) (j := 0) (by decide) (u := .string (bs (xs[k].take m))) (by rw [htk]; rfl)
              rw [replT_succ h0 h1, show k * recS.n + 0 = k from by show k * 1 + 0 = k; omega, ← hwz] at h
              exact h
            have hgl := HOt.out.ltV g rfl
            have hgC := own_neV HOt.out HBk.out (by decide) g rfl
            have hocz := HOc.out.chgV hcg (fun i hi e => own_apart HOc.out HOt.out (by decide) i hi (by rw [e]; rfl))
            have hbz : Blk wz C 25 [.slice (some ⟨g, 0, none⟩) tp.length c6, .slice a7 cp.length c7] := hcg.at HBk.out (fun e => hgC e.symm)
            have hBz : Below w3.heap.size w3 wz := HBr.out.trans (hcg.below (fun x (hx : x = g) => by omega) HBr.out.size)
            rw [← hwz]
            have HOz := Lib.hid (hoz.below (b_drew _))
            have HOCz := Lib.hid (hocz.below (b_drew _))
            have HBz := Lib.hid (hbz.below (b_drew _))
            have HBBz := Lib.hid (bt hBz (b_drew wz))
            clear hwz hcg htk hoz hgl hgC hocz hbz hBz
            go_wp2_with fail
            go_roundw
            case rel => exact ⟨k + 1, by go_num, by omega, by omega, HBz.out, HOz.out, HOCz.out, HBBz.out⟩
            case measure => simp [intOf]; omega
          · obtain rfl : k = xs.length := by omega
            have kk2 : ¬ ((xs.length : Nat) : Int) < (xs.length : Int) := by omega
            have HK1L := Lib.hid hk1
            clear h0 h1
            have HLQ := Lib.hid (replT_len hk1 hk2)
            obtain ⟨tq, htq⟩ : ∃ tq, tq = replT tp xs xs.length := ⟨_, rfl⟩
            rw [← htq] at HOt HLQ
            have HTQ := Lib.hid htq
            clear htq hk1 hk2
            go_wp2_with fail
            go_loopw [13] (fun t wx => ∃ j : Nat, t = .int .i64 (j : Int) ∧ j ≤ cp.length ∧ Hid (Blk wx C 25 [.slice a6 tp.length c6, .slice a7 cp.length c7]) ∧ Hid (recS.Own wx w3.heap.size (.slice a6 tp.length c6) tq) ∧ Hid (recIns.Own wx w3.heap.size (.slice a7 cp.length c7) (codeT cp y j)) ∧ Hid (Below w3.heap.size w3 wx)) (fun t _ => cp.length - (intOf t).toNat)
            case atStart => exact ⟨0, rfl, Nat.zero_le _, HBk.out, HOt.out, by simpa [Hid, codeT] using HOc.out, HBr.out⟩
            case round =>
              clear HBk HOt HOc HBr z0 z1
              obtain ⟨j, rfl, hj, HBk, HOt, HOc, HBr⟩ := hrel
              have z1 := HBk.out.cell (k := 1) rfl
              by_cases h0 : j < cp.length
              · have jj0 : (0 : Int) ≤ (j : Int) := by omega
                have jj1 : (j : Int) < (cp.length : Int) := by omega
                have hlen := codeT_len (y := y) hj
                have hat := codeT_at (y := y) h0
                have HSU := Lib.hid (codeT_succ (y := y) h0)
                obtain ⟨h, hh⟩ := HOc.out.at0 (by rw [hlen]; omega)
                subst hh
                obtain ⟨d0, d1⟩ := codeAtV HOc.out (k := j) (by rw [hlen]; exact h0)
                rw [hat] at d0 d1
                have f0 := (HOc.out.freeV (k := j * 2) (by rw [hlen]; show j * 2 < cp.length * 2; omega)).2
                have f1 := (HOc.out.freeV (k := j * 2 + 1) (by rw [hlen]; show j * 2 + 1 < cp.length * 2; omega)).2
                have hlt := (HOc.out.ltV h rfl).2
                have HHB := Lib.hid (HOc.out.ltV h rfl).1
                have HLEN := Lib.hid hlen
                have HAT := Lib.hid hat
                clear hlen hat
                by_cases h1 : cp[j].1 = 2
                · have t1 : ((cp[j].1.toNat : Int) == 2) = true := by rw [h1]; rfl
                  have HSH := Lib.hid (show moreV y cp[j] = (cp[j].1, cp[j].2 + y) by unfold moreV; rw [if_pos (.inl h1)])
                  clear h1
                  go_upto_region 15 with fail
                  have hsh : ((cp[j].2.toNat : Int) + (y.toNat : Int)) % 256 = ((cp[j].2 + y).toNat : Int) := by simp [UInt8.toNat_add]
                  rw [hsh]
                  clear hsh
                  obtain ⟨z, hz⟩ : ∃ z : VI, z = (cp[j].1, cp[j].2 + y) := ⟨_, rfl⟩
                  have HZ := Lib.hid (HSH.out.trans hz.symm)
                  have hz1 : z.1 = cp[j].1 := by rw [hz]
                  rw [show (cp[j].1.toNat : Int) = (z.1.toNat : Int) by rw [hz], show ((cp[j].2 + y).toNat : Int) = (z.2.toNat : Int) by rw [hz]]
                  clear hz
                  have HZ1 := Lib.hid hz1
                  clear hz1
                  obtain ⟨WB, hWB⟩ : ∃ WB, WB = wr.alloc (.cells #[.int .u8 (z.1.toNat : Int), .int .u8 (z.2.toNat : Int)] 33) := ⟨_, rfl⟩
                  have hbb : Below wr.heap.size wr WB := by rw [hWB]; exact b_alloc _ _
                  rw [← hWB]
                  have hbx : Blk WB wr.heap.size 33 [.int .u8 (z.1.toNat : Int), .int .u8 (z.2.toNat : Int)] := by rw [hWB]; exact Blk.new wr _ _
                  have v0 := hbx.cell (k := 0) rfl
                  have v1 := hbx.cell (k := 1) rfl
                  have hbk := HBk.out.below hbb
                  have z1 := hbk.cell (k := 1) rfl
                  have d0 := Below.keeps hbb d0
                  have d1 := Below.keeps hbb d1
                  have hoc := HOc.out.below hbb
                  have f0 := (hoc.freeV (k := j * 2) (by rw [HLEN.out]; show j * 2 < cp.length * 2; omega)).2
                  have f1 := (hoc.freeV (k := j * 2 + 1) (by rw [HLEN.out]; show j * 2 + 1 < cp.length * 2; omega)).2
                  have HBK := Lib.hid hbk
                  have HOC := Lib.hid hoc
                  have HOT := Lib.hid (HOt.out.below hbb)
                  have HBB := Lib.hid (bt HBr.out hbb)
                  clear hWB hbx hbk hoc hbb HBk HOc HOt
                  go_wp2_with fail
                  have e1 := HOC.out.setCell (k := j) (by rw [HLEN.out]; exact h0) (y := cp[j]) (j := 0) (by decide) (u := .int .u8 (z.1.toNat : Int)) (by rw [HAT.out, HZ1.out]; rfl)
                  have hc1 : Chg (fun x => x = h) WB (WB.setCell ⟨h, j * 2, none⟩ (.int .u8 (z.1.toNat : Int))) := Chg.setCell _ _ _ rfl
                  obtain ⟨wa, hwa⟩ : ∃ wa, wa = WB.setCell ⟨h, j * 2, none⟩ (.int .u8 (z.1.toNat : Int)) := ⟨_, rfl⟩
                  rw [show j * recIns.n + 0 = j * 2 from rfl, ← hwa] at e1
                  rw [← hwa] at hc1 ⊢
                  have e2 := e1.setCell (k := j) (by rw [List.length_set, HLEN.out]; exact h0) (y := z) (j := 1) (by decide) (u := .int .u8 (z.2.toNat : Int)) (by rw [List.getElem_set_self]; show [_, _] = [_, _]; rw [HZ1.out])
                  have hc2 : Chg (fun x => x = h) wa (wa.setCell ⟨h, j * 2 + 1, none⟩ (.int .u8 (z.2.toNat : Int))) := Chg.setCell _ _ _ rfl
                  obtain ⟨we, hwe⟩ : ∃ we, we = wa.setCell ⟨h, j * 2 + 1, none⟩ (.int .u8 (z.2.toNat : Int)) := ⟨_, rfl⟩
                  rw [show j * recIns.n + 1 = j * 2 + 1 from rfl, ← hwe, List.set_set, ← HZ.out, HSU.out] at e2
                  rw [← hwe] at hc2 ⊢
                  have hcc := hc1.trans hc2
                  have hot := HOT.out.chgV hcc (fun i hi e => own_apart HOT.out HOC.out (by decide) i hi (by rw [e]; rfl))
                  have hbz : Blk we C 25 [.slice a6 tp.length c6, .slice (some ⟨h, 0, none⟩) cp.length c7] := hcc.at HBK.out (fun e => own_neV HOC.out HBK.out (by decide) h rfl e.symm)
                  have hBz : Below w3.heap.size w3 we := HBB.out.trans (hcc.below (fun x (hx : x = h) => by have := HHB.out; omega) HBB.out.size)
                  exact ⟨⟨j + 1, by go_num, by omega, hbz, hot, e2, hBz⟩, by simp [intOf]; omega⟩
                · have t1 : ((cp[j].1.toNat : Int) == 2) = false := u8_ne (by decide) h1
                  by_cases h2 : cp[j].1 = 22
                  · have t2 : ((cp[j].1.toNat : Int) == 22) = true := by rw [h2]; rfl
                    have HSH := Lib.hid (show moreV y cp[j] = (cp[j].1, cp[j].2 + y) by unfold moreV; rw [if_pos (.inr h2)])
                    clear h1 h2
                    go_upto_region 15 with fail
                    have hsh : ((cp[j].2.toNat : Int) + (y.toNat : Int)) % 256 = ((cp[j].2 + y).toNat : Int) := by simp [UInt8.toNat_add]
                    rw [hsh]
                    clear hsh
                    obtain ⟨z, hz⟩ : ∃ z : VI, z = (cp[j].1, cp[j].2 + y) := ⟨_, rfl⟩
                    have HZ := Lib.hid (HSH.out.trans hz.symm)
                    have hz1 : z.1 = cp[j].1 := by rw [hz]
                    rw [show (cp[j].1.toNat : Int) = (z.1.toNat : Int) by rw [hz], show ((cp[j].2 + y).toNat : Int) = (z.2.toNat : Int) by rw [hz]]
                    clear hz
                    have HZ1 := Lib.hid hz1
                    clear hz1
                    obtain ⟨WB, hWB⟩ : ∃ WB, WB = wr.alloc (.cells #[.int .u8 (z.1.toNat : Int), .int .u8 (z.2.toNat : Int)] 33) := ⟨_, rfl⟩
                    have hbb : Below wr.heap.size wr WB := by rw [hWB]; exact b_alloc _ _
                    rw [← hWB]
                    have hbx : Blk WB wr.heap.size 33 [.int .u8 (z.1.toNat : Int), .int .u8 (z.2.toNat : Int)] := by rw [hWB]; exact Blk.new wr _ _
                    have v0 := hbx.cell (k := 0) rfl
                    have v1 := hbx.cell (k := 1) rfl
                    have hbk := HBk.out.below hbb
                    have z1 := hbk.cell (k := 1) rfl
                    have d0 := Below.keeps hbb d0
                    have d1 := Below.keeps hbb d1
                    have hoc := HOc.out.below hbb
                    have f0 := (hoc.freeV (k := j * 2) (by rw [HLEN.out]; show j * 2 < cp.length * 2; omega)).2
                    have f1 := (hoc.freeV (k := j * 2 + 1) (by rw [HLEN.out]; show j * 2 + 1 < cp.length * 2; omega)).2
                    have HBK := Lib.hid hbk
                    have HOC := Lib.hid hoc
                    have HOT := Lib.hid (HOt.out.below hbb)
                    have HBB := Lib.hid (bt HBr.out hbb)
                    clear hWB hbx hbk hoc hbb HBk HOc HOt
                    go_wp2_with fail
                    have e1 := HOC.out.setCell (k := j) (by rw [HLEN.out]; exact h0) (y := cp[j]) (j := 0) (by decide) (u := .int .u8 (z.1.toNat : Int)) (by rw [HAT.out, HZ1.out]; rfl)
                    have hc1 : Chg (fun x => x = h) WB (WB.setCell ⟨h, j * 2, none⟩ (.int .u8 (z.1.toNat : Int))) := Chg.setCell _ _ _ rfl
                    obtain ⟨wa, hwa⟩ : ∃ wa, wa = WB.setCell ⟨h, j * 2, none⟩ (.int .u8 (z.1.toNat : Int)) := ⟨_, rfl⟩
                    rw [show j * recIns.n + 0 = j * 2 from rfl, ← hwa] at e1
                    rw [← hwa] at hc1 ⊢
                    have e2 := e1.setCell (k := j) (by rw [List.length_set, HLEN.out]; exact h0) (y := z) (j := 1) (by decide) (u := .int .u8 (z.2.toNat : Int)) (by rw [List.getElem_set_self]; show [_, _] = [_, _]; rw [HZ1.out])
                    have hc2 : Chg (fun x => x = h) wa (wa.setCell ⟨h, j * 2 + 1, none⟩ (.int .u8 (z.2.toNat : Int))) := Chg.setCell _ _ _ rfl
                    obtain ⟨we, hwe⟩ : ∃ we, we = wa.setCell ⟨h, j * 2 + 1, none⟩ (.int .u8 (z.2.toNat : Int)) := ⟨_, rfl⟩
                    rw [show j * recIns.n + 1 = j * 2 + 1 from rfl, ← hwe, List.set_set, ← HZ.out, HSU.out] at e2
                    rw [← hwe] at hc2 ⊢
                    have hcc := hc1.trans hc2
                    have hot := HOT.out.chgV hcc (fun i hi e => own_apart HOT.out HOC.out (by decide) i hi (by rw [e]; rfl))
                    have hbz : Blk we C 25 [.slice a6 tp.length c6, .slice (some ⟨h, 0, none⟩) cp.length c7] := hcc.at HBK.out (fun e => own_neV HOC.out HBK.out (by decide) h rfl e.symm)
                    have hBz : Below w3.heap.size w3 we := HBB.out.trans (hcc.below (fun x (hx : x = h) => by have := HHB.out; omega) HBB.out.size)
                    exact ⟨⟨j + 1, by go_num, by omega, hbz, hot, e2, hBz⟩, by simp [intOf]; omega⟩
                  · have t2 : ((cp[j].1.toNat : Int) == 22) = false := u8_ne (by decide) h2
                    have HSH := Lib.hid (show moreV y cp[j] = cp[j] by unfold moreV; rw [if_neg (by rintro (h | h) <;> contradiction)])
                    clear h1 h2
                    go_upto_region 15 with fail
                    obtain ⟨z, hz⟩ : ∃ z : VI, z = cp[j] := ⟨_, rfl⟩
                    have HZ := Lib.hid (HSH.out.trans hz.symm)
                    have hz1 : z.1 = cp[j].1 := by rw [hz]
                    rw [show cp[j] = z from hz.symm]
                    rw [show cp[j] = z from hz.symm] at d0 d1
                    clear hz
                    have HZ1 := Lib.hid hz1
                    clear hz1
                    obtain ⟨WB, hWB⟩ : ∃ WB, WB = wr.alloc (.cells #[.int .u8 (z.1.toNat : Int), .int .u8 (z.2.toNat : Int)] 33) := ⟨_, rfl⟩
                    have hbb : Below wr.heap.size wr WB := by rw [hWB]; exact b_alloc _ _
                    rw [← hWB]
                    have hbx : Blk WB wr.heap.size 33 [.int .u8 (z.1.toNat : Int), .int .u8 (z.2.toNat : Int)] := by rw [hWB]; exact Blk.new wr _ _
                    have v0 := hbx.cell (k := 0) rfl
                    have v1 := hbx.cell (k := 1) rfl
                    have hbk := HBk.out.below hbb
                    have z1 := hbk.cell (k := 1) rfl
                    have d0 := Below.keeps hbb d0
                    have d1 := Below.keeps hbb d1
                    have hoc := HOc.out.below hbb
                    have f0 := (hoc.freeV (k := j * 2) (by rw [HLEN.out]; show j * 2 < cp.length * 2; omega)).2
                    have f1 := (hoc.freeV (k := j * 2 + 1) (by rw [HLEN.out]; show j * 2 + 1 < cp.length * 2; omega)).2
                    have HBK := Lib.hid hbk
                    have HOC := Lib.hid hoc
                    have HOT := Lib.hid (HOt.out.below hbb)
                    have HBB := Lib.hid (bt HBr.out hbb)
                    clear hWB hbx hbk hoc hbb HBk HOc HOt
                    go_wp2_with fail
                    have e1 := HOC.out.setCell (k := j) (by rw [HLEN.out]; exact h0) (y := cp[j]) (j := 0) (by decide) (u := .int .u8 (z.1.toNat : Int)) (by rw [HAT.out, HZ1.out]; rfl)
                    have hc1 : Chg (fun x => x = h) WB (WB.setCell ⟨h, j * 2, none⟩ (.int .u8 (z.1.toNat : Int))) := Chg.setCell _ _ _ rfl
                    obtain ⟨wa, hwa⟩ : ∃ wa, wa = WB.setCell ⟨h, j * 2, none⟩ (.int .u8 (z.1.toNat : Int)) := ⟨_, rfl⟩
                    rw [show j * recIns.n + 0 = j * 2 from rfl, ← hwa] at e1
                    rw [← hwa] at hc1 ⊢
                    have e2 := e1.setCell (k := j) (by rw [List.length_set, HLEN.out]; exact h0) (y := z) (j := 1) (by decide) (u := .int .u8 (z.2.toNat : Int)) (by rw [List.getElem_set_self]; show [_, _] = [_, _]; rw [HZ1.out])
                    have hc2 : Chg (fun x => x = h) wa (wa.setCell ⟨h, j * 2 + 1, none⟩ (.int .u8 (z.2.toNat : Int))) := Chg.setCell _ _ _ rfl
                    obtain ⟨we, hwe⟩ : ∃ we, we = wa.setCell ⟨h, j * 2 + 1, none⟩ (.int .u8 (z.2.toNat : Int)) := ⟨_, rfl⟩
                    rw [show j * recIns.n + 1 = j * 2 + 1 from rfl, ← hwe, List.set_set, ← HZ.out, HSU.out] at e2
                    rw [← hwe] at hc2 ⊢
                    have hcc := hc1.trans hc2
                    have hot := HOT.out.chgV hcc (fun i hi e => own_apart HOT.out HOC.out (by decide) i hi (by rw [e]; rfl))
                    have hbz : Blk we C 25 [.slice a6 tp.length c6, .slice (some ⟨h, 0, none⟩) cp.length c7] := hcc.at HBK.out (fun e => own_neV HOC.out HBK.out (by decide) h rfl e.symm)
                    have hBz : Below w3.heap.size w3 we := HBB.out.trans (hcc.below (fun x (hx : x = h) => by have := HHB.out; omega) HBB.out.size)
                    exact ⟨⟨j + 1, by go_num, by omega, hbz, hot, e2, hBz⟩, by simp [intOf]; omega⟩
              · obtain rfl : j = cp.length := by omega
                obtain ⟨T2, hT2⟩ : ∃ T2, T2 = throughV tq (cp.map (moreV y)) role := ⟨_, rfl⟩
                have hocc := HOc.out
                rw [show codeT cp y cp.length = cp.map (moreV y) by unfold codeT; rw [List.take_length, List.drop_length, List.append_nil]] at hocc
                have hbw := bt HB3.out HBr.out
                have hask : AskV wr (.slice a6 tp.length c6) (.slice a7 cp.length c7) tq (cp.map (moreV y)) := by
                  obtain ⟨b1, b2, b3⟩ := HSL.out
                  exact ⟨HOt.out.row, hocc.row, by rw [HLQ.out]; omega, by rw [List.length_map]; omega, fun s hs => by rw [HTQ.out] at hs; have := replT_max (m := 4000) (by omega) b3 s hs; omega, (HEF.out _ hbw).1, (HEF.out _ hbw).2⟩
                have HKN := Lib.hid (Kinds_any _ _ _ _ role wr hask)
                rw [← hT2] at HKN
                have HTE := Lib.hid (fun (h64 : ∀ s ∈ tp, s.length ≤ 64) => show T2 = T by rw [hT2, HT.out, HTQ.out]; exact throughV_others cp y role (replT_len (by have := HK1L.out; omega) (Nat.le_refl _)) h64 (replT_ok h64))
                have HBW := Lib.hid hbw
                have z0 := HBk.out.cell (k := 0) rfl
                have z1 := HBk.out.cell (k := 1) rfl
                clear hT2 hocc hask hbw
                go_wp2_with fail
                refine HKN.out.mono ?_
                rintro e w8 ⟨⟨vb, rfl, hvb⟩, hB⟩
                have HVB := Lib.hid (show recS.Row w8 vb (kindsV T2) from hvb)
                have HB8 := Lib.hid (bt HBW.out hB)
                have HVA8 := Lib.hid (HVA.out.below (bt HBr.out hB))
                have hx8 := HX.out.below (bt HC3.out (bt HBr.out hB))
                have x0 := hx8.cell (k := 0) rfl
                clear hB hvb hx8 z0 z1 HKN
                go_wp2_with fail
                go_loopw [17] (fun t wl => ∃ i : Nat, t = .int .i64 (i : Int) ∧ i ≤ tp.length ∧ wl = w8 ∧ Hid (∀ j (hj : j < tp.length), j < i → tp[j].length ≤ 64)) (fun t _ => tp.length - (intOf t).toNat)
                case atStart => exact ⟨0, rfl, Nat.zero_le _, rfl, fun j _ h => absurd h (by omega)⟩
                case round =>
                  obtain ⟨i, rfl, hi, rfl, HOKS⟩ := hrel
                  by_cases h0 : i < tp.length
                  · obtain ⟨b, off, rfl, d0⟩ := HCT.out i h0
                    have d0 := Below.keeps HB8.out d0
                    have ii0 : (0 : Int) ≤ (i : Int) := by omega
                    have ii1 : (i : Int) < (tp.length : Int) := by omega
                    have hml := HSL.out.2.2 tp[i] (List.getElem_mem h0)
                    by_cases h1 : tp[i].length ≤ 64
                    · have t1 : ¬ (64 : Int) < (tp[i].length : Int) := by omega
                      go_wp2_with fail
                      go_roundw
                      case rel =>
                        refine ⟨i + 1, by go_num, by omega, trivial, fun j hj hji => ?_⟩
                        by_cases e : j = i
                        · subst e; exact h1
                        · exact HOKS.out j hj (by omega)
                      case measure => simp [intOf]; omega
                    · have t1 : (64 : Int) < (tp[i].length : Int) := by omega
                      go_wp2_with fail
                      refine (HAL.out _ HB8.out).mono ?_
                      rintro e wz ⟨rfl, hB⟩
                      have HZ := Lib.hid (bt HB8.out hB)
                      clear hB
                      go_wp2_with fail
                      go_ret
                      exact ⟨rfl, HZ.out⟩
                  · have h64 : ∀ s ∈ tp, s.length ≤ 64 := by
                      intro s hs
                      obtain ⟨j, hj, rfl⟩ := List.getElem_of_mem hs
                      exact HOKS.out j hj (by omega)
                    obtain rfl : T2 = T := HTE.out h64
                    have HKL := Lib.hid (show (kindsV T2).length ≤ 140737488355328 by rw [HT.out]; have := kindsV_len tp cp role; have := HSL.out.2.1; omega)
                    have u1 : ((T2.2.1 : Int) == (T2.2.1 : Int)) = true := by simp
                    have ii1 : ¬ (i : Int) < (tp.length : Int) := by omega
                    clear h64 h0
                    go_wp2_with fail
                    refine (same13_any _ _ _ _ _ HVA8.out HVB.out HKL.out HKL.out).mono ?_
                    rintro e w9 ⟨rfl, hB⟩
                    have HB9 := Lib.hid (bt HB8.out hB)
                    have hd : decide (kindsV T2 = kindsV T2) = true := decide_eq_true rfl
                    rw [hd]
                    clear hB hd
                    go_wp2_with fail
                    refine (HAL.out _ HB9.out).mono ?_
                    rintro e wz ⟨rfl, hB⟩
                    have HZ := Lib.hid (bt HB9.out hB)
                    clear hB
                    go_wp2_with fail
                    go_ret
                    exact ⟨rfl, HZ.out⟩
        · obtain rfl : k = tp.length := by omega
          have kk2 : ¬ ((tp.length : Nat) : Int) < (tp.length : Int) := by omega
          have HK1L := Lib.hid hk2
          clear h0
          have HLQ := Lib.hid (replT_len hk1 hk2)
          obtain ⟨tq, htq⟩ : ∃ tq, tq = replT tp xs tp.length := ⟨_, rfl⟩
          rw [← htq] at HOt HLQ
          have HTQ := Lib.hid htq
          clear htq hk1 hk2
          go_wp2_with fail
          go_loopw [13] (fun t wx => ∃ j : Nat, t = .int .i64 (j : Int) ∧ j ≤ cp.length ∧ Hid (Blk wx C 25 [.slice a6 tp.length c6, .slice a7 cp.length c7]) ∧ Hid (recS.Own wx w3.heap.size (.slice a6 tp.length c6) tq) ∧ Hid (recIns.Own wx w3.heap.size (.slice a7 cp.length c7) (codeT cp y j)) ∧ Hid (Below w3.heap.size w3 wx)) (fun t _ => cp.length - (intOf t).toNat)
          case atStart => exact ⟨0, rfl, Nat.zero_le _, HBk.out, HOt.out, by simpa [Hid, codeT] using HOc.out, HBr.out⟩
          case round =>
            clear HBk HOt HOc HBr z0 z1
            obtain ⟨j, rfl, hj, HBk, HOt, HOc, HBr⟩ := hrel
            have z1 := HBk.out.cell (k := 1) rfl
            by_cases h0 : j < cp.length
            · have jj0 : (0 : Int) ≤ (j : Int) := by omega
              have jj1 : (j : Int) < (cp.length : Int) := by omega
              have hlen := codeT_len (y := y) hj
              have hat := codeT_at (y := y) h0
              have HSU := Lib.hid (codeT_succ (y := y) h0)
              obtain ⟨h, hh⟩ := HOc.out.at0 (by rw [hlen]; omega)
              subst hh
              obtain ⟨d0, d1⟩ := codeAtV HOc.out (k := j) (by rw [hlen]; exact h0)
              rw [hat] at d0 d1
              have f0 := (HOc.out.freeV (k := j * 2) (by rw [hlen]; show j * 2 < cp.length * 2; omega)).2
              have f1 := (HOc.out.freeV (k := j * 2 + 1) (by rw [hlen]; show j * 2 + 1 < cp.length * 2; omega)).2
              have hlt := (HOc.out.ltV h rfl).2
              have HHB := Lib.hid (HOc.out.ltV h rfl).1
              have HLEN := Lib.hid hlen
              have HAT := Lib.hid hat
              clear hlen hat
              by_cases h1 : cp[j].1 = 2
              · have t1 : ((cp[j].1.toNat : Int) == 2) = true := by rw [h1]; rfl
                have HSH := Lib.hid (show moreV y cp[j] = (cp[j].1, cp[j].2 + y) by unfold moreV; rw [if_pos (.inl h1)])
                clear h1
                go_upto_region 15 with fail
                have hsh : ((cp[j].2.toNat : Int) + (y.toNat : Int)) % 256 = ((cp[j].2 + y).toNat : Int) := by simp [UInt8.toNat_add]
                rw [hsh]
                clear hsh
                obtain ⟨z, hz⟩ : ∃ z : VI, z = (cp[j].1, cp[j].2 + y) := ⟨_, rfl⟩
                have HZ := Lib.hid (HSH.out.trans hz.symm)
                have hz1 : z.1 = cp[j].1 := by rw [hz]
                rw [show (cp[j].1.toNat : Int) = (z.1.toNat : Int) by rw [hz], show ((cp[j].2 + y).toNat : Int) = (z.2.toNat : Int) by rw [hz]]
                clear hz
                have HZ1 := Lib.hid hz1
                clear hz1
                obtain ⟨WB, hWB⟩ : ∃ WB, WB = wr.alloc (.cells #[.int .u8 (z.1.toNat : Int), .int .u8 (z.2.toNat : Int)] 33) := ⟨_, rfl⟩
                have hbb : Below wr.heap.size wr WB := by rw [hWB]; exact b_alloc _ _
                rw [← hWB]
                have hbx : Blk WB wr.heap.size 33 [.int .u8 (z.1.toNat : Int), .int .u8 (z.2.toNat : Int)] := by rw [hWB]; exact Blk.new wr _ _
                have v0 := hbx.cell (k := 0) rfl
                have v1 := hbx.cell (k := 1) rfl
                have hbk := HBk.out.below hbb
                have z1 := hbk.cell (k := 1) rfl
                have d0 := Below.keeps hbb d0
                have d1 := Below.keeps hbb d1
                have hoc := HOc.out.below hbb
                have f0 := (hoc.freeV (k := j * 2) (by rw [HLEN.out]; show j * 2 < cp.length * 2; omega)).2
                have f1 := (hoc.freeV (k := j * 2 + 1) (by rw [HLEN.out]; show j * 2 + 1 < cp.length * 2; omega)).2
                have HBK := Lib.hid hbk
                have HOC := Lib.hid hoc
                have HOT := Lib.hid (HOt.out.below hbb)
                have HBB := Lib.hid (bt HBr.out hbb)
                clear hWB hbx hbk hoc hbb HBk HOc HOt
                go_wp2_with fail
                have e1 := HOC.out.setCell (k := j) (by rw [HLEN.out]; exact h0) (y := cp[j]) (j := 0) (by decide) (u := .int .u8 (z.1.toNat : Int)) (by rw [HAT.out, HZ1.out]; rfl)
                have hc1 : Chg (fun x => x = h) WB (WB.setCell ⟨h, j * 2, none⟩ (.int .u8 (z.1.toNat : Int))) := Chg.setCell _ _ _ rfl
                obtain ⟨wa, hwa⟩ : ∃ wa, wa = WB.setCell ⟨h, j * 2, none⟩ (.int .u8 (z.1.toNat : Int)) := ⟨_, rfl⟩
                rw [show j * recIns.n + 0 = j * 2 from rfl, ← hwa] at e1
                rw [← hwa] at hc1 ⊢
                have e2 := e1.setCell (k := j) (by rw [List.length_set, HLEN.out]; exact h0) (y := z) (j := 1) (by decide) (u := .int .u8 (z.2.toNat : Int)) (by rw [List.getElem_set_self]; show [_, _] = [_, _]; rw [HZ1.out])
                have hc2 : Chg (fun x => x = h) wa (wa.setCell ⟨h, j * 2 + 1, none⟩ (.int .u8 (z.2.toNat : Int))) := Chg.setCell _ _ _ rfl
                obtain ⟨we, hwe⟩ : ∃ we, we = wa.setCell ⟨h, j * 2 + 1, none⟩ (.int .u8 (z.2.toNat : Int)) := ⟨_, rfl⟩
                rw [show j * recIns.n + 1 = j * 2 + 1 from rfl, ← hwe, List.set_set, ← HZ.out, HSU.out] at e2
                rw [← hwe] at hc2 ⊢
                have hcc := hc1.trans hc2
                have hot := HOT.out.chgV hcc (fun i hi e => own_apart HOT.out HOC.out (by decide) i hi (by rw [e]; rfl))
                have hbz : Blk we C 25 [.slice a6 tp.length c6, .slice (some ⟨h, 0, none⟩) cp.length c7] := hcc.at HBK.out (fun e => own_neV HOC.out HBK.out (by decide) h rfl e.symm)
                have hBz : Below w3.heap.size w3 we := HBB.out.trans (hcc.below (fun x (hx : x = h) => by have := HHB.out; omega) HBB.out.size)
                exact ⟨⟨j + 1, by go_num, by omega, hbz, hot, e2, hBz⟩, by simp [intOf]; omega⟩
              · have t1 : ((cp[j].1.toNat : Int) == 2) = false := u8_ne (by decide) h1
                by_cases h2 : cp[j].1 = 22
                · have t2 : ((cp[j].1.toNat : Int) == 22) = true := by rw [h2]; rfl
                  have HSH := Lib.hid (show moreV y cp[j] = (cp[j].1, cp[j].2 + y) by unfold moreV; rw [if_pos (.inr h2)])
                  clear h1 h2
                  go_upto_region 15 with fail
                  have hsh : ((cp[j].2.toNat : Int) + (y.toNat : Int)) % 256 = ((cp[j].2 + y).toNat : Int) := by simp [UInt8.toNat_add]
                  rw [hsh]
                  clear hsh
                  obtain ⟨z, hz⟩ : ∃ z : VI, z = (cp[j].1, cp[j].2 + y) := ⟨_, rfl⟩
                  have HZ := Lib.hid (HSH.out.trans hz.symm)
                  have hz1 : z.1 = cp[j].1 := by rw [hz]
                  rw [show (cp[j].1.toNat : Int) = (z.1.toNat : Int) by rw [hz], show ((cp[j].2 + y).toNat : Int) = (z.2.toNat : Int) by rw [hz]]
                  clear hz
                  have HZ1 := Lib.hid hz1
                  clear hz1
                  obtain ⟨WB, hWB⟩ : ∃ WB, WB = wr.alloc (.cells #[.int .u8 (z.1.toNat : Int), .int .u8 (z.2.toNat : Int)] 33) := ⟨_, rfl⟩
                  have hbb : Below wr.heap.size wr WB := by rw [hWB]; exact b_alloc _ _
                  rw [← hWB]
                  have hbx : Blk WB wr.heap.size 33 [.int .u8 (z.1.toNat : Int), .int .u8 (z.2.toNat : Int)] := by rw [hWB]; exact Blk.new wr _ _
                  have v0 := hbx.cell (k := 0) rfl
                  have v1 := hbx.cell (k := 1) rfl
                  have hbk := HBk.out.below hbb
                  have z1 := hbk.cell (k := 1) rfl
                  have d0 := Below.keeps hbb d0
                  have d1 := Below.keeps hbb d1
                  have hoc := HOc.out.below hbb
                  have f0 := (hoc.freeV (k := j * 2) (by rw [HLEN.out]; show j * 2 < cp.length * 2; omega)).2
                  have f1 := (hoc.freeV (k := j * 2 + 1) (by rw [HLEN.out]; show j * 2 + 1 < cp.length * 2; omega)).2
                  have HBK := Lib.hid hbk
                  have HOC := Lib.hid hoc
                  have HOT := Lib.hid (HOt.out.below hbb)
                  have HBB := Lib.hid (bt HBr.out hbb)
                  clear hWB hbx hbk hoc hbb HBk HOc HOt
                  go_wp2_with fail
                  have e1 := HOC.out.setCell (k := j) (by rw [HLEN.out]; exact h0) (y := cp[j]) (j := 0) (by decide) (u := .int .u8 (z.1.toNat : Int)) (by rw [HAT.out, HZ1.out]; rfl)
                  have hc1 : Chg (fun x => x = h) WB (WB.setCell ⟨h, j * 2, none⟩ (.int .u8 (z.1.toNat : Int))) := Chg.setCell _ _ _ rfl
                  obtain ⟨wa, hwa⟩ : ∃ wa, wa = WB.setCell ⟨h, j * 2, none⟩ (.int .u8 (z.1.toNat : Int)) := ⟨_, rfl⟩
                  rw [show j * recIns.n + 0 = j * 2 from rfl, ← hwa] at e1
                  rw [← hwa] at hc1 ⊢
                  have e2 := e1.setCell (k := j) (by rw [List.length_set, HLEN.out]; exact h0) (y := z) (j := 1) (by decide) (u := .int .u8 (z.2.toNat : Int)) (by rw [List.getElem_set_self]; show [_, _] = [_, _]; rw [HZ1.out])
                  have hc2 : Chg (fun x => x = h) wa (wa.setCell ⟨h, j * 2 + 1, none⟩ (.int .u8 (z.2.toNat : Int))) := Chg.setCell _ _ _ rfl
                  obtain ⟨we, hwe⟩ : ∃ we, we = wa.setCell ⟨h, j * 2 + 1, none⟩ (.int .u8 (z.2.toNat : Int)) := ⟨_, rfl⟩
                  rw [show j * recIns.n + 1 = j * 2 + 1 from rfl, ← hwe, List.set_set, ← HZ.out, HSU.out] at e2
                  rw [← hwe] at hc2 ⊢
                  have hcc := hc1.trans hc2
                  have hot := HOT.out.chgV hcc (fun i hi e => own_apart HOT.out HOC.out (by decide) i hi (by rw [e]; rfl))
                  have hbz : Blk we C 25 [.slice a6 tp.length c6, .slice (some ⟨h, 0, none⟩) cp.length c7] := hcc.at HBK.out (fun e => own_neV HOC.out HBK.out (by decide) h rfl e.symm)
                  have hBz : Below w3.heap.size w3 we := HBB.out.trans (hcc.below (fun x (hx : x = h) => by have := HHB.out; omega) HBB.out.size)
                  exact ⟨⟨j + 1, by go_num, by omega, hbz, hot, e2, hBz⟩, by simp [intOf]; omega⟩
                · have t2 : ((cp[j].1.toNat : Int) == 22) = false := u8_ne (by decide) h2
                  have HSH := Lib.hid (show moreV y cp[j] = cp[j] by unfold moreV; rw [if_neg (by rintro (h | h) <;> contradiction)])
                  clear h1 h2
                  go_upto_region 15 with fail
                  obtain ⟨z, hz⟩ : ∃ z : VI, z = cp[j] := ⟨_, rfl⟩
                  have HZ := Lib.hid (HSH.out.trans hz.symm)
                  have hz1 : z.1 = cp[j].1 := by rw [hz]
                  rw [show cp[j] = z from hz.symm]
                  rw [show cp[j] = z from hz.symm] at d0 d1
                  clear hz
                  have HZ1 := Lib.hid hz1
                  clear hz1
                  obtain ⟨WB, hWB⟩ : ∃ WB, WB = wr.alloc (.cells #[.int .u8 (z.1.toNat : Int), .int .u8 (z.2.toNat : Int)] 33) := ⟨_, rfl⟩
                  have hbb : Below wr.heap.size wr WB := by rw [hWB]; exact b_alloc _ _
                  rw [← hWB]
                  have hbx : Blk WB wr.heap.size 33 [.int .u8 (z.1.toNat : Int), .int .u8 (z.2.toNat : Int)] := by rw [hWB]; exact Blk.new wr _ _
                  have v0 := hbx.cell (k := 0) rfl
                  have v1 := hbx.cell (k := 1) rfl
                  have hbk := HBk.out.below hbb
                  have z1 := hbk.cell (k := 1) rfl
                  have d0 := Below.keeps hbb d0
                  have d1 := Below.keeps hbb d1
                  have hoc := HOc.out.below hbb
                  have f0 := (hoc.freeV (k := j * 2) (by rw [HLEN.out]; show j * 2 < cp.length * 2; omega)).2
                  have f1 := (hoc.freeV (k := j * 2 + 1) (by rw [HLEN.out]; show j * 2 + 1 < cp.length * 2; omega)).2
                  have HBK := Lib.hid hbk
                  have HOC := Lib.hid hoc
                  have HOT := Lib.hid (HOt.out.below hbb)
                  have HBB := Lib.hid (bt HBr.out hbb)
                  clear hWB hbx hbk hoc hbb HBk HOc HOt
                  go_wp2_with fail
                  have e1 := HOC.out.setCell (k := j) (by rw [HLEN.out]; exact h0) (y := cp[j]) (j := 0) (by decide) (u := .int .u8 (z.1.toNat : Int)) (by rw [HAT.out, HZ1.out]; rfl)
                  have hc1 : Chg (fun x => x = h) WB (WB.setCell ⟨h, j * 2, none⟩ (.int .u8 (z.1.toNat : Int))) := Chg.setCell _ _ _ rfl
                  obtain ⟨wa, hwa⟩ : ∃ wa, wa = WB.setCell ⟨h, j * 2, none⟩ (.int .u8 (z.1.toNat : Int)) := ⟨_, rfl⟩
                  rw [show j * recIns.n + 0 = j * 2 from rfl, ← hwa] at e1
                  rw [← hwa] at hc1 ⊢
                  have e2 := e1.setCell (k := j) (by rw [List.length_set, HLEN.out]; exact h0) (y := z) (j := 1) (by decide) (u := .int .u8 (z.2.toNat : Int)) (by rw [List.getElem_set_self]; show [_, _] = [_, _]; rw [HZ1.out])
                  have hc2 : Chg (fun x => x = h) wa (wa.setCell ⟨h, j * 2 + 1, none⟩ (.int .u8 (z.2.toNat : Int))) := Chg.setCell _ _ _ rfl
                  obtain ⟨we, hwe⟩ : ∃ we, we = wa.setCell ⟨h, j * 2 + 1, none⟩ (.int .u8 (z.2.toNat : Int)) := ⟨_, rfl⟩
                  rw [show j * recIns.n + 1 = j * 2 + 1 from rfl, ← hwe, List.set_set, ← HZ.out, HSU.out] at e2
                  rw [← hwe] at hc2 ⊢
                  have hcc := hc1.trans hc2
                  have hot := HOT.out.chgV hcc (fun i hi e => own_apart HOT.out HOC.out (by decide) i hi (by rw [e]; rfl))
                  have hbz : Blk we C 25 [.slice a6 tp.length c6, .slice (some ⟨h, 0, none⟩) cp.length c7] := hcc.at HBK.out (fun e => own_neV HOC.out HBK.out (by decide) h rfl e.symm)
                  have hBz : Below w3.heap.size w3 we := HBB.out.trans (hcc.below (fun x (hx : x = h) => by have := HHB.out; omega) HBB.out.size)
                  exact ⟨⟨j + 1, by go_num, by omega, hbz, hot, e2, hBz⟩, by simp [intOf]; omega⟩
            · obtain rfl : j = cp.length := by omega
              obtain ⟨T2, hT2⟩ : ∃ T2, T2 = throughV tq (cp.map (moreV y)) role := ⟨_, rfl⟩
              have hocc := HOc.out
              rw [show codeT cp y cp.length = cp.map (moreV y) by unfold codeT; rw [List.take_length, List.drop_length, List.append_nil]] at hocc
              have hbw := bt HB3.out HBr.out
              have hask : AskV wr (.slice a6 tp.length c6) (.slice a7 cp.length c7) tq (cp.map (moreV y)) := by
                obtain ⟨b1, b2, b3⟩ := HSL.out
                exact ⟨HOt.out.row, hocc.row, by rw [HLQ.out]; omega, by rw [List.length_map]; omega, fun s hs => by rw [HTQ.out] at hs; have := replT_max (m := 4000) (by omega) b3 s hs; omega, (HEF.out _ hbw).1, (HEF.out _ hbw).2⟩
              have HKN := Lib.hid (Kinds_any _ _ _ _ role wr hask)
              rw [← hT2] at HKN
              have HTE := Lib.hid (fun (h64 : ∀ s ∈ tp, s.length ≤ 64) => show T2 = T by rw [hT2, HT.out, HTQ.out]; exact throughV_others cp y role (replT_len (Nat.le_refl _) (by have := HK1L.out; omega)) h64 (replT_ok h64))
              have HBW := Lib.hid hbw
              have z0 := HBk.out.cell (k := 0) rfl
              have z1 := HBk.out.cell (k := 1) rfl
              clear hT2 hocc hask hbw
              go_wp2_with fail
              refine HKN.out.mono ?_
              rintro e w8 ⟨⟨vb, rfl, hvb⟩, hB⟩
              have HVB := Lib.hid (show recS.Row w8 vb (kindsV T2) from hvb)
              have HB8 := Lib.hid (bt HBW.out hB)
              have HVA8 := Lib.hid (HVA.out.below (bt HBr.out hB))
              have hx8 := HX.out.below (bt HC3.out (bt HBr.out hB))
              have x0 := hx8.cell (k := 0) rfl
              clear hB hvb hx8 z0 z1 HKN
              go_wp2_with fail
              go_loopw [17] (fun t wl => ∃ i : Nat, t = .int .i64 (i : Int) ∧ i ≤ tp.length ∧ wl = w8 ∧ Hid (∀ j (hj : j < tp.length), j < i → tp[j].length ≤ 64)) (fun t _ => tp.length - (intOf t).toNat)
              case atStart => exact ⟨0, rfl, Nat.zero_le _, rfl, fun j _ h => absurd h (by omega)⟩
              case round =>
                obtain ⟨i, rfl, hi, rfl, HOKS⟩ := hrel
                by_cases h0 : i < tp.length
                · obtain ⟨b, off, rfl, d0⟩ := HCT.out i h0
                  have d0 := Below.keeps HB8.out d0
                  have ii0 : (0 : Int) ≤ (i : Int) := by omega
                  have ii1 : (i : Int) < (tp.length : Int) := by omega
                  have hml := HSL.out.2.2 tp[i] (List.getElem_mem h0)
                  by_cases h1 : tp[i].length ≤ 64
                  · have t1 : ¬ (64 : Int) < (tp[i].length : Int) := by omega
                    go_wp2_with fail
                    go_roundw
                    case rel =>
                      refine ⟨i + 1, by go_num, by omega, trivial, fun j hj hji => ?_⟩
                      by_cases e : j = i
                      · subst e; exact h1
                      · exact HOKS.out j hj (by omega)
                    case measure => simp [intOf]; omega
                  · have t1 : (64 : Int) < (tp[i].length : Int) := by omega
                    go_wp2_with fail
                    refine (HAL.out _ HB8.out).mono ?_
                    rintro e wz ⟨rfl, hB⟩
                    have HZ := Lib.hid (bt HB8.out hB)
                    clear hB
                    go_wp2_with fail
                    go_ret
                    exact ⟨rfl, HZ.out⟩
                · have h64 : ∀ s ∈ tp, s.length ≤ 64 := by
                    intro s hs
                    obtain ⟨j, hj, rfl⟩ := List.getElem_of_mem hs
                    exact HOKS.out j hj (by omega)
                  obtain rfl : T2 = T := HTE.out h64
                  have HKL := Lib.hid (show (kindsV T2).length ≤ 140737488355328 by rw [HT.out]; have := kindsV_len tp cp role; have := HSL.out.2.1; omega)
                  have u1 : ((T2.2.1 : Int) == (T2.2.1 : Int)) = true := by simp
                  have ii1 : ¬ (i : Int) < (tp.length : Int) := by omega
                  clear h64 h0
                  go_wp2_with fail
                  refine (same13_any _ _ _ _ _ HVA8.out HVB.out HKL.out HKL.out).mono ?_
                  rintro e w9 ⟨rfl, hB⟩
                  have HB9 := Lib.hid (bt HB8.out hB)
                  have hd : decide (kindsV T2 = kindsV T2) = true := decide_eq_true rfl
                  rw [hd]
                  clear hB hd
                  go_wp2_with fail
                  refine (HAL.out _ HB9.out).mono ?_
                  rintro e wz ⟨rfl, hB⟩
                  have HZ := Lib.hid (bt HB9.out hB)
                  clear hB
                  go_wp2_with fail
                  go_ret
                  exact ⟨rfl, HZ.out⟩
    · have s1 : (20 : Int) < (xs.length : Int) := by omega
      go_enter Tryd.func4, Tryd.ntmps4
      go_upto_region 1 with fail
      rw [← hW1]
      clear hW1
      go_wp2_with fail
      refine (HP.out _ HB1.out).large.mono ?_
      rintro e w2 ⟨rfl, hB⟩
      have HB2 := Lib.hid (bt HB1.out hB)
      have x0 := Below.keeps hB x0
      have x1 := Below.keeps hB x1
      have HC2 := Lib.hid hB
      clear hB
      rw [HLP.out]
      clear ht
      go_wp2_with fail
      refine (HAL.out _ HB2.out).mono ?_
      rintro e wz ⟨rfl, hB⟩
      have HZ := Lib.hid (bt HB2.out hB)
      clear hB
      go_wp2_with fail
      go_ret
      exact ⟨rfl, HZ.out⟩
end Go.Proofs.YtahmacnmphjhgaaDoor
namespace Go.Proofs.YtahmacnmphjhgaaDoor
open Go.ChangeShapes Go.WideShapes Go.ChangeAt Go.RowKit Oct
open Go.ChangeMaps (open_string shut_string)

theorem u64_nat {a : Int} (h : (Lit.int .u64 a).wf = true) : ∃ n : Nat, a = (n : Int) ∧ n < 18446744073709551616 := by
  have h2 : 0 ≤ a ∧ a < 18446744073709551616 := by
    have := bounds_u64 h; omega
  exact ⟨a.toNat, by omega, by omega⟩

section
variable {P : Program} {H : Type} {enc : TypeId × Value → H} {W : World} {base : Nat}
theorem open_str {t j : Nat} {v : Value} {d : DataW H} {ps : List MemPlace} {ts : List TypeId} {ds : List (DataW H)} (ht : P.underlying t = some .string) (hv : Value.okWide P W .any base t v)
    (h : DataW.Trod enc P W 0 (fun _ => true) true t v d ps) (hsz : (DataW.weightsEach P ts ds).all (· ≤ reachBytes) = true) (hj : ts[j]? = some t) (hd : ds[j]? = some d) :
    ∃ l : List UInt8, v = .string (bs l) ∧ l.length ≤ 140737488355328 := by
  obtain ⟨s, rfl, rfl, _, _⟩ := open_string ht hv h
  refine ⟨s.data.toList, by rw [bs_of], ?_⟩
  have := sized_string hsz hj hd
  have h2 := reachBytes_lt
  omega

theorem weights_strs (e : TypeId) : ∀ (ss : List ByteArray) (s : ByteArray), s ∈ ss → s.data.toList.length ∈ DataW.weightsAll (H := H) P e (strs ss)
  | [], _, h => by simp at h
  | x :: ss, s, h => by
    have hx : strs (H := H) (x :: ss) = DataW.lit (.string x.data.toList) :: strs ss := rfl
    rw [hx, DataW.weightsAll]
    rcases List.mem_cons.1 h with rfl | h
    · simp [DataW.weights]
    · exact List.mem_append.2 (.inr (weights_strs e ss s h))
theorem add_cell {w : World} {a : Addr} {i : Nat} {u : Value} (h : w.cell? (a.add i) = some u) : a.add i = ⟨a.block, a.off + i, none⟩ := by
  unfold Addr.add at h ⊢
  split
  · rename_i hi
    rw [if_pos hi] at h
    subst hi
    cases a with
    | mk b o sp =>
      cases sp with
      | none => rfl
      | some x => exfalso; revert h; simp only [World.cell?]; split <;> simp
  · rfl
theorem open_texts {t e j : Nat} {v : Value} {d : DataW H} {ps : List MemPlace} {ts : List TypeId} {ds : List (DataW H)} (ht : P.underlying t = some (.slice e)) (he : P.underlying e = some .string) (hc : P.cellsOf e = 1) (hby : P.bytesOf e = 16)
    (hv : Value.okWide P W .any base t v) (h : DataW.Trod enc P W 0 (fun _ => true) true t v d ps) (hsz : (DataW.weightsEach P ts ds).all (· ≤ reachBytes) = true) (hj : ts[j]? = some t) (hd : ds[j]? = some d) :
    ∃ r : List (List UInt8), Reads W v r.length (tcells r) ∧ r.length ≤ 140737488355328 ∧ ∀ l ∈ r, l.length ≤ 140737488355328 := by
  have h47 := reachBytes_lt
  obtain ⟨a0, len, cap, rfl⟩ := okWide_slice ht hv
  obtain ⟨fuel, hf⟩ := h
  rcases open_strings ht he hc hf with ⟨hcs, hx⟩ | ⟨a, len', cap', ss, hcs, _, hl, hm, hz, hx, hcell, hws⟩
  · simp [Value.cells] at hcs
    obtain ⟨rfl, rfl, rfl⟩ := hcs
    exact ⟨[], Reads.nil _, by simp, by simp⟩
  · simp [Value.cells] at hcs
    obtain ⟨rfl, rfl, rfl⟩ := hcs
    simp at hz
    simp only [Prod.mk.injEq] at hx
    have hd2 := hx.1
    subst hd2
    have s1 := sized_slice hsz hj hd ht
    rw [hby] at s1
    simp only [strs, List.length_map, List.length_take, List.length_drop] at s1
    have hlen : (ss.take len).length = len := by simp; omega
    refine ⟨(ss.take len).map fun s => s.data.toList, ?_, ?_, ?_⟩
    · refine ⟨some a, cap, by rw [List.length_map, hlen], by simp, fun i u hu => ?_⟩
      have hi : i < len := by
        rcases Nat.lt_or_ge i len with h | h
        · exact h
        · rw [List.getElem?_eq_none (by simp [tcells]; omega)] at hu; simp at hu
      have hcl := hcell i (by omega)
      have e1 := add_cell hcl
      have e2 : a = ⟨a.block, a.off, none⟩ := by
        have h0 := add_cell (hcell 0 (by omega))
        simpa [Addr.add] using h0
      rw [e1] at hcl
      refine ⟨a.block, a.off, by rw [← e2], ?_⟩
      rw [hcl, ← hu]
      have hss : i < ss.length := by omega
      simp [tcells, List.getElem?_take, hi, hss, bs_of, List.getD]
    · simp; omega
    · intro l hl
      obtain ⟨s, hs, rfl⟩ := List.mem_map.1 hl
      have hin : s.data.toList.length ∈ DataW.weightsEach P ts ds := by
        refine DataW.weights_mem_each hj hd _ ?_
        simp only [DataW.weights, ht]
        exact List.mem_cons.2 (.inr (List.mem_append.2 (.inl (weights_strs e _ s hs))))
      have := List.all_eq_true.1 hsz _ hin
      simp at this
      simp
      omega
end
end Go.Proofs.YtahmacnmphjhgaaDoor
