/- Lemmas for JobRuns, part 13: walks of the functions that it reaches, and the plain laws behind them. -/
import Derived.Test.YtndagciefnddmaaGreatDoorJobRunsK2
import Derived.Test.YtndagciefnddmaaGreatDoorJobRunsK11
import Derived.Test.YtndagciefnddmaaGreatDoorJobRunsK12
set_option linter.unusedSimpArgs false
set_option linter.unusedVariables false
namespace Go.Proofs.YtndagciefnddmaaGreatDoor
open Go.RowKit Oct
attribute [local irreducible] wpG
theorem mayR_long {texts : List (List UInt8)} {code : List VI} (h : 16 < texts.length) : mayV texts code = false := by unfold mayV; rw [decide_eq_false (by omega)]; simp
theorem mayR_code {texts : List (List UInt8)} {code : List VI} (h : 256 < code.length) : mayV texts code = false := by unfold mayV; rw [decide_eq_false (show ¬ code.length ≤ 256 by omega)]; simp
theorem mayR_text {texts : List (List UInt8)} {code : List VI} (k : Nat) (h : k < texts.length) (h1 : 64 < texts[k].length) : mayV texts code = false := by
  have : texts.all (fun s => decide (s.length ≤ 64)) = false := all_false k h (decide_eq_false (by omega))
  unfold mayV; rw [this]; simp
theorem mayR_ins {texts : List (List UInt8)} {code : List VI} (k : Nat) (h : k < code.length) (h1 : insOk code[k] = false) : mayV texts code = false := by
  have : code.all insOk = false := all_false k h h1
  unfold mayV; rw [this]; simp
theorem mayR_ok {texts : List (List UInt8)} {code : List VI} (h1 : texts.length ≤ 16) (h2 : code.length ≤ 256) (h3 : ∀ k (h : k < texts.length), texts[k].length ≤ 64) (h4 : ∀ k (h : k < code.length), insOk code[k] = true) : mayV texts code = true := by
  have e3 : texts.all (fun s => decide (s.length ≤ 64)) = true := all_true (fun k h => decide_eq_true (h3 k h))
  have e4 : code.all insOk = true := all_true h4
  unfold mayV; rw [e3, e4, decide_eq_true h1, decide_eq_true h2]; rfl
set_option maxRecDepth 100000 in
set_option maxHeartbeats 8000000 in
theorem rMay12_any (tv cv : Value) (texts : List (List UInt8)) (code : List VI) (w : World) (ht : recS.Row w tv texts) (hc : recIns.Row w cv code) (hlt : texts.length ≤ 140737488355328) (hlc : code.length ≤ 140737488355328) (hm : ∀ s ∈ texts, s.length ≤ 140737488355328) :
    Calls Tryz.prog 89 #[.agg #[tv, cv]] w fun e w' => e = .returned (.bool (mayV texts code)) ∧ Below w.heap.size w w' := by
  obtain ⟨at_, ct, rfl, -, hct⟩ := recS_open ht
  obtain ⟨ac, cc, rfl, -, hcc⟩ := recIns_open hc
  have HM := Lib.hid hm
  have HCT := Lib.hid hct
  have HCC := Lib.hid hcc
  obtain ⟨W1, hW1⟩ : ∃ W1, W1 = w.alloc (.cells #[.slice at_ texts.length ct, .slice ac code.length cc] 25) := ⟨_, rfl⟩
  have hb1 : Below w.heap.size w W1 := by rw [hW1]; exact b_alloc _ _
  have hx : Blk W1 w.heap.size 25 [.slice at_ texts.length ct, .slice ac code.length cc] := by rw [hW1]; exact Blk.new w _ _
  have x0 := hx.cell (k := 0) rfl
  have x1 := hx.cell (k := 1) rfl
  have HB1 := Lib.hid hb1
  have HX := Lib.hid hx
  obtain ⟨mv, hmv⟩ : ∃ mv, mv = mayV texts code := ⟨_, rfl⟩
  have HMV := Lib.hid hmv
  have lt1 : (texts.length : Int) ≤ 140737488355328 := by omega
  have lc1 : (code.length : Int) ≤ 140737488355328 := by omega
  rw [← hmv]
  clear ht hc hct hcc hm hb1 hx hmv
  by_cases h16 : 16 < texts.length
  · have t1 : (16 : Int) < (texts.length : Int) := by omega
    have HV := Lib.hid (HMV.out.trans (mayR_long h16))
    clear h16
    go_enter Tryz.func89, Tryz.ntmps89
    go_upto_region 1 with fail
    rw [← hW1]
    clear hW1
    go_wp2_with fail
    go_ret
    exact ⟨by rw [HV.out]; rfl, HB1.out⟩
  · have t1 : ¬ (16 : Int) < (texts.length : Int) := by omega
    by_cases h256 : 256 < code.length
    · have t2 : (256 : Int) < (code.length : Int) := by omega
      have HV := Lib.hid (HMV.out.trans (mayR_code h256))
      clear h16 h256
      go_enter Tryz.func89, Tryz.ntmps89
      go_upto_region 1 with fail
      rw [← hW1]
      clear hW1
      go_wp2_with fail
      go_ret
      exact ⟨by rw [HV.out]; rfl, HB1.out⟩
    · have t2 : ¬ (256 : Int) < (code.length : Int) := by omega
      have hOK := mayR_ok (texts := texts) (code := code) (by omega) (by omega)
      have HOK := Lib.hid hOK
      clear hOK
      go_enter Tryz.func89, Tryz.ntmps89
      go_upto_region 1 with fail
      rw [← hW1]
      clear hW1
      go_wp2_with fail
      go_loop [3] (fun v => ∃ i : Nat, v = .int .i64 (i : Int) ∧ i ≤ texts.length ∧ Hid (∀ k (h : k < texts.length), k < i → texts[k].length ≤ 64)) (fun v => texts.length - (intOf v).toNat)
      case atStart => exact ⟨0, rfl, Nat.zero_le _, fun k _ h => absurd h (by omega)⟩
      case round =>
        obtain ⟨i, rfl, hi, HTI⟩ := hrel
        by_cases h0 : i < texts.length
        · obtain ⟨b, off, rfl, d0⟩ := HCT.out i h0
          have d0 := Below.keeps HB1.out d0
          have ii0 : (0 : Int) ≤ (i : Int) := by omega
          have ii1 : (i : Int) < (texts.length : Int) := by omega
          have hsl := HM.out texts[i] (List.getElem_mem h0)
          by_cases h64 : 64 < texts[i].length
          · have t3 : (64 : Int) < (texts[i].length : Int) := by omega
            have HV := Lib.hid (HMV.out.trans (mayR_text i h0 h64))
            clear h64
            go_wp2_with fail
            go_ret
            exact ⟨by rw [HV.out]; rfl, HB1.out⟩
          · have t3 : ¬ (64 : Int) < (texts[i].length : Int) := by omega
            have HN := Lib.hid (show ∀ k (h : k < texts.length), k < i + 1 → texts[k].length ≤ 64 from fun k h hk => by
              by_cases e : k = i
              · subst e; omega
              · exact HTI.out k h (by omega))
            clear h64 HTI
            go_wp2_with fail
            go_round
            case rel => exact ⟨i + 1, by go_num, by omega, HN.out⟩
            case measure => simp [intOf]; omega
        · obtain rfl : i = texts.length := by omega
          have e0 : ¬ (texts.length : Int) < (texts.length : Int) := by omega
          clear h0
          go_wp2_with fail
          go_loopw [4] (fun v wr => ∃ i : Nat, v = .int .i64 (i : Int) ∧ i ≤ code.length ∧ Hid (∀ k (h : k < code.length), k < i → insOk code[k] = true) ∧ Hid (Below W1.heap.size W1 wr)) (fun v _ => code.length - (intOf v).toNat)
          case atStart => exact ⟨0, rfl, Nat.zero_le _, fun k _ h => absurd h (by omega), Below.refl _ _⟩
          case round =>
            obtain ⟨i, rfl, hi, HCI, HBr⟩ := hrel
            have x1 := (HX.out.below HBr.out).cell (k := 1) rfl
            by_cases h0 : i < code.length
            · obtain ⟨b, off, rfl, d0, d1⟩ := HCC.out i h0
              have d0 := Below.keeps (bt HB1.out HBr.out) d0
              have d1 := Below.keeps (bt HB1.out HBr.out) d1
              have ii0 : (0 : Int) ≤ (i : Int) := by omega
              have ii1 : (i : Int) < (code.length : Int) := by omega
              have HIN := Lib.hid (rIns_any code[i] wr)
              obtain ⟨q, hq⟩ : ∃ q, q = insOk code[i] := ⟨_, rfl⟩
              rw [← hq] at HIN
              have HQ := Lib.hid hq
              clear hq
              cases q with
              | false =>
                have HV := Lib.hid (HMV.out.trans (mayR_ins i h0 HQ.out.symm))
                go_wp2_with fail
                refine HIN.out.mono ?_
                rintro e w2 ⟨rfl, hB2⟩
                have HB2 := Lib.hid (bt HBr.out hB2)
                clear hB2
                go_wp2_with fail
                go_ret
                exact ⟨by rw [HV.out]; rfl, bt HB1.out HB2.out⟩
              | true =>
                have HN := Lib.hid (show ∀ k (h : k < code.length), k < i + 1 → insOk code[k] = true from fun k h hk => by
                  by_cases e : k = i
                  · subst e; exact HQ.out.symm
                  · exact HCI.out k h (by omega))
                go_wp2_with fail
                refine HIN.out.mono ?_
                rintro e w2 ⟨rfl, hB2⟩
                have HB2 := Lib.hid (bt HBr.out hB2)
                clear hB2
                go_wp2_with fail
                go_roundw
                case rel => exact ⟨i + 1, by go_num, by omega, HN.out, HB2.out⟩
                case measure => simp [intOf]; omega
            · obtain rfl : i = code.length := by omega
              have e1 : ¬ (code.length : Int) < (code.length : Int) := by omega
              have HV := Lib.hid (HMV.out.trans (HOK.out (fun k h => HTI.out k h h) (fun k h => HCI.out k h h)))
              clear h0
              go_wp2_with fail
              go_ret
              exact ⟨by rw [HV.out]; rfl, bt HB1.out HBr.out⟩
set_option maxRecDepth 100000 in
set_option maxHeartbeats 8000000 in
theorem rSame12_any (ta ca tb cb : Value) (texts : List (List UInt8)) (code : List VI) (w : World) (ht : recS.Row w ta texts) (hc : recIns.Row w ca code) (ht' : recS.Row w tb texts) (hc' : recIns.Row w cb code) (hlt : texts.length ≤ 140737488355328) (hlc : code.length ≤ 140737488355328) :
    Calls Tryz.prog 65 #[.agg #[ta, ca], .agg #[tb, cb]] w fun e w' => e = .returned (.bool true) ∧ Below w.heap.size w w' := by
  obtain ⟨a1, n1, rfl, -, h1⟩ := recS_open ht
  obtain ⟨a2, n2, rfl, -, h2⟩ := recIns_open hc
  obtain ⟨a3, n3, rfl, -, h3⟩ := recS_open ht'
  obtain ⟨a4, n4, rfl, -, h4⟩ := recIns_open hc'
  have G1 := Lib.hid h1
  have G2 := Lib.hid h2
  have G3 := Lib.hid h3
  have G4 := Lib.hid h4
  obtain ⟨W1, hW1⟩ : ∃ W1, W1 = (w.alloc (.cells #[.slice a1 texts.length n1, .slice a2 code.length n2] 25)).alloc (.cells #[.slice a3 texts.length n3, .slice a4 code.length n4] 25) := ⟨_, rfl⟩
  have hb1 : Below w.heap.size w W1 := by rw [hW1]; exact bt (b_alloc _ _) (b_alloc _ _)
  have hx : Blk W1 w.heap.size 25 [.slice a1 texts.length n1, .slice a2 code.length n2] := by rw [hW1]; exact (Blk.new w _ _).below (b_alloc _ _)
  have hy : Blk W1 (w.heap.size + 1) 25 [.slice a3 texts.length n3, .slice a4 code.length n4] := by
    rw [hW1]
    have := Blk.new (w.alloc (.cells #[.slice a1 texts.length n1, .slice a2 code.length n2] 25)) [.slice a3 texts.length n3, .slice a4 code.length n4] 25
    rw [size_alV] at this
    exact this
  have x0 := hx.cell (k := 0) rfl
  have x1 := hx.cell (k := 1) rfl
  have y0 := hy.cell (k := 0) rfl
  have y1 := hy.cell (k := 1) rfl
  have HB1 := Lib.hid hb1
  have HX := Lib.hid hx
  have HY := Lib.hid hy
  have t1 : ((texts.length : Int) != (texts.length : Int)) = false := by simp
  have t2 : ((code.length : Int) != (code.length : Int)) = false := by simp
  have lt1 : (texts.length : Int) ≤ 140737488355328 := by omega
  have lc1 : (code.length : Int) ≤ 140737488355328 := by omega
  clear ht hc ht' hc' h1 h2 h3 h4 hb1 hx hy
  go_enter Tryz.func65, Tryz.ntmps65
  go_upto_region 1 with fail
  rw [← hW1]
  clear hW1
  go_wp2_with fail
  clear x0 x1 y0 y1
  go_loopw [5] (fun v wr => ∃ i : Nat, v = .int .i64 (i : Int) ∧ i ≤ texts.length ∧ Hid (Below W1.heap.size W1 wr)) (fun v _ => texts.length - (intOf v).toNat)
  case atStart => exact ⟨0, rfl, Nat.zero_le _, Below.refl _ _⟩
  case round =>
    obtain ⟨i, rfl, hi, HBr⟩ := hrel
    have x0 := (HX.out.below HBr.out).cell (k := 0) rfl
    have y0 := (HY.out.below HBr.out).cell (k := 0) rfl
    have x1 := (HX.out.below HBr.out).cell (k := 1) rfl
    have y1 := (HY.out.below HBr.out).cell (k := 1) rfl
    by_cases h0 : i < texts.length
    · obtain ⟨b, off, rfl, d0⟩ := G1.out i h0
      obtain ⟨b', off', rfl, d1⟩ := G3.out i h0
      have d0 := Below.keeps (bt HB1.out HBr.out) d0
      have d1 := Below.keeps (bt HB1.out HBr.out) d1
      have ii0 : (0 : Int) ≤ (i : Int) := by omega
      have ii1 : (i : Int) < (texts.length : Int) := by omega
      have q1 : (texts[i] != texts[i]) = false := by simp
      have q2 : (texts[i] == texts[i]) = true := by simp
      go_upto_region 6 with fail
      go_quiet (fail)
      go_wp2_with fail
      go_roundw
      case rel => exact ⟨i + 1, by go_num, by omega, bt HBr.out (Below.drewN' _ _)⟩
      case measure => simp [intOf]; omega
    · obtain rfl : i = texts.length := by omega
      have e0 : ¬ (texts.length : Int) < (texts.length : Int) := by omega
      clear h0
      go_wp2_with fail
      clear x0 x1 y0 y1
      obtain ⟨W2, hW2⟩ : ∃ W, W = wr := ⟨_, rfl⟩
      subst hW2
      have HB2 := Lib.hid HBr.out
      clear HBr
      go_loopw [6] (fun v wr => ∃ i : Nat, v = .int .i64 (i : Int) ∧ i ≤ code.length ∧ Hid (Below W2.heap.size W2 wr)) (fun v _ => code.length - (intOf v).toNat)
      case atStart => exact ⟨0, rfl, Nat.zero_le _, Below.refl _ _⟩
      case round =>
        obtain ⟨i, rfl, hi, HBr⟩ := hrel
        have hbw := bt HB2.out HBr.out
        have x1 := (HX.out.below hbw).cell (k := 1) rfl
        have y1 := (HY.out.below hbw).cell (k := 1) rfl
        have HBW := Lib.hid hbw
        clear hbw
        by_cases h0 : i < code.length
        · obtain ⟨b, off, rfl, d0, d1⟩ := G2.out i h0
          obtain ⟨b', off', rfl, d2, d3⟩ := G4.out i h0
          have d0 := Below.keeps (bt HB1.out HBW.out) d0
          have d1 := Below.keeps (bt HB1.out HBW.out) d1
          have d2 := Below.keeps (bt HB1.out HBW.out) d2
          have d3 := Below.keeps (bt HB1.out HBW.out) d3
          have ii0 : (0 : Int) ≤ (i : Int) := by omega
          have ii1 : (i : Int) < (code.length : Int) := by omega
          have q1 : ((code[i].1.toNat : Int) == (code[i].1.toNat : Int)) = true := by simp
          have q2 : ((code[i].2.toNat : Int) == (code[i].2.toNat : Int)) = true := by simp
          go_upto_region 11 with fail
          go_quiet (fail)
          go_wp2_with fail
          go_roundw
          case rel => exact ⟨i + 1, by go_num, by omega, bt HBr.out (Below.drewN' _ _)⟩
          case measure => simp [intOf]; omega
        · obtain rfl : i = code.length := by omega
          have e0 : ¬ (code.length : Int) < (code.length : Int) := by omega
          clear h0
          go_wp2_with fail
          go_ret
          exact ⟨rfl, bt HB1.out HBW.out⟩
end Go.Proofs.YtndagciefnddmaaGreatDoor
namespace Go.Proofs.YtndagciefnddmaaGreatDoor
open Go.RowKit Oct
attribute [local irreducible] wpG
def WD (s : Vs) : Prop := ∀ b ∈ s.blocks, b.did = false → b.want = b.opn
theorem WD.one {nt inp : Nat} {role : UInt8} {i n : Nat} {x : VI} {s : Vs} (h : WD s) (hI : InvV n s) (h0 : (oneV nt inp role i x s).1 = 0) : WD (oneV nt inp role i x s).2 := by
  obtain ⟨hs, -, -⟩ := oneV_step hI.kl h0
  intro b hb hd
  rcases hs with ⟨_, k, _, hbl, _⟩ | ⟨_, r, c, hl, hbl, _⟩ | ⟨_, r, c, hl, _, hbl, _⟩ | ⟨_, hbl, _⟩ <;> rw [hbl] at hb
  · rcases List.mem_append.1 hb with hb | hb
    · exact h b hb hd
    · rw [List.mem_singleton] at hb; subst hb; rfl
  · rcases List.mem_append.1 hb with hb | hb
    · exact h b (by rw [hl]; exact List.mem_append.2 (.inl hb)) hd
    · rw [List.mem_singleton] at hb; subst hb; cases hd
  · exact h b (by rw [hl]; exact List.mem_append.2 (.inl hb)) hd
  · exact h b hb hd
section
variable {w w3 : World} {base G : Nat} {tv cv bv sv ev : Value} {role : UInt8} {s : Vs}
theorem RG.start (w : World) (tv cv : Value) (role : UInt8) (base : Nat) (hb : base ≤ w.heap.size) :
    RG (w.alloc (.cells #[tv, cv, .int .u8 (role.toNat : Int), .string ⟨#[]⟩, .slice none 0 0, .slice none 0 0, .slice none 0 0, .int .i64 0] 164)) base w.heap.size tv cv role ⟨[], [], [], [], 0⟩ (.slice none 0 0) (.slice none 0 0) (.slice none 0 0) :=
  ⟨Blk.new w ([tv, cv, .int .u8 (role.toNat : Int), .string ⟨#[]⟩, .slice none 0 0, .slice none 0 0, .slice none 0 0, .int .i64 0] : List Value) _, Rec.Own.nil _ _, Rec.Own.nil _ _, Rec.Own.nil _ _, hb, (fun b hb => by cases hb), (fun b hb => by cases hb), (fun b hb => by cases hb)⟩
theorem RG.freshE {b0 : Nat} {ev' : Value} {l : List Int} (h : RG w base G tv cv role s bv sv ev) (hB : Below w.heap.size w w3) (hb0 : w.heap.size ≤ b0) (ho : recJ.Own w3 b0 ev' l) :
    RG (w3.setCell ⟨G, 6, none⟩ ev') base G tv cv role { s with ends := l } bv sv ev' ∧ Below base w (w3.setCell ⟨G, 6, none⟩ ev') := by
  have hGb := Nat.le_trans h.gb (Nat.le_of_lt h.blk.lt)
  have hlt := h.blk.lt
  have h3 := h.below hB
  have hs : Chg (fun k => k = G) w3 (w3.setCell ⟨G, 6, none⟩ ev') := Chg.setCell _ _ _ rfl
  have nb : ∀ b, ev'.ownBlock = some b → w.heap.size ≤ b := fun b hb => Nat.le_trans hb0 (Rec.Own.ltV ho b hb).1
  refine ⟨⟨h3.blk.set 6 ev', h3.ob.chgV hs (fun k hk => (h.a1 k hk).1), h3.os.chgV hs (fun k hk => (h.a2 k hk).1), (ho.chgV hs (fun k hk => by have := nb k hk; omega)).baseLe (Nat.le_trans hGb hb0), h.gb, ?_, ?_, ?_⟩, ?_⟩
  · intro b hb
    refine ⟨(h.a1 b hb).1, (h.a1 b hb).2.1, fun e => ?_⟩
    have := nb b e
    have := (h.ob.ltV b hb).2
    omega
  · intro b hb
    refine ⟨(h.a2 b hb).1, fun e => ?_⟩
    have := nb b e
    have := (h.os.ltV b hb).2
    omega
  · intro b hb
    have := nb b hb
    omega
  · exact (hB.mono hGb).trans (hs.below (fun k hk => by have := h.gb; omega) (Nat.le_trans hGb hB.size))
theorem InvV.mid {n : Nat} {x : VI} (h : InvV n s) : InvV (n + 1) { s with seen := s.seen ++ [s.kinds], kinds := (valuesV s.kinds x).2 } :=
  ⟨h.bl, (valuesV_len (x := x) h.kl).1, h.bs, h.el, by show (s.seen ++ [s.kinds]).length ≤ n + 1; have := h.sl; simp; omega, h.dl⟩
end
def GoR (w' : World) (tv cv : Value) (role : UInt8) (T : Nat × Nat × Vs) (e : Ending) : Prop :=
  ∃ G base bv sv ev, e = .returned (.tuple #[.pointer (some ⟨G, 0, none⟩), .int .i64 (T.1 : Int), .int .i64 (T.2.1 : Int)]) ∧ (T.2.1 = 0 → RG w' base G tv cv role T.2.2 bv sv ev)
set_option maxRecDepth 100000 in
set_option maxHeartbeats 16000000 in
theorem rGo_any (tv cv : Value) (texts : List (List UInt8)) (code : List VI) (role : UInt8) (w : World) (ht : recS.Row w tv texts) (hc : recIns.Row w cv code) (hlt : texts.length ≤ 1000) (hlc : code.length ≤ 5000) (hm : ∀ s ∈ texts, s.length ≤ 140737488355328) :
    Calls Tryz.prog 67 #[.agg #[tv, cv], .int .u8 (role.toNat : Int)] w fun e w' => GoR w' tv cv role (throughV texts code role) e ∧ Below w.heap.size w w' := by
  have HMY := Lib.hid (fun w' (hB : Below w.heap.size w w') => rMay12_any tv cv texts code w' (ht.below hB) (hc.below hB) (by omega) (by omega) hm)
  obtain ⟨at_, ct, rfl, -, -⟩ := recS_open ht
  obtain ⟨ac, cc, rfl, -, hci⟩ := recIns_open hc
  have HCI := Lib.hid hci
  clear ht hc hci hm
  obtain ⟨W1, hW1⟩ : ∃ W1, W1 = w.alloc (.cells #[.slice at_ texts.length ct, .slice ac code.length cc] 25) := ⟨_, rfl⟩
  have hb1 : Below w.heap.size w W1 := by rw [hW1]; exact b_alloc _ _
  have hx : Blk W1 w.heap.size 25 [.slice at_ texts.length ct, .slice ac code.length cc] := by rw [hW1]; exact Blk.new w _ _
  obtain ⟨W2, hW2⟩ : ∃ W2, W2 = W1.alloc (.cells #[.slice at_ texts.length ct, .slice ac code.length cc, .int .u8 (role.toNat : Int), .string ⟨#[]⟩, .slice none 0 0, .slice none 0 0, .slice none 0 0, .int .i64 0] 164) := ⟨_, rfl⟩
  obtain ⟨G, hG⟩ : ∃ G, G = W1.heap.size := ⟨_, rfl⟩
  have hv2 : RG W2 W1.heap.size G (.slice at_ texts.length ct) (.slice ac code.length cc) role ⟨[], [], [], [], 0⟩ (.slice none 0 0) (.slice none 0 0) (.slice none 0 0) := by rw [hW2, hG]; exact RG.start W1 _ _ role _ (Nat.le_refl _)
  have hb2 : Below W1.heap.size W1 W2 := by rw [hW2]; exact b_alloc _ _
  have HX := Lib.hid hx
  have x0 := hx.cell (k := 0) rfl
  have x1 := hx.cell (k := 1) rfl
  have HB1 := Lib.hid hb1
  have HB2 := Lib.hid hb2
  have H2 := Lib.hid hv2
  have hGx : w.heap.size < G := by rw [hG]; exact lt_of_cell x0
  have hmk := mk_ends code.length (by omega)
  obtain ⟨E0, hE0⟩ : ∃ E0, E0 = (recJ.cells (List.replicate code.length 0)).toArray := ⟨_, rfl⟩
  rw [← hE0] at hmk
  have HE0 := Lib.hid hE0
  clear hE0
  clear hb1 hb2 hv2 hx
  obtain ⟨T, hT⟩ : ∃ T, T = throughV texts code role := ⟨_, rfl⟩
  rw [← hT]
  have HT := Lib.hid hT
  have HRO := Lib.hid (rRole_any role)
  clear hT
  go_enter Tryz.func67, Tryz.ntmps67
  go_upto_region 1 with fail
  rw [← hW1]
  clear hW1
  go_upto_region 2 with fail
  rw [← hW2, ← hG]
  have HGE := Lib.hid hG
  clear hW2 hG
  have x0 := Below.keeps HB2.out x0
  have x1 := Below.keeps HB2.out x1
  by_cases hmv : mayV texts code = true
  · rw [hmv] at HMY
    by_cases hro : roleOk role = true
    · rw [hro] at HRO
      have HOK := Lib.hid (show (mayV texts code && roleOk role) = true by rw [hmv, hro]; rfl)
      obtain ⟨h16, h256, hni⟩ := ins_24 hmv
      have HNI := Lib.hid hni
      clear hmv hro hni
      go_upto_region 4 with (first | (go_at_call 89; refine (HMY.out _ (bt HB1.out HB2.out)).mono ?_; rintro e w3 ⟨rfl, hB3⟩; have H3 := Lib.hid (H2.out.below hB3); have HX3 := Lib.hid ((HX.out.below HB2.out).below hB3); have HB3 := Lib.hid (bt HB2.out hB3); clear hB3) | (go_at_call 90; refine (HRO.out _).mono ?_; rintro e w4 ⟨rfl, rfl⟩))
      have hk4 := H3.out.below (b_alloc w4 (.cells E0 3))
      have c6 := hk4.cell (k := 6) rfl
      have f6 := hk4.free (k := 6) (by decide)
      have x1 := HX3.out.cell (k := 1) rfl
      have x4 := (HX3.out.below (b_alloc w4 (.cells E0 3))).cell (k := 1) rfl
      have hw5 := H3.out.freshE (b_alloc w4 (.cells E0 3)) (Nat.le_refl _) (by have := made_own w4 code.length w4.heap.size (by omega) (Nat.le_refl _); rw [← HE0.out] at this; exact this)
      have hc5 : Chg (fun x => x = G) w4 ((w4.alloc (.cells E0 3)).setCell ⟨G, 6, none⟩ (.slice (some ⟨w4.heap.size, 0, none⟩) code.length code.length)) := (Chg.alloc _ _ _).trans Chg.set1R
      have hx5 := HX3.out.chg hc5 (by show ¬ (w.heap.size = G); omega)
      go_upto_region 5 with fail
      obtain ⟨w5, hW5⟩ : ∃ w5, w5 = (w4.alloc (.cells E0 3)).setCell ⟨G, 6, none⟩ (.slice (some ⟨w4.heap.size, 0, none⟩) code.length code.length) := ⟨_, rfl⟩
      obtain ⟨ev, hev⟩ : ∃ ev : Value, ev = .slice (some ⟨w4.heap.size, 0, none⟩) code.length code.length := ⟨_, rfl⟩
      rw [← hW5] at hw5 hx5 ⊢
      rw [← hev] at hw5
      have H5 := Lib.hid hw5.1
      have HB5 := Lib.hid (HB3.out.trans hw5.2)
      have HX5 := Lib.hid hx5
      clear hk4 c6 f6 x0 x1 x4 hw5 hc5 hx5 hW5 hev hmk H3 HX3 HB3 H2 HB2 HMY HRO
      go_wp2_with fail
      go_loopw [8] (fun t wr => ∃ (i : Nat) (s : Vs) (bv sv : Value), t = .int .i64 (i : Int) ∧ i ≤ code.length ∧ Hid (runV texts.length (inputsV role) role i (code.drop i) s = runV texts.length (inputsV role) role 0 code (startV code.length)) ∧ Hid (RG wr W1.heap.size G (.slice at_ texts.length ct) (.slice ac code.length cc) role s bv sv ev) ∧ Hid (InvV i s) ∧ Hid (WD s) ∧ Hid (s.ends.length = code.length) ∧ Hid (Below W1.heap.size W1 wr)) (fun t _ => code.length - (intOf t).toNat)
      case atStart => exact ⟨0, startV _, _, _, rfl, Nat.zero_le _, rfl, H5.out, start_inv _ h256, (fun b hb => by simp [startV] at hb), by simp [startV, Hid], HB5.out⟩
      case round =>
        obtain ⟨i, s, bv, sv, rfl, hi, HR, HV, HIV, HWD, HEL, HB⟩ := hrel
        have x1 := (HX.out.below HB.out).cell (k := 1) rfl
        by_cases h0 : i < code.length
        · obtain ⟨⟨ab, cb, hbv⟩, ⟨a3, cs, hsv⟩, _⟩ := HV.out.slices
          subst hbv hsv
          obtain ⟨b, off, rfl, d0, d1⟩ := HCI.out i h0
          have kk0 : (0 : Int) ≤ (i : Int) := by omega
          have kk1 : (i : Int) < (code.length : Int) := by omega
          have HP := Lib.hid (HNI.out i h0)
          have HD0 := Lib.hid d0
          have HD1 := Lib.hid d1
          have HDR := Lib.hid (List.drop_eq_getElem_cons h0)
          have hvd := HV.out.below (b_drew wr)
          have hgb : W1.heap.size ≤ wr.drew.heap.size := Nat.le_trans HB.out.size (b_drew wr).size
          have hby : (s.seen.length + 1) * 16 ≤ 140737488355328 := by have := HIV.out.sl; omega
          have hod := hvd.os
          have hGw : G < wr.heap.size := HV.out.blk.lt
          have c5 := HV.out.cell (k := 5) rfl
          have c3 := HV.out.cell (k := 3) rfl
          have HVD := Lib.hid hvd
          clear hvd d0 d1
          go_upto_region 8 with fail
          go_cut [] (fun wx => ∃ sv', Hid (RG wx W1.heap.size G (.slice at_ texts.length ct) (.slice (some ⟨b, off, none⟩) code.length cc) role { s with seen := s.seen ++ [s.kinds] } (.slice ab s.blocks.length cb) sv' ev) ∧ Hid (Below W1.heap.size W1 wx))
          case first =>
            go_region_law (refine recS.step_append1V wr.drew s.kinds rfl _ _ 22 rfl Tryz.underlying22 W1.heap.size (.slice a3 s.seen.length cs) s.seen rfl hod _ rfl _ rfl _ rfl hby hgb ?_; intro g gc w3 hown3 hc3 hg3; have hn3 := HVD.out.newS (sv' := .slice (some ⟨g, 0, none⟩) (s.seen.length + 1) gc) hc3 (fun k hk => by cases hk; exact hg3) hown3; have hb3 : Blk w3 G 164 _ := HVD.out.blk.chg hc3 (fun e => (HVD.out.a2 G e).1 rfl); have f5 := hb3.free (k := 5) (by simp); have c5' := hb3.cell (k := 5) rfl; have HN := Lib.hid hn3; clear hn3 hb3 hown3 hc3 hg3)
            all_goals
              go_wp2_with fail
              go_meet
              case rel => exact ⟨_, HN.out.1, ((HB.out.trans ((b_drew wr).mono HB.out.size))).trans HN.out.2⟩
          case rest =>
            obtain ⟨sv', HG, HBA⟩ := hcut
            clear c5 c3 hod hgb hby
            have hbw := bt HB1.out HBA.out
            have e0 := Below.keeps hbw HD0.out
            have e1 := Below.keeps hbw HD1.out
            have x1 := (HX.out.below HBA.out).cell (k := 1) rfl
            have hbl8 := HIV.out.bl
            obtain ⟨q, hq⟩ : ∃ q, q = thereV texts.length (inputsV role) role s.blocks code[i] := ⟨_, rfl⟩
            have HAH := Lib.hid (rAhead_any code[i] texts.length ct at_ HG.out (by show s.blocks.length ≤ 1000; omega) (by omega))
            rw [show thereV texts.length (inputsV role) role ({ s with seen := s.seen ++ [s.kinds] } : Vs).blocks code[i] = q from hq.symm] at HAH
            have HQ := Lib.hid hq
            clear hq hbw
            go_wp2_with fail
            refine HAH.out.mono ?_
            rintro e w2 ⟨rfl, hB2⟩
            have e0 := Below.keeps hB2 e0
            have e1 := Below.keeps hB2 e1
            have x1 := Below.keeps hB2 x1
            have H2 := Lib.hid (HG.out.below hB2)
            have HB2 := Lib.hid (bt HBA.out hB2)
            clear hB2 HAH
            by_cases hq0 : q = 0
            · have q1 : ((q : Int) == 0) = true := by rw [hq0]; rfl
              have HT0 := Lib.hid (show thereV texts.length (inputsV role) role s.blocks code[i] = 0 by rw [← HQ.out, hq0])
              clear hq0
              obtain ⟨x, hx⟩ : ∃ x, x = valuesV s.kinds code[i] := ⟨_, rfl⟩
              have HVV := Lib.hid (rValues_any code[i] HP.out H2.out (by show s.kinds.length ≤ 1000; have := HIV.out.kl; omega))
              rw [show valuesV ({ s with seen := s.seen ++ [s.kinds] } : Vs).kinds code[i] = x from hx.symm] at HVV
              have HX2 := Lib.hid hx
              clear hx
              go_wp2_with fail
              refine HVV.out.mono ?_
              rintro e w3 ⟨rfl, hv3, hB3⟩
              have HB3 := Lib.hid (HB2.out.trans hB3)
              have hbw := HB1.out.trans (HB3.out.mono HB1.out.size)
              have e0 := Below.keeps hbw HD0.out
              have e1 := Below.keeps hbw HD1.out
              have x1 := (HX.out.below HB3.out).cell (k := 1) rfl
              have H3 := Lib.hid hv3
              clear hv3 hB3 hbw HVV
              by_cases hx0 : x.1 = 0
              · have q2 : ((x.1 : Int) == 0) = true := by rw [hx0]; rfl
                have HV0 := Lib.hid (show (valuesV s.kinds code[i]).1 = 0 by rw [← HX2.out, hx0])
                have HTB := Lib.hid (thereV_blocks HT0.out)
                have HMID := Lib.hid (HIV.out.mid (x := code[i]))
                rw [← HX2.out] at HMID
                obtain ⟨r, hr⟩ : ∃ r, r = turnsV i code[i] { s with seen := s.seen ++ [s.kinds], kinds := x.2 } := ⟨_, rfl⟩
                have HTU := Lib.hid (rEnds_any i code[i] (H3.out hx0) HMID.out (by omega) HWD.out HTB.out.1)
                rw [← hr] at HTU
                have HON := Lib.hid (show oneV texts.length (inputsV role) role i code[i] s = (r.1, { r.2 with deep := max s.deep r.2.kinds.length }) by
                  unfold oneV
                  rw [HT0.out, HV0.out, ← HX2.out, ← hr]
                  rfl)
                have HRD := Lib.hid (show r.2.deep = s.deep by rw [hr, turnsV_deep])
                have hkr : r.2.kinds.length ≤ 17 := by rw [hr]; exact turnsV_kinds (fun b hb => (HIV.out.bs b hb).2) (by show x.2.length ≤ 16; exact HMID.out.kl)
                clear hr hx0
                go_wp2_with fail
                refine HTU.out.mono ?_
                rintro e w4 ⟨rfl, hv4, hB4⟩
                have HB4 := Lib.hid (HB3.out.trans hB4)
                clear hB4 HTU e0 e1 x1
                by_cases hr0 : r.1 = 0
                · have q3 : ((r.1 : Int) != 0) = false := by rw [hr0]; rfl
                  obtain ⟨bv4, hv4⟩ := hv4 hr0
                  have c7 := hv4.cell (k := 7) rfl
                  have c3 := hv4.cell (k := 3) rfl
                  have H4 := Lib.hid hv4
                  have HONE := Lib.hid (InvV.one (nt := texts.length) (inp := inputsV role) (role := role) (x := code[i]) HIV.out (by rw [HEL.out]; exact h0) (by rw [HON.out]; exact hr0))
                  have HWD1 := Lib.hid (HWD.out.one (nt := texts.length) (inp := inputsV role) (role := role) (i := i) (x := code[i]) HIV.out (by rw [HON.out]; exact hr0))
                  rw [HON.out] at HONE HWD1
                  have HR1 := Lib.hid (show runV texts.length (inputsV role) role (i + 1) (code.drop (i + 1)) { r.2 with deep := max s.deep r.2.kinds.length } = runV texts.length (inputsV role) role 0 code (startV code.length) by rw [← HR.out, HDR.out, runV_ok (by rw [HON.out]; exact hr0), HON.out])
                  have d1 : (s.deep : Int) ≤ 16 := by have := HIV.out.dl; omega
                  have d2 : (r.2.kinds.length : Int) ≤ 17 := by omega
                  rw [HRD.out] at c7
                  clear hv4 hr0 hkr HR HDR
                  go_upto_region 16 with fail
                  refine region_tail 13 [(4, .exact _ (.int .i64 (s.deep : Int))), (8, .exact _ (.string (bs r.2.kinds)))] (by kernel_rfl) (by kernel_rfl) ?_
                  simp only [List.take_succ_cons, List.take_zero, List.drop_succ_cons, List.drop_zero]
                  (repeat (first | (refine wpG_skip (by kernel_rfl) (fun K hK => ?_); go_big_quiet_skip; refine wpQuiet_nil (hK _ ?_); clear hK K) | (refine wpG_quiet (by rfl) (by rfl) (fun K hK => ?_); go_big_quiet_want; go_big_quiet_op; go_big_quiet_on; refine wpQuiet_nil (hK _ ?_); clear hK K) | (refine wpG_nilOk rfl rfl rfl (by kernel_rfl) (fun K hK => ?_); go_simp; refine hK _ ?_; clear hK K)))
                  repeat (refine wpG_exact rfl (by kernel_rfl) (fun w' G hB hS hG => ?_) (fun K hK => ?_); (have v0 := Below.keeps hB c7; have v1 := Below.keeps hB c3; go_simp; exact hG _ (Bel.refl _)); go_simp; refine hK _ ?_; clear hK K; (repeat (first | (refine wpG_skip (by kernel_rfl) (fun K hK => ?_); go_big_quiet_skip; refine wpQuiet_nil (hK _ ?_); clear hK K) | (refine wpG_quiet (by rfl) (by rfl) (fun K hK => ?_); go_big_quiet_want; go_big_quiet_op; go_big_quiet_on; refine wpQuiet_nil (hK _ ?_); clear hK K) | (refine wpG_nilOk rfl rfl rfl (by kernel_rfl) (fun K hK => ?_); go_simp; refine hK _ ?_; clear hK K))))
                  refine wpG_nilVT ?_
                  intro w5 hB5 hA5
                  have h5 := H4.out.below hB5
                  have f7 := h5.free (k := 7) (by decide)
                  have c7' := h5.cell (k := 7) rfl
                  have hd5 := h5.deep (max s.deep r.2.kinds.length)
                  have HD5 := Lib.hid hd5
                  have HB5 := Lib.hid (HB4.out.trans (hB5.mono HB4.out.size))
                  clear h5 hd5 hB5 hA5 c7 c3
                  rw [show (max (s.deep : Int) (r.2.kinds.length : Int)) = ((max s.deep r.2.kinds.length : Nat) : Int) by omega]
                  go_wp2_with fail
                  go_roundw
                  case rel => exact ⟨i + 1, _, _, _, by go_num, by omega, HR1.out, HD5.out.1, HONE.out.1, HWD1.out, HONE.out.2.trans HEL.out, HB5.out.trans HD5.out.2⟩
                  case measure => simp [intOf]; omega
                · have q3 : ((r.1 : Int) != 0) = true := by rw [bne_iff_ne]; omega
                  have HE := Lib.hid (HT.out.trans (throughV_bad HOK.out (r := (i, r.1, { r.2 with deep := max s.deep r.2.kinds.length })) (by rw [← HR.out, HDR.out, runV_bad (by rw [HON.out]; exact hr0), HON.out]) hr0))
                  have HR0 := Lib.hid hr0
                  clear hr0 hv4 hkr HR HDR
                  go_wp2_with fail
                  go_ret3
                  exact ⟨⟨G, 0, .slice none 0 0, .slice none 0 0, .slice none 0 0, by rw [HE.out]; rfl, (fun e => by rw [HE.out] at e; exact absurd e HR0.out)⟩, HB1.out.trans (HB4.out.mono HB1.out.size)⟩
              · have q2 : ((x.1 : Int) == 0) = false := by rw [beq_eq_false_iff_ne]; omega
                have q3 : ((x.1 : Int) != 0) = true := by rw [bne_iff_ne]; omega
                have HON := Lib.hid (show oneV texts.length (inputsV role) role i code[i] s = (x.1, { s with seen := s.seen ++ [s.kinds] }) by unfold oneV; rw [HT0.out, ← HX2.out, if_neg (by simp), if_pos hx0])
                have HE := Lib.hid (HT.out.trans (throughV_bad HOK.out (r := (i, x.1, { s with seen := s.seen ++ [s.kinds] })) (by rw [← HR.out, HDR.out, runV_bad (by rw [HON.out]; exact hx0), HON.out]) hx0))
                have HR0 := Lib.hid hx0
                clear hx0 HR HDR
                go_wp2_with fail
                go_ret3
                exact ⟨⟨G, 0, .slice none 0 0, .slice none 0 0, .slice none 0 0, by rw [HE.out]; rfl, (fun e => by rw [HE.out] at e; exact absurd e HR0.out)⟩, HB1.out.trans (HB3.out.mono HB1.out.size)⟩
            · have q1 : ((q : Int) == 0) = false := by rw [beq_eq_false_iff_ne]; omega
              have q3 : ((q : Int) != 0) = true := by rw [bne_iff_ne]; omega
              have HON := Lib.hid (show oneV texts.length (inputsV role) role i code[i] s = (q, { s with seen := s.seen ++ [s.kinds] }) by unfold oneV; rw [← HQ.out, if_pos hq0])
              have HE := Lib.hid (HT.out.trans (throughV_bad HOK.out (r := (i, q, { s with seen := s.seen ++ [s.kinds] })) (by rw [← HR.out, HDR.out, runV_bad (by rw [HON.out]; exact hq0), HON.out]) hq0))
              have HR0 := Lib.hid hq0
              clear hq0 HR HDR
              go_wp2_with fail
              go_ret3
              exact ⟨⟨G, 0, .slice none 0 0, .slice none 0 0, .slice none 0 0, by rw [HE.out]; rfl, (fun e => by rw [HE.out] at e; exact absurd e HR0.out)⟩, HB1.out.trans (HB2.out.mono HB1.out.size)⟩
        · obtain rfl : i = code.length := by omega
          have HR1 := Lib.hid (show runV texts.length (inputsV role) role 0 code (startV code.length) = (code.length, overV role s, s) by rw [← HR.out, List.drop_length, runV_nil])
          obtain ⟨⟨ab, cb, hbv⟩, _, _⟩ := HV.out.slices
          subst hbv
          have c4 := HV.out.cell (k := 4) rfl
          have c3 := HV.out.cell (k := 3) rfl
          have k16 : (s.kinds.length : Int) ≤ 16 := by have := HIV.out.kl; omega
          have b8 : (s.blocks.length : Int) ≤ 8 := by have := HIV.out.bl; omega
          have n0 : ¬ (code.length : Int) < (code.length : Int) := by omega
          clear h0 HR
          by_cases hr : role = 1
          · have u1 : ((role.toNat : Int) == 1) = true := by rw [hr]; rfl
            by_cases hb : 0 < s.blocks.length
            · have v1 : (0 : Int) < (s.blocks.length : Int) := by omega
              have HO := Lib.hid (show overV role s = 132 by unfold overV; rw [if_pos hb])
              have HE := Lib.hid (HT.out.trans (throughV_bad HOK.out (r := (code.length, 132, s)) (by rw [HR1.out, HO.out]) (fun e => by cases e)))
              clear hr hb
              go_wp2_with fail
              go_ret3
              exact ⟨⟨G, 0, .slice none 0 0, .slice none 0 0, .slice none 0 0, by rw [HE.out]; rfl, (fun e => by rw [HE.out] at e; cases e)⟩, bt HB1.out HB.out⟩
            · have v1 : ¬ (0 : Int) < (s.blocks.length : Int) := by omega
              by_cases hk : s.kinds.length = 0
              · have v2 : ((s.kinds.length : Int) != 0) = false := by rw [hk]; rfl
                have hke : s.kinds = [] := List.eq_nil_of_length_eq_zero hk
                have HO := Lib.hid (show overV role s = 0 by unfold overV wantV; rw [if_neg hb, if_pos hr, hke]; simp)
                have HE := Lib.hid (HT.out.trans (throughV_good HOK.out (r := (code.length, 0, s)) (by rw [HR1.out, HO.out]) rfl))
                clear hr hb hk hke
                go_wp2_with fail
                go_ret3
                exact ⟨⟨G, _, _, _, _, by rw [HE.out]; rfl, (fun _ => by rw [HE.out]; exact HV.out)⟩, bt HB1.out HB.out⟩
              · have v2 : ((s.kinds.length : Int) != 0) = true := by rw [bne_iff_ne]; omega
                have HO := Lib.hid (show overV role s = 130 by unfold overV wantV; rw [if_neg hb, if_pos hr, if_pos (by simpa using hk)])
                have HE := Lib.hid (HT.out.trans (throughV_bad HOK.out (r := (code.length, 130, s)) (by rw [HR1.out, HO.out]) (fun e => by cases e)))
                clear hr hb hk
                go_wp2_with fail
                go_ret3
                exact ⟨⟨G, 0, .slice none 0 0, .slice none 0 0, .slice none 0 0, by rw [HE.out]; rfl, (fun e => by rw [HE.out] at e; cases e)⟩, bt HB1.out HB.out⟩
          · have u1 : ((role.toNat : Int) == 1) = false := u8_ne (by decide) hr
            by_cases hb : 0 < s.blocks.length
            · have v1 : (0 : Int) < (s.blocks.length : Int) := by omega
              have HO := Lib.hid (show overV role s = 132 by unfold overV; rw [if_pos hb])
              have HE := Lib.hid (HT.out.trans (throughV_bad HOK.out (r := (code.length, 132, s)) (by rw [HR1.out, HO.out]) (fun e => by cases e)))
              clear hr hb
              go_wp2_with fail
              go_ret3
              exact ⟨⟨G, 0, .slice none 0 0, .slice none 0 0, .slice none 0 0, by rw [HE.out]; rfl, (fun e => by rw [HE.out] at e; cases e)⟩, bt HB1.out HB.out⟩
            · have v1 : ¬ (0 : Int) < (s.blocks.length : Int) := by omega
              by_cases hk : s.kinds.length = 1
              · have v2 : ((s.kinds.length : Int) != 1) = false := by rw [hk]; rfl
                by_cases hke : s.kinds = [84]
                · have v3 : (s.kinds != [84]) = false := by rw [hke]; rfl
                  have v4 : (s.kinds == [84]) = true := by rw [hke]; rfl
                  have HO := Lib.hid (show overV role s = 0 by unfold overV wantV; rw [if_neg hb, if_neg hr, if_neg (by rw [hk]; decide), if_neg (by rw [hke]; simp)])
                  have HE := Lib.hid (HT.out.trans (throughV_good HOK.out (r := (code.length, 0, s)) (by rw [HR1.out, HO.out]) rfl))
                  clear hr hb hk hke
                  go_wp2_with fail
                  go_ret3
                  exact ⟨⟨G, _, _, _, _, by rw [HE.out]; rfl, (fun _ => by rw [HE.out]; exact HV.out)⟩, bt HB1.out HB.out⟩
                · have v3 : (s.kinds != [84]) = true := by simpa using hke
                  have v4 : (s.kinds == [84]) = false := by simpa using hke
                  have HO := Lib.hid (show overV role s = 131 by unfold overV wantV; rw [if_neg hb, if_neg hr, if_neg (by rw [hk]; decide), if_pos hke])
                  have HE := Lib.hid (HT.out.trans (throughV_bad HOK.out (r := (code.length, 131, s)) (by rw [HR1.out, HO.out]) (fun e => by cases e)))
                  clear hr hb hk hke
                  go_wp2_with fail
                  go_ret3
                  exact ⟨⟨G, 0, .slice none 0 0, .slice none 0 0, .slice none 0 0, by rw [HE.out]; rfl, (fun e => by rw [HE.out] at e; cases e)⟩, bt HB1.out HB.out⟩
              · have v2 : ((s.kinds.length : Int) != 1) = true := by rw [bne_iff_ne]; omega
                have HO := Lib.hid (show overV role s = 130 by unfold overV wantV; rw [if_neg hb, if_neg hr, if_pos (by simpa using hk)])
                have HE := Lib.hid (HT.out.trans (throughV_bad HOK.out (r := (code.length, 130, s)) (by rw [HR1.out, HO.out]) (fun e => by cases e)))
                clear hr hb hk
                go_wp2_with fail
                go_ret3
                exact ⟨⟨G, 0, .slice none 0 0, .slice none 0 0, .slice none 0 0, by rw [HE.out]; rfl, (fun e => by rw [HE.out] at e; cases e)⟩, bt HB1.out HB.out⟩
    · have HE := Lib.hid (HT.out.trans (throughV_no (texts := texts) (code := code) (role := role) (by simp [hro])))
      have hrf : roleOk role = false := by simpa using hro
      rw [hrf] at HRO
      clear hmv hro hrf
      go_wp2_with (first | (go_at_call 89; refine (HMY.out _ (bt HB1.out HB2.out)).mono ?_; rintro e w3 ⟨rfl, hB3⟩; have HB3 := Lib.hid (bt HB2.out hB3); clear hB3) | (go_at_call 90; refine (HRO.out _).mono ?_; rintro e w4 ⟨rfl, rfl⟩))
      go_ret3
      exact ⟨⟨G, 0, .slice none 0 0, .slice none 0 0, .slice none 0 0, by rw [HE.out]; rfl, (fun e => by rw [HE.out] at e; cases e)⟩, bt HB1.out HB3.out⟩
  · have HE := Lib.hid (HT.out.trans (throughV_no (texts := texts) (code := code) (role := role) (by simp [hmv])))
    have hmf : mayV texts code = false := by simpa using hmv
    rw [hmf] at HMY
    clear hmv hmf
    go_wp2_with (go_at_call 89; refine (HMY.out _ (bt HB1.out HB2.out)).mono ?_; rintro e w3 ⟨rfl, hB3⟩; have HB3 := Lib.hid (bt HB2.out hB3); clear hB3)
    go_ret3
    exact ⟨⟨G, 0, .slice none 0 0, .slice none 0 0, .slice none 0 0, by rw [HE.out]; rfl, (fun e => by rw [HE.out] at e; cases e)⟩, bt HB1.out HB3.out⟩
end Go.Proofs.YtndagciefnddmaaGreatDoor
namespace Go.Proofs.YtndagciefnddmaaGreatDoor
open Go.RowKit Oct
attribute [local irreducible] wpG
def ownN (code : List VI) (ends : List Int) : Nat → List Int
  | 0 => List.replicate code.length 0
  | k + 1 => if 0 < ends.getD k 0 ∧ (code.getD (ends.getD k 0).toNat (0, 0)).1 = 21 then (ownN code ends k).set (ends.getD k 0).toNat (k : Int) else ownN code ends k
theorem ownN_succ (code : List VI) (ends : List Int) (k : Nat) : ownN code ends (k + 1) = if 0 < ends.getD k 0 ∧ (code.getD (ends.getD k 0).toNat (0, 0)).1 = 21 then (ownN code ends k).set (ends.getD k 0).toNat (k : Int) else ownN code ends k := rfl
theorem ownN_len (code : List VI) (ends : List Int) : ∀ k, (ownN code ends k).length = code.length
  | 0 => by unfold ownN; rw [List.length_replicate]
  | k + 1 => by
    rw [ownN_succ]
    split
    · rw [List.length_set, ownN_len code ends k]
    · exact ownN_len code ends k
theorem ownN_ok {nt inp : Nat} {role : UInt8} {E : Me} (G : GoodM nt inp role E) : OwnOk E (ownN E.code E.ends E.code.length) := by
  refine ⟨ownN_len _ _ _, fun i hi ho => ?_⟩
  obtain ⟨j, b, hji, h22, hoj, hej, hu, -, -, -⟩ := at_end G hi ho
  have hrun := G.run (Nat.le_refl _)
  have key : ∀ k, k ≤ E.code.length → j < k → (ownN E.code E.ends k).getD i 0 = (j : Int) := by
    intro k
    induction k with
    | zero => intro _ h; omega
    | succ k ih =>
      intro hk hjk
      rw [ownN_succ]
      by_cases hjk2 : k = j
      · subst hjk2
        have hi2 : (E.code.getD ((i : Int)).toNat (0, 0)).1 = 21 := by rw [Int.toNat_natCast]; exact ho
        rw [hej, if_pos ⟨by omega, hi2⟩, Int.toNat_natCast]
        exact getD_setEqB (by rw [ownN_len]; exact hi)
      · have h2 := ih (by omega) (by omega)
        split
        · rename_i hc
          have hne : (E.ends.getD k 0).toNat ≠ i := by
            intro e
            have hek : E.ends.getD k 0 = (i : Int) := by have := hc.1; omega
            have hop : opensV (opV E.code k) = true := by
              rcases hrun.inv.en k (by omega) with ⟨h0, -⟩ | ⟨-, h, -⟩
              · have h0' : E.ends.getD k 0 = 0 := by rw [G.ends]; exact h0
                omega
              · exact h
            exact hjk2 (hu k (by omega) hop hek)
          rw [getD_setNeB hne]; exact h2
        · exact h2
  refine ⟨j, key _ (Nat.le_refl _) (by omega), by omega, ?_⟩
  rw [loopEnd_of hu (by omega) hej]
  exact beq_iff_eq.symm
theorem Rec.Row.lowN {α : Type} {R : Rec α} {w w' : World} {v : Value} {l : List α} {base : Nat} (h : R.Row w v l) (hB : Below base w w') (hX : ∀ b, v.ownBlock = some b → b < base) : R.Row w' v l := by
  obtain ⟨⟨a, cap, rfl, hn, hu⟩, h2⟩ := h
  refine ⟨⟨a, cap, rfl, hn, fun j u hj => ?_⟩, h2⟩
  obtain ⟨b, off, rfl, hcell⟩ := hu j u hj
  refine ⟨b, off, rfl, ?_⟩
  have hk := hB.block b (hX b rfl)
  unfold World.cell? at hcell ⊢
  rw [hk]; exact hcell
theorem rsep_start {base : Nat} {w : World} {G : Nat} {cs : List Value} {t : TypeId} (hG : base ≤ G) (hb : Blk w G t cs) :
    Sep base w [blkPt G hG t cs, ownPt recVa (.slice none 0 0) [], ownPt recLo (.slice none 0 0) [], loPt [], ownPt recKq (.slice none 0 0) []] := by
  refine ⟨fun p hp => ?_, ?_⟩
  · simp only [List.mem_cons, List.not_mem_nil, or_false] at hp
    rcases hp with rfl | rfl | rfl | rfl | rfl
    · exact hb
    · exact Rec.Own.nil _ _
    · exact Rec.Own.nil _ _
    · exact ⟨fun e he => absurd he (List.not_mem_nil), List.Pairwise.nil⟩
    · exact Rec.Own.nil _ _
  · have hn : ∀ {α : Type} (R : Rec α) (k : Nat), ¬ (ownPt (base := base) R (.slice none 0 0) []).fp k := fun R k hk => by cases hk
    have hx : ∀ k, ¬ (loPt (base := base) []).fp k := fun k hk => by obtain ⟨e, he, _⟩ := hk; cases he
    refine List.Pairwise.cons (fun q hq k hk hk' => ?_) (List.Pairwise.cons (fun q _ k hk => absurd hk (hn _ k)) (List.Pairwise.cons (fun q _ k hk => absurd hk (hn _ k)) (List.Pairwise.cons (fun q _ k hk => absurd hk (hx k)) (List.pairwise_singleton _ _))))
    simp only [List.mem_cons, List.not_mem_nil, or_false] at hq
    rcases hq with rfl | rfl | rfl | rfl
    · exact hn _ k hk'
    · exact hn _ k hk'
    · exact hx k hk'
    · exact hn _ k hk'
end Go.Proofs.YtndagciefnddmaaGreatDoor
namespace Go.Proofs.YtndagciefnddmaaGreatDoor
open Go.RowKit Oct
attribute [local irreducible] wpG
def rgN (k : Nat) : List RV := (List.range 8).map fun i => (decide (4 ≤ i ∧ i < k), 0, [])
theorem rgN_vals (k : Nat) : (rgN k).map (·.2) = List.replicate 8 (0, []) := by unfold rgN; rw [List.map_map]; rfl
theorem rCells_len (f : Rf) (a : Int) (sv lv prv : Value) {rg : List RV} (h : rg.length = 8) : (rCells f a sv rg lv prv).length = 33 := by
  obtain ⟨x0, x1, x2, x3, x4, x5, x6, x7, rfl⟩ := eightR h
  rfl
theorem rgN_len (k : Nat) : (rgN k).length = 8 := by unfold rgN; rw [List.length_map, List.length_range]
theorem in_getD {l : List Int} {i : Nat} (h : i < l.length) : l.getD i 0 = l[i] := by rw [List.getD_eq_getElem?_getD, List.getElem?_eq_getElem h]; rfl
theorem vi_getD {l : List VI} {i : Nat} (h : i < l.length) : l.getD i (0, 0) = l[i] := by rw [List.getD_eq_getElem?_getD, List.getElem?_eq_getElem h]; rfl
theorem reg_store {w : World} {b : Nat} {t : TypeId} {cs : List Value} (hx : Blk w b t cs) (k : Nat) (v0 v1 v2 : Value) :
    Blk (((w.setCell ⟨b, k, none⟩ v0).setCell ⟨b, k + 1, none⟩ v1).setCell ⟨b, k + 2, none⟩ v2) b t (((cs.set k v0).set (k + 1) v1).set (k + 2) v2) ∧ Chg (fun x => x = b) w (((w.setCell ⟨b, k, none⟩ v0).setCell ⟨b, k + 1, none⟩ v1).setCell ⟨b, k + 2, none⟩ v2) :=
  ⟨((hx.set k v0).set (k + 1) v1).set (k + 2) v2, Chg.trans (Chg.trans (Chg.setCell w ⟨b, k, none⟩ v0 rfl) (Chg.setCell _ ⟨b, k + 1, none⟩ v1 rfl)) (Chg.setCell _ ⟨b, k + 2, none⟩ v2 rfl)⟩
theorem ends_ltN {texts : List (List UInt8)} {code : List VI} {role : UInt8} (h : (throughV texts code role).2.1 = 0) {j : Nat} (hj : j < code.length) (h0 : 0 < (throughV texts code role).2.2.ends.getD j 0) : (throughV texts code role).2.2.ends.getD j 0 < (code.length : Int) := by
  have hg := (goodM_of (texts := texts) (code := code) (role := role) h (ins := List.replicate (inputsV role) []) (by simp) (fun s hs => by rw [(List.mem_replicate.1 hs).2]; simp)).1
  have hE : (throughV texts code role).2.2.ends = (stV texts.length (inputsV role) role code code.length).ends := hg.ends
  have hr := (hg.run (Nat.le_refl _)).inv.en j hj
  rw [hE] at h0 ⊢
  rcases hr with ⟨h1, -⟩ | ⟨-, -, -, h2, -⟩
  · have h1 : (stV texts.length (inputsV role) role code code.length).ends.getD j 0 = 0 := h1
    omega
  · exact h2
set_option maxRecDepth 100000 in
set_option maxHeartbeats 8000000 in
theorem rNew_any (tv cv iv : Value) (texts : List (List UInt8)) (code : List VI) (role : UInt8) (ins : List (List UInt8)) (fuel : Int) (w : World) (ht : recS.Row w tv texts) (hc : recIns.Row w cv code) (hi : recS.Row w iv ins) (hlt : texts.length ≤ 1000) (hcl : code.length ≤ 5000)
    (hm : ∀ s ∈ texts, s.length ≤ 140737488355328) (hGl : GlobV w) (hyes : askRun texts code role ins fuel = true) :
    Calls Tryz.prog 95 #[.agg #[tv, cv], .int .u8 (role.toNat : Int), iv] w fun e w' => (∃ G ev ow, e = .returned (.pointer (some ⟨G, 0, none⟩)) ∧ w.heap.size ≤ G ∧ RS G w' G ⟨tv, cv, iv, ev, ow⟩ [] (stS 0 [] (List.replicate 8 (0, [])) [] []) ∧
      ∀ w'', Below G w' w'' → EnvR w'' ⟨texts, code, ins, (throughV texts code role).2.2.ends⟩ tv cv iv ev ow (ownN code (throughV texts code role).2.2.ends code.length)) ∧ Below w.heap.size w w' := by
  have HGO := Lib.hid (fun w' (hB : Below w.heap.size w w') => rGo_any tv cv texts code role w' (ht.below hB) (hc.below hB) hlt hcl hm)
  have hno := (askRun_ok hyes).1
  obtain ⟨hel, hein⟩ := ends_in (texts := texts) (code := code) (role := role) hno hcl
  obtain ⟨at_, ct, rfl, -, -⟩ := recS_open ht
  obtain ⟨ac, cc, rfl, -, hcc⟩ := recIns_open hc
  obtain ⟨ai, ci, rfl, -, -⟩ := recS_open hi
  have HT := Lib.hid ht
  have HC := Lib.hid hc
  have HI := Lib.hid hi
  have HG := Lib.hid hGl
  have HCC := Lib.hid hcc
  obtain ⟨B4, hB4⟩ : ∃ B4, B4 = w.heap.size := ⟨_, rfl⟩
  obtain ⟨W1, hW1⟩ : ∃ W1, W1 = w.alloc (.cells #[.slice at_ texts.length ct, .slice ac code.length cc] 25) := ⟨_, rfl⟩
  have hb1 : Below w.heap.size w W1 := by rw [hW1]; exact b_alloc _ _
  have hx : Blk W1 B4 25 [.slice at_ texts.length ct, .slice ac code.length cc] := by rw [hB4, hW1]; exact Blk.new w _ _
  have x0 := hx.cell (k := 0) rfl
  have x1 := hx.cell (k := 1) rfl
  obtain ⟨ends, hends⟩ : ∃ x, x = (throughV texts code role).2.2.ends := ⟨_, rfl⟩
  rw [← hends] at hel hein
  have HNO := Lib.hid hno
  have HB1 := Lib.hid hb1
  have HX := Lib.hid hx
  have HB4 := Lib.hid hB4
  have HEL := Lib.hid hel
  have HEI := Lib.hid hein
  have HENDS := Lib.hid hends
  have j5 : (code.length : Int) ≤ 5000 := by omega
  go_enter Tryz.func95, Tryz.ntmps95
  go_upto_region 1 with fail
  rw [← hW1, ← hB4]
  clear hW1 hB4 hno hb1 hx hel hein hends ht hc hi hGl hyes hcc hm
  go_upto_region 2 with (go_at_call 67; refine (HGO.out _ HB1.out).mono ?_; rintro e w2 ⟨⟨Gg, gb, bv, sv, ev, rfl, hrg⟩, hB2⟩; replace hrg := hrg HNO.out)
  have hoe : recJ.Row w2 ev ends := by rw [HENDS.out]; exact hrg.oe.row
  obtain ⟨ae, ce, rfl, -, hec⟩ := recJ_open hoe
  rw [HEL.out] at hrg hoe
  have c6 := hrg.cell (k := 6) rfl
  have x0 := Below.keeps hB2 x0
  have x1 := Below.keeps hB2 x1
  have HOE := Lib.hid hoe
  have HEC := Lib.hid hec
  have HB2 := Lib.hid hB2
  have hmk := fun w => mk_ends code.length (by omega) w
  have hGl : Gg < w2.heap.size := lt_of_cell c6
  have hBl : B4 < w2.heap.size := lt_of_cell x0
  clear hrg hoe hec hB2 HGO
  go_region
  go_upto_region 3 with fail
  obtain ⟨O, hO⟩ : ∃ O, O = w2.heap.size := ⟨_, rfl⟩
  obtain ⟨W0, hW0⟩ : ∃ W0, W0 = w2.alloc (.cells (recJ.cells (List.replicate code.length 0)).toArray 3) := ⟨_, rfl⟩
  obtain ⟨cs, hcs⟩ : ∃ cs : List Value, cs = [.slice at_ texts.length ct, .slice ac code.length cc, .slice ai ins.length ci, .slice ae code.length ce, .slice (some ⟨O, 0, none⟩) code.length code.length, .int .i64 0, .slice none 0 0, .bool false, .int .i64 0, .string ⟨#[]⟩, .bool false, .int .i64 0, .string ⟨#[]⟩, .bool false, .int .i64 0, .string ⟨#[]⟩, .bool false, .int .i64 0, .string ⟨#[]⟩, .bool false, .int .i64 0, .string ⟨#[]⟩, .bool false, .int .i64 0, .string ⟨#[]⟩, .bool false, .int .i64 0, .string ⟨#[]⟩, .bool false, .int .i64 0, .string ⟨#[]⟩, .slice none 0 0, .slice none 0 0] := ⟨_, rfl⟩
  obtain ⟨W3, hW3⟩ : ∃ W3, W3 = (W0.alloc (.cells cs.toArray 177)).drew := ⟨_, rfl⟩
  have hs0 : W0.heap.size = O + 1 := by rw [hW0, hO]; exact size_alV _ _
  have ho3 : recJ.Own W3 O (.slice (some ⟨O, 0, none⟩) code.length code.length) (List.replicate code.length 0) := by
    have h1 := made_own w2 code.length O (by omega) (by omega)
    rw [← hW0, ← hO] at h1
    rw [hW3]
    exact (h1.below (b_alloc _ _)).below (b_drew _)
  have hb3 : Blk W3 (O + 1) 177 cs := by rw [hW3, ← hs0]; exact (Blk.new W0 _ _).below (b_drew _)
  have hB3 : Below O w2 W3 := by
    have h1 : Below w2.heap.size w2 W0 := by rw [hW0]; exact b_alloc _ _
    rw [hO, hW3]
    exact bt (bt h1 (b_alloc _ _)) (b_drew _)
  have hcm : cs = rCells ⟨.slice at_ texts.length ct, .slice ac code.length cc, .slice ai ins.length ci, .slice ae code.length ce, .slice (some ⟨O, 0, none⟩) code.length code.length⟩ 0 (.slice none 0 0) (rgN 4) (.slice none 0 0) (.slice none 0 0) := by rw [hcs]; rfl
  rw [← hO, ← hW0]
  have hg3 : (W0.alloc (.cells #[.slice at_ texts.length ct, .slice ac code.length cc, .slice ai ins.length ci, .slice ae code.length ce, .slice (some ⟨O, 0, none⟩) code.length code.length, .int .i64 0, .slice none 0 0, .bool false, .int .i64 0, .string ⟨#[]⟩, .bool false, .int .i64 0, .string ⟨#[]⟩, .bool false, .int .i64 0, .string ⟨#[]⟩, .bool false, .int .i64 0, .string ⟨#[]⟩, .bool false, .int .i64 0, .string ⟨#[]⟩, .bool false, .int .i64 0, .string ⟨#[]⟩, .bool false, .int .i64 0, .string ⟨#[]⟩, .bool false, .int .i64 0, .string ⟨#[]⟩, .slice none 0 0, .slice none 0 0] 177)).drew = W3 := by rw [hW3, hcs]
  have hGo : (O + 1 = W0.heap.size) := hs0.symm
  rw [hg3]
  have HO := Lib.hid hO
  have HO3 := Lib.hid ho3
  have HG3 := Lib.hid hb3
  have HB3 := Lib.hid hB3
  have HCM := Lib.hid hcm
  have HEL2 : Hid (∀ j, j < code.length → 0 < ends.getD j 0 → ends.getD j 0 < (code.length : Int)) := by
    intro j hj h0
    have e := HENDS.out
    rw [e] at h0 ⊢
    exact ends_ltN HNO.out hj h0
  have HX0 := Lib.hid x0
  have HX1 := Lib.hid x1
  have HC6 := Lib.hid c6
  clear hmk hO hW0 hcs hW3 hs0 ho3 hb3 hB3 hcm hg3 hGo x0 x1 c6 hGl hBl
  go_wp2_with fail
  go_loopw [11] (fun t wr => ∃ k : Nat, k ≤ code.length ∧ t = .int .i64 k ∧ Hid (recJ.Own wr O (.slice (some ⟨O, 0, none⟩) code.length code.length) (ownN code ends k)) ∧ Hid (Below O w2 wr) ∧ Hid (Blk wr (O + 1) 177 cs)) (fun t _ => code.length - (intOf t).toNat)
  case atStart => exact ⟨0, by omega, rfl, HO3.out, HB3.out, HG3.out⟩
  case round =>
    obtain ⟨q, hq, rfl, HOU, HBU, HGU⟩ := hrel
    have hBw : Below w2.heap.size w2 wr := by rw [← HO.out]; exact HBU.out
    have HBW := Lib.hid hBw
    have x0 := Below.keeps hBw HX0.out
    have x1 := Below.keeps hBw HX1.out
    have c6 := Below.keeps hBw HC6.out
    clear hBw
    by_cases h1 : q < code.length
    · have i0 : (0 : Int) ≤ (q : Int) := by omega
      have i1 : (q : Int) < (code.length : Int) := by omega
      have hqe : q < ends.length := by rw [HEL.out]; exact h1
      obtain ⟨be, oe, rfl, g1⟩ := HEC.out q hqe
      replace g1 := Below.keeps HBW.out g1
      have hge := in_getD hqe
      have hein := HEI.out q h1
      have helt := HEL2.out q h1
      have HSU := Lib.hid (ownN_succ code ends q)
      obtain ⟨v, hv⟩ : ∃ v, v = ends[q] := ⟨_, rfl⟩
      rw [← hv] at g1 hge
      rw [hge] at HSU hein helt
      have HEIN := Lib.hid hein
      have HELT := Lib.hid helt
      have HQ := Lib.hid hqe
      clear hv hge hein helt hqe
      by_cases h0 : v = 0
      · subst h0
        have HS2 := Lib.hid (show ownN code ends (q + 1) = ownN code ends q by rw [HSU.out, if_neg (fun h => absurd h.1 (by decide))])
        clear HSU HEIN HELT
        go_wp2_with fail
        go_quiet (fail)
        go_wp2_with fail
        have hbd : Below wr.heap.size wr (wr.drewN nq) := Below.drewN' _ _
        have HBD := Lib.hid hbd
        clear hbd
        go_roundw
        case rel => exact ⟨q + 1, by omega, by go_num, by rw [HS2.out]; exact HOU.out.below HBD.out, HBU.out.trans (HBD.out.mono (by have := HBU.out.size; have := HO.out; omega)), HGU.out.below HBD.out⟩
        case measure => simp [intOf]; omega
      · have hv0 : 0 < v := by have := HEIN.out; omega
        obtain ⟨e, rfl⟩ : ∃ e : Nat, v = (e : Int) := ⟨v.toNat, by omega⟩
        have hel : e < code.length := by have := HELT.out hv0; omega
        have hv1 : 0 < e := by omega
        have e0 : (0 : Int) ≤ (e : Int) := by omega
        have e1 : (e : Int) < (code.length : Int) := by omega
        obtain ⟨ac', cc', hcv, -, hcc⟩ := recIns_open ((HC.out.below (bt (bt HB1.out HB2.out) HBW.out)))
        obtain ⟨b, off, rfl, d0, d1⟩ := hcc e hel
        injection hcv with e1' e2' e3'
        subst e1' e3'
        have hgd := vi_getD hel
        obtain ⟨op, hop⟩ : ∃ op, op = code[e].1 := ⟨_, rfl⟩
        rw [← hop] at d0
        have HSU2 := Lib.hid (show ownN code ends (q + 1) = if op = 21 then (ownN code ends q).set e (q : Int) else ownN code ends q by
          rw [HSU.out, Int.toNat_natCast, hgd, ← hop]
          by_cases hp : op = 21
          · rw [if_pos ⟨hv0, hp⟩, if_pos hp]
          · rw [if_neg (fun h => hp h.2), if_neg hp])
        have HH0 := Lib.hid h0
        clear hcc hgd hop HSU HEIN HELT d1 h0 e2'
        by_cases hp : op = 21
        · have t5 : ((op.toNat : Int) == 21) = true := by rw [hp]; rfl
          have HS2 := Lib.hid (show ownN code ends (q + 1) = (ownN code ends q).set e (q : Int) by rw [HSU2.out, if_pos hp])
          clear HSU2 hp
          go_wp2_with fail
          go_quiet (fail)
          obtain ⟨U, hU⟩ : ∃ U, U = wr.drewN nq := ⟨_, rfl⟩
          have hbd : Below wr.heap.size wr U := by rw [hU]; exact Below.drewN' _ _
          rw [← hU]
          replace x1 := Below.keeps hbd x1
          replace c6 := Below.keeps hbd c6
          replace g1 := Below.keeps hbd g1
          replace d0 := Below.keeps hbd d0
          have hOU := HOU.out.below hbd
          have hGU := HGU.out.below hbd
          have hBU := HBU.out.trans (hbd.mono (by have := HBU.out.size; have := HO.out; omega))
          have g4 := hGU.cell (k := 4) (v := .slice (some ⟨O, 0, none⟩) code.length code.length) (by rw [HCM.out]; rfl)
          obtain ⟨⟨v0, z0⟩, zf⟩ := hOU.freeR (k := e) (by show e < (ownN code ends q).length * 1; rw [ownN_len]; omega)
          have HOW := Lib.hid hOU
          have HGW := Lib.hid hGU
          have HBX := Lib.hid hBU
          have hgO : ¬ O + 1 = O := by omega
          clear hU hbd hOU hGU hBU HOU HGU HBU
          go_upto_region 7 with fail
          go_region
          have hc4 : Chg (fun k => k = O) U (U.setCell ⟨O, e, none⟩ (.int .i64 (q : Int))) := Chg.setCell _ _ _ rfl
          have ho4 : recJ.Own (U.setCell ⟨O, e, none⟩ (.int .i64 (q : Int))) O (.slice (some ⟨O, 0, none⟩) code.length code.length) (ownN code ends (q + 1)) := by
            have h4 := HOW.out.setCell (k := e) (by rw [ownN_len]; exact hel) (y := (q : Int)) (j := 0) (by decide) (u := .int .i64 (q : Int)) rfl
            rw [show e * recJ.n + 0 = e from by show e * 1 + 0 = e; omega] at h4
            rw [HS2.out]; exact h4
          have hg4 := HGW.out.chg hc4 (by omega)
          have hsz : O ≤ U.heap.size := by have := HBX.out.size; have := HO.out; omega
          have hb4 := HBX.out.trans (hc4.below (fun k hk => by rw [show k = O from hk]; exact Nat.le_refl _) hsz)
          have HSZ4 := Lib.hid (Nat.le_trans hsz hc4.size)
          obtain ⟨W4, hW4⟩ : ∃ W4, W4 = U.setCell ⟨O, e, none⟩ (.int .i64 (q : Int)) := ⟨_, rfl⟩
          rw [← hW4] at hc4 ho4 hg4 hb4 HSZ4 ⊢
          have HO4 := Lib.hid (ho4.below (b_drew W4))
          have HG4 := Lib.hid (hg4.below (b_drew W4))
          have HB4 := Lib.hid (hb4.trans ((b_drew W4).mono HSZ4.out))
          clear hc4 ho4 hg4 hb4 hsz hW4 z0 zf g4 c6 g1 d0 x0 x1
          go_wp2_with fail
          go_roundw
          case rel => exact ⟨q + 1, by omega, by go_num, HO4.out, HB4.out, HG4.out⟩
          case measure => simp [intOf]; omega
        · have t5 : ((op.toNat : Int) == 21) = false := by
            rw [beq_eq_false_iff_ne]
            intro h
            exact hp (UInt8.toNat_inj.1 (by show op.toNat = 21; omega))
          have HS2 := Lib.hid (show ownN code ends (q + 1) = ownN code ends q by rw [HSU2.out, if_neg hp])
          clear HSU2 hp
          go_wp2_with fail
          go_quiet (fail)
          go_wp2_with fail
          have hbd : Below wr.heap.size wr (wr.drewN nq) := Below.drewN' _ _
          have HBD := Lib.hid hbd
          clear hbd
          go_roundw
          case rel => exact ⟨q + 1, by omega, by go_num, by rw [HS2.out]; exact HOU.out.below HBD.out, HBU.out.trans (HBD.out.mono (by have := HBU.out.size; have := HO.out; omega)), HGU.out.below HBD.out⟩
          case measure => simp [intOf]; omega
    · obtain ⟨V, hV⟩ : ∃ V, V = wr := ⟨_, rfl⟩
      subst hV
      obtain rfl : q = code.length := by omega
      have i1 : ¬ (code.length : Int) < (code.length : Int) := by omega
      have HG0 := Lib.hid (HCM.out ▸ HGU.out)
      go_wp2_with fail
      go_loopw [12] (fun t wr => ∃ k : Nat, 4 ≤ k ∧ k ≤ 8 ∧ t = .int .i64 k ∧ Hid (Blk wr (O + 1) 177 (rCells ⟨.slice at_ texts.length ct, .slice ac code.length cc, .slice ai ins.length ci, .slice ae code.length ce, .slice (some ⟨O, 0, none⟩) code.length code.length⟩ 0 (.slice none 0 0) (rgN k) (.slice none 0 0) (.slice none 0 0))) ∧ Hid (Below (O + 1) V wr)) (fun t _ => 8 - (intOf t).toNat)
      case atStart => exact ⟨4, by omega, by omega, rfl, HG0.out, Below.refl _ _⟩
      case round =>
        obtain ⟨k, hk4, hk8, rfl, HGR, HBR⟩ := hrel
        rcases (by omega : k = 4 ∨ k = 5 ∨ k = 6 ∨ k = 7 ∨ k = 8) with rfl | rfl | rfl | rfl | rfl
        · have HF := Lib.hid (fun j (hj : j < 33) => HGR.out.free (k := j) (by rw [rCells_len _ _ _ _ _ (rgN_len _)]; exact hj))
          have g0 := HGR.out.cell (k := 19) (v := .bool false) rfl
          have f0 := HF.out 19 (by decide)
          have g1 := HGR.out.cell (k := 20) (v := .int .i64 0) rfl
          have f1 := HF.out 20 (by decide)
          have g2 := HGR.out.cell (k := 21) (v := .string ⟨#[]⟩) rfl
          have f2 := HF.out 21 (by decide)
          clear x0 x1 c6
          go_wp2_with fail
          go_roundw
          case rel => exact ⟨5, by omega, by omega, rfl, (reg_store HGR.out 19 (.bool true) (.int .i64 0) (.string ⟨#[]⟩)).1, HBR.out.trans ((reg_store HGR.out 19 (.bool true) (.int .i64 0) (.string ⟨#[]⟩)).2.below (fun k hk => by rw [show k = O + 1 from hk]; exact Nat.le_refl _) (Nat.le_of_lt HGR.out.lt))⟩
          case measure => decide
        · have HF := Lib.hid (fun j (hj : j < 33) => HGR.out.free (k := j) (by rw [rCells_len _ _ _ _ _ (rgN_len _)]; exact hj))
          have g0 := HGR.out.cell (k := 22) (v := .bool false) rfl
          have f0 := HF.out 22 (by decide)
          have g1 := HGR.out.cell (k := 23) (v := .int .i64 0) rfl
          have f1 := HF.out 23 (by decide)
          have g2 := HGR.out.cell (k := 24) (v := .string ⟨#[]⟩) rfl
          have f2 := HF.out 24 (by decide)
          clear x0 x1 c6
          go_wp2_with fail
          go_roundw
          case rel => exact ⟨6, by omega, by omega, rfl, (reg_store HGR.out 22 (.bool true) (.int .i64 0) (.string ⟨#[]⟩)).1, HBR.out.trans ((reg_store HGR.out 22 (.bool true) (.int .i64 0) (.string ⟨#[]⟩)).2.below (fun k hk => by rw [show k = O + 1 from hk]; exact Nat.le_refl _) (Nat.le_of_lt HGR.out.lt))⟩
          case measure => decide
        · have HF := Lib.hid (fun j (hj : j < 33) => HGR.out.free (k := j) (by rw [rCells_len _ _ _ _ _ (rgN_len _)]; exact hj))
          have g0 := HGR.out.cell (k := 25) (v := .bool false) rfl
          have f0 := HF.out 25 (by decide)
          have g1 := HGR.out.cell (k := 26) (v := .int .i64 0) rfl
          have f1 := HF.out 26 (by decide)
          have g2 := HGR.out.cell (k := 27) (v := .string ⟨#[]⟩) rfl
          have f2 := HF.out 27 (by decide)
          clear x0 x1 c6
          go_wp2_with fail
          go_roundw
          case rel => exact ⟨7, by omega, by omega, rfl, (reg_store HGR.out 25 (.bool true) (.int .i64 0) (.string ⟨#[]⟩)).1, HBR.out.trans ((reg_store HGR.out 25 (.bool true) (.int .i64 0) (.string ⟨#[]⟩)).2.below (fun k hk => by rw [show k = O + 1 from hk]; exact Nat.le_refl _) (Nat.le_of_lt HGR.out.lt))⟩
          case measure => decide
        · have HF := Lib.hid (fun j (hj : j < 33) => HGR.out.free (k := j) (by rw [rCells_len _ _ _ _ _ (rgN_len _)]; exact hj))
          have g0 := HGR.out.cell (k := 28) (v := .bool false) rfl
          have f0 := HF.out 28 (by decide)
          have g1 := HGR.out.cell (k := 29) (v := .int .i64 0) rfl
          have f1 := HF.out 29 (by decide)
          have g2 := HGR.out.cell (k := 30) (v := .string ⟨#[]⟩) rfl
          have f2 := HF.out 30 (by decide)
          clear x0 x1 c6
          go_wp2_with fail
          go_roundw
          case rel => exact ⟨8, by omega, by omega, rfl, (reg_store HGR.out 28 (.bool true) (.int .i64 0) (.string ⟨#[]⟩)).1, HBR.out.trans ((reg_store HGR.out 28 (.bool true) (.int .i64 0) (.string ⟨#[]⟩)).2.below (fun k hk => by rw [show k = O + 1 from hk]; exact Nat.le_refl _) (Nat.le_of_lt HGR.out.lt))⟩
          case measure => decide
        · obtain ⟨Z, hZ⟩ : ∃ Z, Z = wr := ⟨_, rfl⟩
          subst hZ
          clear x0 x1 c6
          go_wp2_with fail
          go_ret
          have hVs : Below w.heap.size w V := bt (bt HB1.out HB2.out) HBW.out
          have hws : w.heap.size ≤ O := by have := (bt HB1.out HB2.out).size; have := HO.out; omega
          have hVz : Below w.heap.size w Z := hVs.trans (HBR.out.mono (by omega))
          rw [← HENDS.out]
          refine ⟨⟨O + 1, _, _, rfl, by omega, ⟨0, [], rgN 8, [], [], _, _, _, ⟨Nat.le_refl _, rgN_len 8, rsep_start (Nat.le_refl _) HGR.out⟩, rfl, rfl, rgN_vals 8, rfl, rfl⟩, fun w'' hB => ?_⟩, hVz⟩
          have hVw : Below w.heap.size w w'' := hVz.trans (hB.mono (by omega))
          have hVB := HBR.out.trans hB
          have hw2 : Below w2.heap.size w2 w'' := HBW.out.trans (hVB.mono (by have := HO.out; omega))
          exact ⟨HT.out.below hVw, HC.out.below hVw, HI.out.below hVw, HOE.out.below hw2, HOU.out.row.lowN hVB (fun b hb => by cases hb; exact Nat.lt_succ_self O), HG.out.below hVw⟩
end Go.Proofs.YtndagciefnddmaaGreatDoor
namespace Go.Proofs.YtndagciefnddmaaGreatDoor
open Go.RowKit Oct
attribute [local irreducible] wpG
section
variable {base G : Nat} {w w' w3 : World} {f : Mf} {at_ : Int} {st rg : List MV} {eos : List Eo} {pr : List (List UInt8 × List UInt8)} {tr : List Int} {stv opv prv trv : Value} {X : List (Pt base)}
theorem MR.setSn (h : MR base w G f at_ st rg eos pr tr stv opv prv trv X) (n : Int) : MR base (w.setCell ⟨G, 26, none⟩ (.int .i64 n)) G { f with sn := n } at_ st rg eos pr tr stv opv prv trv X ∧ Below base w (w.setCell ⟨G, 26, none⟩ (.int .i64 n)) := by
  have hs : Chg (fun k => k = G) w (w.setCell ⟨G, 26, none⟩ (.int .i64 n)) := Chg.setCell _ _ _ rfl
  have hcs : (mCells f at_ stv rg opv prv f.tx f.sn trv).set 26 (.int .i64 n) = mCells { f with sn := n } at_ stv rg opv prv f.tx n trv := by
    obtain ⟨a, b, c, d, e, f', g, j, hr⟩ := eightM h.rl
    rw [hr]; rfl
  have hb := h.blk.set 26 (.int .i64 n)
  rw [hcs] at hb
  have s2 := h.sep.upd (i := 0) rfl hs (fun k hk => hk) (blkPt G h.gb 160 (mCells { f with sn := n } at_ stv rg opv prv f.tx n trv)) hb (fun k hk => .inl hk)
  exact ⟨⟨h.gb, h.rl, s2⟩, h.sep.updB (i := 0) rfl hs (fun k hk => hk) h.size⟩
theorem MR.setTx (h : MR base w G f at_ st rg eos pr tr stv opv prv trv X) (s : List UInt8) : MR base (w.setCell ⟨G, 25, none⟩ (.string (bs s))) G { f with tx := s } at_ st rg eos pr tr stv opv prv trv X ∧ Below base w (w.setCell ⟨G, 25, none⟩ (.string (bs s))) := by
  have hs : Chg (fun k => k = G) w (w.setCell ⟨G, 25, none⟩ (.string (bs s))) := Chg.setCell _ _ _ rfl
  have hcs : (mCells f at_ stv rg opv prv f.tx f.sn trv).set 25 (.string (bs s)) = mCells { f with tx := s } at_ stv rg opv prv s f.sn trv := by
    obtain ⟨a, b, c, d, e, f', g, j, hr⟩ := eightM h.rl
    rw [hr]; rfl
  have hb := h.blk.set 25 (.string (bs s))
  rw [hcs] at hb
  have s2 := h.sep.upd (i := 0) rfl hs (fun k hk => hk) (blkPt G h.gb 160 (mCells { f with tx := s } at_ stv rg opv prv s f.sn trv)) hb (fun k hk => .inl hk)
  exact ⟨⟨h.gb, h.rl, s2⟩, h.sep.updB (i := 0) rfl hs (fun k hk => hk) h.size⟩
end
theorem results_cell_tmpM {P : Program} {fn : Func} {p u : Tmp} {ty : TypeId} {tmps : Array Value} {w : World} {v : Value} {b : Nat} (hr : fn.results = #[.cell p ty, .tmp u]) (hp : tmps.getD p undef = .pointer (some ⟨b, 0, none⟩))
    (hl : (loadVar ty ⟨b, 0, none⟩).run P w = .ok v w) : (results fn tmps).run P w = .ok (.tuple #[v, tmps.getD u undef]) w := by
  simp only [Array.getD_eq_getD_getElem?] at hp ⊢
  simp [results, hr, Sem.run_bind, Result.andThen, hp, asAddr, hl]
theorem ran_stack {texts : List (List UInt8)} {code : List VI} {role : UInt8} {ins : List (List UInt8)} {fuel : Int} (h : askRun texts code role ins fuel = true) (F : Nat) (h0 : (runM ⟨texts, code, ins, (throughV texts code role).2.2.ends⟩ F startM).1 = 0) :
    (runM ⟨texts, code, ins, (throughV texts code role).2.2.ends⟩ F startM).2.st.length = (wantV role).length ∧ (runM ⟨texts, code, ins, (throughV texts code role).2.2.ends⟩ F startM).2.pr.length ≤ 256 := by
  obtain ⟨h1, h2, -, -, h5⟩ := askRun_ok h
  obtain ⟨hg, hk⟩ := goodM_of h1 h2 h5
  obtain ⟨hok, hpc⟩ := runM_ok hg F startM startM_ok h0
  have hst := hok.st
  rw [hpc] at hst
  exact ⟨by rw [hst]; exact congrArg List.length hk, hok.pr⟩
theorem load_ran {w : World} {b : Nat} {v0 v1 v2 : Value} (h0 : w.cell? ⟨b, 0, none⟩ = some v0) (h1 : w.cell? ⟨b, 1, none⟩ = some v1) (h2 : w.cell? ⟨b, 2, none⟩ = some v2) : (loadVar 88 ⟨b, 0, none⟩).run Tryz.prog w = .ok (.agg #[v0, v1, v2]) w := by
  go_simp
theorem ran_store {w : World} {b : Nat} {t : TypeId} {a0 a1 a2 : Value} (hx : Blk w b t [a0, a1, a2]) (v0 v1 v2 : Value) :
    Blk (((w.setCell ⟨b, 0, none⟩ v0).setCell ⟨b, 1, none⟩ v1).setCell ⟨b, 2, none⟩ v2) b t [v0, v1, v2] ∧ Chg (fun x => x = b) w (((w.setCell ⟨b, 0, none⟩ v0).setCell ⟨b, 1, none⟩ v1).setCell ⟨b, 2, none⟩ v2) :=
  ⟨((hx.set 0 v0).set 1 v1).set 2 v2, Chg.trans (Chg.trans (Chg.setCell w ⟨b, 0, none⟩ v0 rfl) (Chg.setCell _ ⟨b, 1, none⟩ v1 rfl)) (Chg.setCell _ ⟨b, 2, none⟩ v2 rfl)⟩
theorem Blk.low {w w' : World} {b base : Nat} {t : TypeId} {cs : List Value} (h : Blk w b t cs) (hB : Below base w w') (hb : b < base) : Blk w' b t cs := by
  unfold Blk at h ⊢
  rw [hB.block b hb]; exact h
def RanRes (B : Nat) (r : Nat × List (List UInt8 × List UInt8) × List UInt8) (e : Ending) (w : World) : Prop :=
  ∃ pv n, e = .returned (.tuple #[.agg #[pv, .string (bs r.2.2), .int .i64 n], .int .i64 (r.1 : Int)]) ∧ recKv.Row w pv r.2.1 ∧ ∀ k, pv.ownBlock = some k → B ≤ k
set_option maxRecDepth 100000 in
set_option maxHeartbeats 8000000 in
theorem Run_any (tv cv iv : Value) (texts : List (List UInt8)) (code : List VI) (role : UInt8) (ins : List (List UInt8)) (fuel : Int) (w : World) (hA : AskV w tv cv texts code) (hi : recS.Row w iv ins) (hil : ins.length ≤ 10) (hcl : code.length ≤ 5000)
    (his : ∀ s ∈ ins, s.length ≤ 140737488355328) (hf0 : -9223372036854775808 ≤ fuel) (hf1 : fuel ≤ 9223372036854775807) (hGl : GlobV w) (hdo : doesAt w) :
    Calls Tryz.prog 66 #[.agg #[tv, cv], .int .u8 (role.toNat : Int), iv, .int .i64 fuel] w fun e w' => RanRes w.heap.size (vmV texts code role ins fuel) e w' ∧ Below w.heap.size w w' := by
  obtain ⟨at_, ct, rfl, -, -⟩ := recS_open hA.t
  obtain ⟨ac, cc, rfl, -, -⟩ := recIns_open hA.c
  obtain ⟨ai, ci, rfl, -, -⟩ := recS_open hi
  have HMA := Lib.hid (fun w' (hB : Below w.heap.size w w') => made_any _ _ _ texts code role ins fuel w' (hA.below hB) (hi.below hB) hil hcl his hf0 hf1 (hGl.below hB) (hdo.below hB))
  have HLT := Lib.hid hA.lt
  obtain ⟨B4, hB4⟩ : ∃ B4, B4 = w.heap.size := ⟨_, rfl⟩
  obtain ⟨W1, hW1⟩ : ∃ W1, W1 = (w.alloc (.cells #[.slice at_ texts.length ct, .slice ac code.length cc] 25)).alloc (.cells #[.slice none 0 0, .string ⟨#[]⟩, .int .i64 0] 88) := ⟨_, rfl⟩
  have hb1 : Below w.heap.size w W1 := by rw [hW1]; exact bt (b_alloc _ _) (b_alloc _ _)
  have hs1 : (w.alloc (.cells #[.slice at_ texts.length ct, .slice ac code.length cc] 25)).heap.size = B4 + 1 := by rw [hB4]; exact size_alV _ _
  have hx : Blk W1 B4 25 [.slice at_ texts.length ct, .slice ac code.length cc] := by rw [hB4, hW1]; exact (Blk.new w _ _).below (b_alloc _ _)
  have hy : Blk W1 (B4 + 1) 88 [.slice none 0 0, .string ⟨#[]⟩, .int .i64 0] := by rw [hW1, ← hs1]; exact Blk.new _ _ _
  have hsz : W1.heap.size = B4 + 2 := by rw [hW1, size_alV, hs1]
  have x0 := hx.cell (k := 0) rfl
  have x1 := hx.cell (k := 1) rfl
  have HB1 := Lib.hid hb1
  have HY := Lib.hid hy
  have HB4 := Lib.hid hB4
  have HSZ := Lib.hid hsz
  go_enter Tryz.func66, Tryz.ntmps66
  go_upto_region 1 with fail
  rw [← hW1, ← hB4]
  clear hW1 hB4 hA hi hGl hdo his hb1 hx hy hs1 hsz
  go_upto_if 22 with (go_at_call 86; refine (HMA.out _ HB1.out).mono ?_; rintro e w2 ⟨hres, hB2⟩; (rcases hres with ⟨hno, rfl⟩ | ⟨hyes, base, G, M, ev, rfl, hle, hMS, hEnv⟩))
  · have HN := Lib.hid (vmV_no hno)
    have hB12 := bt HB1.out hB2
    have hy2 := HY.out.below hB2
    have y0 := hy2.cell (k := 0) rfl
    have y1 := hy2.cell (k := 1) rfl
    have y2 := hy2.cell (k := 2) rfl
    have k0 := hy2.free (k := 0) (by simp)
    have k1 := hy2.free (k := 1) (by simp)
    have k2 := hy2.free (k := 2) (by simp)
    have HY2 := Lib.hid hy2
    have HB12 := Lib.hid hB12
    clear hno hy2 hB12 hB2 x0 x1
    go_wp2_with fail
    obtain ⟨hy3, hc3⟩ := ran_store HY2.out (.slice none 0 0) (.string ⟨#[]⟩) (.int .i64 0)
    refine bodyPost_ret (results_cell_tmpM rfl rfl (load_ran (hy3.cell (k := 0) rfl) (hy3.cell (k := 1) rfl) (hy3.cell (k := 2) rfl))) rfl ?_
    rw [HN.out]
    exact ⟨⟨_, _, rfl, Rec.Row.nil _, fun k hk => by cases hk⟩, HB12.out.trans (hc3.below (fun k hk => by rw [show k = B4 + 1 from hk, HB4.out]; exact Nat.le_succ _) HB12.out.size)⟩
  · obtain ⟨a1, a2, a3, a4, a5⟩ := askRun_ok hyes
    obtain ⟨F, rfl⟩ : ∃ F : Nat, fuel = (F : Int) := ⟨fuel.toNat, by omega⟩
    have hg := (goodM_of a1 a2 a5).1
    have hF6 : F ≤ 65536 := by omega
    have hc256 : code.length ≤ 256 := by
      obtain ⟨hm, -⟩ := throughV_ok a1
      unfold mayV at hm
      simp only [Bool.and_eq_true, decide_eq_true_eq] at hm
      exact hm.1.1.2
    have HV := Lib.hid (vmV_yes hyes)
    rw [Int.toNat_natCast] at HV
    have HST := Lib.hid (ran_stack hyes F)
    obtain ⟨E, hE⟩ : ∃ E : Me, E = ⟨texts, code, ins, (throughV texts code role).2.2.ends⟩ := ⟨_, rfl⟩
    have hEc : E.code.length = code.length := by rw [hE]
    rw [← hE] at hg hMS hEnv HV HST
    have HR := Lib.hid (vrun_any hg (by have := HLT.out; omega) (by unfold inputsV; split <;> omega) (by omega) F (by omega) hMS hEnv)
    have hb12 := bt HB1.out hB2
    have HY2 := Lib.hid (HY.out.below hB2)
    have HB12 := Lib.hid hb12
    have HSB := Lib.hid (show base ≤ w2.heap.size by obtain ⟨_, _, _, _, _, _, hm, _⟩ := hMS.mr; exact hm.size)
    have HLE : Hid (B4 + 2 ≤ base) := by rw [← HSZ.out]; exact hle
    obtain ⟨c, hc⟩ : ∃ c, c = (runM E F startM).1 := ⟨_, rfl⟩
    rw [← hc] at HR HST
    have HC := Lib.hid hc
    clear hg hMS hEnv hE hEc hb12 hB2 hle hc a1 a2 a3 a4 a5 hyes x0 x1 HMA HB1 HY hc256
    by_cases h0 : c = 0
    · subst h0
      obtain ⟨hsl, -⟩ := HST.out rfl
      obtain ⟨FIN, hFIN⟩ : ∃ FIN, FIN = (runM E F startM).2 := ⟨_, rfl⟩
      have HRV := Lib.hid (show ranV E role F = (0, FIN.pr, if role = 1 then [] else (FIN.st.headD (0, [])).2) by unfold ranV; rw [← HC.out, if_pos rfl, hFIN])
      rw [← hFIN] at HR hsl
      have HSL := Lib.hid hsl
      clear hFIN hsl HST
      go_upto_if 42 with (go_at_call 87; refine HR.out.mono ?_; rintro r w3 ⟨rfl, hMS3, hB3⟩; obtain ⟨tr, htr, hMS3⟩ := hMS3 rfl; obtain ⟨eos, sv, ov, pv, ta, tc, hm3, -, -⟩ := hMS3.mr; have c27 := hm3.cellR (k := 4) rfl; have f26 := hm3.free (k := 26) (by decide); have c26 : w3.cell? ⟨G, 26, none⟩ = some (.int .i64 0) := hm3.cellR (k := 3) rfl; have HM3 := Lib.hid hm3; have HB3 := Lib.hid hB3; have hty : (tr.length : Int) ≤ 65536 := (by omega); clear hMS3 hm3 hB3 htr)
      obtain ⟨n, hn⟩ : ∃ n, n = (tr.length : Int) := ⟨_, rfl⟩
      obtain ⟨hm4, hb4⟩ := HM3.out.setSn n
      obtain ⟨W4, hW4⟩ : ∃ W4, W4 = w3.setCell ⟨G, 26, none⟩ (.int .i64 n) := ⟨_, rfl⟩
      rw [← hn, ← hW4]
      rw [← hW4] at hm4 hb4
      have hB4' := HB3.out.trans hb4
      have HM4 := Lib.hid hm4
      have HB5 := Lib.hid hB4'
      have HY4 := Lib.hid (HY2.out.low hB4' (by have := HLE.out; omega))
      clear hn hW4 c27 f26 c26 HM3 HB3 hty hm4 hb4 hB4'
      by_cases hr : role = 1
      · have t1 : ((role.toNat : Int) != 1) = false := by rw [hr]; rfl
        have HRV2 := Lib.hid (show vmV texts code role ins F = (0, FIN.pr, []) by rw [HV.out, HRV.out, if_pos hr])
        have hm4 := HM4.out
        have c24 := hm4.cellR (k := 1) rfl
        have c25 := hm4.cellR (k := 2) rfl
        have c26 := hm4.cellR (k := 3) rfl
        have y0 := HY4.out.cell (k := 0) rfl
        have y1 := HY4.out.cell (k := 1) rfl
        have y2 := HY4.out.cell (k := 2) rfl
        have k0 := HY4.out.free (k := 0) (by simp)
        have k1 := HY4.out.free (k := 1) (by simp)
        have k2 := HY4.out.free (k := 2) (by simp)
        obtain ⟨_, _, ⟨pa, pc, rfl⟩, _⟩ := hm4.slices
        clear hr hm4
        dsimp only at c24 c25 c26
        go_wp2_with fail
        obtain ⟨hy3, hc3⟩ := ran_store HY4.out (.slice pa FIN.pr.length pc) (.string (bs [])) (.int .i64 n)
        refine bodyPost_ret (results_cell_tmpM rfl rfl (load_ran (hy3.cell (k := 0) rfl) (hy3.cell (k := 1) rfl) (hy3.cell (k := 2) rfl))) rfl ?_
        rw [HRV2.out]
        refine ⟨⟨_, _, rfl, (HM4.out.op.chgV hc3 (fun k hk e => ?_)).row, fun k hk => by have := (HM4.out.op.ltV k hk).1; have := HLE.out; have := HB4.out; omega⟩, (HB12.out.trans (HB5.out.mono (by have := HLE.out; have := HB4.out; omega))).trans (hc3.below (fun k hk => by rw [show k = B4 + 1 from hk, HB4.out]; exact Nat.le_succ _) (by have := HB12.out.size; have := HB5.out.size; omega))⟩
        have h9 := (HM4.out.op.ltV k hk).1
        rw [show k = B4 + 1 from e] at h9
        have := HLE.out
        omega
      · have t1 : ((role.toNat : Int) != 1) = true := by
          rw [bne_iff_ne]
          intro h
          exact hr (UInt8.toNat_inj.1 (by show role.toNat = 1; omega))
        obtain ⟨v, hv⟩ : ∃ v, FIN.st = [v] := by
          have h1 := HSL.out
          unfold wantV at h1
          rw [if_neg hr] at h1
          match hq : FIN.st, h1 with
          | [v], _ => exact ⟨v, rfl⟩
        have HRV2 := Lib.hid (show vmV texts code role ins F = (0, FIN.pr, v.2) by rw [HV.out, HRV.out, if_neg hr, hv]; rfl)
        rw [hv] at HM4
        obtain ⟨_, _, ⟨pa, pc, rfl⟩, _⟩ := HM4.out.slices
        have HP := Lib.hid (pop_any v HM4.out (by simp))
        clear hr hv HSL HRV
        go_wp2_with (go_at_call 88; refine HP.out.mono ?_; rintro r w5 ⟨rfl, ⟨sv5, hm5⟩, hB5⟩; unfold mvV; have f25 := hm5.free (k := 25) (by decide); have c24 := hm5.cellR (k := 1) rfl; have c25 := hm5.cellR (k := 2) rfl; have c26 := hm5.cellR (k := 3) rfl; dsimp only at c24 c25 c26; have hy5 := HY4.out.low hB5 (by have := HLE.out; omega); have y0 := hy5.cell (k := 0) rfl; have y1 := hy5.cell (k := 1) rfl; have y2 := hy5.cell (k := 2) rfl; have k0 := hy5.free (k := 0) (by simp); have k1 := hy5.free (k := 1) (by simp); have k2 := hy5.free (k := 2) (by simp); have hgb : G ≠ B4 + 1 := (by have := hm5.gb; have := HLE.out; omega); have hgb' : ¬ B4 + 1 = G := (fun e => hgb e.symm); have HM5 := Lib.hid hm5; have HY5 := Lib.hid hy5; have HB6 := Lib.hid (HB5.out.trans hB5); clear hm5 hy5 hB5)
        obtain ⟨hm6, hb6⟩ := HM5.out.setTx v.2
        have hy6 : Blk (w5.setCell ⟨G, 25, none⟩ (.string (bs v.2))) (B4 + 1) 88 [.slice none 0 0, .string ⟨#[]⟩, .int .i64 0] := HY5.out.chg (Chg.setCell w5 ⟨G, 25, none⟩ (.string (bs v.2)) (X := fun k => k = G) rfl) hgb'
        obtain ⟨hy3, hc3⟩ := ran_store hy6 (.slice pa FIN.pr.length pc) (.string (bs v.2)) (.int .i64 n)
        refine bodyPost_ret (results_cell_tmpM rfl rfl (load_ran (hy3.cell (k := 0) rfl) (hy3.cell (k := 1) rfl) (hy3.cell (k := 2) rfl))) rfl ?_
        rw [HRV2.out]
        have hball := HB6.out.trans hb6
        refine ⟨⟨_, _, rfl, (hm6.op.chgV hc3 (fun k hk e => ?_)).row, fun k hk => by have := (hm6.op.ltV k hk).1; have := HLE.out; have := HB4.out; omega⟩, (HB12.out.trans (hball.mono (by have := HLE.out; have := HB4.out; omega))).trans (hc3.below (fun k hk => by rw [show k = B4 + 1 from hk, HB4.out]; exact Nat.le_succ _) (by have := HB12.out.size; have := hball.size; omega))⟩
        have h9 := (hm6.op.ltV k hk).1
        rw [show k = B4 + 1 from e] at h9
        have := HLE.out
        omega
    · have t1 : ((c : Int) != 0) = true := by rw [bne_iff_ne]; omega
      have HRV := Lib.hid (show ranV E role F = (c, [], []) by unfold ranV; rw [← HC.out, if_neg h0])
      clear h0
      go_wp2_with (go_at_call 87; refine HR.out.mono ?_; rintro r w3 ⟨rfl, -, hB3⟩; have hy2 := HY2.out.low hB3 (by have := HLE.out; omega); have y0 := hy2.cell (k := 0) rfl; have y1 := hy2.cell (k := 1) rfl; have y2 := hy2.cell (k := 2) rfl; have k0 := hy2.free (k := 0) (by simp); have k1 := hy2.free (k := 1) (by simp); have k2 := hy2.free (k := 2) (by simp); have HY3 := Lib.hid hy2; have HB3 := Lib.hid (HB12.out.trans (hB3.mono (by have := HLE.out; have := HB4.out; omega))); clear hy2 hB3)
      obtain ⟨hy3, hc3⟩ := ran_store HY3.out (.slice none 0 0) (.string ⟨#[]⟩) (.int .i64 0)
      refine bodyPost_ret (results_cell_tmpM rfl rfl (load_ran (hy3.cell (k := 0) rfl) (hy3.cell (k := 1) rfl) (hy3.cell (k := 2) rfl))) rfl ?_
      rw [HV.out, HRV.out]
      exact ⟨⟨_, _, rfl, Rec.Row.nil _, fun k hk => by cases hk⟩, HB3.out.trans (hc3.below (fun k hk => by rw [show k = B4 + 1 from hk, HB4.out]; exact Nat.le_succ _) HB3.out.size)⟩
end Go.Proofs.YtndagciefnddmaaGreatDoor
