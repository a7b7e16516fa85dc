/- Lemmas for JobRuns, part 15: walks of the functions that it reaches, and the plain laws behind them. -/
import Derived.Lib.Hide
import Derived.BigQuiet
import Derived.Deep.QuietTactic
import Derived.Recover
import Derived.Test.YtndagciefnddmaaGreatDoorJobRunsK1
import Derived.Test.YtndagciefnddmaaGreatDoorJobRunsK2
import Derived.Test.YtndagciefnddmaaGreatDoorJobRunsK5
import Derived.Test.YtndagciefnddmaaGreatDoorJobRunsK6
import Derived.Test.YtndagciefnddmaaGreatDoorJobRunsK14
set_option linter.unusedSimpArgs false
set_option linter.unusedVariables false
namespace Go.Proofs.YtndagciefnddmaaGreatDoor
open Go.RowKit Oct
attribute [local irreducible] wpG
def recB : Rec UInt8 where
  cell c := [.int .u8 (c.toNat : Int)]
  e := 5
  n := 1
  bytes := 1
  z := .int .u8 0
  len := fun _ => rfl
  one := by intro x u h; simp at h; subst h; rfl
  info := by kernel_rfl
  zs := rfl
  pos := by decide
  bpos := by decide
theorem recB_str : ∀ l : List UInt8, Lib.strCells (bs l) = recB.cells l := by
  intro l
  unfold Lib.strCells
  rw [show (bs l).data.toList = l by simp [bs]]
  induction l with
  | nil => rfl
  | cons x l ih => rw [List.map_cons, ih]; rfl
theorem recB_own (w : World) (l : List UInt8) (hl : l.length ≤ 1000) : recB.Own (w.alloc (.cells (recB.cells l).toArray recB.e)) w.heap.size (.slice (some ⟨w.heap.size, 0, none⟩) l.length l.length) l := by
  refine ⟨by rw [Rec.cells_length], .inr ⟨w.heap.size, l.length, (recB.cells l).toArray, rfl, Nat.le_refl _, World.alloc_heap_new w _, Nat.le_refl _, Nat.le_trans hl (by decide), ?_, ?_⟩⟩
  · rw [List.size_toArray, Rec.cells_length]
  · show (recB.cells l).take (l.length * recB.n) = _
    rw [List.take_of_length_le (by rw [Rec.cells_length]; exact Nat.le_refl _)]
theorem appendS {ops : Array Oper} {rest : List Oper} {o : Oper} {a : Act} {Q : Exit → Act → World → Prop} (w : World) (hgd : o.guard = none) (s x : Operand) (t u : TypeId)
    (ho : o.op = .call { callee := .builtin .append, args := #[s, x], argTypes := #[t, u] }) (ht : Tryz.prog.underlying t = some (.slice recB.e)) (hu : Tryz.prog.underlying u = some .string)
    (base : Nat) (v : Value) (l : List UInt8) (hown : recB.Own w base v l) (hs : a.eval s = v) (y : List UInt8) (hx : a.eval x = .string (bs y)) (hlen : l.length + y.length ≤ 140737488355328) (hbase : base ≤ w.heap.size)
    (h : ∀ A C w', recB.Own w' base (.slice A (l.length + y.length) C) (l ++ y) → Chg (fun k => v.ownBlock = some k) w w' → wpList Tryz.prog ops Q rest (a.put o.dst (.slice A (l.length + y.length) C)) w') : wpList Tryz.prog ops Q (o :: rest) a w := by
  obtain ⟨i, hi, hz, hi1, hi2⟩ := info_parts recB.info
  refine Lib.wpList_append_own_string _ hgd s x t u ho base recB.e i ht hu hi hz hi1 hi2 v l.length (recB.cells l) hs hown (bs y) hx (by rw [bs_size]; exact Nat.le_trans hlen (by decide)) (by rw [bs_size]; exact hlen) hbase ?_
  intro v' w' h2 h3 _
  rw [bs_size, recB_str] at h2
  have h2' : recB.Own w' base v' (l ++ y) := by unfold Rec.Own; rw [recB.cells_append, List.length_append]; exact h2
  have hB : Below base w w' := (Below.refl base w).grown h3 hbase (fun k hk => (Rec.Own.ltV hown k hk).1)
  obtain ⟨A, C, rfl⟩ := owns_slice h2
  exact h A C w' h2' ⟨hB.os, hB.tape, hB.output, hB.size, fun j hj hne => h3.block j hj (fun e => hne e.symm)⟩
theorem b8_len {n : Nat} (h : n ≤ 255) : ((b8 n).toNat : Int) = (n : Int) ∧ IntKind.u8.wrap (n : Int) = (n : Int) ∧ (n : Int) % 256 = (n : Int) := by
  refine ⟨by rw [b8_toNat (by omega)], ?_, by omega⟩
  simp [IntKind.wrap, IntKind.bits, IntKind.signed]; omega
theorem putTs_take {t : List (List UInt8)} {k : Nat} (h : k < t.length) : putTs (t.take (k + 1)) = putTs (t.take k) ++ (b8 t[k].length :: t[k]) := by
  unfold putTs
  rw [List.take_succ_eq_append_getElem h, List.flatMap_append]
  simp
theorem putIs_take {c : List VI} {k : Nat} (h : k < c.length) : putIs (c.take (k + 1)) = putIs (c.take k) ++ [c[k].1, c[k].2] := by
  unfold putIs
  rw [List.take_succ_eq_append_getElem h, List.flatMap_append]
  simp
theorem putTs_len (t : List (List UInt8)) (h : ∀ s ∈ t, s.length ≤ 64) : (putTs t).length ≤ 65 * t.length := by
  induction t with
  | nil => simp [putTs]
  | cons s t ih =>
    have hs := h s (by simp)
    have := ih (fun x hx => h x (by simp [hx]))
    unfold putTs at this ⊢
    rw [List.flatMap_cons, List.length_append, List.length_cons, List.length_cons]
    omega
theorem putIs_len (c : List VI) : (putIs c).length = 2 * c.length := by
  induction c with
  | nil => rfl
  | cons x c ih =>
    unfold putIs at ih ⊢
    rw [List.flatMap_cons, List.length_append, ih, List.length_cons]
    simp; omega
theorem recB_one (w : World) {n : Nat} (h : n ≤ 255) (e : TypeId) : Reads (w.alloc (.cells #[.int .u8 (n : Int)] e)) (.slice (some ⟨w.heap.size, 0, none⟩) 1 1) 1 (recB.cell (b8 n)) := by
  have hc : recB.cell (b8 n) = [.int .u8 (n : Int)] := by show [Value.int .u8 ((b8 n).toNat : Int)] = _; rw [(b8_len h).1]
  have := (Rec.Row.new (R := recB) w [b8 n] e).1
  rw [show recB.cells [b8 n] = [.int .u8 (n : Int)] from by show recB.cell _ ++ [] = _; rw [hc]; rfl] at this
  rw [hc]
  exact this
theorem recB_two (w : World) (x y : UInt8) (e : TypeId) : recB.Row (w.alloc (.cells #[.int .u8 (x.toNat : Int), .int .u8 (y.toNat : Int)] e)) (.slice (some ⟨w.heap.size, 0, none⟩) 2 2) [x, y] := Rec.Row.new (R := recB) w [x, y] e
theorem recB_pair (w : World) {n : Nat} (h : n ≤ 65535) (e : TypeId) : recB.Row (w.alloc (.cells #[.int .u8 ((n : Int) % 256), .int .u8 ((n : Int) / 256)] e)) (.slice (some ⟨w.heap.size, 0, none⟩) 2 2) [b8 n, b8 (n / 256)] := by
  have h1 : ((b8 n).toNat : Int) = (n : Int) % 256 := by unfold b8; rw [UInt8.toNat_ofNat']; omega
  have h2 : ((b8 (n / 256)).toNat : Int) = (n : Int) / 256 := by unfold b8; rw [UInt8.toNat_ofNat']; omega
  have := recB_two w (b8 n) (b8 (n / 256)) e
  rw [h1, h2] at this
  exact this
theorem recB_cells : ∀ l : List UInt8, recB.cells l = bcells l
  | [] => rfl
  | x :: l => by rw [Rec.cells, recB_cells l]; rfl
theorem recB_conv {w : World} {base : Nat} {v : Value} {l : List UInt8} (h : recB.Own w base v l) : (convert 66 9 v).run Tryz.prog w = .ok (.string (bs l)) w := by
  refine conv_own _ _ 5 Tryz.underlying66 Tryz.underlying5 Tryz.underlying9 w base v l.length l ?_
  have : w.ownsRow base recB.e recB.n v l.length (recB.cells l) := h
  rw [recB_cells] at this
  exact this
def putR (t : List (List UInt8)) (c : List VI) : Value := if mayV t c = true then .tuple #[.string (bs (putC t c)), .int .i64 0] else .tuple #[.string (bs []), .int .i64 2]
set_option maxRecDepth 100000 in
set_option maxHeartbeats 16000000 in
theorem Put_any (tv cv : Value) (texts : List (List UInt8)) (code : List VI) (w : World) (ht : recS.Row w tv texts) (hc : recIns.Row w cv code) (hlt : texts.length ≤ 140737488355328) (hlc : code.length ≤ 140737488355328) (hm : ∀ s ∈ texts, s.length ≤ 140737488355328) :
    Calls Tryz.prog 60 #[.agg #[tv, cv]] w fun e w' => e = .returned (putR texts code) ∧ Below w.heap.size w w' := by
  have HCK := Lib.hid (fun w' (hB : Below w.heap.size w w') => CCheck_any tv cv texts code w' (ht.below hB) (hc.below hB) hlt hlc hm)
  obtain ⟨at_, ct, rfl, -, hct⟩ := recS_open ht
  obtain ⟨ac, cc, rfl, -, hcc⟩ := recIns_open hc
  have HCT := Lib.hid hct
  have HCC := Lib.hid hcc
  obtain ⟨W1, hW1⟩ : ∃ W1, W1 = w.alloc (.cells #[.slice at_ texts.length ct, .slice ac code.length cc] 25) := ⟨_, rfl⟩
  have hb1 : Below w.heap.size w W1 := by rw [hW1]; exact b_alloc _ _
  have hx : Blk W1 w.heap.size 25 [.slice at_ texts.length ct, .slice ac code.length cc] := by rw [hW1]; exact Blk.new w _ _
  have x0 := hx.cell (k := 0) rfl
  have x1 := hx.cell (k := 1) rfl
  have HB1 := Lib.hid hb1
  have HX := Lib.hid hx
  clear ht hc hct hcc hb1 hx hm
  by_cases hmv : mayV texts code = true
  · obtain ⟨h16, h256, h64⟩ := mayV_parts hmv
    rw [if_pos hmv] at HCK
    have HR := Lib.hid (show putR texts code = .tuple #[.string (bs (putC texts code)), .int .i64 0] by unfold putR; rw [if_pos hmv])
    have H64 := Lib.hid h64
    clear hmv h64
    go_enter Tryz.func60, Tryz.ntmps60
    go_upto_region 1 with fail
    rw [← hW1]
    clear hW1
    go_wp2_with fail
    refine (HCK.out _ HB1.out).mono ?_
    rintro e w2 ⟨rfl, hB⟩
    have HB2 := Lib.hid (bt HB1.out hB)
    have HX2 := Lib.hid (HX.out.below hB)
    clear hB x0 x1
    have x0 := HX2.out.cell (k := 0) rfl
    obtain ⟨q1, q2, q3⟩ := b8_len (n := texts.length) (by omega)
    go_upto_region 5 with fail
    obtain ⟨w3, hw3⟩ : ∃ w3, w3 = w2.alloc (.cells #[.int .u8 (texts.length : Int)] 5) := ⟨_, rfl⟩
    have hb3 : Below w2.heap.size w2 w3 := by rw [hw3]; exact b_alloc _ _
    have ho3 : recB.Own w3 w2.heap.size (.slice (some ⟨w2.heap.size, 0, none⟩) 1 1) [b8 texts.length] := by
      have h := recB_own w2 [b8 texts.length] (by simp)
      rw [show recB.cells [b8 texts.length] = [.int .u8 (texts.length : Int)] from by show [Value.int .u8 ((b8 texts.length).toNat : Int)] = _; rw [q1]] at h
      rw [hw3]; exact h
    have x0 := (HX2.out.below hb3).cell (k := 0) rfl
    rw [← hw3]
    have HB3 := Lib.hid (bt HB2.out hb3)
    have HO3 := Lib.hid ho3
    have HC3 := Lib.hid hb3
    have hsz : w2.heap.size ≤ w3.heap.size := hb3.size
    have hsz0 : w.heap.size ≤ w2.heap.size := HB2.out.size
    clear hw3 hb3 ho3 q1 q2 q3
    go_wp2_with fail
    clear x0
    go_loopw [5, 23] (fun vb vi wr => ∃ (k : Nat) (A : Option Addr) (C : Nat) (l : List UInt8), vb = .slice A l.length C ∧ vi = .int .i64 (k : Int) ∧ k ≤ texts.length ∧ l.length ≤ 1 + 65 * k ∧ Hid (l = b8 texts.length :: putTs (texts.take k)) ∧ Hid (recB.Own wr w2.heap.size (.slice A l.length C) l) ∧ Hid (Below w2.heap.size w2 wr)) (fun _ vi _ => texts.length - (intOf vi).toNat)
    case atStart => exact ⟨0, _, _, [b8 texts.length], rfl, rfl, Nat.zero_le _, by simp, by unfold Hid; simp [putTs], HO3.out, HC3.out⟩
    case round =>
      obtain ⟨k, A, C, l, rfl, rfl, hk, hl, HL, HO, HB⟩ := hrel
      by_cases h0 : k < texts.length
      · obtain ⟨b, off, rfl, d0⟩ := HCT.out k h0
        have d0 := Below.keeps (bt HB2.out HB.out) d0
        have kk0 : (0 : Int) ≤ (k : Int) := by omega
        have kk1 : (k : Int) < (texts.length : Int) := by omega
        have ht64 := H64.out texts[k] (List.getElem_mem h0)
        obtain ⟨q1, q2, q3⟩ := b8_len (n := texts[k].length) (by omega)
        have HT := Lib.hid (putTs_take h0)
        have hbw : w2.heap.size ≤ wr.heap.size := HB.out.size
        clear q1
        go_wp2_with (first | (at_builtin; refine recB.append1V _ (b8 texts[k].length) rfl _ _ 66 rfl Tryz.underlying66 w2.heap.size _ l (HO.out.below (b_alloc _ _)) rfl _ rfl (recB_one wr (by omega) _) (by show (l.length + 1) * 1 ≤ _; omega) (Nat.le_trans hbw (b_alloc _ _).size) ?_; intro g gc wn hon hcn _; have HN := Lib.hid (And.intro hon (And.intro hcn ((HB.out.trans ((b_alloc wr (.cells #[.int .u8 (texts[k].length : Int)] 5)).mono hbw)).trans (hcn.below (fun j hj => (Rec.Own.ltV HO.out j hj).1) (Nat.le_trans hbw (b_alloc _ _).size))))); clear hon hcn) | (at_builtin; refine appendS _ rfl _ _ 66 9 rfl Tryz.underlying66 Tryz.underlying9 w2.heap.size _ (l ++ [b8 texts[k].length]) HN.out.1 rfl texts[k] rfl (by rw [List.length_append, List.length_singleton]; omega) HN.out.2.2.size ?_; intro A2 C2 wm hom hcm; have HM := Lib.hid (And.intro hom (HN.out.2.2.trans (hcm.below (fun j hj => (Rec.Own.ltV HN.out.1 j hj).1) HN.out.2.2.size))); clear hom hcm))
        refine ⟨⟨k + 1, A2, C2, (l ++ [b8 texts[k].length]) ++ texts[k], ?_, by go_num, by omega, ?_, ?_, ?_, HM.out.2⟩, by simp [intOf]; omega⟩
        · rw [List.length_append, List.length_append, List.length_singleton]
        · rw [List.length_append, List.length_append, List.length_singleton]; omega
        · unfold Hid
          rw [HT.out, HL.out, List.append_assoc]
          rfl
        · have := HM.out.1
          rw [← List.length_append] at this
          exact this
      · obtain rfl : k = texts.length := by omega
        have hl2 := HL.out
        rw [List.take_length] at hl2
        have HL2 := Lib.hid hl2
        have x1 := (HX2.out.below HB.out).cell (k := 1) rfl
        have e0 : ¬ (texts.length : Int) < (texts.length : Int) := by omega
        have hbw : w2.heap.size ≤ wr.heap.size := HB.out.size
        have hl3 : l.length ≤ 1041 := by omega
        have lc1 : (code.length : Int) ≤ 256 := by omega
        clear hl2 h0 HL
        go_upto_region 11 with (at_builtin; refine recB.appendNV _ rfl _ _ 66 rfl Tryz.underlying66 w2.heap.size _ l (HO.out.below (b_alloc _ _)) rfl _ [b8 code.length, b8 (code.length / 256)] (recB_pair wr (by omega) _) rfl (by show (l.length + 2) * 1 ≤ _; omega) (Nat.le_trans hbw (b_alloc _ _).size) ?_; intro A3 C3 wn hon hcn; have HN := Lib.hid (And.intro hon ((HB.out.trans ((b_alloc wr (.cells #[.int .u8 ((code.length : Int) % 256), .int .u8 ((code.length : Int) / 256)] 5)).mono hbw)).trans (hcn.below (fun j hj => (Rec.Own.ltV HO.out j hj).1) (Nat.le_trans hbw (b_alloc _ _).size)))); clear hon hcn)
        obtain ⟨l2, hl2⟩ : ∃ l2, l2 = l ++ [b8 code.length, b8 (code.length / 256)] := ⟨_, rfl⟩
        have hlen2 : l2.length = l.length + 2 := by rw [hl2, List.length_append]; rfl
        rw [← hl2] at HN
        rw [← hlen2]
        have hl2l : l2.length ≤ 1043 := by rw [hl2, List.length_append]; simp; omega
        have HLL := Lib.hid (show l2 = b8 texts.length :: (putTs texts ++ [b8 code.length, b8 (code.length / 256)]) by rw [hl2, HL2.out]; rfl)
        have HN1 := Lib.hid HN.out.1
        have HN2 := Lib.hid HN.out.2
        have x1 := (HX2.out.below HN2.out).cell (k := 1) rfl
        clear hl2 hlen2 HN HO HB hbw hl hl3 HL2 e0
        go_wp2_with fail
        clear x1
        go_loopw [5, 51] (fun vb vi wr => ∃ (k : Nat) (A : Option Addr) (C : Nat) (l : List UInt8), vb = .slice A l.length C ∧ vi = .int .i64 (k : Int) ∧ k ≤ code.length ∧ l.length ≤ 1043 + 2 * k ∧ Hid (l = l2 ++ putIs (code.take k)) ∧ Hid (recB.Own wr w2.heap.size (.slice A l.length C) l) ∧ Hid (Below w2.heap.size w2 wr)) (fun _ vi _ => code.length - (intOf vi).toNat)
        case atStart => exact ⟨0, _, _, l2, rfl, rfl, Nat.zero_le _, by omega, by unfold Hid; simp [putIs], HN1.out, HN2.out⟩
        case round =>
          obtain ⟨k, A, C, l, rfl, rfl, hk, hl, HL, HO, HB⟩ := hrel
          have hbw : w2.heap.size ≤ wr.heap.size := HB.out.size
          by_cases h0 : k < code.length
          · obtain ⟨b, off, rfl, d0, d1⟩ := HCC.out k h0
            have d0 := Below.keeps (bt HB2.out HB.out) d0
            have d1 := Below.keeps (bt HB2.out HB.out) d1
            have kk0 : (0 : Int) ≤ (k : Int) := by omega
            have kk1 : (k : Int) < (code.length : Int) := by omega
            have HT := Lib.hid (putIs_take h0)
            go_upto_region 14 with fail
            obtain ⟨wa, hwa⟩ : ∃ wa, wa = wr.alloc (.cells #[.int .u8 (code[k].1.toNat : Int), .int .u8 (code[k].2.toNat : Int)] 92) := ⟨_, rfl⟩
            have hba : Below wr.heap.size wr wa := by rw [hwa]; exact b_alloc _ _
            have hblk : Blk wa wr.heap.size 92 [.int .u8 (code[k].1.toNat : Int), .int .u8 (code[k].2.toNat : Int)] := by rw [hwa]; exact Blk.new wr _ _
            rw [← hwa]
            have g0 := hblk.cell (k := 0) rfl
            have g1 := hblk.cell (k := 1) rfl
            have HOA := Lib.hid (HO.out.below hba)
            have HBA := Lib.hid (HB.out.trans (hba.mono hbw))
            have hbwa : w2.heap.size ≤ wa.heap.size := HBA.out.size
            clear hwa hba hblk d0 d1 HO HB
            go_wp2_with (at_builtin; refine recB.appendNV _ rfl _ _ 66 rfl Tryz.underlying66 w2.heap.size _ l (HOA.out.below (b_alloc _ _)) rfl _ [code[k].1, code[k].2] (recB_two wa _ _ _) rfl (by show (l.length + 2) * 1 ≤ _; omega) (Nat.le_trans hbwa (b_alloc _ _).size) ?_; intro A3 C3 wn hon hcn; have HN := Lib.hid (And.intro hon ((HBA.out.trans ((b_alloc wa (.cells #[.int .u8 (code[k].1.toNat : Int), .int .u8 (code[k].2.toNat : Int)] 5)).mono hbwa)).trans (hcn.below (fun j hj => (Rec.Own.ltV HOA.out j hj).1) (Nat.le_trans hbwa (b_alloc _ _).size)))); clear hon hcn)
            refine ⟨⟨k + 1, A3, C3, l ++ [code[k].1, code[k].2], ?_, by go_num, by omega, ?_, ?_, HN.out.1, HN.out.2⟩, by simp [intOf]; omega⟩
            · rw [List.length_append]; rfl
            · rw [List.length_append]; simp; omega
            · unfold Hid
              rw [HT.out, HL.out, List.append_assoc]
          · obtain rfl : k = code.length := by omega
            have hcv := recB_conv HO.out
            have hfl := HL.out
            rw [List.take_length, HLL.out] at hfl
            have HF := Lib.hid (show l = putC texts code by rw [hfl]; unfold putC; simp)
            have e0 : ¬ (code.length : Int) < (code.length : Int) := by omega
            clear hfl h0
            go_wp2_with fail
            go_ret2
            exact ⟨by rw [HR.out, ← HF.out]; rfl, bt HB2.out HB.out⟩
  · rw [if_neg hmv] at HCK
    have HR := Lib.hid (show putR texts code = .tuple #[.string (bs []), .int .i64 2] by unfold putR; rw [if_neg hmv])
    clear hmv
    go_enter Tryz.func60, Tryz.ntmps60
    go_upto_region 1 with fail
    rw [← hW1]
    clear hW1
    go_wp2_with fail
    refine (HCK.out _ HB1.out).mono ?_
    rintro e w2 ⟨rfl, hB⟩
    have HB2 := Lib.hid (bt HB1.out hB)
    clear hB x0 x1
    go_wp2_with fail
    go_ret2
    exact ⟨by rw [HR.out]; rfl, HB2.out⟩
end Go.Proofs.YtndagciefnddmaaGreatDoor
namespace Go.Proofs.YtndagciefnddmaaGreatDoor
open Go.RowKit Oct
theorem put_no (v n : Int) (h : n < 1 ∨ 8 < n) : putS v n = ([], 2) := by
  have : putOk v n = false := by unfold putOk; simp; omega
  simp [putS, this]
theorem pow28 (n : Nat) : (2 : Int) ^ (8 * n) = ((256 ^ n : Nat) : Int) := by rw [Int.pow_mul]; simp
theorem put_ok (v n : Int) (h : 1 ≤ n) (h' : n ≤ 8) (h3 : v.toNat < 256 ^ n.toNat) : putS v n = (num v.toNat n.toNat, 0) := by
  have : putOk v n = true := by unfold putOk; simp; omega
  simp [putS, this]
theorem put_big (v n : Int) (h3 : ¬ v.toNat < 256 ^ n.toNat) : putS v n = ([], 2) := by
  have : putOk v n = false := by unfold putOk; simp; omega
  simp [putS, this]
theorem put_ok' (v n : Int) (h : 1 ≤ n) (h' : n ≤ 8) (h0 : 0 ≤ v) (h3 : (v / 2 ^ (8 * n).toNat != 0) = false) : putS v n = (num v.toNat n.toNat, 0) := by
  refine put_ok v n h h' ?_
  obtain ⟨n, rfl⟩ := Int.eq_ofNat_of_zero_le (show 0 ≤ n by omega)
  obtain ⟨v, rfl⟩ := Int.eq_ofNat_of_zero_le h0
  have e : (8 * (n : Int)).toNat = 8 * n := by omega
  rw [e, pow28, bne_eq_false_iff_eq] at h3
  norm_cast at h3
  exact (Nat.div_eq_zero_iff_lt (Nat.pow_pos (by decide))).1 h3
theorem put_big' (v n : Int) (h : 1 ≤ n) (h0 : 0 ≤ v) (h3 : (v / 2 ^ (8 * n).toNat != 0) = true) : putS v n = ([], 2) := by
  refine put_big v n ?_
  obtain ⟨n, rfl⟩ := Int.eq_ofNat_of_zero_le (show 0 ≤ n by omega)
  obtain ⟨v, rfl⟩ := Int.eq_ofNat_of_zero_le h0
  have e : (8 * (n : Int)).toNat = 8 * n := by omega
  rw [e, pow28, bne_iff_ne] at h3
  intro h5
  apply h3
  norm_cast
  exact Nat.div_eq_of_lt h5
set_option maxRecDepth 100000 in
set_option maxHeartbeats 400000 in
theorem Put01_any (v n : Int) (w : World) (h3 : 0 ≤ v) (h4 : v < 18446744073709551616) :
    Calls Tryz.prog 78 #[.int .u64 v, .int .i64 n] w fun e w' => e = .returned (.tuple #[.string (bs (putS v n).1), .int .i64 (putS v n).2]) ∧ Below w.heap.size w w' := by
  by_cases hn : n < 1 ∨ 8 < n
  · go_enter Tryz.func78, Tryz.ntmps78
    have hp := Hid.out (put_no v n hn)
    rw [put_no v n hn]
    rcases hn with hn | hn
    all_goals
      go_wp2
      go_ret2
      exact ⟨rfl, Below.refl _ _⟩
  · by_cases h8 : n = 8
    · subst h8
      rw [put_ok v 8 (by omega) (by omega) (by simp; omega)]
      go_enter Tryz.func78, Tryz.ntmps78
      go_wp2_with (go_at_call 104; refine (bytes_any _ _ _ (by omega) (by omega) h3 h4).mono ?_; rintro e w' ⟨rfl, hB⟩)
      go_ret2
      exact ⟨rfl, hB⟩
    · have hlo : 1 ≤ n := by omega
      have hhi : n ≤ 7 := by omega
      cases hv : (v / 2 ^ (8 * n).toNat != 0)
      · rw [put_ok' v n hlo (by omega) h3 hv]
        go_enter Tryz.func78, Tryz.ntmps78
        go_wp2_with (go_at_call 104; refine (bytes_any _ _ _ (by omega) (by omega) h3 h4).mono ?_; rintro e w' ⟨rfl, hB⟩)
        go_ret2
        exact ⟨rfl, hB⟩
      · rw [put_big' v n hlo h3 hv]
        go_enter Tryz.func78, Tryz.ntmps78
        go_wp2
        go_ret2
        exact ⟨rfl, Below.refl _ _⟩
end Go.Proofs.YtndagciefnddmaaGreatDoor
namespace Go.Proofs.YtndagciefnddmaaGreatDoor
open Go.RowKit Oct
attribute [local irreducible] wpG
set_option maxRecDepth 100000 in
set_option maxHeartbeats 4000000 in
theorem jnum_any (n : Nat) (w : World) (hn : n < 4294967296) :
    Calls Tryz.prog 59 #[.int .i64 n] w fun e w' => e = .returned (.string (bs (num n 4))) ∧ Below w.heap.size w w' := by
  have hp := put_ok (n : Int) 4 (by decide) (by decide) (by simpa using hn)
  have HP := Lib.hid (show Calls Tryz.prog 78 #[.int .u64 (n : Int), .int .i64 4] w fun e w' => e = .returned (.tuple #[.string (bs (num n 4)), .int .i64 0]) ∧ Below w.heap.size w w' by
    have h := Put01_any (n : Int) 4 w (by omega) (by omega)
    rw [hp] at h
    simpa using h)
  have aw : IntKind.u64.wrap (n : Int) = (n : Int) := by simp [IntKind.wrap, IntKind.bits, IntKind.signed]; omega
  clear hp
  go_enter Tryz.func59, Tryz.ntmps59
  go_wp2_with (go_at_call 78; refine HP.out.mono ?_; rintro e w1 ⟨rfl, hB1⟩; have HB1 := Lib.hid hB1; clear hB1)
  go_ret
  exact ⟨rfl, HB1.out⟩
def progB (t : List (List UInt8)) (c : List VI) : List UInt8 := num (putC t c).length 4 ++ putC t c
def headB (j : Jb) : List UInt8 := UInt8.ofNat j.parts.toNat :: num j.fuel.toNat 4
def putJ (j : Jb) : List UInt8 := headB j ++ progB j.mt j.mc ++ progB j.jt j.jc ++ progB j.tt j.tc
set_option maxRecDepth 100000 in
theorem putCJ_len {t : List (List UInt8)} {c : List VI} (h : mayV t c = true) : (putC t c).length ≤ 2000 := by
  unfold mayV at h
  simp only [Bool.and_eq_true, decide_eq_true_eq, List.all_eq_true] at h
  obtain ⟨⟨⟨h1, h2⟩, h3⟩, -⟩ := h
  have e1 := putTs_len t (fun s hs => h3 s hs)
  have e2 := putIs_len c
  unfold putC
  simp only [List.length_cons, List.length_append]
  omega
theorem mayJ_all {j : Jb} (h : mayJ j = true) : mayV j.mt j.mc = true ∧ mayV j.jt j.jc = true ∧ mayV j.tt j.tc = true := by
  obtain ⟨⟨h1, h2, h3⟩, -⟩ := mayJ_ok h
  exact ⟨(throughV_ok h1).1, (throughV_ok h2).1, (throughV_ok h3).1⟩
set_option maxRecDepth 100000 in
theorem progB_len {t : List (List UInt8)} {c : List VI} (h : mayV t c = true) : (progB t c).length ≤ 2004 := by
  have := putCJ_len h
  unfold progB
  rw [List.length_append, num_length]
  omega
set_option maxRecDepth 100000 in
theorem reads1J {w : World} {a : Option Addr} {c : Nat} {x : UInt8} (h : Reads w (.slice a 1 c) 1 [.int .u8 (x.toNat : Int)]) : (convert 66 9 (.slice a 1 c)).run Tryz.prog w = .ok (.string (bs [x])) w := by
  obtain ⟨a', cap, hv, _, hc⟩ := h
  injection hv with e1 _ e3
  subst e1 e3
  obtain ⟨b, off, rfl, h0⟩ := hc 0 _ rfl
  refine run_convert_bytes_back w 66 9 5 ⟨b, off, none⟩ c [x] Tryz.underlying66 Tryz.underlying5 Tryz.underlying9 (fun j hj => ?_)
  obtain rfl : j = 0 := by simp at hj; omega
  simpa [Addr.add] using h0
theorem wpG_nilJQ {P : Program} {ops : Array Oper} {C : World → Prop} {R : World → World → Prop} {F : Nat → Option (Known R)} {Q : Facts → Act → Prop} {k : Nat} {S : Facts} {a : Act} (h : Q S a) : wpG P ops C R F Q k [] S a := by unfold wpG; exact h
def putRJ (j : Jb) : Value := if mayJ j = true then .tuple #[.string (bs (putJ j)), .int .i64 0] else .tuple #[.string (bs []), .int .i64 2]
def psJ (j : Jb) : Nat → List UInt8
  | 0 => headB j
  | 1 => headB j ++ progB j.mt j.mc
  | 2 => headB j ++ progB j.mt j.mc ++ progB j.jt j.jc
  | _ => putJ j
set_option maxRecDepth 100000 in
set_option maxHeartbeats 16000000 in
theorem jPut_any (t1 c1 t2 c2 t3 c3 : Value) (j : Jb) (w : World) (h : JobR w t1 c1 t2 c2 t3 c3 j) :
    Calls Tryz.prog 43 #[jobV t1 c1 t2 c2 t3 c3 j] w fun e w' => e = .returned (putRJ j) ∧ Below w.heap.size w w' := by
  have HMAY := Lib.hid (fun w' (hB : Below w.heap.size w w') => jmay_any t1 c1 t2 c2 t3 c3 j w' (h.below hB))
  have HPM := Lib.hid (fun w' (hB : Below w.heap.size w w') => Put_any t1 c1 j.mt j.mc w' (h.below hB).a.t (h.below hB).a.c (Nat.le_trans h.a.lt (by decide)) (Nat.le_trans h.a.lc (by decide)) h.a.m)
  have HPJ := Lib.hid (fun w' (hB : Below w.heap.size w w') => Put_any t2 c2 j.jt j.jc w' (h.below hB).b.t (h.below hB).b.c (Nat.le_trans h.b.lt (by decide)) (Nat.le_trans h.b.lc (by decide)) h.b.m)
  have HPT := Lib.hid (fun w' (hB : Below w.heap.size w w') => Put_any t3 c3 j.tt j.tc w' (h.below hB).c.t (h.below hB).c.c (Nat.le_trans h.c.lt (by decide)) (Nat.le_trans h.c.lc (by decide)) h.c.m)
  obtain ⟨ta, tc, rfl, -, -⟩ := recS_open h.a.t
  obtain ⟨ca, cc, rfl, -, -⟩ := recIns_open h.a.c
  obtain ⟨ta2, tc2, rfl, -, -⟩ := recS_open h.b.t
  obtain ⟨ca2, cc2, rfl, -, -⟩ := recIns_open h.b.c
  obtain ⟨ta3, tc3, rfl, -, -⟩ := recS_open h.c.t
  obtain ⟨ca3, cc3, rfl, -, -⟩ := recIns_open h.c.c
  unfold jobV at HMAY ⊢
  obtain ⟨P, hP⟩ : ∃ P, P = j.parts := ⟨_, rfl⟩
  obtain ⟨F, hF⟩ : ∃ F, F = j.fuel := ⟨_, rfl⟩
  have HP := Lib.hid hP
  have HF := Lib.hid hF
  rw [← hP, ← hF] at HMAY ⊢
  clear hP hF
  obtain ⟨W1, hW1⟩ : ∃ W1, W1 = w.alloc (.cells #[.slice ta j.mt.length tc, .slice ca j.mc.length cc, .slice ta2 j.jt.length tc2, .slice ca2 j.jc.length cc2, .slice ta3 j.tt.length tc3, .slice ca3 j.tc.length cc3, .int .i64 P, .int .i64 F] 27) := ⟨_, rfl⟩
  have hb1 : Below w.heap.size w W1 := by rw [hW1]; exact b_alloc _ _
  obtain ⟨J, hJ⟩ : ∃ J, J = w.heap.size := ⟨_, rfl⟩
  have hx : Blk W1 J 27 [.slice ta j.mt.length tc, .slice ca j.mc.length cc, .slice ta2 j.jt.length tc2, .slice ca2 j.jc.length cc2, .slice ta3 j.tt.length tc3, .slice ca3 j.tc.length cc3, .int .i64 P, .int .i64 F] := by rw [hJ, hW1]; exact Blk.new w _ _
  have x0 := hx.cell (k := 0) rfl
  have x1 := hx.cell (k := 1) rfl
  have x2 := hx.cell (k := 2) rfl
  have x3 := hx.cell (k := 3) rfl
  have x4 := hx.cell (k := 4) rfl
  have x5 := hx.cell (k := 5) rfl
  have x6 := hx.cell (k := 6) rfl
  have x7 := hx.cell (k := 7) rfl
  have HB1 := Lib.hid hb1
  have HX := Lib.hid hx
  go_enter Tryz.func43, Tryz.ntmps43
  go_upto_region 1 with fail
  rw [← hW1, ← hJ]
  clear hW1 hJ hb1 hx h
  by_cases hm : mayJ j = true
  · have HRES := Lib.hid (show putRJ j = .tuple #[.string (bs (putJ j)), .int .i64 0] from if_pos hm)
    rw [hm] at HMAY
    obtain ⟨m1, m2, m3⟩ := mayJ_all hm
    obtain ⟨-, hp1, hp2, hf1, hf2⟩ := mayJ_ok hm
    rw [← HP.out] at hp1 hp2
    rw [← HF.out] at hf1 hf2
    have l1 := putCJ_len m1
    have l2 := putCJ_len m2
    have l3 := putCJ_len m3
    have HR1 := Lib.hid (show putR j.mt j.mc = .tuple #[.string (bs (putC j.mt j.mc)), .int .i64 0] from if_pos m1)
    have HR2 := Lib.hid (show putR j.jt j.jc = .tuple #[.string (bs (putC j.jt j.jc)), .int .i64 0] from if_pos m2)
    have HR3 := Lib.hid (show putR j.tt j.tc = .tuple #[.string (bs (putC j.tt j.tc)), .int .i64 0] from if_pos m3)
    have HPL := Lib.hid (show (headB j).length = 5 ∧ (progB j.mt j.mc).length ≤ 2004 ∧ (progB j.jt j.jc).length ≤ 2004 ∧ (progB j.tt j.tc).length ≤ 2004 from ⟨by unfold headB; simp, progB_len m1, progB_len m2, progB_len m3⟩)
    have HL1 := Lib.hid l1
    have HL2 := Lib.hid l2
    have HL3 := Lib.hid l3
    clear hm m1 m2 m3 l1 l2 l3
    go_upto_region 3 with (go_at_call 58; refine (HMAY.out _ HB1.out).mono ?_; rintro e w2 ⟨rfl, hB2⟩; have HX2 := Lib.hid (HX.out.below hB2); have HB2 := Lib.hid (bt HB1.out hB2); clear hB2 x0 x1 x2 x3 x4 x5 x6 x7)
    obtain ⟨pb, hpb⟩ : ∃ pb : UInt8, (pb.toNat : Int) = P := ⟨UInt8.ofNat P.toNat, by rw [UInt8.toNat_ofNat']; omega⟩
    obtain ⟨fn, hfn⟩ : ∃ fn : Nat, (fn : Int) = F := ⟨F.toNat, by omega⟩
    have hfl : fn < 4294967296 := by omega
    have HPB := Lib.hid (show headB j = pb :: num fn 4 by
      unfold headB
      rw [← HP.out, ← HF.out, ← hpb, ← hfn]
      simp)
    have aw : IntKind.u8.wrap (P : Int) = (pb.toNat : Int) := by rw [← hpb]; have := pb.toNat_lt; simp [IntKind.wrap, IntKind.bits, IntKind.signed]; omega
    have x6 := HX2.out.cell (k := 6) rfl
    have x7 := HX2.out.cell (k := 7) rfl
    have HNU := Lib.hid (fun w' => show Calls Tryz.prog 59 #[.int .i64 F] w' fun e w'' => e = .returned (.string (bs (num fn 4))) ∧ Below w'.heap.size w' w'' by rw [← hfn]; exact jnum_any fn w' hfl)
    have HCV := Lib.hid (fun w' (a : Option Addr) (c : Nat) (h : Reads w' (.slice a 1 c) 1 [.int .u8 P]) => show (convert 66 9 (.slice a 1 c)).run Tryz.prog w' = .ok (.string (bs [pb])) w' by rw [← hpb] at h; exact reads1J h)
    obtain ⟨nf, hnf⟩ : ∃ nf, nf = num fn 4 := ⟨_, rfl⟩
    have hnl : (nf.length : Int) = 4 := by rw [hnf, num_length]; rfl
    rw [← hnf] at HNU HPB
    clear aw hpb hfn hfl hnf
    refine region_known [(1, .exact _ (.int .i64 P)), (3, kReads 1 [.int .u8 P]), (4, .exact _ (.string (bs [pb]))), (6, .exact _ (.int .i64 F)), (7, .exact _ (.string (bs nf)))] (by kernel_rfl) (by kernel_rfl) ?_
    (repeat (first | (refine wpG_skip (by kernel_rfl) (fun K hK => ?_); go_big_quiet_skip; refine wpQuiet_nil (hK _ ?_); clear hK K) | (refine wpG_quiet (by rfl) (by rfl) (fun K hK => ?_); go_big_quiet_want; go_big_quiet_op; go_big_quiet_on; refine wpQuiet_nil (hK _ ?_); clear hK K) | (refine wpG_nilOk rfl rfl rfl (by kernel_rfl) (fun K hK => ?_); go_simp; refine hK _ ?_; clear hK K)))
    refine wpG_exact rfl (by kernel_rfl) (fun w' G hB hS hG => ?_) (fun K hK => ?_)
    · have y := Below.keeps hB x6
      go_simp; exact hG _ (Bel.refl _)
    go_simp; refine hK _ ?_; clear hK K; (repeat (first | (refine wpG_skip (by kernel_rfl) (fun K hK => ?_); go_big_quiet_skip; refine wpQuiet_nil (hK _ ?_); clear hK K) | (refine wpG_quiet (by rfl) (by rfl) (fun K hK => ?_); go_big_quiet_want; go_big_quiet_op; go_big_quiet_on; refine wpQuiet_nil (hK _ ?_); clear hK K) | (refine wpG_nilOk rfl rfl rfl (by kernel_rfl) (fun K hK => ?_); go_simp; refine hK _ ?_; clear hK K)))
    refine wpG_known (kReads 1 [.int .u8 P]) rfl (by kernel_rfl) (fun w' G hB hS hG => ?_) (fun x K hK => ?_)
    · go_simp
      exact reads_new hG rfl
    obtain ⟨ad, c⟩ := x; go_simp; refine hK _ ?_; clear hK K; (repeat (first | (refine wpG_skip (by kernel_rfl) (fun K hK => ?_); go_big_quiet_skip; refine wpQuiet_nil (hK _ ?_); clear hK K) | (refine wpG_quiet (by rfl) (by rfl) (fun K hK => ?_); go_big_quiet_want; go_big_quiet_op; go_big_quiet_on; refine wpQuiet_nil (hK _ ?_); clear hK K) | (refine wpG_nilOk rfl rfl rfl (by kernel_rfl) (fun K hK => ?_); go_simp; refine hK _ ?_; clear hK K)))
    refine wpG_exact rfl (by kernel_rfl) (fun w' G hB hS hG => ?_) (fun K hK => ?_)
    · have hrd : Reads w' (.slice ad 1 c) 1 [.int .u8 P] := at0 hS (by kernel_rfl)
      have e := HCV.out w' _ _ hrd
      go_simp; exact hG _ (Bel.refl _)
    go_simp; refine hK _ ?_; clear hK K; (repeat (first | (refine wpG_skip (by kernel_rfl) (fun K hK => ?_); go_big_quiet_skip; refine wpQuiet_nil (hK _ ?_); clear hK K) | (refine wpG_quiet (by rfl) (by rfl) (fun K hK => ?_); go_big_quiet_want; go_big_quiet_op; go_big_quiet_on; refine wpQuiet_nil (hK _ ?_); clear hK K) | (refine wpG_nilOk rfl rfl rfl (by kernel_rfl) (fun K hK => ?_); go_simp; refine hK _ ?_; clear hK K)))
    refine wpG_exact rfl (by kernel_rfl) (fun w' G hB hS hG => ?_) (fun K hK => ?_)
    · have y := Below.keeps hB x7
      go_simp; exact hG _ (Bel.refl _)
    go_simp; refine hK _ ?_; clear hK K; (repeat (first | (refine wpG_skip (by kernel_rfl) (fun K hK => ?_); go_big_quiet_skip; refine wpQuiet_nil (hK _ ?_); clear hK K) | (refine wpG_quiet (by rfl) (by rfl) (fun K hK => ?_); go_big_quiet_want; go_big_quiet_op; go_big_quiet_on; refine wpQuiet_nil (hK _ ?_); clear hK K) | (refine wpG_nilOk rfl rfl rfl (by kernel_rfl) (fun K hK => ?_); go_simp; refine hK _ ?_; clear hK K)))
    refine wpG_exact rfl (by kernel_rfl) (fun w' G hB hS hG => ?_) (fun K hK => ?_)
    · have hu := HNU.out w'
      go_simp
      exact calls_told hG hu
    go_simp; refine hK _ ?_; clear hK K; (repeat (first | (refine wpG_skip (by kernel_rfl) (fun K hK => ?_); go_big_quiet_skip; refine wpQuiet_nil (hK _ ?_); clear hK K) | (refine wpG_quiet (by rfl) (by rfl) (fun K hK => ?_); go_big_quiet_want; go_big_quiet_op; go_big_quiet_on; refine wpQuiet_nil (hK _ ?_); clear hK K) | (refine wpG_nilOk rfl rfl rfl (by kernel_rfl) (fun K hK => ?_); go_simp; refine hK _ ?_; clear hK K)))
    refine wpG_nilJQ ?_
    intro w3 hB3 hA3
    have HX3 := Lib.hid (HX2.out.below hB3)
    have HB3 := Lib.hid (bt HB2.out hB3)
    clear hA3 hB3 x6 x7
    have x0 := HX3.out.cell (k := 0) rfl
    have x1 := HX3.out.cell (k := 1) rfl
    have x2 := HX3.out.cell (k := 2) rfl
    have x3 := HX3.out.cell (k := 3) rfl
    have x4 := HX3.out.cell (k := 4) rfl
    have x5 := HX3.out.cell (k := 5) rfl
    have x6 := HX3.out.cell (k := 6) rfl
    have x7 := HX3.out.cell (k := 7) rfl
    go_upto_region 5 with fail
    obtain ⟨H, hH⟩ : ∃ H, H = w3.heap.size := ⟨_, rfl⟩
    obtain ⟨W4, hW4⟩ : ∃ W4, W4 = w3.alloc (.cells #[.slice ta j.mt.length tc, .slice ca j.mc.length cc, .slice ta2 j.jt.length tc2, .slice ca2 j.jc.length cc2, .slice ta3 j.tt.length tc3, .slice ca3 j.tc.length cc3, .int .i64 P, .int .i64 F] 86) := ⟨_, rfl⟩
    have hb4 : Below w3.heap.size w3 W4 := by rw [hW4]; exact b_alloc _ _
    have hh : Blk W4 H 86 [.slice ta j.mt.length tc, .slice ca j.mc.length cc, .slice ta2 j.jt.length tc2, .slice ca2 j.jc.length cc2, .slice ta3 j.tt.length tc3, .slice ca3 j.tc.length cc3, .int .i64 P, .int .i64 F] := by rw [hH, hW4]; exact Blk.new w3 _ _
    rw [← hW4, ← hH]
    have HH1 := Lib.hid hh
    have HB4 := Lib.hid (bt HB3.out hb4)
    clear x0 x1 x2 x3 x4 x5 x6 x7 hW4 hH hb4 hh
    go_upto_region 6 with (first | (go_at_call 50; refine (progs_any H W4).mono ?_; rintro e w5 ⟨⟨D, t, rfl, hDl, hd⟩, hB5⟩; have HH := Lib.hid (HH1.out.below hB5); have HD := Lib.hid hd; have HB5 := Lib.hid (bt HB4.out hB5); clear hDl hd hB5) | fail)
    have HS0 := Lib.hid (show psJ j 0 = pb :: nf by rw [← HPB.out]; rfl)
    go_loopw [4, 28] (fun s i wr => ∃ k : Nat, k ≤ 3 ∧ i = .int .i64 k ∧ s = .string (bs (psJ j k)) ∧ Hid (Below w5.heap.size w5 wr)) (fun _ i _ => 3 - (intOf i).toNat)
    case atStart => exact ⟨0, by omega, rfl, by rw [HS0.out], Below.refl _ _⟩
    case round =>
      obtain ⟨k, hk, rfl, rfl, HBR⟩ := hrel
      have hd := HD.out.below HBR.out
      have hhr := HH.out.below HBR.out
      have HBW := Lib.hid (bt HB5.out HBR.out)
      rcases (by omega : k = 0 ∨ k = 1 ∨ k = 2 ∨ k = 3) with rfl | rfl | rfl | rfl
      · obtain ⟨M, hM⟩ : ∃ M, M = putC j.mt j.mc := ⟨_, rfl⟩
        obtain ⟨S, hS⟩ : ∃ S, S = psJ j 0 := ⟨_, rfl⟩
        obtain ⟨NM, hNM⟩ : ∃ NM, NM = num M.length 4 := ⟨_, rfl⟩
        have hml : M.length ≤ 2000 := by rw [hM]; exact HL1.out
        have hsl : S.length ≤ 10000 := by rw [hS]; have := HPL.out; show (headB j).length ≤ 10000; omega
        have HNX := Lib.hid (show psJ j (0 + 1) = S ++ (NM ++ M) by rw [hNM, hM, hS]; rfl)
        have HCP := Lib.hid (fun w' (hB : Below w.heap.size w w') => show Calls Tryz.prog 60 #[.agg #[.slice ta j.mt.length tc, .slice ca j.mc.length cc]] w' fun e w'' => e = .returned (.tuple #[.string (bs M), .int .i64 0]) ∧ Below w'.heap.size w' w'' by
          have h := HPM.out w' hB
          rw [HR1.out, ← hM] at h
          exact h)
        have HNM := Lib.hid (fun w' => show Calls Tryz.prog 59 #[.int .i64 (M.length : Int)] w' fun e w'' => e = .returned (.string (bs NM)) ∧ Below w'.heap.size w' w'' by rw [hNM]; exact jnum_any M.length w' (by omega))
        have i1 : (M.length : Int) ≤ 2000 := by omega
        have i2 : (S.length : Int) ≤ 10000 := by omega
        have i3 : (NM.length : Int) = 4 := by rw [hNM, num_length]; rfl
        rw [← hS]
        clear hM hS hNM hml hsl
        have d0 := hd.cell (k := 0) rfl
        have d1 := hd.cell (k := 1) rfl
        go_upto_region 8 with fail
        obtain ⟨T, hT⟩ : ∃ T, T = wr.heap.size := ⟨_, rfl⟩
        obtain ⟨U, hU⟩ : ∃ U, U = wr.alloc (.cells #[.int .u8 1, .pointer (some ⟨H, 0, none⟩)] 96) := ⟨_, rfl⟩
        have hbU : Below wr.heap.size wr U := by rw [hU]; exact b_alloc _ _
        have hu : Blk U T 96 [.int .u8 1, .pointer (some ⟨H, 0, none⟩)] := by rw [hT, hU]; exact Blk.new _ _ _
        have hhU := hhr.below hbU
        have u0 := hu.cell (k := 0) rfl
        have u1 := hu.cell (k := 1) rfl
        have v0 := hhU.cell (k := 0) rfl
        have v1 := hhU.cell (k := 1) rfl
        have hTl : T < U.heap.size := lt_of_cell u0
        have hHl : H < U.heap.size := lt_of_cell v0
        have HBU := Lib.hid hbU
        rw [← hU, ← hT]
        clear hd d0 d1 hU hT hbU hu hhU hhr
        go_wp2_with (first | (go_at_call 59; refine (HNM.out _).mono ?_; rintro e w8 ⟨rfl, hB8⟩; have HB8 := Lib.hid (bt HB7.out hB8); clear hB8) | (go_at_call 60; refine (HCP.out _ (bt HBW.out HBU.out)).mono ?_; rintro e w7 ⟨rfl, hB7⟩; have HB7 := Lib.hid (bt HBU.out hB7); clear hB7))
        go_roundw
        case rel => exact ⟨0 + 1, by omega, rfl, by rw [HNX.out], bt HBR.out HB8.out⟩
        case measure => decide
      · obtain ⟨M, hM⟩ : ∃ M, M = putC j.jt j.jc := ⟨_, rfl⟩
        obtain ⟨S, hS⟩ : ∃ S, S = psJ j 1 := ⟨_, rfl⟩
        obtain ⟨NM, hNM⟩ : ∃ NM, NM = num M.length 4 := ⟨_, rfl⟩
        have hml : M.length ≤ 2000 := by rw [hM]; exact HL2.out
        have hsl : S.length ≤ 10000 := by rw [hS]; have := HPL.out; show (headB j ++ progB j.mt j.mc).length ≤ 10000; rw [List.length_append]; omega
        have HNX := Lib.hid (show psJ j (1 + 1) = S ++ (NM ++ M) by rw [hNM, hM, hS]; rfl)
        have HCP := Lib.hid (fun w' (hB : Below w.heap.size w w') => show Calls Tryz.prog 60 #[.agg #[.slice ta2 j.jt.length tc2, .slice ca2 j.jc.length cc2]] w' fun e w'' => e = .returned (.tuple #[.string (bs M), .int .i64 0]) ∧ Below w'.heap.size w' w'' by
          have h := HPJ.out w' hB
          rw [HR2.out, ← hM] at h
          exact h)
        have HNM := Lib.hid (fun w' => show Calls Tryz.prog 59 #[.int .i64 (M.length : Int)] w' fun e w'' => e = .returned (.string (bs NM)) ∧ Below w'.heap.size w' w'' by rw [hNM]; exact jnum_any M.length w' (by omega))
        have i1 : (M.length : Int) ≤ 2000 := by omega
        have i2 : (S.length : Int) ≤ 10000 := by omega
        have i3 : (NM.length : Int) = 4 := by rw [hNM, num_length]; rfl
        rw [← hS]
        clear hM hS hNM hml hsl
        have d0 := hd.cell (k := 2) rfl
        have d1 := hd.cell (k := 3) rfl
        go_upto_region 8 with fail
        obtain ⟨T, hT⟩ : ∃ T, T = wr.heap.size := ⟨_, rfl⟩
        obtain ⟨U, hU⟩ : ∃ U, U = wr.alloc (.cells #[.int .u8 2, .pointer (some ⟨H, 2, none⟩)] 96) := ⟨_, rfl⟩
        have hbU : Below wr.heap.size wr U := by rw [hU]; exact b_alloc _ _
        have hu : Blk U T 96 [.int .u8 2, .pointer (some ⟨H, 2, none⟩)] := by rw [hT, hU]; exact Blk.new _ _ _
        have hhU := hhr.below hbU
        have u0 := hu.cell (k := 0) rfl
        have u1 := hu.cell (k := 1) rfl
        have v0 := hhU.cell (k := 2) rfl
        have v1 := hhU.cell (k := 3) rfl
        have hTl : T < U.heap.size := lt_of_cell u0
        have hHl : H < U.heap.size := lt_of_cell v0
        have HBU := Lib.hid hbU
        rw [← hU, ← hT]
        clear hd d0 d1 hU hT hbU hu hhU hhr
        go_wp2_with (first | (go_at_call 59; refine (HNM.out _).mono ?_; rintro e w8 ⟨rfl, hB8⟩; have HB8 := Lib.hid (bt HB7.out hB8); clear hB8) | (go_at_call 60; refine (HCP.out _ (bt HBW.out HBU.out)).mono ?_; rintro e w7 ⟨rfl, hB7⟩; have HB7 := Lib.hid (bt HBU.out hB7); clear hB7))
        go_roundw
        case rel => exact ⟨1 + 1, by omega, rfl, by rw [HNX.out], bt HBR.out HB8.out⟩
        case measure => decide
      · obtain ⟨M, hM⟩ : ∃ M, M = putC j.tt j.tc := ⟨_, rfl⟩
        obtain ⟨S, hS⟩ : ∃ S, S = psJ j 2 := ⟨_, rfl⟩
        obtain ⟨NM, hNM⟩ : ∃ NM, NM = num M.length 4 := ⟨_, rfl⟩
        have hml : M.length ≤ 2000 := by rw [hM]; exact HL3.out
        have hsl : S.length ≤ 10000 := by rw [hS]; have := HPL.out; show (headB j ++ progB j.mt j.mc ++ progB j.jt j.jc).length ≤ 10000; rw [List.length_append, List.length_append]; omega
        have HNX := Lib.hid (show psJ j (2 + 1) = S ++ (NM ++ M) by rw [hNM, hM, hS]; rfl)
        have HCP := Lib.hid (fun w' (hB : Below w.heap.size w w') => show Calls Tryz.prog 60 #[.agg #[.slice ta3 j.tt.length tc3, .slice ca3 j.tc.length cc3]] w' fun e w'' => e = .returned (.tuple #[.string (bs M), .int .i64 0]) ∧ Below w'.heap.size w' w'' by
          have h := HPT.out w' hB
          rw [HR3.out, ← hM] at h
          exact h)
        have HNM := Lib.hid (fun w' => show Calls Tryz.prog 59 #[.int .i64 (M.length : Int)] w' fun e w'' => e = .returned (.string (bs NM)) ∧ Below w'.heap.size w' w'' by rw [hNM]; exact jnum_any M.length w' (by omega))
        have i1 : (M.length : Int) ≤ 2000 := by omega
        have i2 : (S.length : Int) ≤ 10000 := by omega
        have i3 : (NM.length : Int) = 4 := by rw [hNM, num_length]; rfl
        rw [← hS]
        clear hM hS hNM hml hsl
        have d0 := hd.cell (k := 4) rfl
        have d1 := hd.cell (k := 5) rfl
        go_upto_region 8 with fail
        obtain ⟨T, hT⟩ : ∃ T, T = wr.heap.size := ⟨_, rfl⟩
        obtain ⟨U, hU⟩ : ∃ U, U = wr.alloc (.cells #[.int .u8 3, .pointer (some ⟨H, 4, none⟩)] 96) := ⟨_, rfl⟩
        have hbU : Below wr.heap.size wr U := by rw [hU]; exact b_alloc _ _
        have hu : Blk U T 96 [.int .u8 3, .pointer (some ⟨H, 4, none⟩)] := by rw [hT, hU]; exact Blk.new _ _ _
        have hhU := hhr.below hbU
        have u0 := hu.cell (k := 0) rfl
        have u1 := hu.cell (k := 1) rfl
        have v0 := hhU.cell (k := 4) rfl
        have v1 := hhU.cell (k := 5) rfl
        have hTl : T < U.heap.size := lt_of_cell u0
        have hHl : H < U.heap.size := lt_of_cell v0
        have HBU := Lib.hid hbU
        rw [← hU, ← hT]
        clear hd d0 d1 hU hT hbU hu hhU hhr
        go_wp2_with (first | (go_at_call 59; refine (HNM.out _).mono ?_; rintro e w8 ⟨rfl, hB8⟩; have HB8 := Lib.hid (bt HB7.out hB8); clear hB8) | (go_at_call 60; refine (HCP.out _ (bt HBW.out HBU.out)).mono ?_; rintro e w7 ⟨rfl, hB7⟩; have HB7 := Lib.hid (bt HBU.out hB7); clear hB7))
        go_roundw
        case rel => exact ⟨2 + 1, by omega, rfl, by rw [HNX.out], bt HBR.out HB8.out⟩
        case measure => decide
      · clear hd hhr
        go_wp2_with fail
        go_ret2
        rw [HRES.out]
        exact ⟨rfl, HBW.out⟩
  · have HRES := Lib.hid (show putRJ j = .tuple #[.string (bs []), .int .i64 2] from if_neg hm)
    have hno : mayJ j = false := by cases q : mayJ j with
      | false => rfl
      | true => exact absurd q hm
    rw [hno] at HMAY
    clear hm
    go_wp2_with (go_at_call 58; refine (HMAY.out _ HB1.out).mono ?_; rintro e w2 ⟨rfl, hB2⟩; have HB2 := Lib.hid (bt HB1.out hB2); clear hB2)
    go_ret2
    rw [HRES.out]
    exact ⟨rfl, HB2.out⟩
end Go.Proofs.YtndagciefnddmaaGreatDoor
namespace Go.Proofs.YtndagciefnddmaaGreatDoor
open Go.RowKit Oct
theorem get_no (l : List UInt8) (h : l.length < 1 ∨ 8 < l.length) : getS l = (0, 2) := by unfold getS; rw [if_neg (by omega)]
theorem get_ok (l : List UInt8) (h : 1 ≤ l.length) (h' : l.length ≤ 8) : getS l = ((val l : Int), 0) := by unfold getS; rw [if_pos (by omega)]
theorem len_data (s : ByteArray) : s.data.toList.length = s.size := by simp
set_option maxRecDepth 100000 in
set_option maxHeartbeats 400000 in
theorem Get01_any (s : ByteArray) (w : World) (hs : s.size ≤ maxLen) :
    Calls Tryz.prog 61 #[.string s] w fun e w' => e = .returned (.tuple #[.int .u64 (getS s.data.toList).1, .int .i64 (getS s.data.toList).2]) ∧ w = w' := by
  unfold maxLen at hs
  have hl := len_data s
  by_cases h1 : s.size < 1 ∨ 8 < s.size
  · rw [get_no s.data.toList (by omega)]
    clear hl
    rcases h1 with h1 | h1
    all_goals
      go_enter Tryz.func61, Tryz.ntmps61
      go_wp2
      go_ret2
      exact ⟨rfl, rfl⟩
  · rw [get_ok s.data.toList (by omega) (by omega)]
    go_enter Tryz.func61, Tryz.ntmps61
    go_wp2
    go_loop [2, 15] (fun v i => ∃ k x : Nat, k ≤ s.size ∧ i = .int .i64 k ∧ v = .int .u64 x ∧ x < 256 ^ k ∧ Hid (x = val (s.data.toList.take k))) (fun _ i => s.size - (intOf i).toNat)
    case atStart => exact ⟨0, 0, by omega, rfl, rfl, by decide, rfl⟩
    case round =>
      obtain ⟨k, x, hk, rfl, rfl, hx, hH⟩ := hrel
      by_cases h0 : k < s.size
      · have hp : 256 ^ k ≤ 256 ^ 7 := Nat.pow_le_pow_right (by decide) (by omega)
        have hp0 : 0 < 256 ^ k := Nat.pow_pos (by decide)
        have hc := s[k].toNat_lt
        have hp8 : (2 : Nat) ^ (8 * k) = 256 ^ k := by rw [Nat.pow_mul]
        have hmul : s[k].toNat * 256 ^ k ≤ 255 * 256 ^ k := Nat.mul_le_mul_right _ (by omega)
        have E := or_hi x s[k].toNat (8 * k) (by omega) (by rw [hp8]; exact hx) (by rw [hp8]; omega)
        have V := val_take s.data.toList k (by omega)
        have e : (s.data.toList[k]'(by omega)) = s[k] := by simp; rfl
        rw [e] at V
        rw [hp8] at E
        have E := Lib.hid E
        have V := Lib.hid V
        have hx2 : Hid (x + s[k].toNat * 256 ^ k < 256 ^ (k + 1)) := by show _ < _; rw [Nat.pow_succ]; omega
        clear hp hp0 hp8 hmul hc
        rename_i E1 V1; clear E1 V1
        go_wp2
        go_round
        case rel => exact ⟨k + 1, x + s[k].toNat * 256 ^ k, by omega, by go_num, v_int E.out, hx2.out, by show _ = _; rw [V.out, hH.out]⟩
        case measure => simp [intOf]; omega
      · obtain rfl : k = s.size := by omega
        go_wp2
        go_ret2
        have hh : x = val s.data.toList := by rw [hH.out, List.take_of_length_le (by omega)]
        subst hh
        exact ⟨rfl, rfl⟩
end Go.Proofs.YtndagciefnddmaaGreatDoor
namespace Go.Proofs.YtndagciefnddmaaGreatDoor
open Go.RowKit Oct
attribute [local irreducible] wpG
def endV : Value := .iface 142 (.agg #[])
def endP : List PanicEntry := [{ v := endV, recovered := false }]
set_option maxRecDepth 100000 in
theorem take_ok (R : Nat) (s : List UInt8) (n : Nat) (w : World) (h : Blk w R 146 [.string (bs s)]) (hn : n ≤ s.length) (hs : s.length ≤ 100000) :
    Calls Tryz.prog 82 #[.pointer (some ⟨R, 0, none⟩), .int .i64 (n : Int)] w fun e w' => e = .returned (.string (bs (s.take n))) ∧ Blk w' R 146 [.string (bs (s.drop n))] ∧ Chg (fun x => x = R) w w' := by
  have c0 := h.cell (k := 0) rfl
  have f0 := h.free (k := 0) (by simp)
  have t1 : ¬ (s.length : Int) < (n : Int) := by omega
  have t2 : (n : Int) ≤ (s.length : Int) := by omega
  have t3 : (0 : Int) ≤ (n : Int) := by omega
  have t4 : (s.length : Int) ≤ 100000 := by omega
  have H := Lib.hid h
  clear h
  go_enter Tryz.func82, Tryz.ntmps82
  go_wp2
  go_ret
  exact ⟨rfl, H.out.set 0 _, Chg.set1R⟩
set_option maxRecDepth 100000 in
theorem take_bad (R : Nat) (s : List UInt8) (n : Nat) (w : World) (h : Blk w R 146 [.string (bs s)]) (hn : s.length < n) (hs : n ≤ 100000) :
    Calls Tryz.prog 82 #[.pointer (some ⟨R, 0, none⟩), .int .i64 (n : Int)] w fun e w' => e = .panicked endP ∧ w' = w := by
  have c0 := h.cell (k := 0) rfl
  have f0 := h.free (k := 0) (by simp)
  have t1 : (s.length : Int) < (n : Int) := by omega
  have t4 : (n : Int) ≤ 100000 := by omega
  clear h
  go_enter Tryz.func82, Tryz.ntmps82
  go_wp2
  exact ⟨rfl, rfl, rfl⟩
set_option maxRecDepth 100000 in
theorem num_ok (R : Nat) (c : UInt8) (s : List UInt8) (w : World) (h : Blk w R 146 [.string (bs (c :: s))]) (hs : s.length ≤ 90000) :
    Calls Tryz.prog 81 #[.pointer (some ⟨R, 0, none⟩)] w fun e w' => e = .returned (.int .i64 (c.toNat : Int)) ∧ Blk w' R 146 [.string (bs s)] ∧ Chg (fun x => x = R) w w' := by
  have HT := Lib.hid (take_ok R (c :: s) 1 w h (by simp) (by simp; omega))
  have cw : IntKind.i64.wrap (c.toNat : Int) = (c.toNat : Int) := by have := c.toNat_lt; simp [IntKind.wrap, IntKind.bits, IntKind.signed]; omega
  clear h
  go_enter Tryz.func81, Tryz.ntmps81
  go_wp2_with fail
  refine HT.out.mono ?_
  rintro e w2 ⟨rfl, hb, hc⟩
  have HB := Lib.hid hb
  have HC := Lib.hid hc
  clear hb hc
  go_wp2_with fail
  go_ret
  exact ⟨rfl, HB.out, HC.out⟩
set_option maxRecDepth 100000 in
theorem num_bad (R : Nat) (w : World) (h : Blk w R 146 [.string (bs [])]) :
    Calls Tryz.prog 81 #[.pointer (some ⟨R, 0, none⟩)] w fun e w' => e = .panicked endP ∧ w' = w := by
  have HT := Lib.hid (take_bad R [] 1 w h (by simp) (by omega))
  clear h
  go_enter Tryz.func81, Tryz.ntmps81
  go_wp2_with fail
  refine HT.out.mono ?_
  rintro e w2 ⟨rfl, rfl⟩
  go_wp2_with fail
  exact ⟨rfl, rfl, rfl⟩
set_option maxRecDepth 100000 in
theorem catch_end (P E : Nat) (w : World) (v0 v1 x : Value) (hP : Blk w P 25 [v0, v1]) (hE : Blk w E 33 [x]) (hne : P ≠ E) :
    CallsD Tryz.prog 80 #[.pointer (some ⟨P, 0, none⟩), .pointer (some ⟨E, 0, none⟩)] (.panicking endP) w fun e u' w' =>
      e = .returned (.tuple #[]) ∧ u' = .panicking [{ v := endV, recovered := true }] ∧ Blk w' P 25 [.slice none 0 0, .slice none 0 0] ∧ Blk w' E 33 [.int .i64 7] ∧ Chg (fun j => j = P ∨ j = E) w w' := by
  unfold endP endV
  have c0 := hP.cell (k := 0) rfl
  have c1 := hP.cell (k := 1) rfl
  have c2 := hE.cell (k := 0) rfl
  have f0 := hP.free (k := 0) (by simp)
  have f1 := hP.free (k := 1) (by simp)
  have f2 := hE.free (k := 0) (by simp)
  have lP : P < w.heap.size := hP.lt
  have lE : E < w.heap.size := hE.lt
  have hne2 : E ≠ P := fun e => hne e.symm
  have HP := Lib.hid hP
  have HE := Lib.hid hE
  refine callsD_of_wpS Tryz.func80 rfl fun c₀ cs hu => ?_
  apply wpS_seq
  apply wpS_region
  simp [wpOpsS, go_sem, recoverD, hu, Tryz.ntmps80, Exit.thenS]
  have ht : (#[Value.pointer (some ⟨P, 0, none⟩), Value.pointer (some ⟨E, 0, none⟩)] ++ ((Array.replicate 15 undef).setIfInBounds 3 (Value.iface 142 (.agg #[]))).setIfInBounds 0 (Value.iface 142 (.agg #[]))) =
      #[.pointer (some ⟨P, 0, none⟩), .pointer (some ⟨E, 0, none⟩), .iface 142 (.agg #[]), undef, undef, .iface 142 (.agg #[]), undef, undef, undef, undef, undef, undef, undef, undef, undef, undef, undef] := by kernel_rfl
  rw [ht]
  clear ht
  have hta : ∀ w, (Instr.typeAssert (.iface 142 (.agg #[])) 20 142 true).run Tryz.prog w = .ok (.tuple #[.agg #[], .bool true]) w := by intro w; kernel_rfl
  refine wpS_of_wp ?_
  go_wp2
  have k1 := (HP.out.set 0 (.slice none 0 0)).set 1 (.slice none 0 0)
  have g1 : Chg (fun j => j = P ∨ j = E) w ((w.setCell ⟨P, 0, none⟩ (.slice none 0 0)).setCell ⟨P, 1, none⟩ (.slice none 0 0)) := (Chg.setCell _ _ _ (.inl rfl)).trans (Chg.setCell _ _ _ (.inl rfl))
  have k2 := HE.out.chg (X := fun j => j = P) ((Chg.set1R (w := w) (b := P) (k := 0) (v := .slice none 0 0)).trans (Chg.set1R (k := 1) (v := .slice none 0 0))) hne2
  have k3 := k2.set 0 (.int .i64 7)
  have k4 := k1.chg (X := fun j => j = E) (Chg.set1R (b := E) (k := 0) (v := .int .i64 7)) hne
  have g2 := g1.trans (Chg.setCell (X := fun j => j = P ∨ j = E) _ ⟨E, 0, none⟩ (.int .i64 7) (.inr rfl))
  exact ⟨rfl, _, rfl, _, results_none rfl _ _ _, rfl, rfl, k4.below (b_alloc _ _), k3.below (b_alloc _ _), g2.trans (Chg.alloc _ _ _)⟩
set_option maxRecDepth 100000 in
theorem idle_end (P E : Nat) (w : World) :
    CallsD Tryz.prog 80 #[.pointer (some ⟨P, 0, none⟩), .pointer (some ⟨E, 0, none⟩)] .returning w fun e u' w' => e = .returned (.tuple #[]) ∧ u' = .returning ∧ w' = w := by
  refine callsD_of_wpS Tryz.func80 rfl fun c₀ cs hu => ?_
  apply wpS_seq
  apply wpS_region
  simp [wpOpsS, go_sem, recoverD, hu, Tryz.ntmps80, Exit.thenS]
  have ht : (#[Value.pointer (some ⟨P, 0, none⟩), Value.pointer (some ⟨E, 0, none⟩)] ++ ((Array.replicate 15 undef).setIfInBounds 3 Value.nilIface).setIfInBounds 0 Value.nilIface) =
      #[.pointer (some ⟨P, 0, none⟩), .pointer (some ⟨E, 0, none⟩), .nilIface, undef, undef, .nilIface, undef, undef, undef, undef, undef, undef, undef, undef, undef, undef, undef] := by kernel_rfl
  rw [ht]
  clear ht
  refine wpS_of_wp ?_
  go_wp2
  exact ⟨rfl, _, by cases c₀; simp_all, _, results_none rfl _ _ _, rfl, rfl, rfl⟩
end Go.Proofs.YtndagciefnddmaaGreatDoor
namespace Go.Proofs.YtndagciefnddmaaGreatDoor
open Go.RowKit Oct
attribute [local irreducible] wpG
def GetR (w w' : World) (s : List UInt8) (e : Ending) : Prop :=
  match getC s with
  | some (t, c) => ∃ tv cv, e = .returned (.tuple #[.agg #[tv, cv], .int .i64 0]) ∧ recS.Own w' w.heap.size tv t ∧ recIns.Own w' w.heap.size cv c
  | none => e = .returned (.tuple #[.agg #[.slice none 0 0, .slice none 0 0], .int .i64 7])
theorem results_cell_cellC {P : Program} {fn : Func} {p q : Tmp} {ty tq : TypeId} {tmps : Array Value} {w : World} {v u : Value} {b c : Nat} (hr : fn.results = #[.cell p ty, .cell q tq]) (hp : tmps.getD p undef = .pointer (some ⟨b, 0, none⟩))
    (hq : tmps.getD q undef = .pointer (some ⟨c, 0, none⟩)) (hl : (loadVar ty ⟨b, 0, none⟩).run P w = .ok v w) (hl2 : (loadVar tq ⟨c, 0, none⟩).run P w = .ok u w) : (results fn tmps).run P w = .ok (.tuple #[v, u]) w := by
  simp only [Array.getD_eq_getD_getElem?] at hp hq ⊢
  simp [results, hr, Sem.run_bind, Result.andThen, hp, hq, asAddr, hl, hl2]
theorem load_err {w : World} {b : Nat} {v0 : Value} (h0 : w.cell? ⟨b, 0, none⟩ = some v0) : (loadVar 33 ⟨b, 0, none⟩).run Tryz.prog w = .ok v0 w := by
  go_simp
theorem get_caught {w w4 : World} {P E : Nat} {tmps : Array Value} {v0 v1 x : Value} {s : List UInt8} (hg : getC s = none) (hP : Blk w4 P 25 [v0, v1]) (hE : Blk w4 E 33 [x]) (hne : P ≠ E) (hPw : w.heap.size ≤ P) (hEw : w.heap.size ≤ E)
    (hB : Below w.heap.size w w4) (h2 : tmps.getD 2 undef = .pointer (some ⟨P, 0, none⟩)) (h3 : tmps.getD 3 undef = .pointer (some ⟨E, 0, none⟩)) :
    Leaves Tryz.prog Tryz.f63 tmps (fun e w' => GetR w w' s e ∧ Below w.heap.size w w') [{ target := Target.fn (Fn.func 80) #[.pointer (some ⟨P, 0, none⟩), .pointer (some ⟨E, 0, none⟩)], args := #[] }] (.panicking endP) w4 := by
  refine leaves_cons (f := 80) (args := #[.pointer (some ⟨P, 0, none⟩), .pointer (some ⟨E, 0, none⟩)]) (by simp) (by simp [go_sem]) ?_
  refine (catch_end P E w4 _ _ _ hP hE hne).mono ?_
  rintro e u' w5 ⟨rfl, rfl, hp5, he5, hc5⟩
  refine ⟨_, results_cell_cellC rfl h2 h3 (load_prog (hp5.cell (k := 0) rfl) (hp5.cell (k := 1) rfl)) (load_err (he5.cell (k := 0) rfl)), ?_, hB.trans (hc5.below (fun j hj => by rcases hj with rfl | rfl <;> assumption) hB.size)⟩
  unfold GetR
  rw [hg]
theorem get_done {w w4 : World} {P E : Nat} {tmps : Array Value} {v0 v1 x : Value} {s : List UInt8} (hP : Blk w4 P 25 [v0, v1]) (hE : Blk w4 E 33 [x])
    (hB : Below w.heap.size w w4) (h2 : tmps.getD 2 undef = .pointer (some ⟨P, 0, none⟩)) (h3 : tmps.getD 3 undef = .pointer (some ⟨E, 0, none⟩)) (hR : GetR w w4 s (.returned (.tuple #[.agg #[v0, v1], x]))) :
    Leaves Tryz.prog Tryz.f63 tmps (fun e w' => GetR w w' s e ∧ Below w.heap.size w w') [{ target := Target.fn (Fn.func 80) #[.pointer (some ⟨P, 0, none⟩), .pointer (some ⟨E, 0, none⟩)], args := #[] }] .returning w4 := by
  refine leaves_cons (f := 80) (args := #[.pointer (some ⟨P, 0, none⟩), .pointer (some ⟨E, 0, none⟩)]) (by simp) (by simp [go_sem]) ?_
  refine (idle_end P E w4).mono ?_
  rintro e u' w5 ⟨rfl, rfl, rfl⟩
  exact ⟨_, results_cell_cellC rfl h2 h3 (load_prog (hP.cell (k := 0) rfl) (hP.cell (k := 1) rfl)) (load_err (hE.cell (k := 0) rfl)), hR, hB⟩
theorem step_call {P : Program} {ops : Array Oper} {o : Oper} {a : Act} {w : World} {K : Act → World → Prop} {Q : Exit → Act → World → Prop} {E : Prop} {R : Ending → World → Prop} (hg : o.guard = none) (f : FuncId) (vals : Array Value)
    (hrun : (execOp a.eval o).run P w = .ok (.enter f vals) w) (hc : Calls P f vals w R)
    (h : ∀ e w', R e w' → match e with | .returned v => K (a.put o.dst v) w' | .panicked ch => Q (.panic ch) a w' | .outgrown => LetsOut Q) : if Region.wanted o (yielded ops a.tmps) = true then Oper.wp P o a w K Q else E := by
  have hw : Region.wanted o (yielded ops a.tmps) = true := by simp [Region.wanted, hg]
  rw [if_pos hw]
  unfold Oper.wp
  rw [hrun]
  refine Calls.mono hc ?_
  intro e w' hR
  have := h e w' hR
  cases e <;> exact this
def goneC (r : List UInt8) (k : Nat) (acc : List (List UInt8)) : Option (List (List UInt8) × List UInt8) := (takeT k r).map fun p => (acc ++ p.1, p.2)
theorem goneC_zero (r : List UInt8) (acc : List (List UInt8)) : goneC r 0 acc = some (acc, r) := by unfold goneC; rw [takeT]; simp
theorem goneC_nil (k : Nat) (acc : List (List UInt8)) : goneC [] (k + 1) acc = none := rfl
theorem goneC_bad {c : UInt8} {r : List UInt8} {k : Nat} {acc : List (List UInt8)} (h : ¬ c.toNat ≤ r.length) : goneC (c :: r) (k + 1) acc = none := by unfold goneC; rw [takeT, if_neg h]; rfl
theorem goneC_ok {c : UInt8} {r : List UInt8} {k : Nat} {acc : List (List UInt8)} (h : c.toNat ≤ r.length) : goneC (c :: r) (k + 1) acc = goneC (r.drop c.toNat) k (acc ++ [r.take c.toNat]) := by
  unfold goneC
  rw [takeT, if_pos h]
  cases takeT k (r.drop c.toNat) with
  | none => rfl
  | some p => simp
theorem getC_bad {n : UInt8} {s : List UInt8} (h : takeT n.toNat s = none) : getC (n :: s) = none := by
  unfold getC; rw [parseC, h]
theorem getC_short {n : UInt8} {s r : List UInt8} {t : List (List UInt8)} (h : takeT n.toNat s = some (t, r)) (hr : r.length < 2) : getC (n :: s) = none := by
  unfold getC; rw [parseC, h]
  match r, hr with
  | [], _ => rfl
  | [a], _ => rfl
set_option maxRecDepth 100000 in
set_option maxHeartbeats 16000000 in
theorem Get_nil (w : World) :
    Calls Tryz.prog 63 #[.string (bs [])] w fun e w' => GetR w w' [] e ∧ Below w.heap.size w w' := by
  have hmf : ∀ (fn : Fn) (first cap : Array Value) (w : World), (Instr.makeFunc fn first cap).run Tryz.prog w = .ok (.func fn first cap) w := fun _ _ _ _ => rfl
  obtain ⟨W3, hW3⟩ : ∃ W3, W3 = ((w.alloc (.cells #[.slice none 0 0, .slice none 0 0] 25)).alloc (.cells #[.int .i64 0] 33)).alloc (.cells #[.string (bs [])] 146) := ⟨_, rfl⟩
  have hp : Blk W3 w.heap.size 25 [.slice none 0 0, .slice none 0 0] := by rw [hW3]; exact ((Blk.new w _ _).below (b_alloc _ _)).below (b_alloc _ _)
  have he : Blk W3 (w.heap.size + 1) 33 [.int .i64 0] := by
    rw [hW3]
    have := (Blk.new (w.alloc (.cells #[.slice none 0 0, .slice none 0 0] 25)) [.int .i64 0] 33)
    rw [size_alV] at this
    exact this.below (b_alloc _ _)
  have hr : Blk W3 (w.heap.size + 2) 146 [.string (bs [])] := by
    rw [hW3]
    have := Blk.new ((w.alloc (.cells #[.slice none 0 0, .slice none 0 0] 25)).alloc (.cells #[.int .i64 0] 33)) [.string (bs [])] 146
    rw [size_alV, size_alV] at this
    exact this
  have hb3 : Below w.heap.size w W3 := by rw [hW3]; exact bt (b_alloc _ _) (bt (b_alloc _ _) (b_alloc _ _))
  have HP := Lib.hid hp
  have HE := Lib.hid he
  have HR := Lib.hid hr
  have HB3 := Lib.hid hb3
  clear hp he hr hb3
  have HG := Lib.hid (show getC [] = none from rfl)
  have HN := Lib.hid (num_bad _ W3 HR.out)
  go_enter_defers Tryz.func63, Tryz.ntmps63
  go_upto_region 3 with fail
  rw [← hW3]
  clear hW3
  go_wp2_with fail
  refine HN.out.mono ?_
  rintro e w4 ⟨rfl, rfl⟩
  go_wp2_with fail
  exact get_caught HG.out HP.out HE.out (by omega) (Nat.le_refl _) (by omega) HB3.out rfl rfl
end Go.Proofs.YtndagciefnddmaaGreatDoor
