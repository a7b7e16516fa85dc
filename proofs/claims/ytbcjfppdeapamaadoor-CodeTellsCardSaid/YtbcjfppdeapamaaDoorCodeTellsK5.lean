/- Lemmas for CodeTells, part 5: walks of the functions that it reaches, and the plain laws behind them. -/
import Derived.Test.YtbcjfppdeapamaaDoorShelf
import Derived.Lib.QuietBelow
import Derived.Lib.ConvBytes
import Derived.Laws.AppendOwn
import Derived.Test.YtbcjfppdeapamaaDoorCodeTellsK4
set_option linter.unusedSimpArgs false
set_option linter.unusedVariables false
namespace Go.Proofs.YtbcjfppdeapamaaDoor
open Go.RowKit Oct
attribute [local irreducible] wpG
theorem list_same {α : Type} {a b : List α} (hl : a.length = b.length) (h : ∀ k (h : k < a.length) (h' : k < b.length), k < a.length → a[k] = b[k]) : a = b :=
  List.ext_getElem hl fun k h1 h2 => h k h1 h2 h1
theorem list_unlike {α : Type} {a b : List α} (k : Nat) (h1 : k < a.length) (h2 : k < b.length) (h : a[k] ≠ b[k]) : a ≠ b := by
  rintro rfl
  exact h rfl
theorem int_bne {a b : Nat} (h : a ≠ b) : ((a : Int) != (b : Int)) = true := by rw [bne_iff_ne]; omega
theorem int_bne' {a b : Nat} (h : a = b) : ((a : Int) != (b : Int)) = false := by subst h; simp
theorem int_beq {a b : Nat} (h : a ≠ b) : ((a : Int) == (b : Int)) = false := by rw [beq_eq_false_iff_ne]; omega
theorem int_beq' {a b : Nat} (h : a = b) : ((a : Int) == (b : Int)) = true := by subst h; simp
set_option maxRecDepth 100000 in
set_option maxHeartbeats 16000000 in
theorem rSameP_any (ta ca tb cb : Value) (t1 t2 : List (List UInt8)) (c1 c2 : List VI) (w : World) (ht : recS.Row w ta t1) (hc : recIns.Row w ca c1) (ht' : recS.Row w tb t2) (hc' : recIns.Row w cb c2) (hlt : t1.length ≤ 140737488355328) (hlc : c1.length ≤ 140737488355328) :
    Calls Tryd.prog 14 #[.agg #[ta, ca], .agg #[tb, cb]] w fun e w' => e = .returned (.bool (decide (t1 = t2 ∧ c1 = c2))) ∧ Below w.heap.size w w' := by
  obtain ⟨a1, n1, rfl, -, h1⟩ := recS_open ht
  obtain ⟨a2, n2, rfl, -, h2⟩ := recIns_open hc
  obtain ⟨a3, n3, rfl, -, h3⟩ := recS_open ht'
  obtain ⟨a4, n4, rfl, -, h4⟩ := recIns_open hc'
  have G1 := Lib.hid h1
  have G2 := Lib.hid h2
  have G3 := Lib.hid h3
  have G4 := Lib.hid h4
  obtain ⟨W1, hW1⟩ : ∃ W1, W1 = (w.alloc (.cells #[.slice a1 t1.length n1, .slice a2 c1.length n2] 25)).alloc (.cells #[.slice a3 t2.length n3, .slice a4 c2.length n4] 25) := ⟨_, rfl⟩
  have hb1 : Below w.heap.size w W1 := by rw [hW1]; exact bt (b_alloc _ _) (b_alloc _ _)
  have hx : Blk W1 w.heap.size 25 [.slice a1 t1.length n1, .slice a2 c1.length n2] := by rw [hW1]; exact (Blk.new w _ _).below (b_alloc _ _)
  have hy : Blk W1 (w.heap.size + 1) 25 [.slice a3 t2.length n3, .slice a4 c2.length n4] := by
    rw [hW1]
    have := Blk.new (w.alloc (.cells #[.slice a1 t1.length n1, .slice a2 c1.length n2] 25)) [.slice a3 t2.length n3, .slice a4 c2.length n4] 25
    rw [size_alV] at this
    exact this
  have x0 := hx.cell (k := 0) rfl
  have x1 := hx.cell (k := 1) rfl
  have y0 := hy.cell (k := 0) rfl
  have y1 := hy.cell (k := 1) rfl
  have HB1 := Lib.hid hb1
  have HX := Lib.hid hx
  have HY := Lib.hid hy
  have lt1 : (t1.length : Int) ≤ 140737488355328 := by omega
  have lc1 : (c1.length : Int) ≤ 140737488355328 := by omega
  obtain ⟨sv, hsv⟩ : ∃ sv, sv = decide (t1 = t2 ∧ c1 = c2) := ⟨_, rfl⟩
  have HSV := Lib.hid hsv
  rw [← hsv]
  clear ht hc ht' hc' h1 h2 h3 h4 hb1 hx hy hsv
  by_cases hl1 : t1.length = t2.length
  · have q1 := int_bne' hl1
    by_cases hl2 : c1.length = c2.length
    · have q2 := int_bne' hl2
      have HL1 := Lib.hid hl1
      have HL2 := Lib.hid hl2
      clear hl1 hl2
      go_enter Tryd.func14, Tryd.ntmps14
      go_upto_region 1 with fail
      rw [← hW1]
      clear hW1
      go_wp2_with fail
      clear x0 x1 y0 y1
      go_loopw [5] (fun v wr => ∃ i : Nat, v = .int .i64 (i : Int) ∧ i ≤ t1.length ∧ Hid (∀ k (h : k < t1.length) (h' : k < t2.length), k < i → t1[k] = t2[k]) ∧ Hid (Below W1.heap.size W1 wr)) (fun v _ => t1.length - (intOf v).toNat)
      case atStart => exact ⟨0, rfl, Nat.zero_le _, fun k _ _ h => absurd h (by omega), Below.refl _ _⟩
      case round =>
        obtain ⟨i, rfl, hi, HI, HBr⟩ := hrel
        have x0 := (HX.out.below HBr.out).cell (k := 0) rfl
        have y0 := (HY.out.below HBr.out).cell (k := 0) rfl
        have x1 := (HX.out.below HBr.out).cell (k := 1) rfl
        have y1 := (HY.out.below HBr.out).cell (k := 1) rfl
        by_cases h0 : i < t1.length
        · have h0' : i < t2.length := by have := HL1.out; omega
          obtain ⟨b, off, rfl, d0⟩ := G1.out i h0
          obtain ⟨b', off', rfl, d1⟩ := G3.out i h0'
          have d0 := Below.keeps (bt HB1.out HBr.out) d0
          have d1 := Below.keeps (bt HB1.out HBr.out) d1
          have ii0 : (0 : Int) ≤ (i : Int) := by omega
          have ii1 : (i : Int) < (t1.length : Int) := by omega
          have ii2 : (i : Int) < (t2.length : Int) := by omega
          by_cases he : t1[i] = t2[i]
          · have p1 : (t1[i] != t2[i]) = false := by simpa using he
            have p2 : (t1[i] == t2[i]) = true := by simpa using he
            have HN := Lib.hid (show ∀ k (h : k < t1.length) (h' : k < t2.length), k < i + 1 → t1[k] = t2[k] from fun k h h' hk => by
              by_cases e : k = i
              · subst e; exact he
              · exact HI.out k h h' (by omega))
            clear he
            go_upto_region 6 with fail
            go_quiet (fail)
            go_wp2_with fail
            go_roundw
            case rel => exact ⟨i + 1, by go_num, by omega, HN.out, bt HBr.out (Below.drewN' _ _)⟩
            case measure => simp [intOf]; omega
          · have p1 : (t1[i] != t2[i]) = true := by simpa using he
            have p2 : (t1[i] == t2[i]) = false := by simpa using he
            have HV := Lib.hid (show sv = false from HSV.out.trans <| decide_eq_false (fun e => list_unlike i h0 h0' he e.1))
            clear he
            go_upto_region 6 with fail
            go_quiet (fail)
            go_wp2_with fail
            go_ret
            exact ⟨by rw [HV.out]; rfl, bt HB1.out (bt HBr.out (Below.drewN' _ _))⟩
        · obtain rfl : i = t1.length := by omega
          have e0 : ¬ (t1.length : Int) < (t1.length : Int) := by omega
          have HE := Lib.hid (list_same HL1.out HI.out)
          clear h0 HI
          go_wp2_with fail
          clear x0 x1 y0 y1
          obtain ⟨W2, hW2⟩ : ∃ W, W = wr := ⟨_, rfl⟩
          subst hW2
          have HB2 := Lib.hid HBr.out
          clear HBr
          go_loopw [6] (fun v wr => ∃ i : Nat, v = .int .i64 (i : Int) ∧ i ≤ c1.length ∧ Hid (∀ k (h : k < c1.length) (h' : k < c2.length), k < i → c1[k] = c2[k]) ∧ Hid (Below W2.heap.size W2 wr)) (fun v _ => c1.length - (intOf v).toNat)
          case atStart => exact ⟨0, rfl, Nat.zero_le _, fun k _ _ h => absurd h (by omega), Below.refl _ _⟩
          case round =>
            obtain ⟨i, rfl, hi, HI, HBr⟩ := hrel
            have hbw := bt HB2.out HBr.out
            have x1 := (HX.out.below hbw).cell (k := 1) rfl
            have y1 := (HY.out.below hbw).cell (k := 1) rfl
            have HBW := Lib.hid hbw
            clear hbw
            by_cases h0 : i < c1.length
            · have h0' : i < c2.length := by have := HL2.out; omega
              obtain ⟨b, off, rfl, d0, d1⟩ := G2.out i h0
              obtain ⟨b', off', rfl, d2, d3⟩ := G4.out i h0'
              have d0 := Below.keeps (bt HB1.out HBW.out) d0
              have d1 := Below.keeps (bt HB1.out HBW.out) d1
              have d2 := Below.keeps (bt HB1.out HBW.out) d2
              have d3 := Below.keeps (bt HB1.out HBW.out) d3
              have ii0 : (0 : Int) ≤ (i : Int) := by omega
              have ii1 : (i : Int) < (c1.length : Int) := by omega
              have ii2 : (i : Int) < (c2.length : Int) := by omega
              by_cases e1 : c1[i].1.toNat = c2[i].1.toNat
              · have q1 := int_beq' e1
                by_cases e2 : c1[i].2.toNat = c2[i].2.toNat
                · have q2 := int_beq' e2
                  have HN := Lib.hid (show ∀ k (h : k < c1.length) (h' : k < c2.length), k < i + 1 → c1[k] = c2[k] from fun k h h' hk => by
                    by_cases e : k = i
                    · subst e; exact Prod.ext (UInt8.toNat_inj.1 e1) (UInt8.toNat_inj.1 e2)
                    · exact HI.out k h h' (by omega))
                  clear e1 e2
                  go_upto_region 11 with fail
                  go_quiet (fail)
                  go_wp2_with fail
                  go_roundw
                  case rel => exact ⟨i + 1, by go_num, by omega, HN.out, bt HBr.out (Below.drewN' _ _)⟩
                  case measure => simp [intOf]; omega
                · have q2 := int_beq e2
                  have HV := Lib.hid (show sv = false from HSV.out.trans <| decide_eq_false (fun e => list_unlike i h0 h0' (fun e3 => e2 (by rw [e3])) e.2))
                  clear e1 e2
                  go_upto_region 11 with fail
                  go_quiet (fail)
                  go_wp2_with fail
                  go_ret
                  exact ⟨by rw [HV.out]; rfl, bt HB1.out (bt HBW.out (Below.drewN' _ _))⟩
              · have q1 := int_beq e1
                have HV := Lib.hid (show sv = false from HSV.out.trans <| decide_eq_false (fun e => list_unlike i h0 h0' (fun e3 => e1 (by rw [e3])) e.2))
                clear e1
                go_upto_region 11 with fail
                go_quiet (fail)
                go_wp2_with fail
                go_ret
                exact ⟨by rw [HV.out]; rfl, bt HB1.out (bt HBW.out (Below.drewN' _ _))⟩
            · obtain rfl : i = c1.length := by omega
              have e0 : ¬ (c1.length : Int) < (c1.length : Int) := by omega
              have HV := Lib.hid (show sv = true from HSV.out.trans <| decide_eq_true ⟨HE.out, list_same HL2.out HI.out⟩)
              clear h0
              go_wp2_with fail
              go_ret
              exact ⟨by rw [HV.out]; rfl, bt HB1.out HBW.out⟩
    · have q2 := int_bne hl2
      have HV := Lib.hid (show sv = false from HSV.out.trans <| decide_eq_false (fun e => hl2 (by rw [e.2])))
      clear hl2 hl1
      go_enter Tryd.func14, Tryd.ntmps14
      go_upto_region 1 with fail
      rw [← hW1]
      clear hW1
      go_wp2_with fail
      go_ret
      exact ⟨by rw [HV.out]; rfl, HB1.out⟩
  · have q1 := int_bne hl1
    have HV := Lib.hid (show sv = false from HSV.out.trans <| decide_eq_false (fun e => hl1 (by rw [e.1])))
    clear hl1
    go_enter Tryd.func14, Tryd.ntmps14
    go_upto_region 1 with fail
    rw [← hW1]
    clear hW1
    go_wp2_with fail
    go_ret
    exact ⟨by rw [HV.out]; rfl, HB1.out⟩
end Go.Proofs.YtbcjfppdeapamaaDoor
namespace Go.Proofs.YtbcjfppdeapamaaDoor
open Go.RowKit Oct
attribute [local irreducible] wpG
/-- the ops' names -/
def namesC : List (List UInt8) :=
  [[], [116, 101, 120, 116], [110, 117, 109], [105, 110], [99, 97, 116], [108, 101, 110], [112, 97, 114, 116], [112, 97, 114, 115, 101], [115, 104, 111, 119], [97, 100, 100], [109, 117, 108], [108, 101, 115, 115], [115, 97, 109, 101], [110, 111, 116],
   [100, 114, 111, 112], [100, 117, 112], [115, 119, 97, 112], [103, 101, 116], [115, 101, 116], [105, 102], [101, 108, 115, 101], [101, 110, 100], [101, 97, 99, 104], [101, 109, 105, 116]]
def nameC (op : UInt8) : List UInt8 := namesC.getD op.toNat []
def digC (a : UInt8) : List UInt8 := Lib.itoa (a.toNat : Int)
/-- an instruction's line -/
def lineC (x : VI) : List UInt8 := if hasArg x.1 = true then nameC x.1 ++ [32] ++ digC x.2 else nameC x.1
/-- what the package's variables hold -/
structure GlobC (w : World) : Prop where
  names : ∀ k, k < 24 → w.cell? ⟨0, k, none⟩ = some (.string (bs (namesC.getD k [])))
  tab : Lib.TabIs Tryd.prog w "internal/strconv.uint64pow10" .u64 Lib.pow10Tab
  syn : ∃ te pe, w.cell? ⟨2, 0, none⟩ = some (.iface te pe)
  rng : ∃ te pe, w.cell? ⟨3, 0, none⟩ = some (.iface te pe)
  mx : ∃ m, w.cell? ⟨1, 0, none⟩ = some (.int .i64 m)
theorem var_below {P : Program} {w w' : World} {name : String} {cs : Array Value} (h : w.var? P name = some cs) (hB : Below w.heap.size w w') : w'.var? P name = some cs := by
  unfold World.var? at h ⊢
  generalize P.globalNamed name = og at h ⊢
  cases og with
  | none => cases h
  | some g =>
    simp only [Option.bind_some] at h ⊢
    cases hh : w.heap[g]? with
    | none => rw [hh] at h; cases h
    | some o => rw [hB.block g (Array.getElem?_eq_some_iff.1 hh).1, hh]; rw [hh] at h; exact h
theorem GlobC.below {w w' : World} (h : GlobC w) (hB : Below w.heap.size w w') : GlobC w' := by
  obtain ⟨h1, h2, ⟨a, b, h3⟩, ⟨c, d, h4⟩, ⟨m, h5⟩⟩ := h
  exact ⟨fun k hk => Below.keeps hB (h1 k hk), var_below h2 hB, ⟨a, b, Below.keeps hB h3⟩, ⟨c, d, Below.keeps hB h4⟩, ⟨m, Below.keeps hB h5⟩⟩
theorem names_small : ∀ s ∈ namesC, s.length ≤ 5 := by decide
theorem nameC_len (op : UInt8) : (nameC op).length ≤ 5 := by
  unfold nameC
  rw [List.getD]
  cases h : namesC[op.toNat]? with
  | none => simp
  | some s => exact names_small s (List.mem_of_getElem? h)
theorem digC_all : ∀ n : Nat, n < 256 → (Lib.itoa (n : Int)).length ≤ 3 ∧ Lib.atoiAll (Lib.itoa (n : Int)) = .ok (n : Int) ∧ (∀ c ∈ Lib.itoa (n : Int), c ≠ 32) := by decide +kernel
theorem digC_len (a : UInt8) : (digC a).length ≤ 3 := (digC_all a.toNat a.toNat_lt).1
theorem itoa_bel {n : Int} (h0 : 0 ≤ n) (h1 : n ≤ 255) {w : World} (hg : GlobC w) : Calls Tryd.prog 31 #[.int .i64 n] w fun e w' => e = .returned (.string (bs (Lib.itoa n))) ∧ Below w.heap.size w w' := by
  refine (Tryd.strconv_Itoa n (by omega) (by omega) w hg.tab).mono ?_
  rintro e w' ⟨rfl, k, os, rfl⟩
  refine ⟨rfl, ?_⟩
  have hb : Below w.heap.size w (Sort.grow (w.drewN k) os) := ⟨rfl, rfl, rfl, by show w.heap.size ≤ (w.heap ++ os).size; rw [Array.size_append]; omega, fun j hj => by show (w.heap ++ os)[j]? = _; rw [Array.getElem?_append_left hj]⟩
  exact hb
def lineR (x : VI) : Value := if insOk x = true then .tuple #[.string (bs (lineC x)), .int .i64 0] else .tuple #[.string (bs []), .int .i64 2]
theorem insOk_24 {x : VI} (h : insOk x = true) : x.1.toNat < 24 := by
  unfold insOk at h
  simp only [Bool.and_eq_true, decide_eq_true_eq] at h
  omega
set_option maxRecDepth 100000 in
set_option maxHeartbeats 8000000 in
theorem Line_any (x : VI) (w : World) (hG : GlobC w) :
    Calls Tryd.prog 17 #[.agg #[.int .u8 (x.1.toNat : Int), .int .u8 (x.2.toNat : Int)]] w fun e w' => e = .returned (lineR x) ∧ Below w.heap.size w w' := by
  obtain ⟨W1, hW1⟩ : ∃ W1, W1 = w.alloc (.cells #[.int .u8 (x.1.toNat : Int), .int .u8 (x.2.toNat : Int)] 39) := ⟨_, rfl⟩
  have hb1 : Below w.heap.size w W1 := by rw [hW1]; exact b_alloc _ _
  have hx : Blk W1 w.heap.size 39 [.int .u8 (x.1.toNat : Int), .int .u8 (x.2.toNat : Int)] := by rw [hW1]; exact Blk.new w _ _
  have x0 := hx.cell (k := 0) rfl
  have x1 := hx.cell (k := 1) rfl
  have HX := Lib.hid hx
  have HB1 := Lib.hid hb1
  have HG := Lib.hid hG
  have HIN := Lib.hid (cins_any x W1)
  obtain ⟨q, hq⟩ : ∃ q, q = insOk x := ⟨_, rfl⟩
  rw [← hq] at HIN
  have HQ := Lib.hid hq
  clear hb1 hx hG hq
  cases q with
  | false =>
    have HR := Lib.hid (show lineR x = .tuple #[.string (bs []), .int .i64 2] by unfold lineR; rw [← HQ.out]; rfl)
    go_enter Tryd.func17, Tryd.ntmps17
    go_upto_region 1 with fail
    rw [← hW1]
    clear hW1
    go_wp2_with (go_at_call 24; refine HIN.out.mono ?_; rintro e w2 ⟨rfl, hB2⟩; have HB2 := Lib.hid (bt HB1.out hB2); clear hB2)
    go_ret2
    exact ⟨by rw [HR.out]; rfl, HB2.out⟩
  | true =>
    have hx24 := insOk_24 HQ.out.symm
    obtain ⟨h, hh⟩ : ∃ h, h = hasArg x.1 := ⟨_, rfl⟩
    have HHA := Lib.hid (chas_any x.1)
    rw [← hh] at HHA
    have HH := Lib.hid hh
    have nk0 : (0 : Int) ≤ (x.1.toNat : Int) := by omega
    have nk1 : (x.1.toNat : Int) < 24 := by omega
    have a0 : (0 : Int) ≤ (x.2.toNat : Int) := by omega
    have a1 : (x.2.toNat : Int) ≤ 255 := by have := x.2.toNat_lt; omega
    have nl := nameC_len x.1
    have nl1 : ((nameC x.1).length : Int) ≤ 5 := by omega
    clear hh
    cases h with
    | false =>
      have HR := Lib.hid (show lineR x = .tuple #[.string (bs (nameC x.1)), .int .i64 0] by unfold lineR lineC; rw [← HQ.out, ← HH.out]; rfl)
      go_enter Tryd.func17, Tryd.ntmps17
      go_upto_region 1 with fail
      rw [← hW1]
      clear hW1
      go_upto_region 5 with (first | (go_at_call 24; refine HIN.out.mono ?_; rintro e w2 ⟨rfl, hB2⟩; have HB2 := Lib.hid hB2; have x0 := (HX.out.below hB2).cell (k := 0) rfl; have x1 := (HX.out.below hB2).cell (k := 1) rfl; have n0 := (HG.out.below (bt HB1.out hB2)).names x.1.toNat hx24; clear hB2) | (go_at_call 30; refine (HHA.out _).mono ?_; rintro e w3 ⟨rfl, rfl⟩))
      go_wp2_with fail
      go_ret2
      exact ⟨by rw [HR.out]; rfl, bt HB1.out HB2.out⟩
    | true =>
      have HR := Lib.hid (show lineR x = .tuple #[.string (bs (nameC x.1 ++ [32] ++ digC x.2)), .int .i64 0] by unfold lineR lineC; rw [← HQ.out, ← HH.out]; rfl)
      go_enter Tryd.func17, Tryd.ntmps17
      go_upto_region 1 with fail
      rw [← hW1]
      clear hW1
      go_upto_region 4 with (first | (go_at_call 24; refine HIN.out.mono ?_; rintro e w2 ⟨rfl, hB2⟩; have HB2 := Lib.hid hB2; have x0 := (HX.out.below hB2).cell (k := 0) rfl; have x1 := (HX.out.below hB2).cell (k := 1) rfl; have HG2 := Lib.hid (HG.out.below (bt HB1.out hB2)); have n0 := HG2.out.names x.1.toNat hx24; clear hB2) | (go_at_call 30; refine (HHA.out _).mono ?_; rintro e w3 ⟨rfl, rfl⟩))
      have HIT := Lib.hid (fun w' (hB : Below w3.heap.size w3 w') => itoa_bel a0 a1 (HG2.out.below hB))
      have aw : IntKind.i64.wrap (x.2.toNat : Int) = (x.2.toNat : Int) := by simp [IntKind.wrap, IntKind.bits, IntKind.signed]; omega
      have dl := digC_len x.2
      have dl1 : ((Lib.itoa (x.2.toNat : Int)).length : Int) ≤ 3 := by unfold digC at dl; omega
      obtain ⟨dg, hdg⟩ : ∃ dg, dg = Lib.itoa (x.2.toNat : Int) := ⟨_, rfl⟩
      rw [← hdg] at dl1 HIT
      have HDG := Lib.hid (show digC x.2 = dg from hdg.symm)
      obtain ⟨nm, hnm⟩ : ∃ nm, nm = nameC x.1 := ⟨_, rfl⟩
      have n1 : w3.cell? ⟨0, x.1.toNat, none⟩ = some (.string (bs nm)) := by rw [hnm]; exact n0
      rw [← hnm] at nl1 nl HR
      rw [HDG.out] at HR
      clear n0 hdg hnm dl
      refine region_known [(1, .exact _ (.int .u8 (x.1.toNat : Int))), (3, .exact _ (.string (bs nm))), (6, .exact _ (.int .u8 (x.2.toNat : Int))), (8, .exact _ (.string (bs dg)))] (by kernel_rfl) (by kernel_rfl) ?_
      (repeat (first | (refine wpG_skip (by kernel_rfl) (fun K hK => ?_); go_big_quiet_skip; refine wpQuiet_nil (hK _ ?_); clear hK K) | (refine wpG_quiet (by rfl) (by rfl) (fun K hK => ?_); go_big_quiet_want; go_big_quiet_op; go_big_quiet_on; refine wpQuiet_nil (hK _ ?_); clear hK K) | (refine wpG_nilOk rfl rfl rfl (by kernel_rfl) (fun K hK => ?_); go_simp; refine hK _ ?_; clear hK K)))
      refine wpG_exact rfl (by kernel_rfl) (fun w' G hB hS hG => ?_) (fun K hK => ?_)
      · have y := Below.keeps hB x0
        go_simp; exact hG _ (Bel.refl _)
      go_simp; refine hK _ ?_; clear hK K; (repeat (first | (refine wpG_skip (by kernel_rfl) (fun K hK => ?_); go_big_quiet_skip; refine wpQuiet_nil (hK _ ?_); clear hK K) | (refine wpG_quiet (by rfl) (by rfl) (fun K hK => ?_); go_big_quiet_want; go_big_quiet_op; go_big_quiet_on; refine wpQuiet_nil (hK _ ?_); clear hK K) | (refine wpG_nilOk rfl rfl rfl (by kernel_rfl) (fun K hK => ?_); go_simp; refine hK _ ?_; clear hK K)))
      refine wpG_exact rfl (by kernel_rfl) (fun w' G hB hS hG => ?_) (fun K hK => ?_)
      · have y := Below.keeps hB n1
        go_simp; exact hG _ (Bel.refl _)
      go_simp; refine hK _ ?_; clear hK K; (repeat (first | (refine wpG_skip (by kernel_rfl) (fun K hK => ?_); go_big_quiet_skip; refine wpQuiet_nil (hK _ ?_); clear hK K) | (refine wpG_quiet (by rfl) (by rfl) (fun K hK => ?_); go_big_quiet_want; go_big_quiet_op; go_big_quiet_on; refine wpQuiet_nil (hK _ ?_); clear hK K) | (refine wpG_nilOk rfl rfl rfl (by kernel_rfl) (fun K hK => ?_); go_simp; refine hK _ ?_; clear hK K)))
      refine wpG_exact rfl (by kernel_rfl) (fun w' G hB hS hG => ?_) (fun K hK => ?_)
      · have y := Below.keeps hB x1
        go_simp; exact hG _ (Bel.refl _)
      go_simp; refine hK _ ?_; clear hK K; (repeat (first | (refine wpG_skip (by kernel_rfl) (fun K hK => ?_); go_big_quiet_skip; refine wpQuiet_nil (hK _ ?_); clear hK K) | (refine wpG_quiet (by rfl) (by rfl) (fun K hK => ?_); go_big_quiet_want; go_big_quiet_op; go_big_quiet_on; refine wpQuiet_nil (hK _ ?_); clear hK K) | (refine wpG_nilOk rfl rfl rfl (by kernel_rfl) (fun K hK => ?_); go_simp; refine hK _ ?_; clear hK K)))
      refine wpG_exact rfl (by kernel_rfl) (fun w' G hB hS hG => ?_) (fun K hK => ?_)
      · have hu := HIT.out w' hB
        go_simp
        exact calls_told hG hu
      go_simp; refine hK _ ?_; clear hK K; (repeat (first | (refine wpG_skip (by kernel_rfl) (fun K hK => ?_); go_big_quiet_skip; refine wpQuiet_nil (hK _ ?_); clear hK K) | (refine wpG_quiet (by rfl) (by rfl) (fun K hK => ?_); go_big_quiet_want; go_big_quiet_op; go_big_quiet_on; refine wpQuiet_nil (hK _ ?_); clear hK K) | (refine wpG_nilOk rfl rfl rfl (by kernel_rfl) (fun K hK => ?_); go_simp; refine hK _ ?_; clear hK K)))
      refine wpG_nilVT ?_
      intro w5 hB5 hA5
      go_wp2_with fail
      go_ret2
      exact ⟨by rw [HR.out]; rfl, bt HB1.out (bt HB2.out hB5)⟩
end Go.Proofs.YtbcjfppdeapamaaDoor
namespace Go.Proofs.YtbcjfppdeapamaaDoor
open Go.RowKit Oct

/-- bytes of the call's own; the row may bear a mark behind its cells -/
def OwnE (w : World) (base : Nat) (e : TypeId) (v : Value) (l : List UInt8) : Prop :=
  ∃ g cap cur fz, v = .slice (some ⟨g, 0, none⟩) l.length cap ∧ base ≤ g ∧ w.heap[g]? = some (.cells cur e fz) ∧ (fz.2 = 0 ∨ cur.size ≤ fz.1) ∧ l.length ≤ cap ∧ cap ≤ maxLen ∧ cur.size = cap ∧ cur.toList.take l.length = bcells l
section
variable {P : Program}
theorem OwnE.slice {w : World} {base : Nat} {e : TypeId} {v : Value} {l : List UInt8} (h : OwnE w base e v l) : ∃ g cap, v = .slice (some ⟨g, 0, none⟩) l.length cap := by
  obtain ⟨g, cap, _, _, hv, _⟩ := h
  exact ⟨g, cap, hv⟩
theorem OwnE.below {w w' : World} {base : Nat} {e : TypeId} {v : Value} {l : List UInt8} (h : OwnE w base e v l) (hB : Below w.heap.size w w') : OwnE w' base e v l := by
  obtain ⟨g, cap, cur, fz, h1, h2, h3, h4⟩ := h
  exact ⟨g, cap, cur, fz, h1, h2, (hB.block g (Array.getElem?_eq_some_iff.1 h3).1).trans h3, h4⟩
theorem OwnE.cell {w : World} {base g n cap : Nat} {e : TypeId} {l : List UInt8} (h : OwnE w base e (.slice (some ⟨g, 0, none⟩) n cap) l) (j : Nat) (hj : j < l.length) : w.cell? ⟨g, j, none⟩ = some (.int .u8 (l[j].toNat : Int)) := by
  obtain ⟨g', cap', cur, fz, h1, h2, h3, _, _, _, _, h5⟩ := h
  injection h1 with e1 _ _
  cases e1
  rw [cell_of_row w g j cur e fz h3]
  have : (cur.toList.take l.length)[j]? = some (.int .u8 (l[j].toNat : Int)) := by rw [h5]; simp [bcells, hj]
  rw [List.getElem?_take, if_pos hj] at this
  simpa using this
theorem OwnE.new (w : World) (e : TypeId) (l : List UInt8) (hl : l.length ≤ maxLen) : OwnE (Lib.bytesWorld w e (bs l)) w.heap.size e (.slice (some ⟨w.heap.size, 0, none⟩) l.length (grownCap w (bs l).size 0 e)) l := by
  have hge := grownCap_ge w (bs l).size 0 e
  have hle := grownCap_le_maxLen w (bs l).size 0 e (by rw [bs_size]; exact hl)
  have hsz : (Lib.bytesCells w e (bs l)).size = grownCap w (bs l).size 0 e := by
    simp only [Lib.bytesCells, Array.size_append, Array.size_map, Array.size_replicate]
    have : (bs l).data.size = (bs l).size := rfl
    omega
  refine ⟨w.heap.size, _, _, _, rfl, Nat.le_refl _, Lib.bytesWorld_at_new w e (bs l), .inr (Nat.le_refl _), by rw [bs_size] at hge; exact hge, hle, hsz, ?_⟩
  have h1 : (Lib.bytesCells w e (bs l)).toList = bcells l ++ List.replicate (grownCap w (bs l).size 0 e - (bs l).size) (.int .u8 0) := by
    simp only [Lib.bytesCells, Array.toList_append, Array.toList_map, bs_data, bcells, Array.toList_replicate]
  rw [h1, List.take_append_of_le_length (by rw [bcells_length]; exact Nat.le_refl _), List.take_of_length_le (by rw [bcells_length]; exact Nat.le_refl _)]
theorem below_bytes (w : World) (e : TypeId) (s : ByteArray) : Below w.heap.size w (Lib.bytesWorld w e s) :=
  ⟨rfl, rfl, rfl, by rw [Lib.bytesWorld_size]; omega, fun k hk => Lib.bytesWorld_at_old w e s k hk⟩
/-- append(s, x): one byte -/
theorem append1E {ops : Array Oper} {rest : List Oper} {o : Oper} {a : Act} {Q : Exit → Act → World → Prop} (wr : World) (c : UInt8) (e : TypeId) (hgd : o.guard = none) (s x : Operand) (t : TypeId)
    (ho : o.op = .call { callee := .builtin .append, args := #[s, x], argTypes := #[t, t] })
    (base : Nat) (ht : P.underlying t = some (.slice e)) (hinfo : (P.info? e).map (fun i => (i.zero, i.size, i.bytes)) = some (some (.int .u8 0), 1, 1))
    (v : Value) (l : List UInt8) (n : Nat) (hn : l.length = n) (u : Value) (hu : u = .int .u8 (c.toNat : Int)) (hown : OwnE wr base e v l) (hs : a.eval s = v)
    (cx : Nat) (hx : a.eval x = .slice (some ⟨wr.heap.size, 0, none⟩) 1 cx) (hbytes : n + 1 ≤ 140737488355328) (hbase : base ≤ wr.heap.size)
    (h : ∀ g cap w', OwnE w' base e (.slice (some ⟨g, 0, none⟩) (n + 1) cap) (l ++ [c]) → Below base wr w' → wpList P ops Q rest (a.put o.dst (.slice (some ⟨g, 0, none⟩) (n + 1) cap)) w') :
    wpList P ops Q (o :: rest) a (wr.alloc (.cells #[u] e)) := by
  subst hn hu
  obtain ⟨i, hi, hz, hi1, hi2⟩ := info_parts hinfo
  refine wpList_plain hgd fun K hK => ?_
  obtain ⟨w, hw⟩ : ∃ w, w = wr.alloc (.cells #[.int .u8 (c.toNat : Int)] e) := ⟨_, rfl⟩
  rw [← hw]
  have hown' : OwnE w base e v l := by rw [hw]; exact hown.below (b_alloc _ _)
  have hB1 : Below base wr w := by rw [hw]; exact (Below.refl base wr).alloc hbase _
  have hnew : ∀ j u, [Value.int .u8 (c.toNat : Int)][j]? = some u → w.cell? ((⟨wr.heap.size, 0, none⟩ : Addr).add j) = some u := by
    intro j u hj
    have hj0 : j < 1 := by
      rcases Nat.lt_or_ge j 1 with h | h
      · exact h
      · simp [List.getElem?_eq_none (show [Value.int .u8 (c.toNat : Int)].length ≤ j from h)] at hj
    rw [hw, Addr.add_lit, Nat.zero_add, World.cell?_alloc_new]
    simpa using hj
  obtain ⟨g, cap, cur, fz, hv, hbg, hg, hfz, hle, hcm, hcs, htk⟩ := id hown'
  have main : ∃ g' cap' w', (Builtin.append_ #[t, t] o.type #[v, .slice (some ⟨wr.heap.size, 0, none⟩) 1 cx]).run P w = .ok (.slice (some ⟨g', 0, none⟩) (l.length + 1) cap') w' ∧ OwnE w' base e (.slice (some ⟨g', 0, none⟩) (l.length + 1) cap') (l ++ [c]) ∧ Below base w w' := by
    subst hv
    by_cases hroom : l.length + 1 ≤ cap
    · have hlt : l.length < cur.size := by omega
      have hcell : w.cell? ⟨g, l.length, none⟩ = some cur[l.length] := by rw [cell_of_row w g _ cur e fz hg]; simp [hlt]
      have hfro : w.frozen? ⟨g, l.length, none⟩ = false := by
        obtain ⟨lo, hh⟩ := fz
        simp only at hfz
        simp only [World.frozen?, hg, Bool.and_eq_false_iff, decide_eq_false_iff_not]
        omega
      have hst : (storeCells ⟨g, l.length, none⟩ [Value.int .u8 (c.toNat : Int)] 0).run P w = .ok () (w.setCell ⟨g, l.length, none⟩ (.int .u8 (c.toNat : Int))) := by
        have hadd : (⟨g, l.length, none⟩ : Addr).add 0 = ⟨g, l.length, none⟩ := Addr.add_lit ..
        simp only [storeCells, Sem.run_bind, hadd]
        rw [run_store P w _ _ _ rfl, hcell]
        simp [hfro]
      have hf := run_firstCells_some (P := P) w i.size 1 ⟨wr.heap.size, 0, none⟩ 1 cx [.int .u8 (c.toNat : Int)] (by simp [hi1]) hnew
      refine ⟨g, cap, w.setCell ⟨g, l.length, none⟩ (.int .u8 (c.toNat : Int)), ?_, ?_, ?_⟩
      · rw [hi1] at hf
        simp [Builtin.append_, run_underlying ht, sizeOf, typeInfo, hi, hi1, Builtin.lenOf, hroom, hf, Addr.add_lit, hst]
      · refine ⟨g, cap, cur.setIfInBounds l.length (.int .u8 (c.toNat : Int)), fz, by simp, hbg, ?_, by simpa using hfz, by simpa using hroom, hcm, by simpa using hcs, ?_⟩
        · rw [setCell_eq_setRow w g _ cur e fz _ hg]
          exact setRow_heap w g cur _ e fz hg
        · rw [Array.toList_setIfInBounds, List.length_append, List.length_singleton, List.take_set, List.take_succ_eq_append_getElem (by simpa using hlt), htk]
          rw [List.set_append_right _ _ (by rw [bcells_length]; exact Nat.le_refl _), bcells_length, Nat.sub_self, ← bcells_snoc]
          rfl
      · exact (Below.refl base w).setCell (p := ⟨g, l.length, none⟩) hbg _
    · have holds : ∀ j u, (bcells l)[j]? = some u → w.cell? ((⟨g, 0, none⟩ : Addr).add j) = some u := by
        intro j u hj
        have hjl : j < l.length := by
          rcases Nat.lt_or_ge j l.length with h | h
          · exact h
          · simp [List.getElem?_eq_none (show (bcells l).length ≤ j by rw [bcells_length]; exact h)] at hj
        have := hown'.cell j hjl
        rw [Addr.add_lit, Nat.zero_add, this]
        simp [bcells, hjl] at hj
        rw [hj]
      have hr := run_append_grow (P := P) w t o.type e i (.int .u8 0) ht hi hz ⟨g, 0, none⟩ l.length cap (bcells l) (by rw [bcells_length, hi1, Nat.mul_one]) holds ⟨wr.heap.size, 0, none⟩ 1 cx [.int .u8 (c.toNat : Int)] (by simp [hi1]) hnew (by omega) (by omega)
        (growslice_fits (by omega) (by rw [hi2]; omega))
      have hge := grownCap_ge w (l.length + 1) cap e
      have hlm := grownCap_le_maxLen w (l.length + 1) cap e (by unfold maxLen; omega)
      refine ⟨_, _, _, hr, ?_, (Below.refl base w).drew.alloc (by simp; have := hB1.size; omega) _⟩
      refine ⟨w.heap.size, _, _, _, by simp, by have := hB1.size; omega, World.alloc_heap_new w.drew _, .inl rfl, by simpa using hge, hlm, ?_, ?_⟩
      · simp only [Array.size_append, List.size_toArray, bcells_length, List.length_singleton, size_zeroCells]
        simp [Value.cells]
        omega
      · have e1 : (bcells l ++ [Value.int .u8 (c.toNat : Int)]).length = (l ++ [c]).length := by simp [bcells_length]
        simp only [Array.toList_append, List.append_assoc]
        rw [← List.append_assoc, ← e1, List.take_left, bcells_snoc]
  obtain ⟨g', cap', w', hr, h2, h3⟩ := main
  unfold Oper.wp execOp
  simp only [ho, resolve, invoke, builtin, Sem.run_bind, Sem.run_pure, Result.andThen_ok, List.map_toArray, List.map_cons, List.map_nil, hs, hx, hr]
  exact hK _ _ (h g' cap' w' h2 (hB1.trans h3))
/-- string(b) -/
theorem conv_ownE (src dst e : TypeId) (hs : P.underlying src = some (.slice e)) (he : P.underlying e = some (.int .u8)) (hd : P.underlying dst = some .string) (w : World) (base : Nat) (v : Value) (l : List UInt8)
    (h : OwnE w base e v l) : (convert src dst v).run P w = .ok (.string (bs l)) w := by
  obtain ⟨g, cap, rfl⟩ := h.slice
  exact run_convert_bytes_back w src dst e ⟨g, 0, none⟩ cap l hs he hd (fun j hj => by rw [Addr.add_lit, Nat.zero_add]; exact h.cell j hj)
end
end Go.Proofs.YtbcjfppdeapamaaDoor
namespace Go.Proofs.YtbcjfppdeapamaaDoor
open Go.RowKit Oct
attribute [local irreducible] wpG
theorem bs_list (l : List UInt8) : (bs l).data.toList = l := by simp [bs]
theorem cut_bel (l : List UInt8) {w : World} (hg : GlobC w) (hl : l.length ≤ 1000) : Calls Tryd.prog 32 #[.string (bs l), .string ⟨#[32]⟩] w fun e w' => e = .returned (.tuple #[.string (bs (Lib.cut l [32]).1), .string (bs (Lib.cut l [32]).2.1), .bool (Lib.cut l [32]).2.2]) ∧ Below w.heap.size w w' := by
  obtain ⟨m, hm⟩ := hg.mx
  have h := Tryd.strings_Cut (bs l) ⟨#[32]⟩ m w (by rw [bs_size]; omega) hm
  rw [bs_list] at h
  refine h.mono ?_
  rintro e w' ⟨rfl, n, rfl⟩
  exact ⟨rfl, Below.drewN' _ _⟩
/-- what Atoi's number is -/
def atoiN (r : List UInt8) : Int := match Lib.atoiAll r with | .ok v => v | .range => Lib.atoiSat r | _ => 0
theorem atoi_bel (r : List UInt8) {w : World} (hg : GlobC w) (hl : r.length ≤ 1000) : Calls Tryd.prog 33 #[.string (bs r)] w fun e w' => (∃ v, e = .returned (.tuple #[.int .i64 (atoiN r), v])) ∧ Below w.heap.size w w' := by
  obtain ⟨te, pe, hs⟩ := hg.syn
  obtain ⟨te2, pe2, hr⟩ := hg.rng
  unfold atoiN
  cases h : Lib.atoiAll r with
  | ok v =>
    refine (Tryd.strconv_Atoi_ok (bs r) (by rw [bs_size]; omega) v (by rw [bs_list]; exact h) w).mono ?_
    rintro e w' ⟨rfl, rfl | ⟨t, rfl⟩⟩
    · exact ⟨⟨_, rfl⟩, Below.refl _ _⟩
    · exact ⟨⟨_, rfl⟩, below_bytes _ _ _⟩
  | range =>
    refine (Tryd.strconv_Atoi_range (bs r) (by rw [bs_size]; omega) (by rw [bs_list]; exact h) _ w hr (.inr ⟨te2, pe2, rfl⟩)).mono ?_
    rintro e w' ⟨N, rfl, -, -, hB⟩
    rw [bs_list]
    exact ⟨⟨_, rfl⟩, hB⟩
  | _ =>
    refine (Tryd.strconv_Atoi_syntax (bs r) (by rw [bs_size]; omega) (by rw [bs_list, h]; exact fun v e => by cases e) (by rw [bs_list, h]; exact fun e => by cases e) _ w hs (.inr ⟨te, pe, rfl⟩)).mono ?_
    rintro e w' ⟨N, rfl, -, -, hB⟩
    exact ⟨⟨_, rfl⟩, hB⟩
theorem idx_bel (nm : List UInt8) {w : World} (hg : GlobC w) : Calls Tryd.prog 34 #[.slice (some ⟨0, 0, none⟩) 24 24, .string (bs nm)] w fun e w' => e = .returned (.int .i64 (Lib.idxOfS (namesC.map bs) (bs nm))) ∧ w' = w := by
  have h := Tryd.slices_Index_string 0 0 24 24 (namesC.map bs) (bs nm) w (by decide) (by decide) (fun j hj => by
    have hj' : j < 24 := by simpa [namesC] using hj
    have := hg.names j hj'
    rw [Nat.zero_add, this]
    rw [List.getD, List.getD, List.getElem?_map]
    rw [List.getElem?_eq_getElem (by show j < 24; exact hj')]
    rfl)
  rw [List.take_of_length_le (by decide)] at h
  exact h
theorem idxFrom_lt (x : ByteArray) : ∀ (zs : List ByteArray) (i : Nat), Lib.idxFromS zs x i < ((i + zs.length : Nat) : Int) ∨ Lib.idxFromS zs x i = -1
  | [], i => .inr rfl
  | z :: zs, i => by
    unfold Lib.idxFromS
    split
    · left; simp; omega
    · rcases idxFrom_lt x zs (i + 1) with h | h
      · left; simp at h ⊢; omega
      · exact .inr h
def opC (nm : List UInt8) : Nat := (max (Lib.idxOfS (namesC.map bs) (bs nm)) 0).toNat
theorem opC_lt (nm : List UInt8) : opC nm < 24 ∧ max (Lib.idxOfS (namesC.map bs) (bs nm)) 0 = (opC nm : Int) := by
  unfold opC
  rcases idxFrom_lt (bs nm) (namesC.map bs) 0 with h | h
  · have h' : Lib.idxOfS (namesC.map bs) (bs nm) < 24 := h
    omega
  · have h' : Lib.idxOfS (namesC.map bs) (bs nm) = -1 := h
    rw [h']; decide
theorem load_ins {w : World} {b : Nat} {v0 v1 : Value} (h0 : w.cell? ⟨b, 0, none⟩ = some v0) (h1 : w.cell? ⟨b, 1, none⟩ = some v1) : (loadVar 39 ⟨b, 0, none⟩).run Tryd.prog w = .ok (.agg #[v0, v1]) w := by
  go_simp
theorem cut_lens (l sep : List UInt8) : (Lib.cut l sep).1.length ≤ l.length ∧ (Lib.cut l sep).2.1.length ≤ l.length := by
  unfold Lib.cut
  split
  · exact ⟨by rw [List.length_take]; omega, by rw [List.length_drop]; omega⟩
  · exact ⟨Nat.le_refl _, Nat.zero_le _⟩
/-- the instruction that Read tries -/
def tryC (s : List UInt8) : VI := (UInt8.ofNat (opC (Lib.cut s [32]).1), UInt8.ofNat (bits BinOp.and IntKind.i64 (atoiN (Lib.cut s [32]).2.1) 255 % 256).toNat)
/-- which instruction a text is the line of -/
def readC (s : List UInt8) : Option VI := if insOk (tryC s) = true ∧ lineC (tryC s) = s then some (tryC s) else none
def readV (s : List UInt8) : Value := match readC s with
  | some x => .tuple #[.agg #[.int .u8 (x.1.toNat : Int), .int .u8 (x.2.toNat : Int)], .int .i64 0]
  | none => .tuple #[.agg #[.int .u8 0, .int .u8 0], .int .i64 7]
set_option maxRecDepth 100000 in
set_option maxHeartbeats 8000000 in
theorem Read_any (s : List UInt8) (w : World) (hG : GlobC w) (hs : s.length ≤ 1000) :
    Calls Tryd.prog 18 #[.string (bs s)] w fun e w' => e = .returned (readV s) ∧ Below w.heap.size w w' := by
  obtain ⟨W1, hW1⟩ : ∃ W1, W1 = w.alloc (.cells #[.int .u8 0, .int .u8 0] 39) := ⟨_, rfl⟩
  have hb1 : Below w.heap.size w W1 := by rw [hW1]; exact b_alloc _ _
  have hx : Blk W1 w.heap.size 39 [.int .u8 0, .int .u8 0] := by rw [hW1]; exact Blk.new w _ _
  have HX := Lib.hid hx
  have HB1 := Lib.hid hb1
  have HG := Lib.hid hG
  obtain ⟨k1, k2⟩ := cut_lens s [32]
  have HCU := Lib.hid (fun w' (hB : Below w.heap.size w w') => cut_bel s (hG.below hB) hs)
  have HTR := Lib.hid (show tryC s = (UInt8.ofNat (opC (Lib.cut s [32]).1), UInt8.ofNat (bits BinOp.and IntKind.i64 (atoiN (Lib.cut s [32]).2.1) 255 % 256).toNat) from rfl)
  obtain ⟨nm, hnm⟩ : ∃ nm, nm = (Lib.cut s [32]).1 := ⟨_, rfl⟩
  obtain ⟨rs, hrs⟩ : ∃ rs, rs = (Lib.cut s [32]).2.1 := ⟨_, rfl⟩
  obtain ⟨fd, hfd⟩ : ∃ fd, fd = (Lib.cut s [32]).2.2 := ⟨_, rfl⟩
  rw [← hnm, ← hrs, ← hfd] at HCU
  rw [← hnm, ← hrs] at HTR
  rw [← hnm] at k1
  rw [← hrs] at k2
  have HAT := Lib.hid (fun w' (hB : Below w.heap.size w w') => atoi_bel rs (hG.below hB) (by omega))
  have HID := Lib.hid (fun w' (hB : Below w.heap.size w w') => idx_bel nm (hG.below hB))
  obtain ⟨o1, o2⟩ := opC_lt nm
  obtain ⟨ix, hix⟩ : ∃ ix, ix = Lib.idxOfS (namesC.map bs) (bs nm) := ⟨_, rfl⟩
  rw [← hix] at HID o2
  obtain ⟨o, ho⟩ : ∃ o, o = opC nm := ⟨_, rfl⟩
  rw [← ho] at o1 o2 HTR
  obtain ⟨n, hn⟩ : ∃ n, n = atoiN rs := ⟨_, rfl⟩
  rw [← hn] at HAT HTR
  have m1 : max ix 0 = (o : Int) := o2
  have ow : IntKind.u8.wrap (o : Int) = (o : Int) := by simp [IntKind.wrap, IntKind.bits, IntKind.signed]; omega
  have ow2 : (o : Int) % 256 = (o : Int) := by omega
  clear hG hx hb1 hnm hrs hfd hix ho hn o2
  go_enter Tryd.func18, Tryd.ntmps18
  go_upto_region 1 with fail
  rw [← hW1]
  clear hW1
  go_upto_region 3 with (first | (go_at_call 32; refine (HCU.out _ HB1.out).mono ?_; rintro e w2 ⟨rfl, hB2⟩; have HB2 := Lib.hid hB2; clear hB2) | (go_at_call 33; refine (HAT.out _ (bt HB1.out HB2.out)).mono ?_; rintro e w3 ⟨⟨ve, rfl⟩, hB3⟩; have HB3 := Lib.hid (bt HB2.out hB3); clear hB3))
  go_upto_region 4 with (go_at_call 34; refine (HID.out _ (bt HB1.out HB3.out)).mono ?_; rintro e w4 ⟨rfl, rfl⟩)
  obtain ⟨av, hav⟩ : ∃ av, av = bits BinOp.and IntKind.i64 n 255 % 256 := ⟨_, rfl⟩
  have hav0 : 0 ≤ av ∧ av < 256 := by rw [hav]; omega
  rw [← hav] at HTR ⊢
  obtain ⟨z, hz⟩ : ∃ z, z = tryC s := ⟨_, rfl⟩
  have hz1 : (o : Int) = (z.1.toNat : Int) := by rw [hz, HTR.out]; show _ = ((UInt8.ofNat o).toNat : Int); rw [UInt8.toNat_ofNat']; omega
  have hz2 : av = (z.2.toNat : Int) := by rw [hz, HTR.out]; show _ = ((UInt8.ofNat av.toNat).toNat : Int); rw [UInt8.toNat_ofNat']; omega
  rw [hz1, hz2]
  obtain ⟨w5, hw5⟩ : ∃ w5, w5 = w4.alloc (.cells #[.int .u8 (z.1.toNat : Int), .int .u8 (z.2.toNat : Int)] 39) := ⟨_, rfl⟩
  have hb5 : Below w4.heap.size w4 w5 := by rw [hw5]; exact b_alloc _ _
  have hy : Blk w5 w4.heap.size 39 [.int .u8 (z.1.toNat : Int), .int .u8 (z.2.toNat : Int)] := by rw [hw5]; exact Blk.new w4 _ _
  rw [← hw5]
  obtain ⟨D, hD⟩ : ∃ D, D = w4.heap.size := ⟨_, rfl⟩
  rw [← hD] at hy ⊢
  have HBW := Lib.hid (bt HB3.out hb5)
  have HLN := Lib.hid (fun w' (hB : Below w5.heap.size w5 w') => Line_any z w' (HG.out.below (bt HB1.out (bt HBW.out hB))))
  have y0 := hy.cell (k := 0) rfl
  have y1 := hy.cell (k := 1) rfl
  have HY := Lib.hid hy
  have HZ := Lib.hid hz
  have hzl := nameC_len z.1
  clear hav hav0 hz hz1 hz2 hw5 hb5 hy hD m1 ow ow2 HTR HID HAT HCU o1
  by_cases hin : insOk z = true
  · have hR : lineR z = .tuple #[.string (bs (lineC z)), .int .i64 0] := by unfold lineR; rw [if_pos hin]
    rw [hR] at HLN
    obtain ⟨ln, hln⟩ : ∃ ln, ln = lineC z := ⟨_, rfl⟩
    rw [← hln] at HLN
    by_cases he : ln = s
    · have t1 : (ln != s) = false := by rw [he]; simp
      have t2 : (ln == s) = true := by rw [he]; simp
      have HV := Lib.hid (show readV s = .tuple #[.agg #[.int .u8 (z.1.toNat : Int), .int .u8 (z.2.toNat : Int)], .int .i64 0] by unfold readV readC; rw [← HZ.out, if_pos ⟨hin, by rw [← hln]; exact he⟩])
      clear hR hln he hin
      go_upto_region 5 with (go_at_call 17; refine (HLN.out _ (Below.refl _ _)).mono ?_; rintro e w6 ⟨rfl, hB6⟩; have HB6 := Lib.hid (bt HBW.out hB6); have y0 := (HY.out.below hB6).cell (k := 0) rfl; have y1 := (HY.out.below hB6).cell (k := 1) rfl; clear hB6)
      have hx6 := HX.out.below HB6.out
      have x0 := hx6.cell (k := 0) rfl
      have x1 := hx6.cell (k := 1) rfl
      have f0 := hx6.free (k := 0) (by decide)
      have f1 := hx6.free (k := 1) (by decide)
      have HX6 := Lib.hid hx6
      clear hx6
      go_wp2_with fail
      have hx7 := (HX6.out.set 0 (.int .u8 (z.1.toNat : Int))).set 1 (.int .u8 (z.2.toNat : Int))
      have hc7 := (Chg.set1R (w := w6) (b := w.heap.size) (k := 0) (v := .int .u8 (z.1.toNat : Int))).trans (Chg.set1R (k := 1) (v := .int .u8 (z.2.toNat : Int)))
      refine bodyPost_ret (results_cell_tmpR rfl rfl (load_ins (hx7.cell (k := 0) rfl) (hx7.cell (k := 1) rfl))) rfl ?_
      exact ⟨by rw [HV.out]; rfl, (bt HB1.out HB6.out).trans (hc7.below (fun j (hj : j = w.heap.size) => by omega) (bt HB1.out HB6.out).size)⟩
    · have t1 : (ln != s) = true := by simpa using he
      have t2 : (ln == s) = false := by simpa using he
      have HV := Lib.hid (show readV s = .tuple #[.agg #[.int .u8 0, .int .u8 0], .int .i64 7] by unfold readV readC; rw [← HZ.out, if_neg (fun h => he (by rw [hln]; exact h.2))])
      clear hR hln he hin
      go_upto_region 5 with (go_at_call 17; refine (HLN.out _ (Below.refl _ _)).mono ?_; rintro e w6 ⟨rfl, hB6⟩; have HB6 := Lib.hid (bt HBW.out hB6); clear hB6)
      have hx6 := HX.out.below HB6.out
      have x0 := hx6.cell (k := 0) rfl
      have x1 := hx6.cell (k := 1) rfl
      have f0 := hx6.free (k := 0) (by decide)
      have f1 := hx6.free (k := 1) (by decide)
      have HX6 := Lib.hid hx6
      clear hx6 y0 y1
      go_wp2_with fail
      have hx7 := (HX6.out.set 0 (.int .u8 0)).set 1 (.int .u8 0)
      have hc7 := (Chg.set1R (w := w6) (b := w.heap.size) (k := 0) (v := .int .u8 0)).trans (Chg.set1R (k := 1) (v := .int .u8 0))
      refine bodyPost_ret (results_cell_tmpR rfl rfl (load_ins (hx7.cell (k := 0) rfl) (hx7.cell (k := 1) rfl))) rfl ?_
      exact ⟨by rw [HV.out]; rfl, (bt HB1.out HB6.out).trans (hc7.below (fun j (hj : j = w.heap.size) => by omega) (bt HB1.out HB6.out).size)⟩
  · have hR : lineR z = .tuple #[.string (bs []), .int .i64 2] := by unfold lineR; rw [if_neg hin]
    rw [hR] at HLN
    have HV := Lib.hid (show readV s = .tuple #[.agg #[.int .u8 0, .int .u8 0], .int .i64 7] by unfold readV readC; rw [← HZ.out, if_neg (fun h => hin h.1)])
    clear hR hin
    go_upto_region 5 with (go_at_call 17; refine (HLN.out _ (Below.refl _ _)).mono ?_; rintro e w6 ⟨rfl, hB6⟩; have HB6 := Lib.hid (bt HBW.out hB6); clear hB6)
    have hx6 := HX.out.below HB6.out
    have x0 := hx6.cell (k := 0) rfl
    have x1 := hx6.cell (k := 1) rfl
    have f0 := hx6.free (k := 0) (by decide)
    have f1 := hx6.free (k := 1) (by decide)
    have HX6 := Lib.hid hx6
    clear hx6 y0 y1
    go_wp2_with fail
    have hx7 := (HX6.out.set 0 (.int .u8 0)).set 1 (.int .u8 0)
    have hc7 := (Chg.set1R (w := w6) (b := w.heap.size) (k := 0) (v := .int .u8 0)).trans (Chg.set1R (k := 1) (v := .int .u8 0))
    refine bodyPost_ret (results_cell_tmpR rfl rfl (load_ins (hx7.cell (k := 0) rfl) (hx7.cell (k := 1) rfl))) rfl ?_
    exact ⟨by rw [HV.out]; rfl, (bt HB1.out HB6.out).trans (hc7.below (fun j (hj : j = w.heap.size) => by omega) (bt HB1.out HB6.out).size)⟩
end Go.Proofs.YtbcjfppdeapamaaDoor
namespace Go.Proofs.YtbcjfppdeapamaaDoor
open Go.RowKit Oct
attribute [local irreducible] wpG
theorem litC {α : Type} (R : Rec α) (w : World) (l : List α) (cs : Array Value) (hcs : cs = (R.cells l).toArray) (n : Nat) (hn : n = l.length) (hm : n ≤ 1000) : R.Row (w.alloc (.cells cs R.e)) (.slice (some ⟨w.heap.size, 0, none⟩) n n) l := by
  subst hn hcs
  refine Rec.Own.row (base := w.heap.size) ⟨by rw [Rec.cells_length], .inr ⟨w.heap.size, l.length, (R.cells l).toArray, rfl, Nat.le_refl _, ?_, Nat.le_refl _, Nat.le_trans hm (by decide), ?_, ?_⟩⟩
  · show (w.heap.push _)[w.heap.size]? = _
    rw [Array.getElem?_push_size]
  · rw [List.size_toArray, Rec.cells_length]
  · show (R.cells l).take (l.length * R.n) = _
    rw [List.take_of_length_le (by rw [Rec.cells_length]; exact Nat.le_refl _)]
theorem al1C : putR [[97]] [(1, 0)] = .tuple #[.string (bs [1, 1, 97, 1, 0, 1, 0]), .int .i64 0] := by unfold putR; rw [if_pos (by decide)]; rfl
theorem al2C : lineR (2, 7) = .tuple #[.string (bs [110, 117, 109, 32, 55]), .int .i64 0] := by
  have h : lineC (2, 7) = [110, 117, 109, 32, 55] := by decide +kernel
  unfold lineR; rw [if_pos (by decide), h]
theorem al3C : lineR (4, 0) = .tuple #[.string (bs [99, 97, 116]), .int .i64 0] := by
  have h : lineC (4, 0) = [99, 97, 116] := by decide +kernel
  unfold lineR; rw [if_pos (by decide), h]
theorem al4C : readV [99, 97, 116, 32, 48] = .tuple #[.agg #[.int .u8 0, .int .u8 0], .int .i64 7] := by
  have h : readC [99, 97, 116, 32, 48] = none := by decide +kernel
  unfold readV; rw [h]
set_option maxRecDepth 100000 in
set_option maxHeartbeats 8000000 in
theorem alive12_any (w : World) (hG : GlobC w) : Calls Tryd.prog 8 #[] w fun e w' => e = .returned (.bool true) ∧ Below w.heap.size w w' := by
  have HG := Lib.hid (fun w' (hB : Below w.heap.size w w') => hG.below hB)
  have HPU := Lib.hid (fun (w' : World) => show Calls Tryd.prog 11 #[.agg #[.slice (some ⟨w'.heap.size, 0, none⟩) 1 1, .slice (some ⟨w'.heap.size + 1, 0, none⟩) 1 1]] ((w'.alloc (.cells #[.string ⟨#[97]⟩] 9)).alloc (.cells #[.int .u8 1, .int .u8 0] 39)) fun e w'' => e = .returned (.tuple #[.string (bs [1, 1, 97, 1, 0, 1, 0]), .int .i64 0]) ∧ Below w'.heap.size w' w'' by
    have h1 := litC recS w' [[97]] #[.string ⟨#[97]⟩] rfl 1 rfl (by omega)
    have h2 := litC recIns (w'.alloc (.cells #[.string ⟨#[97]⟩] 9)) [(1, 0)] #[.int .u8 1, .int .u8 0] rfl 1 rfl (by omega)
    rw [size_alV] at h2
    have h := Put_any _ _ [[97]] [(1, 0)] _ (h1.below (b_alloc _ _)) h2 (by decide) (by decide) (by decide)
    rw [al1C] at h
    exact h.mono (fun e w'' h => ⟨h.1, bt (bt (b_alloc _ _) (b_alloc _ _)) h.2⟩))
  have HL1 := Lib.hid (fun w' (hB : Below w.heap.size w w') => show Calls Tryd.prog 17 #[.agg #[.int .u8 2, .int .u8 7]] w' fun e w'' => e = .returned (.tuple #[.string (bs [110, 117, 109, 32, 55]), .int .i64 0]) ∧ Below w'.heap.size w' w'' by
    have h := Line_any (2, 7) w' (hG.below hB)
    rw [al2C] at h
    exact h)
  have HL2 := Lib.hid (fun w' (hB : Below w.heap.size w w') => show Calls Tryd.prog 17 #[.agg #[.int .u8 4, .int .u8 0]] w' fun e w'' => e = .returned (.tuple #[.string (bs [99, 97, 116]), .int .i64 0]) ∧ Below w'.heap.size w' w'' by
    have h := Line_any (4, 0) w' (hG.below hB)
    rw [al3C] at h
    exact h)
  have HRD := Lib.hid (fun w' (hB : Below w.heap.size w w') => show Calls Tryd.prog 18 #[.string ⟨#[99, 97, 116, 32, 48]⟩] w' fun e w'' => e = .returned (.tuple #[.agg #[.int .u8 0, .int .u8 0], .int .i64 7]) ∧ Below w'.heap.size w' w'' by
    have h := Read_any [99, 97, 116, 32, 48] w' (hG.below hB) (by decide)
    rw [al4C] at h
    exact h)
  have HGN := Lib.hid (fun w' => show Calls Tryd.prog 12 #[.string ⟨#[]⟩] w' fun e w'' => e = .returned (.tuple #[.agg #[.slice none 0 0, .slice none 0 0], .int .i64 7]) ∧ Below w'.heap.size w' w'' from
    (Get_nil w').mono (fun e w'' h => ⟨by have := h.1; unfold GetR at this; rw [show getC [] = none from rfl] at this; exact this, h.2⟩))
  have HCK := Lib.hid (fun w' => show Calls Tryd.prog 10 #[.agg #[.slice none 0 0, .slice (some ⟨w'.heap.size, 0, none⟩) 1 1]] (w'.alloc (.cells #[.int .u8 0, .int .u8 0] 39)) fun e w'' => e = .returned (.int .i64 2) ∧ Below w'.heap.size w' w'' by
    have h := CCheck_any (.slice none 0 0) _ [] [(0, 0)] _ (Rec.Own.nil _ 0).row (litC recIns w' [(0, 0)] #[.int .u8 0, .int .u8 0] rfl 1 rfl (by omega)) (by decide) (by decide) (by intro s hs; cases hs)
    rw [if_neg (by decide)] at h
    exact h.mono (fun e w'' h => ⟨h.1, bt (b_alloc _ _) h.2⟩))
  clear hG
  go_enter Tryd.func8, Tryd.ntmps8
  go_wp2_with fail
  refine (HPU.out w).mono ?_
  rintro e w1 ⟨rfl, hB⟩
  have HB1 := Lib.hid hB
  clear hB HPU
  go_wp2_with fail
  refine (HL1.out _ HB1.out).mono ?_
  rintro e w2 ⟨rfl, hB⟩
  have HB2 := Lib.hid (bt HB1.out hB)
  clear hB
  go_wp2_with fail
  refine (HL2.out _ HB2.out).mono ?_
  rintro e w3 ⟨rfl, hB⟩
  have HB3 := Lib.hid (bt HB2.out hB)
  clear hB
  go_wp2_with fail
  refine (HRD.out _ HB3.out).mono ?_
  rintro e w4 ⟨rfl, hB⟩
  have HB4 := Lib.hid (bt HB3.out hB)
  clear hB
  go_wp2_with fail
  refine (HGN.out _).mono ?_
  rintro e w5 ⟨rfl, hB⟩
  have HB5 := Lib.hid (bt (bt HB4.out (b_alloc _ _)) hB)
  clear hB
  go_wp2_with fail
  have hck := HCK.out (w5.alloc (.cells #[.slice none 0 0, .slice none 0 0] 25))
  rw [size_alV] at hck
  refine hck.mono ?_
  rintro e w6 ⟨rfl, hB⟩
  have HB6 := Lib.hid ((bt HB5.out (b_alloc w5 _)).trans (hB.mono (Nat.le_trans HB5.out.size (Nat.le_succ _))))
  clear hB
  go_wp2_with fail
  go_ret
  exact ⟨rfl, HB6.out⟩
end Go.Proofs.YtbcjfppdeapamaaDoor
namespace Go.Proofs.YtbcjfppdeapamaaDoor
open Go.RowKit Oct
attribute [local irreducible] wpG
/-- what Get tells, in one form -/
def GetK (s : List UInt8) (t : List (List UInt8)) (c : List VI) (er : Int) : Prop := (getC s = some (t, c) ∧ er = 0) ∨ (getC s = none ∧ t = [] ∧ c = [] ∧ er = 7)
def GetUR (s : List UInt8) (e : Ending) (w' : World) : Prop :=
  ∃ t c a1 n1 a2 n2 er, e = .returned (.tuple #[.agg #[.slice a1 t.length n1, .slice a2 c.length n2], .int .i64 er]) ∧ GetK s t c er ∧ recS.Row w' (.slice a1 t.length n1) t ∧ recIns.Row w' (.slice a2 c.length n2) c
theorem GetU_any (s : List UInt8) (w : World) (hs : s.length ≤ 10000) : Calls Tryd.prog 12 #[.string (bs s)] w fun e w' => GetUR s e w' ∧ Below w.heap.size w w' := by
  refine (Get_any s w hs).mono ?_
  rintro e w' ⟨hR, hB⟩
  refine ⟨?_, hB⟩
  unfold GetR at hR
  cases hg : getC s with
  | none =>
    rw [hg] at hR
    subst hR
    exact ⟨[], [], none, 0, none, 0, 7, rfl, .inr ⟨hg, rfl, rfl, rfl⟩, Rec.Row.nil _, Rec.Row.nil _⟩
  | some p =>
    obtain ⟨t, c⟩ := p
    rw [hg] at hR
    obtain ⟨tv, cv, rfl, ht, hc⟩ := hR
    obtain ⟨a1, n1, rfl⟩ := owns_slice ht
    obtain ⟨a2, n2, rfl⟩ := owns_slice hc
    exact ⟨t, c, a1, n1, a2, n2, 0, rfl, .inl ⟨hg, rfl⟩, ht.row, hc.row⟩
theorem Get_no {s : List UInt8} (h : getC s = none) (w : World) (hs : s.length ≤ 10000) : Calls Tryd.prog 12 #[.string (bs s)] w fun e w' => e = .returned (.tuple #[.agg #[.slice none 0 0, .slice none 0 0], .int .i64 7]) ∧ Below w.heap.size w w' := by
  refine (Get_any s w hs).mono ?_
  rintro e w' ⟨hR, hB⟩
  unfold GetR at hR
  rw [h] at hR
  exact ⟨hR, hB⟩
def GetYR (t : List (List UInt8)) (c : List VI) (e : Ending) (w' : World) : Prop :=
  ∃ a1 n1 a2 n2, e = .returned (.tuple #[.agg #[.slice a1 t.length n1, .slice a2 c.length n2], .int .i64 0]) ∧ recS.Row w' (.slice a1 t.length n1) t ∧ recIns.Row w' (.slice a2 c.length n2) c
theorem Get_yes {s : List UInt8} {t : List (List UInt8)} {c : List VI} (h : getC s = some (t, c)) (w : World) (hs : s.length ≤ 10000) : Calls Tryd.prog 12 #[.string (bs s)] w fun e w' => GetYR t c e w' ∧ Below w.heap.size w w' := by
  refine (Get_any s w hs).mono ?_
  rintro e w' ⟨hR, hB⟩
  unfold GetR at hR
  rw [h] at hR
  obtain ⟨tv, cv, rfl, ht, hc⟩ := hR
  obtain ⟨a1, n1, rfl⟩ := owns_slice ht
  obtain ⟨a2, n2, rfl⟩ := owns_slice hc
  exact ⟨⟨a1, n1, a2, n2, rfl, ht.row, hc.row⟩, hB⟩
theorem putC_len {t : List (List UInt8)} {c : List VI} (h : mayV t c = true) : 1 ≤ (putC t c).length ∧ (putC t c).length ≤ 1600 := by
  obtain ⟨h1, h2, h3⟩ := mayV_parts h
  have h4 := putTs_len t h3
  have h5 := putIs_len c
  unfold putC
  simp only [List.length_cons, List.length_append]
  omega
theorem same_nil (w : World) : Calls Tryd.prog 14 #[.agg #[.slice none 0 0, .slice none 0 0], .agg #[.slice none 0 0, .slice none 0 0]] w fun e w' => e = .returned (.bool true) ∧ Below w.heap.size w w' :=
  rSameP_any _ _ _ _ [] [] [] [] w (Rec.Row.nil w) (Rec.Row.nil w) (Rec.Row.nil w) (Rec.Row.nil w) (by simp) (by simp)
theorem list_beq_no {l : List UInt8} (h : l ≠ []) : (l == []) = false := by simpa using h
set_option maxRecDepth 100000 in
set_option maxHeartbeats 16000000 in
theorem CodeCuts_any (tpv cpv : Value) (tp : List (List UInt8)) (cp : List VI) (cut : Nat) (more : List UInt8) (w : World) (hp : ProgR w tpv cpv tp cp) (hcut : cut ≤ 65535) (hml : more.length ≤ 140737488355328) (hG : GlobC w) :
    Calls Tryd.prog 6 #[.agg #[tpv, cpv], .int .u16 (cut : Int), .string (bs more)] w fun e w' => e = .returned (.bool true) ∧ Below w.heap.size w w' := by
  obtain ⟨p1, p2, p3, p4, rfl, rfl⟩ := hp.sl
  have HP := Lib.hid (fun w' (hB : Below w.heap.size w w') => hp.below hB)
  obtain ⟨W1, hW1⟩ : ∃ W1, W1 = w.alloc (.cells #[.slice p1 tp.length p2, .slice p3 cp.length p4] 25) := ⟨_, rfl⟩
  have hb1 : Below w.heap.size w W1 := by rw [hW1]; exact b_alloc _ _
  have hx : Blk W1 w.heap.size 25 [.slice p1 tp.length p2, .slice p3 cp.length p4] := by rw [hW1]; exact Blk.new w _ _
  have HX := Lib.hid hx
  have HB1 := Lib.hid hb1
  have x0 := hx.cell (k := 0) rfl
  have x1 := hx.cell (k := 1) rfl
  have HG1 := Lib.hid (hG.below hb1)
  have HAL := Lib.hid (fun w' (hB : Below W1.heap.size W1 w') => alive12_any w' (HG1.out.below hB))
  have HLG := Lib.hid (HP.out _ HB1.out).large
  clear hp hG hb1 hx
  have cm : (more.length : Int) ≤ 140737488355328 := by omega
  by_cases hlp : largeV tp cp = true
  · rw [hlp] at HLG
    clear hlp
    go_enter Tryd.func6, Tryd.ntmps6
    go_upto_region 1 with fail
    rw [← hW1]
    clear hW1
    go_wp2_with (first | (go_at_call 7; refine HLG.out.mono ?_; rintro e w2 ⟨rfl, hB2⟩; have HB2 := Lib.hid hB2; clear hB2) | (go_at_call 8; refine (HAL.out _ HB2.out).mono ?_; rintro e w3 ⟨rfl, hB3⟩; have HB3 := Lib.hid (bt HB2.out hB3); clear hB3))
    go_ret
    exact ⟨rfl, bt HB1.out HB3.out⟩
  · have hlp : largeV tp cp = false := by simpa using hlp
    obtain ⟨b1, b2, b3⟩ := largeV_no hlp
    rw [hlp] at HLG
    by_cases hm1 : more.length ≤ 1024
    · have c0 : ¬ (1024 : Int) < (more.length : Int) := by omega
      have HPT := Lib.hid (fun w' (hB : Below w.heap.size w w') => Put_any _ _ tp cp w' (HP.out _ hB).t (HP.out _ hB).c (by omega) (by omega) (fun s hs => by have := b3 s hs; omega))
      clear hlp b1 b2 b3
      by_cases hmv : mayV tp cp = true
      · obtain ⟨la, lb⟩ := putC_len hmv
        have HMV := Lib.hid hmv
        unfold putR at HPT
        rw [if_pos hmv] at HPT
        clear hmv
        obtain ⟨A, hA⟩ : ∃ A, A = putC tp cp := ⟨_, rfl⟩
        rw [← hA] at HPT la lb
        have HA := Lib.hid hA
        clear hA
        have a0 := list_beq_no (l := A) (by intro e; rw [e] at la; simp at la)
        obtain ⟨m, hm⟩ : ∃ m, m = cut % A.length := ⟨_, rfl⟩
        have hmA : m < A.length := by rw [hm]; exact Nat.mod_lt _ (by omega)
        have hmi : (cut : Int).tmod (A.length : Int) = (m : Int) := by rw [hm, Int.tmod_eq_emod_of_nonneg (by omega)]; rfl
        have HCUT := Lib.hid (fun w' => Get_no (s := A.take m) (by rw [HA.out]; exact getC_cut HMV.out (by rw [← HA.out]; exact hmA)) w' (by rw [List.length_take]; omega))
        have i1 : (0 : Int) ≤ (m : Int) := by omega
        have i2 : (m : Int) ≤ (A.length : Int) := by omega
        have i3 : (A.length : Int) ≤ 1600 := by omega
        have i4 : (1 : Int) ≤ (A.length : Int) := by omega
        have i5 : ¬ (A.length : Int) = 0 := by omega
        clear hm
        go_enter Tryd.func6, Tryd.ntmps6
        go_upto_region 1 with fail
        rw [← hW1]
        clear hW1
        go_upto_region 3 with (go_at_call 7; refine HLG.out.mono ?_; rintro e w2 ⟨rfl, hB2⟩; have HB2 := Lib.hid hB2; have x0 := (HX.out.below hB2).cell (k := 0) rfl; have x1 := (HX.out.below hB2).cell (k := 1) rfl; clear hB2)
        go_upto_region 6 with (go_at_call 11; refine (HPT.out _ (bt HB1.out HB2.out)).mono ?_; rintro e w3 ⟨rfl, hB3⟩; have HB3 := Lib.hid (bt HB2.out hB3); clear hB3)
        clear x0 x1
        go_upto_region 7 with (go_at_call 12; refine (HCUT.out _).mono ?_; rintro e w4 ⟨rfl, hB4⟩; have HB4 := Lib.hid (bt HB3.out hB4); clear hB4)
        obtain ⟨W5, hW5⟩ : ∃ W, W = w4.alloc (.cells #[.slice none 0 0, .slice none 0 0] 25) := ⟨_, rfl⟩
        have hb5 : Below w4.heap.size w4 W5 := by rw [hW5]; exact b_alloc _ _
        have hy : Blk W5 w4.heap.size 25 [.slice none 0 0, .slice none 0 0] := by rw [hW5]; exact Blk.new w4 _ _
        rw [← hW5]
        obtain ⟨D, hD⟩ : ∃ D, D = w4.heap.size := ⟨_, rfl⟩
        rw [← hD] at hy ⊢
        have HY := Lib.hid hy
        have HB5 := Lib.hid (bt HB4.out hb5)
        clear hy hb5 hW5 hD
        by_cases hne : more = []
        · subst hne
          have HGM := Lib.hid (fun w' => Get_yes (s := A) (by rw [HA.out]; exact getC_put HMV.out) w' (by omega))
          go_upto_region 8 with (go_at_call 12; refine (HGM.out _).mono ?_; rintro e w6 ⟨⟨a1, n1, a2, n2, rfl, -, -⟩, hB6⟩; have HB6 := Lib.hid (bt HB5.out hB6); have HY6 := Lib.hid (HY.out.below hB6); clear hB6)
          obtain ⟨W7, hW7⟩ : ∃ W, W = w6.alloc (.cells #[.slice a1 tp.length n1, .slice a2 cp.length n2] 25) := ⟨_, rfl⟩
          have hb7 : Below w6.heap.size w6 W7 := by rw [hW7]; exact b_alloc _ _
          rw [← hW7]
          obtain ⟨E, hE⟩ : ∃ E, E = w6.heap.size := ⟨_, rfl⟩
          rw [← hE]
          have HB7 := Lib.hid (bt HB6.out hb7)
          have y0 := (HY6.out.below hb7).cell (k := 0) rfl
          have y1 := (HY6.out.below hb7).cell (k := 1) rfl
          clear hb7 hW7 hE
          go_wp2_with (first | (go_at_call 14; refine (same_nil _).mono ?_; rintro e w8 ⟨rfl, hB8⟩; have HB8 := Lib.hid (bt HB7.out hB8); clear hB8) | (go_at_call 8; refine (HAL.out _ HB8.out).mono ?_; rintro e w9 ⟨rfl, hB9⟩; have HB9 := Lib.hid (bt HB8.out hB9); clear hB9))
          go_ret
          exact ⟨rfl, bt HB1.out HB9.out⟩
        · have HGM := Lib.hid (fun w' => Get_no (s := A ++ more) (by rw [HA.out]; exact getC_more HMV.out hne) w' (by rw [List.length_append]; omega))
          have z0 := list_beq_no hne
          have i6 : A.length + more.length ≤ 9223372036854775807 := by omega
          clear hne
          go_upto_region 8 with (go_at_call 12; refine (HGM.out _).mono ?_; rintro e w6 ⟨rfl, hB6⟩; have HB6 := Lib.hid (bt HB5.out hB6); have HY6 := Lib.hid (HY.out.below hB6); clear hB6)
          obtain ⟨W7, hW7⟩ : ∃ W, W = w6.alloc (.cells #[.slice none 0 0, .slice none 0 0] 25) := ⟨_, rfl⟩
          have hb7 : Below w6.heap.size w6 W7 := by rw [hW7]; exact b_alloc _ _
          have hz : Blk W7 w6.heap.size 25 [.slice none 0 0, .slice none 0 0] := by rw [hW7]; exact Blk.new w6 _ _
          rw [← hW7]
          obtain ⟨E, hE⟩ : ∃ E, E = w6.heap.size := ⟨_, rfl⟩
          rw [← hE] at hz ⊢
          have HB7 := Lib.hid (bt HB6.out hb7)
          have HZ := Lib.hid hz
          have y0 := (HY6.out.below hb7).cell (k := 0) rfl
          have y1 := (HY6.out.below hb7).cell (k := 1) rfl
          clear hb7 hW7 hE hz
          have z1 := HZ.out.cell (k := 0) rfl
          have z2 := HZ.out.cell (k := 1) rfl
          go_wp2_with (first | (go_at_call 14; refine (same_nil _).mono ?_; rintro e w8 ⟨rfl, hB8⟩; have HZ := Lib.hid (HZ.out.below hB8); have z1 := HZ.out.cell (k := 0) rfl; have z2 := HZ.out.cell (k := 1) rfl; have HB7 := Lib.hid (bt HB7.out hB8); clear hB8) | (go_at_call 8; refine (HAL.out _ HB7.out).mono ?_; rintro e w9 ⟨rfl, hB9⟩; have HB9 := Lib.hid (bt HB7.out hB9); clear hB9))
          go_ret
          exact ⟨rfl, bt HB1.out HB9.out⟩
      · unfold putR at HPT
        rw [if_neg hmv] at HPT
        clear hmv
        go_enter Tryd.func6, Tryd.ntmps6
        go_upto_region 1 with fail
        rw [← hW1]
        clear hW1
        go_upto_region 3 with (go_at_call 7; refine HLG.out.mono ?_; rintro e w2 ⟨rfl, hB2⟩; have HB2 := Lib.hid hB2; have x0 := (HX.out.below hB2).cell (k := 0) rfl; have x1 := (HX.out.below hB2).cell (k := 1) rfl; clear hB2)
        go_wp2_with (first | (go_at_call 11; refine (HPT.out _ (bt HB1.out HB2.out)).mono ?_; rintro e w3 ⟨rfl, hB3⟩; have HB3 := Lib.hid (bt HB2.out hB3); clear hB3) | (go_at_call 8; refine (HAL.out _ HB3.out).mono ?_; rintro e w4 ⟨rfl, hB4⟩; have HB4 := Lib.hid (bt HB3.out hB4); clear hB4))
        go_ret
        exact ⟨rfl, bt HB1.out HB4.out⟩
    · have c0 : (1024 : Int) < (more.length : Int) := by omega
      clear hlp b1 b2 b3 hm1
      go_enter Tryd.func6, Tryd.ntmps6
      go_upto_region 1 with fail
      rw [← hW1]
      clear hW1
      go_wp2_with (first | (go_at_call 7; refine HLG.out.mono ?_; rintro e w2 ⟨rfl, hB2⟩; have HB2 := Lib.hid hB2; clear hB2) | (go_at_call 8; refine (HAL.out _ HB2.out).mono ?_; rintro e w3 ⟨rfl, hB3⟩; have HB3 := Lib.hid (bt HB2.out hB3); clear hB3))
      go_ret
      exact ⟨rfl, bt HB1.out HB3.out⟩
end Go.Proofs.YtbcjfppdeapamaaDoor
namespace Go.Proofs.YtbcjfppdeapamaaDoor
open Go.RowKit Oct
attribute [local irreducible] wpG
theorem ins_store {w : World} {b : Nat} {t : TypeId} {a0 a1 : Value} (hx : Blk w b t [a0, a1]) (v0 v1 : Value) :
    Blk ((w.setCell ⟨b, 0, none⟩ v0).setCell ⟨b, 1, none⟩ v1) b t [v0, v1] ∧ Chg (fun x => x = b) w ((w.setCell ⟨b, 0, none⟩ v0).setCell ⟨b, 1, none⟩ v1) :=
  ⟨(hx.set 0 v0).set 1 v1, Chg.set1R.trans Chg.set1R⟩
set_option maxRecDepth 100000 in
/-- append(s, x..) of a literal, in a drawn region -/
theorem Rec.step_appendLV {α : Type} {ops : Array Oper} {o : Oper} {a : Act} {K : Act → World → Prop} {Q : Exit → Act → World → Prop} {E : Prop} (R : Rec α) (wr : World) (ys : List α) (hgd : o.guard = none) (s x : Operand) (t : TypeId)
    (ho : o.op = .call { callee := .builtin .append, args := #[s, x], argTypes := #[t, t] }) (ht : Tryd.prog.underlying t = some (.slice R.e))
    (base : Nat) (v : Value) (xs : List α) (hs : a.eval s = v) (hown : R.Own wr base v xs) (n c : Nat) (hn : n = ys.length) (hx : a.eval x = .slice (some ⟨wr.heap.size, 0, none⟩) n c)
    (cs : Array Value) (hcs : cs = (R.cells ys).toArray) (e : TypeId) (he : e = R.e) (hpos : 0 < ys.length)
    (hbytes : (xs.length + ys.length) * R.bytes ≤ 140737488355328) (hbase : base ≤ wr.heap.size)
    (h : ∀ g cap w', R.Own w' base (.slice (some ⟨g, 0, none⟩) (xs.length + ys.length) cap) (xs ++ ys) → Chg (fun k => v.ownBlock = some k) wr w' → (v.ownBlock = some g ∨ wr.heap.size ≤ g) → K (a.put o.dst (.slice (some ⟨g, 0, none⟩) (xs.length + ys.length) cap)) w') :
    if Region.wanted o (yielded ops a.tmps) = true then Oper.wp Tryd.prog o a (wr.alloc (.cells cs e)) K Q else E := by
  subst hcs he hn
  obtain ⟨i, hi, hz, hi1, hi2⟩ := info_parts R.info
  have hn : xs.length + ys.length ≤ (xs.length + ys.length) * R.bytes := Nat.le_mul_of_pos_right _ R.bpos
  refine step_append_lies _ hgd s x t ho base R.e i R.z R.n R.bytes ht hi hz hi1 hi2 R.zs R.pos v xs.length (R.cells xs) hs (World.ownsRow.alloc hown _) ⟨wr.heap.size, 0, none⟩ ys.length c (R.cells ys) hx (R.cells_length ys) ?_ (R.cells_one ys) hpos (by unfold maxLen; omega) hbytes (by simp; omega) _ rfl ?_
  · intro j u hj
    have : j < (R.cells ys).length := by
      rcases Nat.lt_or_ge j (R.cells ys).length with h | h
      · exact h
      · simp [List.getElem?_eq_none h] at hj
    rw [Addr.add_lit, Nat.zero_add, World.cell?_alloc_new]
    simpa using hj
  · intro g cap w' h2 h3 h4 h5
    have hB : Below base wr w' := ((Below.refl base wr).alloc hbase _).grown h3 (by simp; omega) (fun k hk => (Rec.Own.ltV hown k hk).1)
    refine h g cap w' ?_ ⟨hB.os, hB.tape, hB.output, hB.size, fun j hj hne => ?_⟩ ?_
    · unfold Rec.Own; rw [R.cells_append, List.length_append]; exact h2
    · rw [h3.block j (by simp; omega) (fun e => hne e.symm)]
      exact Below.heap_alloc _ _ _ hj
    · rcases h4 with h4 | h4
      · exact .inl h4
      · exact .inr (by simp at h4; omega)
set_option maxRecDepth 100000 in
set_option maxHeartbeats 16000000 in
theorem rPut_any (tv cv : Value) (texts : List (List UInt8)) (code : List VI) (w : World) (ht : recS.Row w tv texts) (hc : recIns.Row w cv code) (hmv : mayV texts code = true) :
    Calls Tryd.prog 16 #[.agg #[tv, cv]] w fun e w' => e = .returned (.string (bs (putC texts code))) ∧ Below w.heap.size w w' := by
  obtain ⟨at_, ct, rfl, -, hct⟩ := recS_open ht
  obtain ⟨ac, cc, rfl, -, hcc⟩ := recIns_open hc
  have HCT := Lib.hid hct
  have HCC := Lib.hid hcc
  obtain ⟨W1, hW1⟩ : ∃ W1, W1 = w.alloc (.cells #[.slice at_ texts.length ct, .slice ac code.length cc] 25) := ⟨_, rfl⟩
  have hb1 : Below w.heap.size w W1 := by rw [hW1]; exact b_alloc _ _
  have hx : Blk W1 w.heap.size 25 [.slice at_ texts.length ct, .slice ac code.length cc] := by rw [hW1]; exact Blk.new w _ _
  have HB1 := Lib.hid hb1
  have HX := Lib.hid hx
  obtain ⟨h16, h256, h64⟩ := mayV_parts hmv
  have H64 := Lib.hid h64
  clear ht hc hct hcc hb1 hx hmv h64
  go_enter Tryd.func16, Tryd.ntmps16
  go_upto_region 1 with fail
  rw [← hW1]
  clear hW1
  have x0 := HX.out.cell (k := 0) rfl
  obtain ⟨q1, q2, q3⟩ := b8_len (n := texts.length) (by omega)
  go_upto_region 2 with fail
  obtain ⟨w3, hw3⟩ : ∃ w3, w3 = W1.alloc (.cells #[.int .u8 (texts.length : Int)] 5) := ⟨_, rfl⟩
  have hb3 : Below W1.heap.size W1 w3 := by rw [hw3]; exact b_alloc _ _
  have ho3 : recB.Own w3 W1.heap.size (.slice (some ⟨W1.heap.size, 0, none⟩) 1 1) [b8 texts.length] := by
    have h := recB_own W1 [b8 texts.length] (by simp)
    rw [show recB.cells [b8 texts.length] = [.int .u8 (texts.length : Int)] from by show [Value.int .u8 ((b8 texts.length).toNat : Int)] = _; rw [q1]] at h
    rw [hw3]; exact h
  rw [← hw3]
  have HO3 := Lib.hid ho3
  have HC3 := Lib.hid hb3
  have hsz : W1.heap.size ≤ w3.heap.size := hb3.size
  have hsz0 : w.heap.size < W1.heap.size := HX.out.lt
  clear hw3 hb3 ho3 q1 q2 q3 x0
  go_wp2_with fail
  go_loopw [3, 4] (fun vb vi wr => ∃ (k : Nat) (A : Option Addr) (C : Nat) (l : List UInt8), vb = .slice A l.length C ∧ vi = .int .i64 (k : Int) ∧ k ≤ texts.length ∧ l.length ≤ 1 + 65 * k ∧ Hid (l = b8 texts.length :: putTs (texts.take k)) ∧ Hid (recB.Own wr W1.heap.size (.slice A l.length C) l) ∧ Hid (Below W1.heap.size W1 wr)) (fun _ vi _ => texts.length - (intOf vi).toNat)
  case atStart => exact ⟨0, _, _, [b8 texts.length], rfl, rfl, Nat.zero_le _, by simp, by unfold Hid; simp [putTs], HO3.out, HC3.out⟩
  case round =>
    obtain ⟨k, A, C, l, rfl, rfl, hk, hl, HL, HO, HB⟩ := hrel
    have hbw : W1.heap.size ≤ wr.heap.size := HB.out.size
    have x0 := (HX.out.below HB.out).cell (k := 0) rfl
    by_cases h0 : k < texts.length
    · obtain ⟨b, off, rfl, d0⟩ := HCT.out k h0
      have D0 := Lib.hid (fun w' (hB : Below W1.heap.size W1 w') => Below.keeps (bt HB1.out hB) d0)
      clear d0
      have d0 := D0.out _ HB.out
      have kk0 : (0 : Int) ≤ (k : Int) := by omega
      have kk1 : (k : Int) < (texts.length : Int) := by omega
      have ht64 := H64.out texts[k] (List.getElem_mem h0)
      obtain ⟨q1, q2, q3⟩ := b8_len (n := texts[k].length) (by omega)
      have HT := Lib.hid (putTs_take h0)
      clear q1
      go_wp2_with (first | (at_builtin; refine recB.append1V _ (b8 texts[k].length) rfl _ _ 52 rfl Tryd.underlying52 W1.heap.size _ l (HO.out.below (b_alloc _ _)) rfl _ rfl (recB_one wr (by omega) _) (by show (l.length + 1) * 1 ≤ _; omega) (Nat.le_trans hbw (b_alloc _ _).size) ?_; intro g gc wn hon hcn _; have HN := Lib.hid (And.intro hon (And.intro hcn ((HB.out.trans ((b_alloc wr (.cells #[.int .u8 (texts[k].length : Int)] 5)).mono hbw)).trans (hcn.below (fun j hj => (Rec.Own.ltV HO.out j hj).1) (Nat.le_trans hbw (b_alloc _ _).size))))); have x0 := (HX.out.below HN.out.2.2).cell (k := 0) rfl; have d0 := D0.out _ HN.out.2.2; clear hon hcn) | (at_builtin; refine appendS _ rfl _ _ 52 9 rfl Tryd.underlying52 Tryd.underlying9 W1.heap.size _ (l ++ [b8 texts[k].length]) HN.out.1 rfl texts[k] rfl (by rw [List.length_append, List.length_singleton]; omega) HN.out.2.2.size ?_; intro A2 C2 wm hom hcm; have HM := Lib.hid (And.intro hom (HN.out.2.2.trans (hcm.below (fun j hj => (Rec.Own.ltV HN.out.1 j hj).1) HN.out.2.2.size))); clear hom hcm))
      refine ⟨⟨k + 1, A2, C2, (l ++ [b8 texts[k].length]) ++ texts[k], ?_, by go_num, by omega, ?_, ?_, ?_, HM.out.2⟩, by simp [intOf]; omega⟩
      · rw [List.length_append, List.length_append, List.length_singleton]
      · rw [List.length_append, List.length_append, List.length_singleton]; omega
      · unfold Hid
        rw [HT.out, HL.out, List.append_assoc]
        rfl
      · have := HM.out.1
        rw [← List.length_append] at this
        exact this
    · obtain rfl : k = texts.length := by omega
      have hl2 := HL.out
      rw [List.take_length] at hl2
      have HL2 := Lib.hid hl2
      have x1 := (HX.out.below HB.out).cell (k := 1) rfl
      have e0 : ¬ (texts.length : Int) < (texts.length : Int) := by omega
      have hl3 : l.length ≤ 1041 := by omega
      have lc1 : (code.length : Int) ≤ 256 := by omega
      clear hl2 h0 HL
      go_upto_region 8 with (at_builtin; refine recB.appendNV _ rfl _ _ 52 rfl Tryd.underlying52 W1.heap.size _ l (HO.out.below (b_alloc _ _)) rfl _ [b8 code.length, b8 (code.length / 256)] (recB_pair wr (by omega) _) rfl (by show (l.length + 2) * 1 ≤ _; omega) (Nat.le_trans hbw (b_alloc _ _).size) ?_; intro A3 C3 wn hon hcn; have HN := Lib.hid (And.intro hon ((HB.out.trans ((b_alloc wr (.cells #[.int .u8 ((code.length : Int) % 256), .int .u8 ((code.length : Int) / 256)] 5)).mono hbw)).trans (hcn.below (fun j hj => (Rec.Own.ltV HO.out j hj).1) (Nat.le_trans hbw (b_alloc _ _).size)))); clear hon hcn)
      obtain ⟨l2, hl2⟩ : ∃ l2, l2 = l ++ [b8 code.length, b8 (code.length / 256)] := ⟨_, rfl⟩
      have hlen2 : l2.length = l.length + 2 := by rw [hl2, List.length_append]; rfl
      rw [← hl2] at HN
      rw [← hlen2]
      have hl2l : l2.length ≤ 1043 := by rw [hl2, List.length_append]; simp; omega
      have HLL := Lib.hid (show l2 = b8 texts.length :: (putTs texts ++ [b8 code.length, b8 (code.length / 256)]) by rw [hl2, HL2.out]; rfl)
      have HN1 := Lib.hid HN.out.1
      have HN2 := Lib.hid HN.out.2
      clear hl2 hlen2 HN HO HB hbw hl hl3 HL2 e0 x0 x1
      go_wp2_with fail
      go_loopw [3, 5] (fun vb vi wr => ∃ (k : Nat) (A : Option Addr) (C : Nat) (l : List UInt8), vb = .slice A l.length C ∧ vi = .int .i64 (k : Int) ∧ k ≤ code.length ∧ l.length ≤ 1043 + 2 * k ∧ Hid (l = l2 ++ putIs (code.take k)) ∧ Hid (recB.Own wr W1.heap.size (.slice A l.length C) l) ∧ Hid (Below W1.heap.size W1 wr)) (fun _ vi _ => code.length - (intOf vi).toNat)
      case atStart => exact ⟨0, _, _, l2, rfl, rfl, Nat.zero_le _, by omega, by unfold Hid; simp [putIs], HN1.out, HN2.out⟩
      case round =>
        obtain ⟨k, A, C, l, rfl, rfl, hk, hl, HL, HO, HB⟩ := hrel
        have hbw : W1.heap.size ≤ wr.heap.size := HB.out.size
        have x1 := (HX.out.below HB.out).cell (k := 1) rfl
        have lx1 : w.heap.size < wr.heap.size := by omega
        by_cases h0 : k < code.length
        · obtain ⟨b, off, rfl, d0, d1⟩ := HCC.out k h0
          have d0 := Below.keeps (bt HB1.out HB.out) d0
          have d1 := Below.keeps (bt HB1.out HB.out) d1
          have lb := lt_of_cell d0
          have kk0 : (0 : Int) ≤ (k : Int) := by omega
          have kk1 : (k : Int) < (code.length : Int) := by omega
          have HT := Lib.hid (putIs_take h0)
          have HOD := Lib.hid (HO.out.below (b_drew wr))
          have hbd : W1.heap.size ≤ wr.drew.heap.size := Nat.le_trans hbw (b_drew wr).size
          have HBD := Lib.hid (HB.out.trans ((b_drew wr).mono hbw))
          go_upto_region 11 with fail
          go_region_law (refine recB.step_appendLV wr.drew [code[k].1, code[k].2] rfl _ _ 52 rfl Tryd.underlying52 W1.heap.size (.slice A l.length C) l rfl HOD.out _ _ rfl rfl _ rfl _ rfl (by simp) (by show (l.length + 2) * 1 ≤ _; omega) hbd ?_; intro g gc wn hon hcn _; have HN := Lib.hid (And.intro hon (HBD.out.trans (hcn.below (fun j hj => (Rec.Own.ltV HOD.out j hj).1) hbd))); clear hon hcn)
          all_goals
            (try dsimp only)
            (try go_frame)
            go_wp2
            refine ⟨⟨k + 1, some ⟨g, 0, none⟩, gc, l ++ [code[k].1, code[k].2], ?_, by go_num, by omega, ?_, ?_, ?_, HN.out.2⟩, by simp [intOf]; omega⟩
            · rw [List.length_append]; rfl
            · rw [List.length_append]; simp; omega
            · unfold Hid
              rw [HT.out, HL.out, List.append_assoc]
            · have := HN.out.1
              rw [← List.length_append] at this
              exact this
        · obtain rfl : k = code.length := by omega
          have hcv := recB_conv HO.out
          have hfl := HL.out
          rw [List.take_length, HLL.out] at hfl
          have HF := Lib.hid (show l = putC texts code by rw [hfl]; unfold putC; simp)
          have e0 : ¬ (code.length : Int) < (code.length : Int) := by omega
          clear hfl h0
          go_wp2_with fail
          go_ret
          exact ⟨by rw [← HF.out]; rfl, bt HB1.out HB.out⟩
end Go.Proofs.YtbcjfppdeapamaaDoor
