/- Lemmas for TreeTells, part 8: walks of the functions that it reaches, and the plain laws behind them. -/
import Derived.Test.YtahmacnmphjhgaaTreeTellsK7
set_option linter.unusedSimpArgs false
set_option linter.unusedVariables false
namespace Go.Proofs.Ytahmacnmphjhgaa
open Go.RowKit Oct

theorem ints_eq {a b : List Int} (hl : a.length = b.length) (h : ∀ j (h : j < a.length) (h' : j < b.length), a[j] = b[j]) : a = b := List.ext_getElem hl fun j h1 h2 => h j h1 h2
theorem ints_ne {a b : List Int} (k : Nat) (h : k < a.length) (h' : k < b.length) (hne : a[k] ≠ b[k]) : a ≠ b := by rintro rfl; exact hne rfl

set_option maxRecDepth 100000 in
set_option maxHeartbeats 2000000 in
theorem EqualI_any (va vb : Value) (a b : List Int) (w : World) (ha : recI.Row w va a) (hb : recI.Row w vb b) (hla : a.length ≤ 140737488355328) (hlb : b.length ≤ 140737488355328) :
    Calls Try.prog 58 #[va, vb] w fun e w' => e = .returned (.bool (decide (a = b))) ∧ Below w.heap.size w w' := by
  obtain ⟨aa, ca, rfl, _, hca⟩ := recI_open ha
  obtain ⟨ab, cb, rfl, _, hcb⟩ := recI_open hb
  have HCA := Lib.hid hca
  have HCB := Lib.hid hcb
  clear hca hcb ha hb
  by_cases hl : a.length = b.length
  · have hL := Lib.hid hl
    have t1 : ((a.length : Int) != (b.length : Int)) = false := by rw [bne_eq_false_iff_eq]; omega
    clear hl
    go_enter Try.func58, Try.ntmps58
    go_wp2
    go_loopw [13] (fun i wr => ∃ k : Nat, k ≤ a.length ∧ i = .int .i64 k ∧ Hid (∀ j (h : j < a.length) (h' : j < b.length), j < k → a[j] = b[j]) ∧ Below w.heap.size w wr) (fun i _ => a.length - (intOf i).toNat)
    case atStart => exact ⟨0, by omega, rfl, by intro j _ _ h; omega, Below.refl _ _⟩
    case round =>
      obtain ⟨k, hk, rfl, hH, hB⟩ := hrel
      by_cases h0 : k < a.length
      · have h0b : k < b.length := by have := hL.out; omega
        obtain ⟨b1, o1, rfl, hc1⟩ := HCA.out k h0
        obtain ⟨b2, o2, rfl, hc2⟩ := HCB.out k h0b
        have hd1 := Below.keeps hB hc1
        have hd2 := Below.keeps hB hc2
        have kk0 : (0 : Int) ≤ (k : Int) := by omega
        have kk1 : (k : Int) < (a.length : Int) := by omega
        have kk2 : (k : Int) < (b.length : Int) := by omega
        by_cases he : a[k] = b[k]
        · have he2 : (a[k] != b[k]) = false := by simp [he]
          have HE := Lib.hid he
          clear he
          go_wp2
          go_quiet (fail)
          go_wp2
          go_roundw
          case rel =>
            refine ⟨k + 1, by omega, by go_num, ?_, bt hB (Below.drewN' _ _)⟩
            intro j h h' hj
            by_cases hjk : j = k
            · subst hjk; exact HE.out
            · exact hH.out j h h' (by omega)
          case measure => simp [intOf]; omega
        · have he2 : (a[k] != b[k]) = true := by simp [he]
          have HE := Lib.hid he
          clear he
          go_wp2
          go_quiet (fail)
          go_wp2
          go_ret
          exact ⟨by rw [decide_eq_false (ints_ne k h0 h0b HE.out)]; rfl, bt hB (Below.drewN' _ _)⟩
      · obtain rfl : k = a.length := by omega
        have HF := Lib.hid (ints_eq hL.out fun j h h' => hH.out j h h' h)
        go_wp2
        go_ret
        exact ⟨by rw [decide_eq_true HF.out]; rfl, hB⟩
  · have t1 : ((a.length : Int) != (b.length : Int)) = true := by rw [bne_iff_ne]; omega
    have HL := Lib.hid hl
    clear hl
    go_enter Try.func58, Try.ntmps58
    go_wp2
    go_ret
    exact ⟨by rw [decide_eq_false (fun e => HL.out (by rw [e]))]; rfl, Below.refl _ _⟩

set_option maxRecDepth 100000 in
set_option maxHeartbeats 2000000 in
theorem same1_any (s t : List UInt8) (a1 : Option Addr) (n1 c1 : Nat) (a2 : Option Addr) (n2 c2 : Nat) (k1 k2 : List Int) (w : World) (h1 : recI.Row w (.slice a1 n1 c1) k1) (h2 : recI.Row w (.slice a2 n2 c2) k2) (hl1 : k1.length ≤ 140737488355328) (hl2 : k2.length ≤ 140737488355328) :
    Calls Try.prog 57 #[.agg #[.string (bs s), .slice a1 n1 c1], .agg #[.string (bs t), .slice a2 n2 c2]] w fun e w' => e = .returned (.bool (decide ((s, k1) = (t, k2)))) ∧ Below w.heap.size w w' := by
  have HE := Lib.hid (fun w' hB => EqualI_any _ _ k1 k2 w' (h1.below hB) (h2.below hB) hl1 hl2)
  clear h1 h2
  by_cases hst : s = t
  · have e1 : (s == t) = true := by simp [hst]
    have HST := Lib.hid hst
    clear hst
    go_enter Try.func57, Try.ntmps57
    go_wp2_with fail
    refine (HE.out _ (bt (b_alloc _ _) (b_alloc _ _))).mono ?_
    rintro e w1 ⟨rfl, hB1⟩
    go_wp2_with fail
    go_ret
    refine ⟨?_, bt (bt (b_alloc _ _) (b_alloc _ _)) hB1⟩
    have := HST.out
    subst this
    simp
  · have e1 : (s == t) = false := by simp [hst]
    have HST := Lib.hid hst
    clear hst
    go_enter Try.func57, Try.ntmps57
    go_wp2_with fail
    go_ret
    refine ⟨?_, bt (b_alloc _ _) (b_alloc _ _)⟩
    rw [decide_eq_false (fun e => HST.out (by injection e))]
    rfl

theorem nds_eq {a b : List Nd} (hl : a.length = b.length) (h : ∀ j (h : j < a.length) (h' : j < b.length), a[j] = b[j]) : a = b := List.ext_getElem hl fun j h1 h2 => h j h1 h2
theorem nds_ne {a b : List Nd} (k : Nat) (h : k < a.length) (h' : k < b.length) (hne : a[k] ≠ b[k]) : a ≠ b := by rintro rfl; exact hne rfl
set_option maxRecDepth 100000 in
set_option maxHeartbeats 2000000 in
theorem EqualN_any (va vb : Value) (a b : List Nd) (w : World) (ha : NR w va a) (hb : NR w vb b) (hla : a.length ≤ 1000000) (hlb : b.length ≤ 1000000) (hka : ∀ x ∈ a, x.2.length ≤ 140737488355328) (hkb : ∀ x ∈ b, x.2.length ≤ 140737488355328) :
    Calls Try.prog 59 #[va, vb, .func (.func 57) #[] #[]] w fun e w' => e = .returned (.bool (decide (a = b))) ∧ Below w.heap.size w w' := by
  obtain ⟨aa, ca, rfl, _, hca⟩ := NR_open ha
  obtain ⟨ab, cb, rfl, _, hcb⟩ := NR_open hb
  have HCA := Lib.hid hca
  have HCB := Lib.hid hcb
  have HKA := Lib.hid hka
  have HKB := Lib.hid hkb
  clear hca hcb ha hb hka hkb
  by_cases hl : a.length = b.length
  · have hL := Lib.hid hl
    have t1 : ((a.length : Int) != (b.length : Int)) = false := by rw [bne_eq_false_iff_eq]; omega
    clear hl
    go_enter Try.func59, Try.ntmps59
    go_wp2
    go_loopw [17] (fun i wr => ∃ k : Nat, k ≤ a.length ∧ i = .int .i64 k ∧ Hid (∀ j (h : j < a.length) (h' : j < b.length), j < k → a[j] = b[j]) ∧ Hid (Below w.heap.size w wr)) (fun i _ => a.length - (intOf i).toNat)
    case atStart => exact ⟨0, by omega, rfl, by intro j _ _ h; omega, Below.refl _ _⟩
    case round =>
      obtain ⟨k, hk, rfl, hH, hB⟩ := hrel
      by_cases h0 : k < a.length
      · have h0b : k < b.length := by have := hL.out; omega
        obtain ⟨b1, o1, ak1, nk1, ck1, rfl, hc1, hc2, hr1⟩ := HCA.out k h0
        obtain ⟨b2, o2, ak2, nk2, ck2, rfl, hc3, hc4, hr2⟩ := HCB.out k h0b
        have hd1 := Below.keeps hB.out hc1
        have hd2 := Below.keeps hB.out hc2
        have hba := b_alloc wr (.cells #[.string (bs a[k].1), .slice ak1 nk1 ck1] 51)
        have hd3 := Below.keeps hba (Below.keeps hB.out hc3)
        have hd4 := Below.keeps hba (Below.keeps hB.out hc4)
        have kk0 : (0 : Int) ≤ (k : Int) := by omega
        have kk1 : (k : Int) < (a.length : Int) := by omega
        have kk2 : (k : Int) < (b.length : Int) := by omega
        have kk3 : (a.length : Int) ≤ 1000000 := by omega
        have HR1 := Lib.hid hr1
        have HR2 := Lib.hid hr2
        clear hc1 hc2 hc3 hc4 hr1 hr2 hba
        go_wp2_with fail
        have hbb := bt hB.out (bt (b_alloc wr (.cells #[.string (bs a[k].1), .slice ak1 nk1 ck1] 51)) (b_alloc _ (.cells #[.string (bs b[k].1), .slice ak2 nk2 ck2] 51)))
        refine (same1_any a[k].1 b[k].1 ak1 nk1 ck1 ak2 nk2 ck2 a[k].2 b[k].2 _ (HR1.out.below hbb) (HR2.out.below hbb) (HKA.out _ (List.getElem_mem h0)) (HKB.out _ (List.getElem_mem h0b))).mono ?_
        rintro e w1 ⟨rfl, hB1⟩
        have HB1 := Lib.hid (bt hbb hB1)
        have HQ := Lib.hid (show decide ((a[k].1, a[k].2) = (b[k].1, b[k].2)) = decide (a[k] = b[k]) from rfl)
        rw [HQ.out]
        clear hbb hB1 hd1 hd2 hd3 hd4
        by_cases he : a[k] = b[k]
        · have HE := Lib.hid he
          have hdq : decide (a[k] = b[k]) = true := decide_eq_true he
          rw [hdq]
          clear he hdq
          go_wp2
          go_roundw
          case rel =>
            refine ⟨k + 1, by omega, by go_num, ?_, HB1.out⟩
            intro j h h' hj
            by_cases hjk : j = k
            · subst hjk; exact HE.out
            · exact hH.out j h h' (by omega)
          case measure => simp [intOf]; omega
        · have HE := Lib.hid he
          have hdq : decide (a[k] = b[k]) = false := decide_eq_false he
          rw [hdq]
          clear he hdq
          go_wp2
          go_ret
          exact ⟨by rw [decide_eq_false (nds_ne k h0 h0b HE.out)]; rfl, HB1.out⟩
      · obtain rfl : k = a.length := by omega
        have HF := Lib.hid (nds_eq hL.out fun j h h' => hH.out j h h' h)
        go_wp2
        go_ret
        exact ⟨by rw [decide_eq_true HF.out]; rfl, hB.out⟩
  · have t1 : ((a.length : Int) != (b.length : Int)) = true := by rw [bne_iff_ne]; omega
    have HL := Lib.hid hl
    clear hl
    go_enter Try.func59, Try.ntmps59
    go_wp2
    go_ret
    exact ⟨by rw [decide_eq_false (fun e => HL.out (by rw [e]))]; rfl, Below.refl _ _⟩

theorem size_al (w : World) (o : Obj) : (w.alloc o).heap.size = w.heap.size + 1 := by simp
/-- the first n identities -/
def leafIds (nodes : List Nd) (n : Nat) : List (List UInt8) := (nodes.take n).map (·.1)
/-- may a tree be? -/
def checkF (nodes : List Nd) (n0 : Int) : Bool := decide (0 ≤ n0) && decide (n0 ≤ (nodes.length : Int)) && decide (n0 ≤ 4096) && allIds (leafIds nodes n0.toNat) && decide (buildF (leafIds nodes n0.toNat) = nodes)
/-- Check's answer -/
def chkV : Bool → Int
  | true => 0
  | false => 7
theorem recN_of {w : World} {v : Value} {nodes : List Nd} (h : NR w v nodes) : ∃ raw, recN.Row w v raw ∧ raw.length = nodes.length ∧ ∀ i (h : i < raw.length) (h' : i < nodes.length), raw[i].1 = nodes[i].1 ∧ recI.Row w (.slice raw[i].2.1 raw[i].2.2.1 raw[i].2.2.2) nodes[i].2 := h
/-- t.Nodes[:n], run -/
theorem NR.headRun {w : World} {a : Option Addr} {cap : Nat} {nodes : List Nd} (h : NR w (.slice a nodes.length cap) nodes) (k : Nat) (c : Int) (hc : c = (k : Int)) (hk : k ≤ nodes.length) :
    ∃ A C, (∀ wx, (Instr.slice 42 (.slice a nodes.length cap) none (some (.int .i64 c)) none).run Try.prog wx = .ok (.slice A k C) wx) ∧ NR w (.slice A k C) (nodes.take k) := by
  obtain ⟨raw, h1, h2, h3⟩ := h
  rw [← h2] at h1
  obtain ⟨A, C, hrun, hrow⟩ := Rec.Row.headRun h1 42 (by kernel_rfl) (by intro wx; kernel_rfl) k c hc (by omega)
  refine ⟨A, C, by rw [← h2]; exact hrun, raw.take k, hrow, by simp [h2], fun i hi hi' => ?_⟩
  rw [List.getElem_take, List.getElem_take]
  simp at hi hi'
  exact h3 i (by omega) (by omega)
theorem leafIds_succ {nodes : List Nd} {k : Nat} (h : k < nodes.length) : leafIds nodes (k + 1) = leafIds nodes k ++ [nodes[k].1] := by
  unfold leafIds; rw [List.take_succ_eq_append_getElem h, List.map_append]; rfl
theorem leafIds_len {nodes : List Nd} {k : Nat} (h : k ≤ nodes.length) : (leafIds nodes k).length = k := by unfold leafIds; rw [List.length_map, List.length_take]; omega

set_option maxRecDepth 100000 in
set_option maxHeartbeats 4000000 in
theorem Check23_any (nv : Value) (n0 : Int) (nodes : List Nd) (w : World) (hn : NR w nv nodes) (hl : nodes.length ≤ 1000000) (hks : ∀ x ∈ nodes, x.2.length ≤ 140737488355328) (his : ∀ x ∈ nodes, x.1.length ≤ 140737488355328) :
    Calls Try.prog 25 #[.agg #[nv, .int .i64 n0]] w fun e w' => e = .returned (.int .i64 (chkV (checkF nodes n0))) ∧ Below w.heap.size w w' := by
  obtain ⟨a, cap, rfl, _, _⟩ := NR_open hn
  have HN := Lib.hid hn
  have HKS := Lib.hid hks
  have HIS := Lib.hid his
  clear hn hks his
  by_cases h0 : n0 < 0
  · have HF := Lib.hid (show checkF nodes n0 = false by unfold checkF; rw [decide_eq_false (by omega : ¬ 0 ≤ n0)]; rfl)
    go_enter Try.func25, Try.ntmps25
    go_wp2_with fail
    go_ret
    exact ⟨by rw [HF.out]; rfl, b_alloc _ _⟩
  · have h0' : (0 : Int) ≤ n0 := by omega
    by_cases h1 : (nodes.length : Int) < n0
    · have HF := Lib.hid (show checkF nodes n0 = false by unfold checkF; rw [decide_eq_false (by omega : ¬ n0 ≤ (nodes.length : Int))]; simp)
      go_enter Try.func25, Try.ntmps25
      go_wp2_with fail
      go_ret
      exact ⟨by rw [HF.out]; rfl, b_alloc _ _⟩
    · obtain ⟨n, rfl⟩ : ∃ n : Nat, n0 = (n : Int) := ⟨n0.toNat, by omega⟩
      have hnl : n ≤ nodes.length := by omega
      have h2 : (n : Int) ≤ (nodes.length : Int) := by omega
      obtain ⟨A, C, hrun, hhd⟩ := NR.headRun HN.out n n rfl hnl
      obtain ⟨_, _, hv', _, hch⟩ := NR_open hhd
      have hlt : (nodes.take n).length = n := by rw [List.length_take]; omega
      injection hv' with e1 e2 e3
      subst e1 e3
      have hch2 : ∀ k (hk : k < n), ∃ b off ak nk ck, A = some ⟨b, off, none⟩ ∧ w.cell? ⟨b, off + k * 2, none⟩ = some (.string (bs (nodes[k]'(by omega)).1)) ∧ w.cell? ⟨b, off + k * 2 + 1, none⟩ = some (.slice ak nk ck) := fun k hk => by
        obtain ⟨b, off, ak, nk, ck, k1, k2, k3, _⟩ := hch k (by omega)
        rw [List.getElem_take] at k2
        exact ⟨b, off, ak, nk, ck, k1, k2, k3⟩
      have hch3 : Hid (∀ k (hk : k < nodes.length), k < n → ∃ b off ak nk ck, A = some ⟨b, off, none⟩ ∧ w.cell? ⟨b, off + k * 2, none⟩ = some (.string (bs nodes[k].1)) ∧ w.cell? ⟨b, off + k * 2 + 1, none⟩ = some (.slice ak nk ck)) := fun k _ hkn => hch2 k hkn
      clear hch2 hch hhd h0 e2 hlt
      have h0 : ¬ (n : Int) < 0 := by omega
      go_enter Try.func25, Try.ntmps25
      go_wp2_with fail
      obtain ⟨W1, hW1⟩ : ∃ W1, W1 = w.alloc (.cells #[.slice a nodes.length cap, .int .i64 (n : Int)] 44) := ⟨_, rfl⟩
      have hb1 : Below w.heap.size w W1 := by rw [hW1]; exact b_alloc _ _
      have ht1 : W1.heap[w.heap.size]? = some (.cells #[.slice a nodes.length cap, .int .i64 (n : Int)] 44 (0, 0)) := by rw [hW1]; exact World.alloc_heap_new w _
      have hs1 : W1.heap.size = w.heap.size + 1 := by rw [hW1]; simp
      have HB1 := Lib.hid hb1
      have HT1 := Lib.hid ht1
      have HS1 := Lib.hid hs1
      rw [← hW1]
      clear hW1 hb1 ht1 hs1
      have j9 : (nodes.length : Int) ≤ 1000000 := by omega
      go_loopw [3, 26] (fun v3 v26 wr => ∃ k : Nat, ∃ av cv, v3 = .slice av (leafIds nodes k).length cv ∧ v26 = .int .i64 (k : Int) ∧ k ≤ n ∧ Hid (recS.Own wr W1.heap.size (.slice av (leafIds nodes k).length cv) (leafIds nodes k)) ∧ Hid (Below W1.heap.size W1 wr)) (fun _ v26 _ => n - (intOf v26).toNat)
      case atStart => exact ⟨0, none, 0, rfl, rfl, Nat.zero_le _, Rec.Own.nil _ _, Below.refl _ _⟩
      case round =>
        obtain ⟨k, av, cv, rfl, rfl, hk, HO, HB⟩ := hrel
        by_cases hkn : k < n
        · have hkl : k < nodes.length := by omega
          obtain ⟨b, off, ak, nk, ck, rfl, d1, d2⟩ := hch3.out k hkl hkn
          have e1 := Below.keeps HB.out (Below.keeps HB1.out d1)
          have e2 := Below.keeps HB.out (Below.keeps HB1.out d2)
          have HSN := Lib.hid (leafIds_succ hkl)
          have HLN := Lib.hid (leafIds_len (nodes := nodes) (k := k) (by omega))
          have k0 : (0 : Int) ≤ (k : Int) := by omega
          have k1 : (k : Int) < (n : Int) := by omega
          have k2 : (n : Int) ≤ 1000000 := by omega
          have hba := b_alloc wr (.cells #[.string (bs nodes[k].1), .slice ak nk ck] 51)
          have hsz : W1.heap.size ≤ (wr.alloc (.cells #[.string (bs nodes[k].1), .slice ak nk ck] 51)).heap.size := Nat.le_trans HB.out.size hba.size
          have HBA := Lib.hid hba
          clear d1 d2 hba
          go_wp2_with (at_builtin; go_must (refine recS.append1C _ nodes[k].1 rfl _ _ 40 rfl Try.underlying40 W1.heap.size _ (leafIds nodes k) (HO.out.below HBA.out) rfl 1 (by rw [size_al]; rfl) _ rfl _ rfl (by rw [HLN.out]; show (k + 1) * 16 ≤ _; omega) hsz ?_); intro g cap2 w3 hown3 hc3 hg3; have HO3 := Lib.hid hown3; have hb3 : Below W1.heap.size W1 w3 := HB.out.trans ((HBA.out.mono HB.out.size).trans (hc3.below (fun j hj => (HO.out.lt j hj).1) hsz)); have HB3 := Lib.hid hb3; clear hown3 hc3 hg3 hb3)
          go_roundw
          case rel =>
            exact ⟨k + 1, some ⟨g, 0, none⟩, cap2, by rw [HSN.out, List.length_append]; rfl, by go_num, by omega, by rw [HSN.out, List.length_append]; exact HO3.out, HB3.out⟩
          case measure => simp [intOf]; omega
        · obtain rfl : k = n := by omega
          have hln := leafIds_len (nodes := nodes) (k := k) hnl
          have hsz := HB.out.size
          obtain ⟨ids, hids⟩ : ∃ ids, ids = leafIds nodes k := ⟨_, rfl⟩
          rw [← hids] at hln HO
          have hmem : ∀ s ∈ ids, s.length ≤ 140737488355328 := fun s hs => by
            rw [hids] at hs
            simp only [leafIds, List.mem_map] at hs
            obtain ⟨x, hx, rfl⟩ := hs
            exact HIS.out x (List.mem_of_mem_take hx)
          have HLN := Lib.hid hln
          have HMEM := Lib.hid hmem
          have HIDS := Lib.hid hids
          clear hln hmem
          rw [← hids]
          clear hids
          go_wp2_with fail
          refine (Build_any _ ids _ HO.out.row (fun b hb => (HO.out.lt b hb).2) (by have := HLN.out; omega) HMEM.out).mono ?_
          rintro e w2 ⟨hres, hB2⟩
          have HB2 := Lib.hid hB2
          clear hB2
          have hbw : Below w.heap.size w w2 := bt HB1.out (bt HB.out HB2.out)
          have HBW := Lib.hid hbw
          clear hbw
          by_cases hgood : allIds ids = true ∧ ids.length ≤ 4096
          · have hsz := buildF_sizes hgood.1
            unfold b23R at hres
            rw [if_pos hgood] at hres
            obtain ⟨v2, rfl, hnr⟩ := hres
            obtain ⟨a2, c2, rfl, _, _⟩ := NR_open hnr
            have HNR := Lib.hid hnr
            have HG := Lib.hid hgood
            have HSZ := Lib.hid hsz
            obtain ⟨BF, hBF⟩ : ∃ BF, BF = buildF ids := ⟨_, rfl⟩
            rw [← hBF] at HNR HSZ ⊢
            have HBF := Lib.hid hBF
            have ht0 : W1.cell? ⟨w.heap.size, 0, none⟩ = some (.slice a nodes.length cap) := by simp [World.cell?, HT1.out]
            have t2 := Below.keeps HB2.out (Below.keeps HB.out ht0)
            clear ht0
            clear hsz hnr hgood hBF
            have hba := b_alloc w2 (.cells #[.slice a2 BF.length c2, .int .i64 (ids.length : Int)] 44)
            have t3 := Below.keeps hba t2
            have HBA := Lib.hid hba
            clear hba t2
            go_wp2_with fail
            refine (EqualN_any _ _ BF nodes _ (HNR.out.below HBA.out) (HN.out.below (bt HBW.out HBA.out)) (by have := HSZ.out.2.1; have := HLN.out; have := HG.out.2; omega) hl (fun x hx => by have := HSZ.out.2.2.2 x hx; omega) HKS.out).mono ?_
            rintro e w3 ⟨rfl, hB3⟩
            have HB3 := Lib.hid hB3
            clear hB3
            have hck : checkF nodes (k : Int) = decide (BF = nodes) := by
              unfold checkF
              rw [Int.toNat_natCast, ← HIDS.out, HG.out.1, HBF.out]
              have h1 := HG.out.2
              have h2 := HLN.out
              rw [decide_eq_true (by omega : (0 : Int) ≤ (k : Int)), decide_eq_true (by omega : (k : Int) ≤ (nodes.length : Int)), decide_eq_true (by omega : (k : Int) ≤ 4096)]
              rfl
            have HCK := Lib.hid hck
            clear hck
            by_cases he : BF = nodes
            · have hd : decide (BF = nodes) = true := decide_eq_true he
              have HCD := Lib.hid (HCK.out.trans hd)
              rw [hd]
              clear he hd
              go_wp2_with fail
              go_ret
              exact ⟨by rw [HCD.out]; rfl, bt (bt HBW.out HBA.out) HB3.out⟩
            · have hd : decide (BF = nodes) = false := decide_eq_false he
              have HCD := Lib.hid (HCK.out.trans hd)
              rw [hd]
              clear he hd
              go_wp2_with fail
              go_ret
              exact ⟨by rw [HCD.out]; rfl, bt (bt HBW.out HBA.out) HB3.out⟩
          · have hck : checkF nodes (k : Int) = false := by
              unfold checkF
              rw [Int.toNat_natCast, ← HIDS.out]
              have h2 := HLN.out
              cases hq : allIds ids with
              | false => simp
              | true =>
                have : ¬ (k : Int) ≤ 4096 := fun h => hgood ⟨hq, by omega⟩
                rw [decide_eq_false this]
                simp
            unfold b23R at hres
            rw [if_neg hgood] at hres
            subst hres
            have HCK := Lib.hid hck
            clear hgood hck
            go_wp2_with fail
            go_ret
            exact ⟨by rw [HCK.out]; rfl, bt HBW.out (b_alloc _ _)⟩
end Go.Proofs.Ytahmacnmphjhgaa
namespace Go.Proofs.Ytahmacnmphjhgaa
open Go.RowKit Oct
theorem wpG_nilYA {P : Program} {ops : Array Oper} {C : World → Prop} {R : World → World → Prop} {F : Nat → Option (Known R)} {Q : Facts → Act → Prop} {k : Nat} {S : Facts} {a : Act} (h : Q S a) : wpG P ops C R F Q k [] S a := h
attribute [local irreducible] wpG

def kidsOf (nodes : List Nd) (i : Nat) : List Int := (nodes.getD i ([], [])).2
/-- each kid stands ahead of its parent -/
def KidsOk (nodes : List Nd) : Prop := ∀ i, i < nodes.length → ∀ k ∈ kidsOf nodes i, 0 ≤ k ∧ k < (i : Int)
/-- the leaves under a node -/
def underF (nodes : List Nd) : Nat → Nat → Nat × Nat
  | 0, i => (i, i + 1)
  | f + 1, i => if (kidsOf nodes i).length = 0 then (i, i + 1) else ((underF nodes f ((kidsOf nodes i).getD 0 0).toNat).1, (underF nodes f ((kidsOf nodes i).getD ((kidsOf nodes i).length - 1) 0).toNat).2)
def under (nodes : List Nd) (i : Nat) : Nat × Nat := underF nodes i i
theorem getD_mem {l : List Int} {j : Nat} (h : j < l.length) : l.getD j 0 ∈ l := by rw [List.getD, List.getElem?_eq_getElem h]; exact List.getElem_mem h
theorem underF_fuel {nodes : List Nd} (hk : KidsOk nodes) : ∀ (f f' i : Nat), i ≤ f → i ≤ f' → i < nodes.length → underF nodes f i = underF nodes f' i
  | 0, f', i, h1, h2, hi => by
    obtain rfl : i = 0 := by omega
    have h0 : (kidsOf nodes 0).length = 0 := by
      rcases Nat.eq_zero_or_pos (kidsOf nodes 0).length with h | h
      · exact h
      · have := hk 0 hi _ (getD_mem h); omega
    cases f' with
    | zero => rfl
    | succ f' => rw [underF, underF, if_pos h0]
  | f + 1, 0, i, h1, h2, hi => by
    obtain rfl : i = 0 := by omega
    have h0 : (kidsOf nodes 0).length = 0 := by
      rcases Nat.eq_zero_or_pos (kidsOf nodes 0).length with h | h
      · exact h
      · have := hk 0 hi _ (getD_mem h); omega
    rw [underF, underF, if_pos h0]
  | f + 1, f' + 1, i, h1, h2, hi => by
    rw [underF, underF]
    split
    · rfl
    · rename_i h
      have a0 := hk i hi _ (getD_mem (l := kidsOf nodes i) (j := 0) (by omega))
      have a1 := hk i hi _ (getD_mem (l := kidsOf nodes i) (j := (kidsOf nodes i).length - 1) (by omega))
      rw [underF_fuel hk f f' _ (by omega) (by omega) (by omega), underF_fuel hk f f' ((kidsOf nodes i).getD ((kidsOf nodes i).length - 1) 0).toNat (by omega) (by omega) (by omega)]
theorem under_leaf {nodes : List Nd} {i : Nat} (h : (kidsOf nodes i).length = 0) : under nodes i = (i, i + 1) := by
  unfold under
  cases i with
  | zero => rfl
  | succ i => rw [underF, if_pos h]
theorem under_node {nodes : List Nd} (hk : KidsOk nodes) {i : Nat} (hi : i < nodes.length) (h : (kidsOf nodes i).length ≠ 0) :
    under nodes i = ((under nodes ((kidsOf nodes i).getD 0 0).toNat).1, (under nodes ((kidsOf nodes i).getD ((kidsOf nodes i).length - 1) 0).toNat).2) := by
  have a0 := hk i hi _ (getD_mem (l := kidsOf nodes i) (j := 0) (by omega))
  have a1 := hk i hi _ (getD_mem (l := kidsOf nodes i) (j := (kidsOf nodes i).length - 1) (by omega))
  unfold under
  cases i with
  | zero => omega
  | succ i =>
    rw [underF, if_neg h, underF_fuel hk i _ _ (by omega) (Nat.le_refl _) (by omega), underF_fuel hk i _ ((kidsOf nodes (i + 1)).getD ((kidsOf nodes (i + 1)).length - 1) 0).toNat (by omega) (Nat.le_refl _) (by omega)]
theorem Gd.kidsOk {l : List (List UInt8)} {nodes : List Nd} {sp : List (Nat × Nat)} {cover : List Int} (h : Gd l nodes sp cover) : KidsOk nodes := by
  intro i hi k hk
  by_cases hl : i < l.length
  · have h1 := (h.leaf i hl).1
    unfold kidsOf at hk
    rw [List.getD, h1] at hk
    simp at hk
  · exact (h.inner i (by omega) hi).2.2.1 k hk
theorem checkF_true {nodes : List Nd} {n0 : Int} (h : checkF nodes n0 = true) : ∃ n : Nat, n0 = (n : Int) ∧ n ≤ nodes.length ∧ n ≤ 4096 ∧ allIds (leafIds nodes n) = true ∧ buildF (leafIds nodes n) = nodes := by
  unfold checkF at h
  simp only [Bool.and_eq_true, decide_eq_true_eq] at h
  obtain ⟨⟨⟨⟨h1, h2⟩, h3⟩, h4⟩, h5⟩ := h
  exact ⟨n0.toNat, by omega, by omega, by omega, h4, h5⟩
theorem checkF_gd {nodes : List Nd} {n0 : Int} (h : checkF nodes n0 = true) : ∃ (n : Nat) (sp : List (Nat × Nat)) (level : List Int), n0 = (n : Int) ∧ n ≤ nodes.length ∧ level.length ≤ 1 ∧ Gd (leafIds nodes n) nodes sp level := by
  obtain ⟨n, h1, h2, _, h4, h5⟩ := checkF_true h
  obtain ⟨sp, level, h6, h7⟩ := buildF_gd h4
  rw [h5] at h7
  exact ⟨n, sp, level, h1, h2, h6, h7⟩
theorem checkF_kids {nodes : List Nd} {n0 : Int} (h : checkF nodes n0 = true) : KidsOk nodes := by
  obtain ⟨n, sp, level, _, _, _, h⟩ := checkF_gd h
  exact h.kidsOk

/-- Root's answer -/
def rootF (nodes : List Nd) : Bool → Int × Bool
  | true => ((nodes.length : Int) - 1, true)
  | false => (0, false)
theorem root_tuple (p : Int × Bool) : Value.tuple #[.int .i64 p.1, .bool p.2] = .tuple #[.int .i64 p.1, .bool p.2] := rfl
set_option maxRecDepth 100000 in
set_option maxHeartbeats 2000000 in
theorem Root23_any (nv : Value) (n0 : Int) (nodes : List Nd) (w : World) (hn : NR w nv nodes) (hl : nodes.length ≤ 1000000) (hks : ∀ x ∈ nodes, x.2.length ≤ 140737488355328) (his : ∀ x ∈ nodes, x.1.length ≤ 140737488355328) :
    Calls Try.prog 27 #[.agg #[nv, .int .i64 n0]] w fun e w' => e = .returned (.tuple #[.int .i64 (rootF nodes (checkF nodes n0 && decide (0 < nodes.length))).1, .bool (rootF nodes (checkF nodes n0 && decide (0 < nodes.length))).2]) ∧ Below w.heap.size w w' := by
  obtain ⟨a, cap, rfl, _, _⟩ := NR_open hn
  have HC := Lib.hid (fun w' (hB : Below w.heap.size w w') => Check23_any _ n0 nodes w' (hn.below hB) hl hks his)
  clear hn hks his
  obtain ⟨q, hq⟩ : ∃ q, q = checkF nodes n0 := ⟨_, rfl⟩
  rw [← hq] at HC ⊢
  clear hq
  have hba := b_alloc w (.cells #[.slice a nodes.length cap, .int .i64 n0] 44)
  have hc0 : (w.alloc (.cells #[.slice a nodes.length cap, .int .i64 n0] 44)).cell? ⟨w.heap.size, 0, none⟩ = some (.slice a nodes.length cap) := by
    have e := World.alloc_heap_new w (.cells #[.slice a nodes.length cap, .int .i64 n0] 44)
    simp only [World.cell?, e]; rfl
  have HBA := Lib.hid hba
  clear hba
  cases q with
  | false =>
    go_enter Try.func27, Try.ntmps27
    go_wp2_with fail
    refine (HC.out _ HBA.out).mono ?_
    rintro e w1 ⟨rfl, hB1⟩
    rw [show chkV false = 7 from rfl]
    go_wp2_with fail
    go_ret2
    exact ⟨rfl, bt HBA.out hB1⟩
  | true =>
    by_cases h0 : 0 < nodes.length
    · have h1 : ((nodes.length : Int) == 0) = false := by rw [beq_eq_false_iff_ne]; omega
      have h2 : decide (0 < nodes.length) = true := decide_eq_true h0
      have h3 : (nodes.length : Int) ≤ 1000000 := by omega
      have h4 : (0 : Int) < (nodes.length : Int) := by omega
      rw [h2]
      clear h2
      go_enter Try.func27, Try.ntmps27
      go_wp2_with fail
      refine (HC.out _ HBA.out).mono ?_
      rintro e w1 ⟨rfl, hB1⟩
      rw [show chkV true = 0 from rfl]
      have hc1 := Below.keeps hB1 hc0
      go_wp2_with fail
      go_ret2
      exact ⟨rfl, bt HBA.out hB1⟩
    · have h1 : ((nodes.length : Int) == 0) = true := by rw [beq_iff_eq]; omega
      have h2 : decide (0 < nodes.length) = false := decide_eq_false h0
      rw [h2]
      clear h2
      go_enter Try.func27, Try.ntmps27
      go_wp2_with fail
      refine (HC.out _ HBA.out).mono ?_
      rintro e w1 ⟨rfl, hB1⟩
      rw [show chkV true = 0 from rfl]
      have hc1 := Below.keeps hB1 hc0
      go_wp2_with fail
      go_ret2
      exact ⟨rfl, bt HBA.out hB1⟩

theorem NR.at {w : World} {v : Value} {nodes : List Nd} (h : NR w v nodes) {i : Nat} (hi : i < nodes.length) : ∃ a c b off ak nk ck, v = .slice a nodes.length c ∧ a = some ⟨b, off, none⟩ ∧ w.cell? ⟨b, off + i * 2, none⟩ = some (.string (bs nodes[i].1)) ∧ w.cell? ⟨b, off + i * 2 + 1, none⟩ = some (.slice ak nk ck) ∧ recI.Row w (.slice ak nk ck) (kidsOf nodes i) := by
  obtain ⟨a, c, hv, _, hc⟩ := NR_open h
  obtain ⟨b, off, ak, nk, ck, k1, k2, k3, k4⟩ := hc i hi
  exact ⟨a, c, b, off, ak, nk, ck, hv, k1, k2, k3, by unfold kidsOf; rw [List.getD, List.getElem?_eq_getElem hi]; exact k4⟩
theorem two_cells {w : World} {b : Nat} {x y : Value} {t : TypeId} (h : w.heap[b]? = some (.cells #[x, y] t (0, 0))) : w.cell? ⟨b, 0, none⟩ = some x ∧ w.cell? ⟨b, 1, none⟩ = some y ∧ w.frozen? ⟨b, 0, none⟩ = false ∧ w.frozen? ⟨b, 1, none⟩ = false := by
  refine ⟨?_, ?_, ?_, ?_⟩ <;> simp [World.cell?, World.frozen?, h]
theorem two_set {w : World} {b : Nat} {x y u v : Value} {t : TypeId} (h : w.heap[b]? = some (.cells #[x, y] t (0, 0))) : ((w.setCell ⟨b, 0, none⟩ u).setCell ⟨b, 1, none⟩ v).heap[b]? = some (.cells #[u, v] t (0, 0)) := by
  have h1 : (w.setCell ⟨b, 0, none⟩ u).heap[b]? = some (.cells #[u, y] t (0, 0)) := by simp [World.setCell, Array.getElem?_modify, h]
  generalize w.setCell ⟨b, 0, none⟩ u = w' at *
  simp [World.setCell, Array.getElem?_modify, h1]
theorem two_chg (w : World) (b : Nat) (u v : Value) : Chg (fun k => k = b) w ((w.setCell ⟨b, 0, none⟩ u).setCell ⟨b, 1, none⟩ v) := (Chg.setCell (X := fun k => k = b) w ⟨b, 0, none⟩ u rfl).trans (Chg.setCell (X := fun k => k = b) _ ⟨b, 1, none⟩ v rfl)
theorem field_sp0 (x y : Int) (w : World) : (Instr.field 53 (.agg #[.int .i64 x, .int .i64 y]) 0).run Try.prog w = .ok (.int .i64 x) w := by kernel_rfl
theorem field_sp1 (x y : Int) (w : World) : (Instr.field 53 (.agg #[.int .i64 x, .int .i64 y]) 1).run Try.prog w = .ok (.int .i64 y) w := by kernel_rfl
/-- a span as a value -/
def spV (p : Nat × Nat) : Value := .agg #[.int .i64 (p.1 : Int), .int .i64 (p.2 : Int)]
theorem spV_mk (p : Nat × Nat) : spV p = .agg #[.int .i64 (p.1 : Int), .int .i64 (p.2 : Int)] := rfl
theorem under_le {nodes : List Nd} (hk : KidsOk nodes) : ∀ i, i < nodes.length → (under nodes i).1 ≤ i ∧ (under nodes i).2 ≤ i + 1 := by
  intro i
  induction i using Nat.strongRecOn with
  | _ i ih =>
    intro hi
    by_cases h : (kidsOf nodes i).length = 0
    · rw [under_leaf h]; omega
    · rw [under_node hk hi h]
      have a0 := hk i hi _ (getD_mem (l := kidsOf nodes i) (j := 0) (by omega))
      have a1 := hk i hi _ (getD_mem (l := kidsOf nodes i) (j := (kidsOf nodes i).length - 1) (by omega))
      have i0 := ih ((kidsOf nodes i).getD 0 0).toNat (by omega) (by omega)
      have i1 := ih ((kidsOf nodes i).getD ((kidsOf nodes i).length - 1) 0).toNat (by omega) (by omega)
      exact ⟨by show (under nodes _).1 ≤ i; omega, by show (under nodes _).2 ≤ i + 1; omega⟩

set_option maxRecDepth 100000 in
set_option maxHeartbeats 4000000 in
theorem under1_any (T U : Nat) (nv : Value) (n0 : Int) (nodes : List Nd) (hl : nodes.length ≤ 1000000) (hks : ∀ x ∈ nodes, x.2.length ≤ 1000000) (hk : KidsOk nodes) : ∀ (i : Nat) (w : World), i < nodes.length → NR w nv nodes → w.heap[T]? = some (.cells #[nv, .int .i64 n0] 44 (0, 0)) →
    w.heap[U]? = some (.cells #[.func (.func 60) #[] #[.pointer (some ⟨T, 0, none⟩), .pointer (some ⟨U, 0, none⟩)]] 98 (0, 0)) →
    Calls Try.prog 60 #[.int .i64 (i : Int), .pointer (some ⟨T, 0, none⟩), .pointer (some ⟨U, 0, none⟩)] w fun e w' => e = .returned (spV (under nodes i)) ∧ Below w.heap.size w w' := by
  intro i
  induction i using Nat.strongRecOn with
  | _ i ih =>
    intro w hi hn hT hU
    obtain ⟨a, c, b, off, ak, nk, ck, rfl, rfl, d1, d2, d3⟩ := hn.at hi
    have cT : w.cell? ⟨T, 0, none⟩ = some (.slice (some ⟨b, off, none⟩) nodes.length c) := by simp [World.cell?, hT]
    have cU := cell_of_one hU
    have IH := Lib.hid ih
    have HN := Lib.hid hn
    have HT := Lib.hid hT
    have HU := Lib.hid hU
    have hba := b_alloc w (.cells #[.int .i64 0, .int .i64 0] 53)
    have e1 := Below.keeps hba cT
    have e2 := Below.keeps hba d2
    have e3 := Below.keeps hba cU
    have i0 : (0 : Int) ≤ (i : Int) := by omega
    have i1 : (i : Int) < (nodes.length : Int) := by omega
    have i2 : (nodes.length : Int) ≤ 1000000 := by omega
    obtain ⟨ka, kc, hkv, _, hkc⟩ := recI_open d3
    injection hkv with f1 f2 f3
    subst f1 f2 f3
    have HBA := Lib.hid hba
    clear ih hn hT hU hba d1 d3 cT cU d2
    by_cases h0 : (kidsOf nodes i).length = 0
    · have h1 : (((kidsOf nodes i).length : Int) == 0) = true := by rw [beq_iff_eq]; omega
      have HUL := Lib.hid (under_leaf h0)
      clear hkc h0
      go_enter Try.func60, Try.ntmps60
      go_wp2_with fail
      refine bodyPost_ret (results_cell_row rfl _ _ w.heap.size 53 _ (0, 0) _ rfl (World.alloc_heap_new w _) Try.underlying53 rfl (by kernel_rfl)) rfl ?_
      exact ⟨by rw [HUL.out]; unfold spV; simp, b_alloc w _⟩
    · have h1 : (((kidsOf nodes i).length : Int) == 0) = false := by rw [beq_eq_false_iff_ne]; omega
      have HUN := Lib.hid (under_node hk hi h0)
      have a0 := hk i hi _ (getD_mem (l := kidsOf nodes i) (j := 0) (by omega))
      have a1 := hk i hi _ (getD_mem (l := kidsOf nodes i) (j := (kidsOf nodes i).length - 1) (by omega))
      have hkl : (kidsOf nodes i).length ≤ 1000000 := by
        have := hks nodes[i] (List.getElem_mem hi)
        unfold kidsOf; rw [List.getD, List.getElem?_eq_getElem hi]; exact this
      obtain ⟨kb, koff, rfl, x0⟩ := hkc 0 (by omega)
      obtain ⟨_, _, hkb, x1⟩ := hkc ((kidsOf nodes i).length - 1) (by omega)
      injection hkb with hkb
      injection hkb with g1 g2 _
      subst g1 g2
      rw [Nat.add_zero] at x0
      obtain ⟨q0, hq0⟩ : ∃ q : Nat, (q : Int) = (kidsOf nodes i).getD 0 0 := ⟨_, Int.toNat_of_nonneg a0.1⟩
      obtain ⟨q1, hq1⟩ : ∃ q : Nat, (q : Int) = (kidsOf nodes i).getD ((kidsOf nodes i).length - 1) 0 := ⟨_, Int.toNat_of_nonneg a1.1⟩
      have z0 : (kidsOf nodes i)[0]'(by omega) = (q0 : Int) := by rw [hq0]; simp [List.getD, show 0 < (kidsOf nodes i).length by omega]
      have z1 : (kidsOf nodes i)[(kidsOf nodes i).length - 1]'(by omega) = (q1 : Int) := by rw [hq1]; simp [List.getD, show (kidsOf nodes i).length - 1 < (kidsOf nodes i).length by omega]
      rw [z0] at x0
      rw [z1] at x1
      rw [← hq0, ← hq1, Int.toNat_natCast, Int.toNat_natCast] at HUN
      rw [← hq0] at a0
      rw [← hq1] at a1
      have b0 : q0 < i := by omega
      have b1 : q1 < i := by omega
      obtain ⟨m, hm⟩ : ∃ m, m = (kidsOf nodes i).length - 1 := ⟨_, rfl⟩
      rw [← hm] at x1
      have hm1 : ((kidsOf nodes i).length : Int) - 1 = (m : Int) := by omega
      have hm2 : (m : Int) < ((kidsOf nodes i).length : Int) := by omega
      have hm3 : (0 : Int) ≤ (m : Int) := by omega
      have hm4 : (0 : Int) < ((kidsOf nodes i).length : Int) := by omega
      have hm5 : ((kidsOf nodes i).length : Int) ≤ 1000000 := by omega
      have HX0 := Lib.hid x0
      have HX1 := Lib.hid x1
      obtain ⟨u0, hu0⟩ : ∃ u, u = under nodes q0 := ⟨_, rfl⟩
      obtain ⟨u1, hu1⟩ : ∃ u, u = under nodes q1 := ⟨_, rfl⟩
      have hc0 := fun w' (hB : Below w.heap.size w w') => IH.out q0 b0 w' (by omega) (HN.out.below hB) (by rw [hB.block T ((Array.getElem?_eq_some_iff.1 HT.out).1)]; exact HT.out) (by rw [hB.block U ((Array.getElem?_eq_some_iff.1 HU.out).1)]; exact HU.out)
      have hc1 := fun w' (hB : Below w.heap.size w w') => IH.out q1 b1 w' (by omega) (HN.out.below hB) (by rw [hB.block T ((Array.getElem?_eq_some_iff.1 HT.out).1)]; exact HT.out) (by rw [hB.block U ((Array.getElem?_eq_some_iff.1 HU.out).1)]; exact HU.out)
      rw [← hu0] at hc0
      rw [← hu1] at hc1
      rw [← hu0, ← hu1] at HUN
      have HC0 := Lib.hid hc0
      have HC1 := Lib.hid hc1
      clear hkc a0 a1 x0 x1 hq0 hq1 z0 z1 b0 b1 hm hu0 hu1 hc0 hc1 h0
      go_enter Try.func60, Try.ntmps60
      go_wp2_with fail
      obtain ⟨W1, hW1⟩ : ∃ W1, W1 = w.alloc (.cells #[.int .i64 0, .int .i64 0] 53) := ⟨_, rfl⟩
      rw [← hW1] at HBA e1 e2 e3 ⊢
      have hs1 : W1.heap[w.heap.size]? = some (.cells #[.int .i64 0, .int .i64 0] 53 (0, 0)) := by rw [hW1]; exact World.alloc_heap_new w _
      have HS1 := Lib.hid hs1
      clear hW1 hs1
      have fa := fun wx => field_sp0 (u0.1 : Int) (u0.2 : Int) wx
      have fb := fun wx => field_sp1 (u1.1 : Int) (u1.2 : Int) wx
      refine region_tail 16 [(0, .exact _ (.func (.func 60) #[] #[.pointer (some ⟨T, 0, none⟩), .pointer (some ⟨U, 0, none⟩)])), (3, .exact _ (.int .i64 (q0 : Int))), (4, .exact _ (spV u0)), (6, .exact _ (.func (.func 60) #[] #[.pointer (some ⟨T, 0, none⟩), .pointer (some ⟨U, 0, none⟩)])), (12, .exact _ (.int .i64 (q1 : Int))), (13, .exact _ (spV u1))] (by kernel_rfl) (by kernel_rfl) ?_
      simp only [List.take_succ_cons, List.take_zero, List.drop_succ_cons, List.drop_zero]
      refine wpG_exact rfl (by kernel_rfl) (fun w' G hB hS hG => ?_) (fun K hK => ?_)
      · have c' := Below.keeps hB e3
        go_simp; exact hG _ (Bel.refl _)
      go_simp; refine hK _ ?_; clear hK K; (repeat (first | (refine wpG_skip (by kernel_rfl) (fun K hK => ?_); go_big_quiet_skip; refine wpQuiet_nil (hK _ ?_); clear hK K) | (refine wpG_quiet (by rfl) (by rfl) (fun K hK => ?_); go_big_quiet_want; go_big_quiet_op; go_big_quiet_on; refine wpQuiet_nil (hK _ ?_); clear hK K)))
      refine wpG_exact rfl (by kernel_rfl) (fun w' G hB hS hG => ?_) (fun K hK => ?_)
      · have c' := Below.keeps hB (Below.keeps HBA.out HX0.out)
        go_simp; exact hG _ (Bel.refl _)
      go_simp; refine hK _ ?_; clear hK K; (repeat (first | (refine wpG_skip (by kernel_rfl) (fun K hK => ?_); go_big_quiet_skip; refine wpQuiet_nil (hK _ ?_); clear hK K) | (refine wpG_quiet (by rfl) (by rfl) (fun K hK => ?_); go_big_quiet_want; go_big_quiet_op; go_big_quiet_on; refine wpQuiet_nil (hK _ ?_); clear hK K)))
      refine wpG_exact rfl (by kernel_rfl) (fun w' G hB hS hG => ?_) (fun K hK => ?_)
      · go_simp
        exact calls_told hG (HC0.out w' (bt HBA.out hB))
      rw [spV_mk]
      go_simp; refine hK _ ?_; clear hK K; (repeat (first | (refine wpG_skip (by kernel_rfl) (fun K hK => ?_); go_big_quiet_skip; refine wpQuiet_nil (hK _ ?_); clear hK K) | (refine wpG_quiet (by rfl) (by rfl) (fun K hK => ?_); go_big_quiet_want; go_big_quiet_op; go_big_quiet_on; refine wpQuiet_nil (hK _ ?_); clear hK K)))
      refine wpG_exact rfl (by kernel_rfl) (fun w' G hB hS hG => ?_) (fun K hK => ?_)
      · have c' := Below.keeps hB e3
        go_simp; exact hG _ (Bel.refl _)
      go_simp; refine hK _ ?_; clear hK K; (repeat (first | (refine wpG_skip (by kernel_rfl) (fun K hK => ?_); go_big_quiet_skip; refine wpQuiet_nil (hK _ ?_); clear hK K) | (refine wpG_quiet (by rfl) (by rfl) (fun K hK => ?_); go_big_quiet_want; go_big_quiet_op; go_big_quiet_on; refine wpQuiet_nil (hK _ ?_); clear hK K)))
      refine wpG_exact rfl (by kernel_rfl) (fun w' G hB hS hG => ?_) (fun K hK => ?_)
      · have c' := Below.keeps hB (Below.keeps HBA.out HX1.out)
        go_simp; exact hG _ (Bel.refl _)
      go_simp; refine hK _ ?_; clear hK K; (repeat (first | (refine wpG_skip (by kernel_rfl) (fun K hK => ?_); go_big_quiet_skip; refine wpQuiet_nil (hK _ ?_); clear hK K) | (refine wpG_quiet (by rfl) (by rfl) (fun K hK => ?_); go_big_quiet_want; go_big_quiet_op; go_big_quiet_on; refine wpQuiet_nil (hK _ ?_); clear hK K)))
      refine wpG_exact rfl (by kernel_rfl) (fun w' G hB hS hG => ?_) (fun K hK => ?_)
      · go_simp
        exact calls_told hG (HC1.out w' (bt HBA.out hB))
      rw [spV_mk]
      go_simp; refine hK _ ?_; clear hK K; (repeat (first | (refine wpG_skip (by kernel_rfl) (fun K hK => ?_); go_big_quiet_skip; refine wpQuiet_nil (hK _ ?_); clear hK K) | (refine wpG_quiet (by rfl) (by rfl) (fun K hK => ?_); go_big_quiet_want; go_big_quiet_op; go_big_quiet_on; refine wpQuiet_nil (hK _ ?_); clear hK K)))
      refine wpG_nilYA ?_
      intro w' hB hA
      have hs2 : w'.heap[w.heap.size]? = some (.cells #[.int .i64 0, .int .i64 0] 53 (0, 0)) := by rw [hB.block w.heap.size (Array.getElem?_eq_some_iff.1 HS1.out).1]; exact HS1.out
      obtain ⟨k1, k2, k3, k4⟩ := two_cells hs2
      have HS2 := Lib.hid hs2
      have HB' := Lib.hid hB
      clear hB hA hs2
      go_wp2_with fail
      refine bodyPost_ret (results_cell_row rfl _ _ w.heap.size 53 _ (0, 0) _ rfl (two_set HS2.out) Try.underlying53 rfl (by kernel_rfl)) rfl ?_
      refine ⟨by rw [HUN.out]; rfl, (bt HBA.out HB'.out).trans ((two_chg w' w.heap.size _ _).below (fun k hk => by omega) (bt HBA.out HB'.out).size)⟩

/-- Under's answer: the span, the error -/
def underE (nodes : List Nd) (n : Int) : Bool → (Nat × Nat) × Int
  | false => ((0, 0), 7)
  | true => if 0 ≤ n ∧ n < (nodes.length : Int) then (under nodes n.toNat, 0) else ((0, 0), 2)
theorem underE_out {nodes : List Nd} {n : Int} (h : ¬ (0 ≤ n ∧ n < (nodes.length : Int))) : underE nodes n true = ((0, 0), 2) := by unfold underE; rw [if_neg h]
theorem underE_in {nodes : List Nd} {i : Nat} (h : i < nodes.length) : underE nodes (i : Int) true = (under nodes i, 0) := by unfold underE; rw [if_pos ⟨by omega, by omega⟩]; rfl
theorem load_span {w : World} {b : Nat} {x y : Value} (h : w.heap[b]? = some (.cells #[x, y] 53 (0, 0))) : (loadVar 53 ⟨b, 0, none⟩).run Try.prog w = .ok (.agg #[x, y]) w :=
  run_loadVar_row (P := Try.prog) w b 53 53 #[x, y] (0, 0) _ h Try.underlying53 rfl (by kernel_rfl)

set_option maxRecDepth 100000 in
set_option maxHeartbeats 2000000 in
theorem Under23_any (nv : Value) (n0 n : Int) (nodes : List Nd) (w : World) (hn : NR w nv nodes) (hl : nodes.length ≤ 1000000) (hks : ∀ x ∈ nodes, x.2.length ≤ 140737488355328) (his : ∀ x ∈ nodes, x.1.length ≤ 140737488355328) :
    Calls Try.prog 26 #[.agg #[nv, .int .i64 n0], .int .i64 n] w fun e w' => e = .returned (.tuple #[spV (underE nodes n (checkF nodes n0)).1, .int .i64 (underE nodes n (checkF nodes n0)).2]) ∧ Below w.heap.size w w' := by
  obtain ⟨a, cap, rfl, _, _⟩ := NR_open hn
  have HC := Lib.hid (fun w' (hB : Below w.heap.size w w') => Check23_any _ n0 nodes w' (hn.below hB) hl hks his)
  have HN := Lib.hid hn
  clear hn hks his
  obtain ⟨q, hq⟩ : ∃ q, q = checkF nodes n0 := ⟨_, rfl⟩
  rw [← hq] at HC ⊢
  have HQ := Lib.hid hq
  clear hq
  obtain ⟨k1, k2, k3⟩ := two_new w (.cells #[.slice a nodes.length cap, .int .i64 n0] 44) (.cells #[.int .i64 0, .int .i64 0] 53)
  have K1 := Lib.hid k1
  have K2 := Lib.hid k2
  have K3 := Lib.hid k3
  clear k1 k2 k3
  cases q with
  | false =>
    go_enter Try.func26, Try.ntmps26
    go_wp2_with fail
    refine (HC.out _ K3.out).mono ?_
    rintro e w1 ⟨rfl, hB1⟩
    have hs1 : w1.heap[w.heap.size + 1]? = some (.cells #[.int .i64 0, .int .i64 0] 53 (0, 0)) := by rw [hB1.block (w.heap.size + 1) (Array.getElem?_eq_some_iff.1 K2.out).1]; exact K2.out
    obtain ⟨c1, c2, f1, f2⟩ := two_cells hs1
    have HS1 := Lib.hid hs1
    have HB1 := Lib.hid hB1
    clear hs1 hB1
    rw [show chkV false = 7 from rfl]
    go_wp2_with fail
    refine bodyPost_ret (res_cell_tmp rfl rfl (load_span (two_set HS1.out))) rfl ?_
    exact ⟨rfl, (bt K3.out HB1.out).trans ((two_chg w1 (w.heap.size + 1) _ _).below (fun k hk => by omega) (bt K3.out HB1.out).size)⟩
  | true =>
    by_cases h0 : 0 ≤ n ∧ n < (nodes.length : Int)
    · obtain ⟨i, rfl⟩ : ∃ i : Nat, n = (i : Int) := ⟨n.toNat, by omega⟩
      have hi : i < nodes.length := by omega
      have hnn : ¬ (i : Int) < 0 := by omega
      have hn1 : (i : Int) < (nodes.length : Int) := by omega
      have hn2 : (0 : Int) ≤ (i : Int) := by omega
      rw [underE_in hi]
      clear h0
      go_enter Try.func26, Try.ntmps26
      go_wp2_with fail
      refine (HC.out _ K3.out).mono ?_
      rintro e w1 ⟨rfl, hB1⟩
      have hs1 : w1.heap[w.heap.size + 1]? = some (.cells #[.int .i64 0, .int .i64 0] 53 (0, 0)) := by rw [hB1.block (w.heap.size + 1) (Array.getElem?_eq_some_iff.1 K2.out).1]; exact K2.out
      have ht1 : w1.heap[w.heap.size]? = some (.cells #[.slice a nodes.length cap, .int .i64 n0] 44 (0, 0)) := by rw [hB1.block w.heap.size (Array.getElem?_eq_some_iff.1 K1.out).1]; exact K1.out
      obtain ⟨c1, c2, f1, f2⟩ := two_cells ht1
      have HS1 := Lib.hid hs1
      have HT1 := Lib.hid ht1
      have HB1 := Lib.hid hB1
      clear hs1 hB1 ht1
      rw [show chkV true = 0 from rfl]
      go_wp2_with fail
      have hck := HQ.out.symm
      have hsz : ∀ x ∈ nodes, x.2.length ≤ 8 := by
        obtain ⟨m, _, _, _, h4, h5⟩ := checkF_true hck
        have := (buildF_sizes h4).2.2.2
        rwa [h5] at this
      have hbb := bt (bt K3.out HB1.out) (b_alloc w1 (.cells #[.func (.func 60) #[] #[.pointer (some ⟨w.heap.size, 0, none⟩), .pointer (some ⟨w1.heap.size, 0, none⟩)]] 98))
      refine (under1_any w.heap.size w1.heap.size _ n0 nodes hl (fun x hx => by have := hsz x hx; omega) (checkF_kids hck) i _ hi (HN.out.below hbb) ?_ (World.alloc_heap_new w1 _)).mono ?_
      · rw [Below.heap_alloc _ _ _ (Array.getElem?_eq_some_iff.1 HT1.out).1]; exact HT1.out
      rintro e w2 ⟨rfl, hB2⟩
      have hb12 : Below w1.heap.size w1 w2 := bt (b_alloc w1 _) hB2
      have hs2 : w2.heap[w.heap.size + 1]? = some (.cells #[.int .i64 0, .int .i64 0] 53 (0, 0)) := by rw [hb12.block (w.heap.size + 1) (Array.getElem?_eq_some_iff.1 HS1.out).1]; exact HS1.out
      have hbw : Below w.heap.size w w2 := bt (bt K3.out HB1.out) hb12
      obtain ⟨g1, g2, g3, g4⟩ := two_cells hs2
      have HS2 := Lib.hid hs2
      have HBW := Lib.hid hbw
      obtain ⟨u, hu⟩ : ∃ u, u = under nodes i := ⟨_, rfl⟩
      rw [← hu, spV_mk]
      have HU := Lib.hid hu
      clear hs2 hbw hb12 hB2 hbb hsz hck hu c1 c2 f1 f2
      go_wp2_with fail
      refine bodyPost_ret (res_cell_tmp rfl rfl (load_span (two_set HS2.out))) rfl ?_
      exact ⟨by rw [← HU.out]; rfl, HBW.out.trans ((two_chg w2 (w.heap.size + 1) _ _).below (fun k hk => by omega) HBW.out.size)⟩
    · have HE := Lib.hid (underE_out h0)
      rw [HE.out]
      by_cases h1 : n < 0
      · clear h0
        go_enter Try.func26, Try.ntmps26
        go_wp2_with fail
        refine (HC.out _ K3.out).mono ?_
        rintro e w1 ⟨rfl, hB1⟩
        have hs1 : w1.heap[w.heap.size + 1]? = some (.cells #[.int .i64 0, .int .i64 0] 53 (0, 0)) := by rw [hB1.block (w.heap.size + 1) (Array.getElem?_eq_some_iff.1 K2.out).1]; exact K2.out
        obtain ⟨c1, c2, f1, f2⟩ := two_cells hs1
        have HS1 := Lib.hid hs1
        have HB1 := Lib.hid hB1
        clear hs1 hB1
        rw [show chkV true = 0 from rfl]
        go_wp2_with fail
        refine bodyPost_ret (res_cell_tmp rfl rfl (load_span (two_set HS1.out))) rfl ?_
        exact ⟨rfl, (bt K3.out HB1.out).trans ((two_chg w1 (w.heap.size + 1) _ _).below (fun k hk => by omega) (bt K3.out HB1.out).size)⟩
      · have h2 : (nodes.length : Int) ≤ n := by
          rcases Int.lt_or_le n (nodes.length : Int) with h | h
          · exact absurd ⟨by omega, h⟩ h0
          · exact h
        have h1' : (0 : Int) ≤ n := by omega
        clear h0
        go_enter Try.func26, Try.ntmps26
        go_wp2_with fail
        refine (HC.out _ K3.out).mono ?_
        rintro e w1 ⟨rfl, hB1⟩
        have hs1 : w1.heap[w.heap.size + 1]? = some (.cells #[.int .i64 0, .int .i64 0] 53 (0, 0)) := by rw [hB1.block (w.heap.size + 1) (Array.getElem?_eq_some_iff.1 K2.out).1]; exact K2.out
        have ht1 : w1.heap[w.heap.size]? = some (.cells #[.slice a nodes.length cap, .int .i64 n0] 44 (0, 0)) := by rw [hB1.block w.heap.size (Array.getElem?_eq_some_iff.1 K1.out).1]; exact K1.out
        obtain ⟨c1, c2, f1, f2⟩ := two_cells hs1
        obtain ⟨c3, c4, f3, f4⟩ := two_cells ht1
        have HS1 := Lib.hid hs1
        have HB1 := Lib.hid hB1
        clear hs1 hB1 ht1
        rw [show chkV true = 0 from rfl]
        go_wp2_with fail
        refine bodyPost_ret (res_cell_tmp rfl rfl (load_span (two_set HS1.out))) rfl ?_
        exact ⟨rfl, (bt K3.out HB1.out).trans ((two_chg w1 (w.heap.size + 1) _ _).below (fun k hk => by omega) (bt K3.out HB1.out).size)⟩
end Go.Proofs.Ytahmacnmphjhgaa
namespace Go.Proofs.Ytahmacnmphjhgaa
open Go.RowKit Oct
theorem wpG_nilYB {P : Program} {ops : Array Oper} {C : World → Prop} {R : World → World → Prop} {F : Nat → Option (Known R)} {Q : Facts → Act → Prop} {k : Nat} {S : Facts} {a : Act} (h : Q S a) : wpG P ops C R F Q k [] S a := h
attribute [local irreducible] wpG

def idF (a b : UInt8) : List UInt8 := a :: (List.replicate 30 0 ++ [b])
theorem idF_length (a b : UInt8) : (idF a b).length = 32 := by simp [idF]
theorem conv_new (w : World) (l : List UInt8) (n : Nat) (hn : l.length = n) (h : n ≤ 1000000) : (convert 94 9 (.slice (some ⟨w.heap.size, 0, none⟩) n n)).run Try.prog (w.alloc (.cells (bcells l).toArray 5)) = .ok (.string (bs l)) (w.alloc (.cells (bcells l).toArray 5)) :=
  conv_own 94 9 5 Try.underlying94 Try.underlying5 Try.underlying9 _ w.heap.size _ n l ⟨by rw [bcells_length]; omega, .inr ⟨w.heap.size, n, (bcells l).toArray, rfl, Nat.le_refl _, World.alloc_heap_new w _, Nat.le_refl _, by unfold maxLen; omega, by simp [bcells_length, hn], by rw [Nat.mul_one, ← hn, ← bcells_length]; simp⟩⟩
set_option maxRecDepth 100000 in
set_option maxHeartbeats 2000000 in
theorem id23_any (a b : UInt8) (w : World) :
    Calls Try.prog 49 #[.int .u8 (a.toNat : Int), .int .u8 (b.toNat : Int)] w fun e w' => e = .returned (.string (bs (idF a b))) ∧ Below w.heap.size w w' := by
  have hmk : ∀ w : World, (Instr.makeSlice 94 (.int .i64 32) (.int .i64 32)).run Try.prog w = .ok (.slice (some ⟨w.heap.size, 0, none⟩) 32 32) (w.alloc (.cells (List.replicate 32 (.int .u8 0)).toArray 5)) := fun w => make_one (P := Try.prog) 94 5 (.int .u8 0) 1 Try.underlying94 infoU8 rfl 32 (by decide) (by decide) w
  go_enter Try.func49, Try.ntmps49
  have hcv : (convert 94 9 (.slice (some ⟨w.heap.size, 0, none⟩) 32 32)).run Try.prog (w.alloc (.cells #[.int .u8 (a.toNat : Int), .int .u8 0, .int .u8 0, .int .u8 0, .int .u8 0, .int .u8 0, .int .u8 0, .int .u8 0, .int .u8 0, .int .u8 0, .int .u8 0, .int .u8 0, .int .u8 0, .int .u8 0, .int .u8 0, .int .u8 0, .int .u8 0, .int .u8 0, .int .u8 0, .int .u8 0, .int .u8 0, .int .u8 0, .int .u8 0, .int .u8 0, .int .u8 0, .int .u8 0, .int .u8 0, .int .u8 0, .int .u8 0, .int .u8 0, .int .u8 0, .int .u8 (b.toNat : Int)] 5)) = .ok (.string (bs (idF a b))) (w.alloc (.cells #[.int .u8 (a.toNat : Int), .int .u8 0, .int .u8 0, .int .u8 0, .int .u8 0, .int .u8 0, .int .u8 0, .int .u8 0, .int .u8 0, .int .u8 0, .int .u8 0, .int .u8 0, .int .u8 0, .int .u8 0, .int .u8 0, .int .u8 0, .int .u8 0, .int .u8 0, .int .u8 0, .int .u8 0, .int .u8 0, .int .u8 0, .int .u8 0, .int .u8 0, .int .u8 0, .int .u8 0, .int .u8 0, .int .u8 0, .int .u8 0, .int .u8 0, .int .u8 0, .int .u8 (b.toNat : Int)] 5)) := conv_new w (idF a b) 32 (idF_length a b) (by decide)
  go_wp2_with fail
  go_ret
  exact ⟨rfl, b_alloc w _⟩

set_option maxRecDepth 100000 in
set_option maxHeartbeats 1000000 in
theorem Leaf23_any (s : List UInt8) (w : World) (hs : s.length ≤ 1000000) :
    Calls Try.prog 56 #[.string (bs s)] w fun e w' => e = .returned (.string (bs (shaF s))) ∧ Below w.heap.size w w' := by
  go_enter Try.func56, Try.ntmps56
  go_wp2_with fail
  refine (rSum_any s _ (by omega)).mono ?_
  rintro e w1 ⟨rfl, hB1⟩
  go_wp2_with fail
  go_ret
  exact ⟨rfl, hB1⟩

/-- identities of texts -/
def idOf (s : List UInt8) : List UInt8 := (shaF s).take 31 ++ [UInt8.ofNat s.length]
def idsF (l : List (List UInt8)) : List (List UInt8) := l.map idOf
theorem idOf_length (s : List UInt8) : (idOf s).length = 32 := by simp [idOf, shaF_length]
theorem idsF_all (l : List (List UInt8)) : allIds (idsF l) = true := by
  refine allIds_true fun k hk => ?_
  simp [idsF, isId, idOf_length]
/-- the bytes of the first 100 texts -/
def bytes23 (l : List (List UInt8)) : Nat := ((l.take 100).map List.length).sum
def long23 (l : List (List UInt8)) : Bool := decide (60 < l.length) || decide (4000 < bytes23 l)
theorem sum_take (l : List (List UInt8)) (k : Nat) (h : k < l.length) : ((l.take (k + 1)).map List.length).sum = ((l.take k).map List.length).sum + l[k].length := by
  rw [List.take_succ_eq_append_getElem h, List.map_append, List.sum_append]; simp
theorem mem_le_sum {l : List Nat} {x : Nat} (h : x ∈ l) : x ≤ l.sum := by
  induction l with
  | nil => simp at h
  | cons a l ih =>
    rcases List.mem_cons.1 h with rfl | h
    · simp
    · have := ih h; simp; omega
theorem long23_no {l : List (List UInt8)} (h : long23 l = false) : l.length ≤ 60 ∧ ∀ s ∈ l, s.length ≤ 4000 := by
  unfold long23 at h
  simp only [Bool.or_eq_false_iff, decide_eq_false_iff_not] at h
  refine ⟨by omega, fun s hs => ?_⟩
  have h2 := h.2
  unfold bytes23 at h2
  rw [List.take_of_length_le (by omega)] at h2
  have := mem_le_sum (List.mem_map_of_mem (f := List.length) hs)
  omega

set_option maxRecDepth 100000 in
set_option maxHeartbeats 1000000 in
theorem long23_any (v : Value) (l : List (List UInt8)) (w : World) (hr : recS.Row w v l) (hl : l.length ≤ 140737488355328) (hm : ∀ s ∈ l, s.length ≤ 140737488355328) :
    Calls Try.prog 21 #[v] w fun e w' => e = .returned (.bool (long23 l)) ∧ w = w' := by
  obtain ⟨a, cap, rfl, _, hc⟩ := recS_open hr
  have HC := Lib.hid hc
  have HM := Lib.hid hm
  clear hc hr hm
  go_enter Try.func21, Try.ntmps21
  go_wp2
  go_loop [3, 4] (fun vn vi => ∃ i n : Nat, vn = .int .i64 (n : Int) ∧ vi = .int .i64 (i : Int) ∧ i ≤ l.length ∧ i ≤ 100 ∧ n ≤ i * 140737488355328 ∧ Hid (n = ((l.take i).map List.length).sum)) (fun _ vi => 100 - (intOf vi).toNat)
  case atStart => exact ⟨0, 0, rfl, rfl, by omega, by omega, by omega, rfl⟩
  case round =>
    obtain ⟨i, n, rfl, rfl, hi, h100, hn, HN⟩ := hrel
    by_cases h0 : i < l.length ∧ i < 100
    · obtain ⟨b, off, rfl, c1⟩ := HC.out i h0.1
      have hs := HM.out l[i] (List.getElem_mem h0.1)
      have HSM := Lib.hid (sum_take l i h0.1)
      have i0 : (0 : Int) ≤ (i : Int) := by omega
      have i1 : (i : Int) < (l.length : Int) := by omega
      have i2 : (i : Int) < 100 := by omega
      have i3 : (n : Int) ≤ 14073748835532800 := by omega
      have i4 : (0 : Int) ≤ (n : Int) := by omega
      have i5 : (l[i].length : Int) ≤ 140737488355328 := by omega
      obtain ⟨m, hmm⟩ : ∃ m, m = l[i].length := ⟨_, rfl⟩
      go_wp2
      go_round
      case rel => exact ⟨i + 1, n + l[i].length, by go_num, by go_num, by omega, by omega, by omega, by unfold Hid; rw [HSM.out, HN.out]⟩
      case measure => simp [intOf]; omega
    · have hfin : n = bytes23 l := by
        rw [HN.out]; unfold bytes23
        by_cases h : i = 100
        · rw [h]
        · have : i = l.length := by omega
          subst this
          rw [List.take_length, List.take_of_length_le (by omega)]
      have HF := Lib.hid hfin
      clear hfin
      have i3 : (n : Int) ≤ 14073748835532800 := by omega
      by_cases h1 : i < l.length
      · have i1 : (i : Int) < (l.length : Int) := by omega
        have i2 : ¬ (i : Int) < 100 := by omega
        have i4 : (60 : Int) < (l.length : Int) := by omega
        have HL := Lib.hid (show long23 l = true by unfold long23; rw [decide_eq_true (by omega : 60 < l.length)]; rfl)
        clear h0
        go_wp2
        go_ret
        exact ⟨by rw [HL.out]; rfl, rfl⟩
      · have i1 : ¬ (i : Int) < (l.length : Int) := by omega
        by_cases h2 : 60 < l.length
        · have i4 : (60 : Int) < (l.length : Int) := by omega
          have HL := Lib.hid (show long23 l = true by unfold long23; rw [decide_eq_true h2]; rfl)
          clear h0
          go_wp2
          go_ret
          exact ⟨by rw [HL.out]; rfl, rfl⟩
        · have i4 : ¬ (60 : Int) < (l.length : Int) := by omega
          by_cases h3 : 4000 < n
          · have i5 : (4000 : Int) < (n : Int) := by omega
            have HL := Lib.hid (show long23 l = true by unfold long23; rw [← HF.out, decide_eq_true h3]; simp)
            clear h0
            go_wp2
            go_ret
            exact ⟨by rw [HL.out]; rfl, rfl⟩
          · have i5 : ¬ (4000 : Int) < (n : Int) := by omega
            have HL := Lib.hid (show long23 l = false by unfold long23; rw [← HF.out, decide_eq_false h3, decide_eq_false h2]; rfl)
            clear h0
            go_wp2
            go_ret
            exact ⟨by rw [HL.out]; rfl, rfl⟩

theorem conv_reads {w : World} {v : Value} {l : List UInt8} (h : Reads w v l.length (bcells l)) (hl : 0 < l.length) : (convert 94 9 v).run Try.prog w = .ok (.string (bs l)) w := by
  obtain ⟨a, cap, rfl, hn, hc⟩ := h
  cases a with
  | none => have := (hn rfl).1; omega
  | some ad =>
    refine run_convert_bytes_back w 94 9 5 ad cap l Try.underlying94 Try.underlying5 Try.underlying9 (fun j hj => ?_)
    obtain ⟨b, off, ha, hu⟩ := hc j (.int .u8 (l[j].toNat : Int)) (by simp [bcells, List.getElem?_eq_getElem hj])
    cases ha
    rw [Addr.add_lit]; exact hu
theorem wrap_u8n (n : Nat) : IntKind.u8.wrap (n : Int) = ((UInt8.ofNat n).toNat : Int) := by
  simp [IntKind.wrap, IntKind.bits, IntKind.signed]
theorem idsF_succ {l : List (List UInt8)} {k : Nat} (h : k < l.length) : idsF (l.take (k + 1)) = idsF (l.take k) ++ [idOf l[k]] := by
  unfold idsF; rw [List.take_succ_eq_append_getElem h, List.map_append]; rfl
theorem idsF_len (l : List (List UInt8)) : (idsF l).length = l.length := by simp [idsF]

set_option maxRecDepth 100000 in
set_option maxHeartbeats 4000000 in
theorem Ids23_any (v : Value) (l : List (List UInt8)) (w : World) (hr : recS.Row w v l) (hl : l.length ≤ 1000) (hm : ∀ s ∈ l, s.length ≤ 4000) :
    Calls Try.prog 24 #[v] w fun e w' => (∃ u, e = .returned u ∧ recS.Own w' w.heap.size u (idsF l)) ∧ Below w.heap.size w w' := by
  obtain ⟨a, cap, rfl, _, hc⟩ := recS_open hr
  have HC := Lib.hid hc
  have HM := Lib.hid hm
  clear hc hr hm
  go_enter Try.func24, Try.ntmps24
  go_wp2
  go_loopw [3, 4] (fun vo vk wr => ∃ k : Nat, ∃ av cv, vo = .slice av k cv ∧ vk = .int .i64 (k : Int) ∧ k ≤ l.length ∧ Hid (recS.Own wr w.heap.size (.slice av k cv) (idsF (l.take k))) ∧ Hid (Below w.heap.size w wr)) (fun _ k _ => l.length - (intOf k).toNat)
  case atStart => exact ⟨0, none, 0, rfl, rfl, by omega, Rec.Own.nil _ _, Below.refl _ _⟩
  case round =>
    obtain ⟨k, av, cv, rfl, rfl, hk, HO, HB⟩ := hrel
    by_cases h0 : k < l.length
    · obtain ⟨b, off, rfl, c1⟩ := HC.out k h0
      have c2 := Below.keeps HB.out c1
      have hs := HM.out l[k] (List.getElem_mem h0)
      have HSN := Lib.hid (idsF_succ h0)
      have hlk : (idsF (l.take k)).length = k := by rw [idsF_len, List.length_take]; omega
      have HLK := Lib.hid hlk
      obtain ⟨s, hsx⟩ : ∃ s, s = l[k] := ⟨_, rfl⟩
      rw [← hsx] at c2 hs HSN
      have HSX := Lib.hid hsx
      have k0 : (0 : Int) ≤ (k : Int) := by omega
      have k1 : (k : Int) < (l.length : Int) := by omega
      have k2 : (l.length : Int) ≤ 1000 := by omega
      have hwr := wrap_u8n s.length
      obtain ⟨u, hu⟩ : ∃ u, u = UInt8.ofNat s.length := ⟨_, rfl⟩
      rw [← hu] at hwr
      have HU := Lib.hid hu
      clear c1 hsx hu hlk
      go_wp2_with fail
      refine (Leaf23_any s _ (by omega)).mono ?_
      rintro e w1 ⟨rfl, hB1⟩
      have c3 := Below.keeps hB1 c2
      have HB1 := Lib.hid hB1
      obtain ⟨d, hd⟩ : ∃ d, d = shaF s := ⟨_, rfl⟩
      have hdl : d.length = 32 := by rw [hd]; exact shaF_length s
      rw [← hd]
      have HD := Lib.hid hd
      clear hB1 c2 hd
      have d1 : (31 : Int) ≤ (d.length : Int) := by omega
      go_wp2
      refine region_tail 13 [(6, .exact _ (.string (bs s))), (9, kReads 1 (bcells [u])), (10, .exact _ (.string (bs [u]))), (12, kReads 1 [.string (bs (d.take 31 ++ [u]))])] (by kernel_rfl) (by kernel_rfl) ?_
      simp only [List.take_succ_cons, List.take_zero, List.drop_succ_cons, List.drop_zero]
      (repeat (first | (refine wpG_skip (by kernel_rfl) (fun K hK => ?_); go_big_quiet_skip; refine wpQuiet_nil (hK _ ?_); clear hK K) | (refine wpG_quiet (by rfl) (by rfl) (fun K hK => ?_); go_big_quiet_want; go_big_quiet_op; go_big_quiet_on; refine wpQuiet_nil (hK _ ?_); clear hK K)))
      refine wpG_exact rfl (by kernel_rfl) (fun w' G hB hS hG => ?_) (fun K hK => ?_)
      · have c' := Below.keeps hB c3
        go_simp; exact hG _ (Bel.refl _)
      go_simp; refine hK _ ?_; clear hK K; (repeat (first | (refine wpG_skip (by kernel_rfl) (fun K hK => ?_); go_big_quiet_skip; refine wpQuiet_nil (hK _ ?_); clear hK K) | (refine wpG_quiet (by rfl) (by rfl) (fun K hK => ?_); go_big_quiet_want; go_big_quiet_op; go_big_quiet_on; refine wpQuiet_nil (hK _ ?_); clear hK K)))
      refine wpG_known (kReads 1 (bcells [u])) rfl (by kernel_rfl) (fun w' G hB hS hG => ?_) (fun x K hK => ?_)
      · go_simp; exact reads_new hG rfl
      obtain ⟨ad, c⟩ := x; go_simp; refine hK _ ?_; clear hK K; (repeat (first | (refine wpG_skip (by kernel_rfl) (fun K hK => ?_); go_big_quiet_skip; refine wpQuiet_nil (hK _ ?_); clear hK K) | (refine wpG_quiet (by rfl) (by rfl) (fun K hK => ?_); go_big_quiet_want; go_big_quiet_op; go_big_quiet_on; refine wpQuiet_nil (hK _ ?_); clear hK K)))
      refine wpG_exact rfl (by kernel_rfl) (fun w' G hB hS hG => ?_) (fun K hK => ?_)
      · have hcv := conv_reads (l := [u]) (at0 hS (by kernel_rfl)) (by simp)
        go_simp; exact hG _ (Bel.refl _)
      go_simp; refine hK _ ?_; clear hK K; (repeat (first | (refine wpG_skip (by kernel_rfl) (fun K hK => ?_); go_big_quiet_skip; refine wpQuiet_nil (hK _ ?_); clear hK K) | (refine wpG_quiet (by rfl) (by rfl) (fun K hK => ?_); go_big_quiet_want; go_big_quiet_op; go_big_quiet_on; refine wpQuiet_nil (hK _ ?_); clear hK K)))
      refine wpG_known (kReads 1 [.string (bs (d.take 31 ++ [u]))]) rfl (by kernel_rfl) (fun w' G hB hS hG => ?_) (fun x K hK => ?_)
      · go_simp; exact reads_new hG rfl
      obtain ⟨ad, c⟩ := x; go_simp; refine hK _ ?_; clear hK K; (repeat (first | (refine wpG_skip (by kernel_rfl) (fun K hK => ?_); go_big_quiet_skip; refine wpQuiet_nil (hK _ ?_); clear hK K) | (refine wpG_quiet (by rfl) (by rfl) (fun K hK => ?_); go_big_quiet_want; go_big_quiet_op; go_big_quiet_on; refine wpQuiet_nil (hK _ ?_); clear hK K)))
      refine wpG_nilYB ?_
      intro w' hB hA
      have hrd := all0 hA
      have HRD := Lib.hid (show Reads w' (.slice ad 1 c) 1 (recS.cell (d.take 31 ++ [u])) from hrd)
      have HB' := Lib.hid (bt HB1.out hB)
      clear hB hA hrd
      have hsz : w.heap.size ≤ w'.heap.size := Nat.le_trans HB.out.size HB'.out.size
      refine recS.append1R w' (d.take 31 ++ [u]) rfl _ _ 40 rfl Try.underlying40 w.heap.size _ (idsF (l.take k)) (HO.out.below HB'.out) rfl _ rfl HRD.out (by rw [HLK.out]; show (k + 1) * 16 ≤ _; omega) hsz ?_
      intro g cap3 w3 hown3 hc3 hg3
      rw [HLK.out] at hown3 ⊢
      have hb3 : Below w.heap.size w w3 := HB.out.trans ((HB'.out.mono HB.out.size).trans (hc3.below (fun j hj => (HO.out.lt j hj).1) hsz))
      have HB3 := Lib.hid hb3
      have HO3 := Lib.hid hown3
      have HFIN := Lib.hid (show d.take 31 ++ [u] = idOf s by rw [HD.out, HU.out]; rfl)
      clear hown3 hc3 hg3 hb3
      go_wp2
      go_roundw
      case rel =>
        exact ⟨k + 1, some ⟨g, 0, none⟩, cap3, rfl, by go_num, by omega, by rw [HSN.out, ← HFIN.out]; exact HO3.out, HB3.out⟩
      case measure => simp [intOf]; omega
    · obtain rfl : k = l.length := by omega
      have ho := HO.out
      rw [List.take_length] at ho
      have HOF := Lib.hid ho
      clear ho
      go_wp2
      go_ret
      exact ⟨⟨_, rfl, HOF.out⟩, HB.out⟩
end Go.Proofs.Ytahmacnmphjhgaa
namespace Go.Proofs.Ytahmacnmphjhgaa
open Go.RowKit Oct

theorem leafIds_build {l : List (List UInt8)} (hid : allIds l = true) : leafIds (buildF l) l.length = l := by
  obtain ⟨sp, level, _, h⟩ := buildF_gd hid
  apply List.ext_getElem
  · rw [leafIds_len h.ge]
  · intro i h1 h2
    have := (h.leaf i h2).1
    have hi : i < (buildF l).length := Nat.lt_of_lt_of_le h2 h.ge
    rw [List.getElem?_eq_getElem hi] at this
    simp [leafIds, Option.some.inj this]
theorem checkF_build {l : List (List UInt8)} (hid : allIds l = true) (hl : l.length ≤ 4096) : checkF (buildF l) (l.length : Int) = true := by
  unfold checkF
  have := (buildF_sizes hid).1
  rw [Int.toNat_natCast, leafIds_build hid, hid, decide_eq_true (by omega : (0 : Int) ≤ (l.length : Int)), decide_eq_true (by omega : (l.length : Int) ≤ ((buildF l).length : Int)), decide_eq_true (by omega : (l.length : Int) ≤ 4096)]
  simp

def L1 : List (List UInt8) := [idF 1 0]
def L3 : List (List UInt8) := [idF 1 0, idF 2 0, idF 3 0]
theorem L1_all : allIds L1 = true := by decide +kernel
theorem L3_all : allIds L3 = true := by decide +kernel
theorem L1_len : (buildF L1).length = 1 := by decide +kernel
theorem L3_len : (buildF L3).length = 4 := by decide +kernel
theorem L3_kids : (kidsOf (buildF L3) 3).length = 3 := by decide +kernel
theorem x_all : allIds [[120]] = false := by decide +kernel

theorem all_len {l : List (List UInt8)} (h : allIds l = true) : ∀ s ∈ l, s.length ≤ 140737488355328 := fun s hs => by
  have := List.all_eq_true.1 h s hs
  have : s.length = 32 := by simpa [isId] using this
  omega
theorem nds_len {l : List (List UInt8)} (h : allIds l = true) : (∀ x ∈ buildF l, x.2.length ≤ 140737488355328) ∧ ∀ x ∈ buildF l, x.1.length ≤ 140737488355328 :=
  ⟨fun x hx => by have := (buildF_sizes h).2.2.2 x hx; omega, fun x hx => by have := (buildF_sizes h).2.2.1 x hx; omega⟩
theorem x_m : ∀ s ∈ [[(120 : UInt8)]], s.length ≤ 140737488355328 := by decide
theorem L1_n : (L1.length : Int) = 1 := rfl
theorem L3_n : (L3.length : Int) = 3 := rfl
/-- a row of a literal -/
theorem recS_lit (w : World) (l : List (List UInt8)) (cs : Array Value) (hcs : cs = (recS.cells l).toArray) (n : Nat) (hn : n = l.length) : recS.Row (w.alloc (.cells cs 9)) (.slice (some ⟨w.heap.size, 0, none⟩) n n) l ∧ ∀ b, (Value.slice (some ⟨w.heap.size, 0, none⟩) n n).ownBlock = some b → b < (w.alloc (.cells cs 9)).heap.size := by
  subst hcs hn
  exact ⟨Rec.Row.new w l _, fun b hb => by
    have e : w.heap.size = b := by simpa [Value.ownBlock] using hb
    rw [size_al]
    omega⟩
theorem build_good {w' : World} {l : List (List UInt8)} {e : Ending} (h : b23R w' l e) (hid : allIds l = true) (hl : l.length ≤ 4096) : ∃ v, e = .returned (.tuple #[.agg #[v, .int .i64 (l.length : Int)], .int .i64 0]) ∧ NR w' v (buildF l) := by
  unfold b23R at h; rwa [if_pos ⟨hid, hl⟩] at h
theorem build_bad {w' : World} {l : List (List UInt8)} {e : Ending} (h : b23R w' l e) (hid : allIds l = false) : e = .returned (.tuple #[.agg #[.slice none 0 0, .int .i64 0], .int .i64 2]) := by
  unfold b23R at h; rwa [if_neg (by simp [hid])] at h
theorem NR.nil (w : World) : NR w (.slice none 0 0) [] := ⟨[], Rec.Row.nil w, rfl, fun i h => absurd h (by simp)⟩

set_option maxRecDepth 100000 in
set_option maxHeartbeats 8000000 in
theorem alive23 (w : World) : Calls Try.prog 22 #[] w fun e w' => e = .returned (.bool true) ∧ Below w.heap.size w w' := by
  have k1 := fun w => id23_any 1 0 w
  have k2 := fun w => id23_any 2 0 w
  have k3 := fun w => id23_any 3 0 w
  rw [show ((1 : UInt8).toNat : Int) = 1 from rfl, show ((0 : UInt8).toNat : Int) = 0 from rfl] at k1
  simp only [show ((2 : UInt8).toNat : Int) = 2 from rfl, show ((0 : UInt8).toNat : Int) = 0 from rfl] at k2
  simp only [show ((3 : UInt8).toNat : Int) = 3 from rfl, show ((0 : UInt8).toNat : Int) = 0 from rfl] at k3
  have K1 := Lib.hid k1
  have K2 := Lib.hid k2
  have K3 := Lib.hid k3
  clear k1 k2 k3
  go_enter Try.func22, Try.ntmps22
  go_wp2_with fail
  refine (K1.out w).mono ?_
  rintro e w1 ⟨rfl, hB1⟩
  go_wp2_with fail
  obtain ⟨r1, r2⟩ := recS_lit w1 L1 #[.string (bs (idF 1 0))] rfl 1 rfl
  refine (Build_any _ L1 _ r1 r2 (by decide) (all_len L1_all)).mono ?_
  rintro e w2 ⟨hres, hB2⟩
  obtain ⟨va, rfl, hna⟩ := build_good hres L1_all (by decide)
  obtain ⟨aa, ca, rfl, _, _⟩ := NR_open hna
  rw [L1_len, L1_n]
  have hb2 : Below w.heap.size w w2 := bt hB1 (bt (b_alloc w1 _) hB2)
  have hx2 := World.alloc_heap_new w2 (.cells #[.slice aa 1 ca, .int .i64 1] 44)
  obtain ⟨W2, hW2⟩ : ∃ W2, W2 = w2.alloc (.cells #[.slice aa 1 ca, .int .i64 1] 44) := ⟨_, rfl⟩
  rw [← hW2] at hx2
  have hbW2 : Below w.heap.size w W2 := by rw [hW2]; exact bt hb2 (b_alloc w2 _)
  have HX2 := Lib.hid hx2
  have HBW2 := Lib.hid hbW2
  clear hres hB1 hB2 hna hb2 hx2 hbW2 r1 r2
  go_wp2_with fail
  rw [← hW2]
  clear hW2
  refine (K1.out W2).mono ?_
  rintro e w3 ⟨rfl, hB3⟩
  go_wp2_with fail
  refine (K2.out w3).mono ?_
  rintro e w4 ⟨rfl, hB4⟩
  go_wp2_with fail
  refine (K3.out w4).mono ?_
  rintro e w5 ⟨rfl, hB5⟩
  go_wp2_with fail
  obtain ⟨r1, r2⟩ := recS_lit w5 L3 #[.string (bs (idF 1 0)), .string (bs (idF 2 0)), .string (bs (idF 3 0))] rfl 3 rfl
  refine (Build_any _ L3 _ r1 r2 (by decide) (all_len L3_all)).mono ?_
  rintro e w6 ⟨hres, hB6⟩
  obtain ⟨vb, rfl, hnb⟩ := build_good hres L3_all (by decide)
  obtain ⟨ab, cb, rfl, _, hcb⟩ := NR_open hnb
  obtain ⟨bb, ob, ak, nk, ck, rfl, _, d2, d3⟩ := hcb 3 (by have := L3_len; omega)
  have hnk : nk = 3 := by
    obtain ⟨_, _, hv, _, _⟩ := recI_open d3
    injection hv
  subst hnk
  rw [L3_len] at hnb ⊢
  rw [L3_n]
  have hb6 : Below W2.heap.size W2 w6 := bt hB3 (bt hB4 (bt hB5 (bt (b_alloc w5 _) hB6)))
  have hx6 := World.alloc_heap_new w6 (.cells #[.slice (some ⟨bb, ob, none⟩) 4 cb, .int .i64 3] 44)
  obtain ⟨W6, hW6⟩ : ∃ W6, W6 = w6.alloc (.cells #[.slice (some ⟨bb, ob, none⟩) 4 cb, .int .i64 3] 44) := ⟨_, rfl⟩
  rw [← hW6] at hx6
  have hb66 : Below w6.heap.size w6 W6 := by rw [hW6]; exact b_alloc w6 _
  have hbW6 : Below W2.heap.size W2 W6 := bt hb6 hb66
  have HX6 := Lib.hid hx6
  have HBW6 := Lib.hid hbW6
  have HNB := Lib.hid (hnb.below hb66)
  have HD2 := Lib.hid (Below.keeps hb66 d2)
  obtain ⟨c61, c62, _, _⟩ := two_cells hx6
  clear hres hB3 hB4 hB5 hB6 hnb hb6 hx6 hb66 hbW6 r1 r2 d2 d3 hcb
  go_wp2_with fail
  rw [← hW6]
  clear hW6
  have hck := checkF_build L3_all (by decide)
  rw [L3_n] at hck
  obtain ⟨hnd1, hnd2⟩ := nds_len L3_all
  have HCK := Lib.hid hck
  have HND1 := Lib.hid hnd1
  have HND2 := Lib.hid hnd2
  clear hck hnd1 hnd2
  refine (Root23_any _ 3 (buildF L3) W6 HNB.out (by rw [L3_len]; decide) HND1.out HND2.out).mono ?_
  rw [HCK.out, L3_len]
  rintro e w7 ⟨rfl, hB7⟩
  rw [show (true && decide (0 < 4)) = true from rfl]
  rw [show rootF (buildF L3) true = (3, true) by unfold rootF; rw [L3_len]; rfl]
  go_wp2_with fail
  refine (Root23_any _ 0 [] w7 (NR.nil _) (by decide) (fun x h => absurd h (by simp)) (fun x h => absurd h (by simp))).mono ?_
  rw [show (checkF [] 0 && decide (0 < ([] : List Nd).length)) = false by rw [show decide (0 < ([] : List Nd).length) = false from rfl, Bool.and_false]]
  rintro e w8 ⟨rfl, hB8⟩
  rw [show rootF [] false = (0, false) from rfl]
  go_wp2_with fail
  obtain ⟨r1, r2⟩ := recS_lit w8 [[120]] #[.string (bs [120])] rfl 1 rfl
  refine (Build_any _ [[120]] _ r1 r2 (by decide) x_m).mono ?_
  rintro e w9 ⟨hres, hB9⟩
  obtain rfl := build_bad hres x_all
  have hb9 : Below W6.heap.size W6 w9 := bt hB7 (bt hB8 (bt (b_alloc w8 _) hB9))
  obtain ⟨W9, hW9⟩ : ∃ W9, W9 = w9.alloc (.cells #[.slice none 0 0, .int .i64 0] 44) := ⟨_, rfl⟩
  have hbW9 : Below W6.heap.size W6 W9 := by rw [hW9]; exact bt hb9 (b_alloc w9 _)
  have d61 := Below.keeps hbW9 c61
  have d62 := Below.keeps hbW9 c62
  have HBW9 := Lib.hid hbW9
  rw [hW9] at d61 d62
  clear hres hB7 hB8 hB9 hb9 hbW9 r1 r2
  go_wp2_with fail
  rw [← hW9]
  clear d61 d62 hW9
  refine (Under23_any _ 3 4 (buildF L3) W9 (HNB.out.below HBW9.out) (by rw [L3_len]; decide) HND1.out HND2.out).mono ?_
  rw [HCK.out, underE_out (by rw [L3_len]; decide)]
  rintro e w10 ⟨rfl, hB10⟩
  rw [spV_mk]
  obtain ⟨W10, hW10⟩ : ∃ W10, W10 = w10.alloc (.cells #[.int .i64 0, .int .i64 0] 53) := ⟨_, rfl⟩
  have hbW10 : Below W6.heap.size W6 W10 := by rw [hW10]; exact bt HBW9.out (bt hB10 (b_alloc w10 _))
  obtain ⟨c21, c22, _, _⟩ := two_cells HX2.out
  have e21 := Below.keeps (bt HBW6.out hbW10) c21
  have e22 := Below.keeps (bt HBW6.out hbW10) c22
  have e61 := Below.keeps hbW10 c61
  have e62 := Below.keeps hbW10 c62
  have e71 := Below.keeps hbW10 HD2.out
  have HBW10 := Lib.hid hbW10
  clear hB10 hbW10 c21 c22 c61 c62
  rw [hW10] at e21 e22 e61 e62 e71
  go_wp2_with fail
  rw [← hW10]
  refine (Check23_any _ 3 (buildF L3) W10 (HNB.out.below HBW10.out) (by rw [L3_len]; decide) HND1.out HND2.out).mono ?_
  rw [HCK.out]
  rintro e w11 ⟨rfl, hB11⟩
  rw [show chkV true = 0 from rfl]
  go_wp2_with fail
  go_ret
  exact ⟨rfl, bt HBW2.out (bt HBW6.out (bt HBW10.out hB11))⟩
end Go.Proofs.Ytahmacnmphjhgaa
namespace Go.Proofs.Ytahmacnmphjhgaa
open Go.RowKit Oct
theorem wpG_nilYK {P : Program} {ops : Array Oper} {C : World → Prop} {R : World → World → Prop} {F : Nat → Option (Known R)} {Q : Facts → Act → Prop} {k : Nat} {S : Facts} {a : Act} (h : Q S a) : wpG P ops C R F Q k [] S a := h
attribute [local irreducible] wpG

def slenY : Value → Nat
  | .slice _ n _ => n
  | _ => 0
/-- where the reference's build stands -/
structure SR (T base : Nat) (n0 : Int) (U : World) (nv lv : Value) (nodes : List Nd) (level : List Int) : Prop where
  bt : U.heap[T]? = some (.cells #[nv, .int .i64 n0] 44 (0, 0))
  nl : NL U base (fun k => base ≤ k) nv lv nodes level
section
variable {T base D : Nat} {n0 : Int} {U U' w3 W0 : World} {nv lv nv0 xv : Value} {nodes : List Nd} {level : List Int} {S : List Nd × List Int}
theorem SR.below (h : SR T base n0 U nv lv nodes level) (hB : Below U.heap.size U U') : SR T base n0 U' nv lv nodes level :=
  ⟨(hB.block T (Array.getElem?_eq_some_iff.1 h.bt).1).trans h.bt, h.nl.below hB⟩
theorem SR.lev (hT : T < base) (h : SR T base n0 U nv lv nodes level) {g cap : Nat} {level' : List Int} (hc : Chg (fun k => lv.ownBlock = some k) U U') (hg : lv.ownBlock = some g ∨ U.heap.size ≤ g) (ho : recI.Own U' base (.slice (some ⟨g, 0, none⟩) level'.length cap) level') :
    SR T base n0 U' nv (.slice (some ⟨g, 0, none⟩) level'.length cap) nodes level' :=
  ⟨hc.at h.bt (fun e => by have := (h.nl.blk.2 _ e).1; omega), h.nl.level hc hg ho⟩
theorem SR.push (hT : T < base) (h : SR T base n0 U nv lv nodes level) {raw : List (List UInt8 × (Option Addr × Nat × Nat))} {x : List UInt8 × (Option Addr × Nat × Nat)} {y : Nd} {g cap n : Nat} (r2 : raw.length = nodes.length)
    (r3 : ∀ i (h : i < raw.length) (h' : i < nodes.length), KR U (fun k => base ≤ k) nv lv raw[i] nodes[i]) (hx : KR U (fun k => base ≤ k) nv lv x y) (hc : Chg (fun k => nv.ownBlock = some k) U w3) (hg : nv.ownBlock = some g ∨ U.heap.size ≤ g)
    (ho : recN.Own w3 base (.slice (some ⟨g, 0, none⟩) n cap) (raw ++ [x])) : SR T base n0 (w3.setCell ⟨T, 0, none⟩ (.slice (some ⟨g, 0, none⟩) n cap)) (.slice (some ⟨g, 0, none⟩) n cap) lv (nodes ++ [y]) level := by
  have h1 := hc.at h.bt (fun e => by have := (h.nl.blk.1 _ e).1; omega)
  have h2 := NL.node h.nl.lev h.nl.ap r2 r3 hx hc hg ho
  refine ⟨?_, h2.chg (Chg.setCell (X := fun k => k = T) w3 ⟨T, 0, none⟩ _ rfl) (h2.avoid (hK := by show ¬ base ≤ T; omega) hT)⟩
  have hlt := (Array.getElem?_eq_some_iff.1 h1)
  simp [World.setCell, Array.getElem?_modify, h1]
/-- between two rounds over a level's groups -/
structure RJ (T base D : Nat) (n0 : Int) (nv0 : Value) (W0 U : World) (nv xv : Value) (S : List Nd × List Int) : Prop where
  sr : SR T base n0 U nv xv S.1 S.2
  hn : nv.ownBlock = nv0.ownBlock ∨ ∀ b, nv.ownBlock = some b → D ≤ b
  hx : ∀ b, xv.ownBlock = some b → D ≤ b
  ch : Chg (fun k => k = T ∨ nv0.ownBlock = some k ∨ D ≤ k) W0 U
theorem RJ.below (h : RJ T base D n0 nv0 W0 U nv xv S) (hB : Below U.heap.size U U') : RJ T base D n0 nv0 W0 U' nv xv S := ⟨h.sr.below hB, h.hn, h.hx, h.ch.trans (Chg.of_below hB)⟩
theorem RJ.lev (hT : T < base) (hD : D ≤ U.heap.size) (h : RJ T base D n0 nv0 W0 U nv xv S) {g cap : Nat} {level' : List Int} (hc : Chg (fun k => xv.ownBlock = some k) U U') (hg : xv.ownBlock = some g ∨ U.heap.size ≤ g) (ho : recI.Own U' base (.slice (some ⟨g, 0, none⟩) level'.length cap) level') :
    RJ T base D n0 nv0 W0 U' nv (.slice (some ⟨g, 0, none⟩) level'.length cap) (S.1, level') := by
  refine ⟨h.sr.lev hT hc hg ho, h.hn, fun b hb => ?_, h.ch.trans (hc.mono fun k hk => .inr (.inr (h.hx k hk)))⟩
  have e : g = b := by simpa [Value.ownBlock] using hb
  subst e
  rcases hg with hg | hg
  · exact h.hx _ hg
  · omega
theorem RJ.push (hT : T < base) (hD : D ≤ U.heap.size) (h : RJ T base D n0 nv0 W0 U nv xv S) {raw : List (List UInt8 × (Option Addr × Nat × Nat))} {x : List UInt8 × (Option Addr × Nat × Nat)} {y : Nd} {g cap n : Nat} (r2 : raw.length = S.1.length)
    (r3 : ∀ i (h : i < raw.length) (h' : i < S.1.length), KR U (fun k => base ≤ k) nv xv raw[i] S.1[i]) (hx : KR U (fun k => base ≤ k) nv xv x y) (hc : Chg (fun k => nv.ownBlock = some k) U w3) (hg : nv.ownBlock = some g ∨ U.heap.size ≤ g)
    (ho : recN.Own w3 base (.slice (some ⟨g, 0, none⟩) n cap) (raw ++ [x])) : RJ T base D n0 nv0 W0 (w3.setCell ⟨T, 0, none⟩ (.slice (some ⟨g, 0, none⟩) n cap)) (.slice (some ⟨g, 0, none⟩) n cap) xv (S.1 ++ [y], S.2) := by
  have hnk : ∀ k, nv.ownBlock = some k → k = T ∨ nv0.ownBlock = some k ∨ D ≤ k := fun k hk => by
    rcases h.hn with e | e
    · exact .inr (.inl (by rw [← e]; exact hk))
    · exact .inr (.inr (e k hk))
  refine ⟨h.sr.push hT r2 r3 hx hc hg ho, ?_, h.hx, h.ch.trans ((hc.mono hnk).trans (Chg.setCell _ _ _ (.inl rfl)))⟩
  have e1 : (Value.slice (some ⟨g, 0, none⟩) n cap).ownBlock = some g := rfl
  rw [e1]
  rcases hg with hg | hg
  · rcases h.hn with e | e
    · exact .inl (by rw [← e, hg])
    · exact .inr fun b hb => by have := e g hg; cases hb; omega
  · exact .inr fun b hb => by cases hb; omega
end
end Go.Proofs.Ytahmacnmphjhgaa
