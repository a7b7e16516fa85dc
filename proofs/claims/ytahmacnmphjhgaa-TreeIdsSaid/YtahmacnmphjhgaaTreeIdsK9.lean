/- Lemmas for TreeIds, part 9: walks of the functions that it reaches, and the plain laws behind them. -/
import Derived.Maps.Own
import Derived.Maps.OwnOps
import Derived.Maps.OwnSet
import Derived.WalkKit
import Derived.ProofKit
import Derived.OpenShut
import Derived.ShutString
import Derived.ChangeOld
import Derived.SizedLaws
import Derived.SliceStrings
import Derived.Test.YtahmacnmphjhgaaRows
import Derived.Deep.Slices
import Derived.ChangeSame
import Derived.Test.YtahmacnmphjhgaaTreeIdsK8
set_option linter.unusedSimpArgs false
set_option linter.unusedVariables false
namespace Go.Proofs.Ytahmacnmphjhgaa
open Go.RowKit Oct

def sd (d : Bool) (v u : Value) : Value := bif d then v else u
@[go_sem] theorem sd_true (v u : Value) : sd true v u = v := rfl
@[go_sem] theorem sd_false (v u : Value) : sd false v u = u := rfl
/-- a node's copy in block b: still empty, or filled -/
def ndCells (d : Bool) (n : Array Value) : Array Value := bif d then n else #[.string ByteArray.empty, .slice none 0 0]
@[go_sem] theorem ndCells_true (n : Array Value) : ndCells true n = n := rfl
@[go_sem] theorem ndCells_false (n : Array Value) : ndCells false n = #[.string ByteArray.empty, .slice none 0 0] := rfl
/-- what is known of two copies on the way -/
def SB23 (w0 w : World) (n1 n2 : Array Value) (d10 d11 d12 d13 : Bool) (b6 b7 : Nat) : Prop :=
  Below w0.heap.size w0 w ∧ (d10 = true → w0.heap.size ≤ b6 ∧ w.heap[b6]? = some (.cells (ndCells d12 n1) 51 (0, 0))) ∧ (d11 = true → w0.heap.size ≤ b7 ∧ w.heap[b7]? = some (.cells (ndCells d13 n2) 51 (0, 0))) ∧
    (d10 = true → d11 = true → b6 ≠ b7) ∧ (d12 = true → d10 = true) ∧ (d13 = true → d11 = true)
section
variable {w0 w : World} {n1 n2 : Array Value} {d10 d11 d12 d13 : Bool} {b6 b7 : Nat}
theorem ffb {d : Bool} (h : d = true → false = true) : d = false := by cases d <;> simp_all
theorem SB23.alloc6 (h : SB23 w0 w n1 n2 false d11 d12 d13 b6 b7) : SB23 w0 (w.alloc (.cells #[.string ByteArray.empty, .slice none 0 0] 51)) n1 n2 true d11 d12 d13 w.heap.size b7 := by
  obtain ⟨h0, h1, h2, h3, h4, h5⟩ := h
  obtain rfl := ffb h4
  exact ⟨bt h0 (b_alloc _ _), fun _ => ⟨h0.size, World.alloc_heap_new w _⟩, fun e => ⟨(h2 e).1, by rw [Below.heap_alloc _ _ _ (Array.getElem?_eq_some_iff.1 (h2 e).2).1]; exact (h2 e).2⟩, fun _ e => Nat.ne_of_gt (Array.getElem?_eq_some_iff.1 (h2 e).2).1, fun e => (by cases e), h5⟩
theorem SB23.alloc7 (h : SB23 w0 w n1 n2 d10 false d12 d13 b6 b7) : SB23 w0 (w.alloc (.cells #[.string ByteArray.empty, .slice none 0 0] 51)) n1 n2 d10 true d12 d13 b6 w.heap.size := by
  obtain ⟨h0, h1, h2, h3, h4, h5⟩ := h
  obtain rfl := ffb h5
  exact ⟨bt h0 (b_alloc _ _), fun e => ⟨(h1 e).1, by rw [Below.heap_alloc _ _ _ (Array.getElem?_eq_some_iff.1 (h1 e).2).1]; exact (h1 e).2⟩, fun _ => ⟨h0.size, World.alloc_heap_new w _⟩, fun e _ => Nat.ne_of_lt (Array.getElem?_eq_some_iff.1 (h1 e).2).1, h4, fun e => (by cases e)⟩
theorem SB23.store6 {x y : Value} (h : SB23 w0 w #[x, y] n2 true d11 false d13 b6 b7) : SB23 w0 ((w.setCell ⟨b6, 0, none⟩ x).setCell ⟨b6, 1, none⟩ y) #[x, y] n2 true d11 true d13 b6 b7 := by
  obtain ⟨h0, h1, h2, h3, h4, h5⟩ := h
  have hc := two_chg w b6 x y
  exact ⟨h0.trans (hc.below (fun k hk => by have := (h1 rfl).1; omega) h0.size), fun _ => ⟨(h1 rfl).1, two_set (h1 rfl).2⟩, fun e => ⟨(h2 e).1, hc.at (h2 e).2 (fun e2 => h3 rfl e e2.symm)⟩, h3, fun _ => rfl, h5⟩
theorem SB23.store7 {x y : Value} (h : SB23 w0 w n1 #[x, y] d10 true d12 false b6 b7) : SB23 w0 ((w.setCell ⟨b7, 0, none⟩ x).setCell ⟨b7, 1, none⟩ y) n1 #[x, y] d10 true d12 true b6 b7 := by
  obtain ⟨h0, h1, h2, h3, h4, h5⟩ := h
  have hc := two_chg w b7 x y
  exact ⟨h0.trans (hc.below (fun k hk => by have := (h2 rfl).1; omega) h0.size), fun e => ⟨(h1 e).1, hc.at (h1 e).2 (fun e2 => h3 e rfl e2)⟩, fun _ => ⟨(h2 rfl).1, two_set (h2 rfl).2⟩, h3, h4, fun _ => rfl⟩
end
theorem nd_at {l : List Nd} {k : Nat} (h : k < l.length) : kidsOf l k = l[k].2 := by unfold kidsOf; rw [List.getD, List.getElem?_eq_getElem h]; rfl
set_option maxRecDepth 100000 in
set_option maxHeartbeats 8000000 in
theorem rSame23_any (va vb : Value) (n0 m0 : Int) (a b : List Nd) (w : World) (ha : NR w va a) (hb : NR w vb b) (hla : a.length ≤ 1000000) (hlb : b.length ≤ 1000000) (hka : ∀ x ∈ a, x.2.length ≤ 140737488355328) (hkb : ∀ x ∈ b, x.2.length ≤ 140737488355328) :
    Calls Try.prog 28 #[.agg #[va, .int .i64 n0], .agg #[vb, .int .i64 m0]] w fun e w' => e = .returned (.bool (decide (a = b ∧ n0 = m0))) ∧ Below w.heap.size w w' := by
  obtain ⟨aa, ca, rfl, _, hca⟩ := NR_open ha
  obtain ⟨ab, cb, rfl, _, hcb⟩ := NR_open hb
  have HCA := Lib.hid hca
  have HCB := Lib.hid hcb
  have HKA := Lib.hid hka
  have HKB := Lib.hid hkb
  obtain ⟨k1, k2, k3⟩ := two_new w (.cells #[.slice aa a.length ca, .int .i64 n0] 44) (.cells #[.slice ab b.length cb, .int .i64 m0] 44)
  obtain ⟨W1, hW1⟩ : ∃ W1, W1 = (w.alloc (.cells #[.slice aa a.length ca, .int .i64 n0] 44)).alloc (.cells #[.slice ab b.length cb, .int .i64 m0] 44) := ⟨_, rfl⟩
  rw [← hW1] at k1 k2 k3
  have K1 := Lib.hid k1
  have K2 := Lib.hid k2
  have K3 := Lib.hid k3
  clear hca hcb ha hb hka hkb k1 k2 k3
  by_cases hl : a.length = b.length
  · have t1 : ((a.length : Int) != (b.length : Int)) = false := by rw [bne_eq_false_iff_eq]; omega
    have hL := Lib.hid hl
    clear hl
    by_cases hn : n0 = m0
    · have t2 : (n0 != m0) = false := by rw [bne_eq_false_iff_eq]; exact hn
      have HN := Lib.hid hn
      clear hn
      go_enter Try.func28, Try.ntmps28
      go_wp2_with fail
      rw [← hW1]
      clear hW1
      go_loopw [5] (fun i wr => ∃ k : Nat, k ≤ a.length ∧ i = .int .i64 k ∧ Hid (∀ j (h : j < a.length) (h' : j < b.length), j < k → a[j] = b[j]) ∧ Hid (Below W1.heap.size W1 wr)) (fun i _ => a.length - (intOf i).toNat)
      case atStart => exact ⟨0, by omega, rfl, by intro j _ _ h; omega, Below.refl _ _⟩
      case round =>
        obtain ⟨k, hk, rfl, hH, hB⟩ := hrel
        have K1' := Lib.hid ((hB.out.block w.heap.size (Array.getElem?_eq_some_iff.1 K1.out).1).trans K1.out)
        have K2' := Lib.hid ((hB.out.block (w.heap.size + 1) (Array.getElem?_eq_some_iff.1 K2.out).1).trans K2.out)
        obtain ⟨c1, c2, _, _⟩ := two_cells K1'.out
        obtain ⟨c3, c4, _, _⟩ := two_cells K2'.out
        by_cases h0 : k < a.length
        · have h0b : k < b.length := by have := hL.out; omega
          obtain ⟨b1, o1, ak1, nk1, ck1, rfl, hc1, hc2, hr1⟩ := HCA.out k h0
          obtain ⟨b2, o2, ak2, nk2, ck2, rfl, hc3, hc4, hr2⟩ := HCB.out k h0b
          have g1 := Below.keeps hB.out (Below.keeps K3.out hc1)
          have g2 := Below.keeps hB.out (Below.keeps K3.out hc2)
          have g3 := Below.keeps hB.out (Below.keeps K3.out hc3)
          have g4 := Below.keeps hB.out (Below.keeps K3.out hc4)
          have kk0 : (0 : Int) ≤ (k : Int) := by omega
          have kk1 : (k : Int) < (a.length : Int) := by omega
          have kk2 : (k : Int) < (b.length : Int) := by omega
          have kk3 : (a.length : Int) ≤ 1000000 := by omega
          have HR1 := Lib.hid hr1
          have HR2 := Lib.hid hr2
          clear hc1 hc2 hc3 hc4 hr1 hr2
          go_wp2_with fail
          have hI0 : ∃ I : Array Bool → Act → World → Prop, I = (fun listed ax wx => ∃ d0 d1 d2 d3 d4 d5 d6 d7 d8 d9 d10 d11 d12 d13 : Bool, ∃ x6 x7 : Nat, listed = #[d0, d1, d2, d3, d4, d5, d6, d7, d8, d9, d10, d11, d12, d13] ∧ ax = { tmps := List.toArray ((.agg #[.slice (some ⟨b1, o1, none⟩) a.length ca, .int .i64 n0]) :: (.agg #[.slice (some ⟨b2, o2, none⟩) b.length cb, .int .i64 m0]) :: (.pointer (some ⟨w.heap.size, 0, none⟩)) :: (.pointer (some ⟨w.heap.size + 1, 0, none⟩)) :: u4 :: (.int .i64 (k : Int)) :: (sd d10 (.pointer (some ⟨x6, 0, none⟩)) u6) :: (sd d11 (.pointer (some ⟨x7, 0, none⟩)) u7) :: u8 :: (.pointer (some ⟨w.heap.size, 0, none⟩)) :: (.slice (some ⟨b1, o1, none⟩) a.length ca) :: (.int .i64 (a.length : Int)) :: (.pointer (some ⟨w.heap.size + 1, 0, none⟩)) :: (.slice (some ⟨b2, o2, none⟩) b.length cb) :: (.int .i64 (b.length : Int)) :: (.bool false) :: (.bool false) :: (.pointer (some ⟨w.heap.size, 1, none⟩)) :: (.int .i64 n0) :: (.pointer (some ⟨w.heap.size + 1, 1, none⟩)) :: (.int .i64 m0) :: (.bool false) :: (.bool false) :: (.int .i64 (k : Int)) :: (.pointer (some ⟨w.heap.size, 0, none⟩)) :: (.slice (some ⟨b1, o1, none⟩) a.length ca) :: (.int .i64 (a.length : Int)) :: (.bool true) :: u28 :: u29 :: (sd d0 (.pointer (some ⟨w.heap.size, 0, none⟩)) u30) :: (sd d1 (.slice (some ⟨b1, o1, none⟩) a.length ca) u31) :: (sd d2 (.int .i64 (k : Int)) u32) :: (sd d3 (.pointer (some ⟨b1, o1 + k * 2, none⟩)) u33) :: (sd d4 (.agg #[.string (bs a[k].1), .slice ak1 nk1 ck1]) u34) :: (sd d5 (.pointer (some ⟨w.heap.size + 1, 0, none⟩)) u35) :: (sd d6 (.slice (some ⟨b2, o2, none⟩) b.length cb) u36) :: (sd d7 (.int .i64 (k : Int)) u37) :: (sd d8 (.pointer (some ⟨b2, o2 + k * 2, none⟩)) u38) :: (sd d9 (.agg #[.string (bs b[k].1), .slice ak2 nk2 ck2]) u39) :: u40 :: u41 :: u42 :: u43 :: u44 :: u45 :: u46 :: u47 :: u48 :: u49 :: u50 :: u51 :: u52 :: u53 :: u54 :: u55 :: u56 :: u57 :: u58 :: u59 :: u60 :: u61 :: u62 :: u63 :: u64 :: u65 :: u66 :: u67 :: u68 :: u69 :: u70 :: u71 :: []), defers := [] } ∧ Hid (SB23 wr wx #[.string (bs a[k].1), .slice ak1 nk1 ck1] #[.string (bs b[k].1), .slice ak2 nk2 ck2] d10 d11 d12 d13 x6 x7)) := ⟨_, rfl⟩
          obtain ⟨INV, hINV⟩ := hI0
          have HINV := Lib.hid hINV
          clear hINV
          refine region_inv INV (by kernel_rfl) (by kernel_rfl) (by rw [HINV.out]; exact ⟨false, false, false, false, false, false, false, false, false, false, false, false, false, false, 0, 0, rfl, rfl, ⟨b_drew wr, fun e => (by cases e), fun e => (by cases e), fun e => (by cases e), fun e => (by cases e), fun e => (by cases e)⟩⟩) ?_ ?_
          · intro listed ax wx hI hs hall
            rw [HINV.out] at hI
            clear HINV
            obtain ⟨d0, d1, d2, d3, d4, d5, d6, d7, d8, d9, d10, d11, d12, d13, x6, x7, rfl, rfl, hBI⟩ := hI
            have e0 : d0 = true := by simpa using hall 0 (by decide)
            have e1 : d1 = true := by simpa using hall 1 (by decide)
            have e2 : d2 = true := by simpa using hall 2 (by decide)
            have e3 : d3 = true := by simpa using hall 3 (by decide)
            have e4 : d4 = true := by simpa using hall 4 (by decide)
            have e5 : d5 = true := by simpa using hall 5 (by decide)
            have e6 : d6 = true := by simpa using hall 6 (by decide)
            have e7 : d7 = true := by simpa using hall 7 (by decide)
            have e8 : d8 = true := by simpa using hall 8 (by decide)
            have e9 : d9 = true := by simpa using hall 9 (by decide)
            have e10 : d10 = true := by simpa using hall 10 (by decide)
            have e11 : d11 = true := by simpa using hall 11 (by decide)
            have e12 : d12 = true := by simpa using hall 12 (by decide)
            have e13 : d13 = true := by simpa using hall 13 (by decide)
            simp only [e0, e1, e2, e3, e4, e5, e6, e7, e8, e9, e10, e11, e12, e13, sd_true] at hBI ⊢
            clear e0 e1 e2 e3 e4 e5 e6 e7 e8 e9 e10 e11 e12 e13 hall hs
            clear d0 d1 d2 d3 d4 d5 d6 d7 d8 d9 d10 d11 d12 d13
            obtain ⟨hw, h6, h7, n67, -⟩ := hBI.out
            have B6 := Lib.hid (h6 rfl).2
            have B7 := Lib.hid (h7 rfl).2
            have HW := Lib.hid (bt hB.out hw)
            have HKL1 := HKA.out a[k] (List.getElem_mem h0)
            have HKL2 := HKB.out b[k] (List.getElem_mem h0b)
            obtain ⟨p, hp⟩ : ∃ p, p = a[k] := ⟨_, rfl⟩
            obtain ⟨q, hq⟩ : ∃ q, q = b[k] := ⟨_, rfl⟩
            rw [← hp] at HR1 B6 HKL1 ⊢
            rw [← hq] at HR2 B7 HKL2 ⊢
            have HP := Lib.hid hp
            have HQ := Lib.hid hq
            have hwx : Below w.heap.size w wx := bt K3.out HW.out
            obtain ⟨_, _, hv1, _, hk1⟩ := recI_open (HR1.out.below hwx)
            injection hv1 with f1 f2 f3
            subst f1 f2 f3
            obtain ⟨_, _, hv2, _, hk2⟩ := recI_open (HR2.out.below hwx)
            injection hv2 with f1 f2 f3
            subst f1 f2 f3
            have HK1 := Lib.hid hk1
            have HK2 := Lib.hid hk2
            simp only [ndCells_true] at B6 B7
            obtain ⟨y1, y2, _, _⟩ := two_cells B6.out
            obtain ⟨y3, y4, _, _⟩ := two_cells B7.out
            have l1 : (p.2.length : Int) ≤ 140737488355328 := by omega
            clear hw h6 h7 n67 hBI hk1 hk2 hp hq g1 g2 g3 g4 c1 c2 c3 c4
            by_cases e1 : p.1 = q.1
            · have r1 : (p.1 != q.1) = false := by simp [e1]
              have r1' : (p.1 == q.1) = true := by simp [e1]
              have E1 := Lib.hid e1
              clear e1
              by_cases e2 : p.2.length = q.2.length
              · have r2 : ((p.2.length : Int) != (q.2.length : Int)) = false := by rw [bne_eq_false_iff_eq]; omega
                have E2 := Lib.hid e2
                clear e2
                go_wp2
                go_loopw [8] (fun vj wy => ∃ j : Nat, j ≤ p.2.length ∧ vj = .int .i64 (j : Int) ∧ Hid (∀ i (h : i < p.2.length) (h' : i < q.2.length), i < j → p.2[i] = q.2[i]) ∧ Hid (Below wx.heap.size wx wy)) (fun vj _ => p.2.length - (intOf vj).toNat)
                case atStart => exact ⟨0, by omega, rfl, by intro i _ _ h; omega, Below.refl _ _⟩
                case round =>
                  obtain ⟨j, hj, rfl, hHj, hBy⟩ := hrel
                  have z1 := Below.keeps hBy.out y1
                  have z2 := Below.keeps hBy.out y2
                  have z3 := Below.keeps hBy.out y3
                  have z4 := Below.keeps hBy.out y4
                  by_cases hj0 : j < p.2.length
                  · have hj1 : j < q.2.length := by have := E2.out; omega
                    obtain ⟨kb1, ko1, rfl, x1⟩ := HK1.out j hj0
                    obtain ⟨kb2, ko2, rfl, x2⟩ := HK2.out j hj1
                    have v1 := Below.keeps hBy.out x1
                    have v2 := Below.keeps hBy.out x2
                    have m0 : (0 : Int) ≤ (j : Int) := by omega
                    have m1 : (j : Int) < (p.2.length : Int) := by omega
                    have m2 : (j : Int) < (q.2.length : Int) := by omega
                    clear x1 x2
                    by_cases hx : p.2[j] = q.2[j]
                    · have s1 : (p.2[j] != q.2[j]) = false := by simp [hx]
                      have HX := Lib.hid hx
                      clear hx
                      go_wp2
                      go_quiet (fail)
                      go_wp2
                      go_roundw
                      case rel =>
                        refine ⟨j + 1, by omega, by go_num, ?_, bt hBy.out (Below.drewN' _ _)⟩
                        intro i h h' hi
                        by_cases hji : i = j
                        · subst hji; exact HX.out
                        · exact hHj.out i h h' (by omega)
                      case measure => simp [intOf]; omega
                    · have s1 : (p.2[j] != q.2[j]) = true := by simp [hx]
                      have HX := Lib.hid hx
                      clear hx
                      go_wp2
                      go_quiet (fail)
                      go_wp2
                      go_ret
                      refine ⟨?_, bt hwx (bt hBy.out (Below.drewN' _ _))⟩
                      have hne : a ≠ b := nds_ne k h0 h0b (fun e => ints_ne j hj0 hj1 HX.out (by rw [HP.out, HQ.out, e]))
                      rw [decide_eq_false (fun e => hne e.1)]
                      rfl
                  · obtain rfl : j = p.2.length := by omega
                    have hpq : a[k] = b[k] := by
                      rw [← HP.out, ← HQ.out]
                      exact Prod.ext E1.out (ints_eq E2.out fun i h h' => hHj.out i h h' h)
                    have HPQ := Lib.hid hpq
                    clear hpq
                    go_wp2
                    go_roundw
                    case rel =>
                      refine ⟨k + 1, by omega, by go_num, ?_, bt HW.out hBy.out⟩
                      intro i h h' hi
                      by_cases hji : i = k
                      · subst hji; exact HPQ.out
                      · exact hH.out i h h' (by omega)
                    case measure => simp [intOf]; omega
              · have r2 : ((p.2.length : Int) != (q.2.length : Int)) = true := by rw [bne_iff_ne]; omega
                have hne : a ≠ b := nds_ne k h0 h0b (fun e => e2 (by rw [HP.out, HQ.out, e]))
                have HNE := Lib.hid hne
                clear e2 hne
                go_wp2
                go_ret
                refine ⟨?_, hwx⟩
                rw [decide_eq_false (fun e => HNE.out e.1)]
                rfl
            · have r1 : (p.1 != q.1) = true := by simp [e1]
              have r1' : (p.1 == q.1) = false := by simp [e1]
              have hne : a ≠ b := nds_ne k h0 h0b (fun e => e1 (by rw [HP.out, HQ.out, e]))
              have HNE := Lib.hid hne
              clear e1 hne
              go_wp2
              go_ret
              refine ⟨?_, hwx⟩
              rw [decide_eq_false (fun e => HNE.out e.1)]
              rfl
          refine ⟨fun listed ax wx hI hd hdep => ?_, fun listed ax wx hI hd hdep => ?_, fun listed ax wx hI hd hdep => ?_, fun listed ax wx hI hd hdep => ?_, fun listed ax wx hI hd hdep => ?_, fun listed ax wx hI hd hdep => ?_, fun listed ax wx hI hd hdep => ?_, fun listed ax wx hI hd hdep => ?_, fun listed ax wx hI hd hdep => ?_, fun listed ax wx hI hd hdep => ?_, fun listed ax wx hI hd hdep => ?_, fun listed ax wx hI hd hdep => ?_, fun listed ax wx hI hd hdep => ?_, fun listed ax wx hI hd hdep => ?_, True.intro⟩
          · rw [HINV.out] at hI
            obtain ⟨d0, d1, d2, d3, d4, d5, d6, d7, d8, d9, d10, d11, d12, d13, x6, x7, rfl, rfl, hBI⟩ := hI
            obtain rfl : d0 = false := by simpa using hd
            rw [if_pos (by rfl)]
            unfold Oper.wp
            clear hd hdep
            go_simp
            rw [HINV.out]
            exact ⟨true, d1, d2, d3, d4, d5, d6, d7, d8, d9, d10, d11, d12, d13, x6, x7, rfl, rfl, hBI⟩
          · rw [HINV.out] at hI
            obtain ⟨d0, d1, d2, d3, d4, d5, d6, d7, d8, d9, d10, d11, d12, d13, x6, x7, rfl, rfl, hBI⟩ := hI
            obtain rfl : d1 = false := by simpa using hd
            simp [Region.binds] at hdep
            have e0 : d0 = true := by simp [hdep]
            clear hdep
            simp only [e0] at hBI ⊢
            rw [if_pos (by rfl)]
            unfold Oper.wp
            clear hd
            have y0 := Below.keeps hBI.out.1 c1
            go_simp
            rw [HINV.out]
            exact ⟨true, true, d2, d3, d4, d5, d6, d7, d8, d9, d10, d11, d12, d13, x6, x7, rfl, rfl, hBI⟩
          · rw [HINV.out] at hI
            obtain ⟨d0, d1, d2, d3, d4, d5, d6, d7, d8, d9, d10, d11, d12, d13, x6, x7, rfl, rfl, hBI⟩ := hI
            obtain rfl : d2 = false := by simpa using hd
            rw [if_pos (by rfl)]
            unfold Oper.wp
            clear hd hdep
            go_simp
            rw [HINV.out]
            exact ⟨d0, d1, true, d3, d4, d5, d6, d7, d8, d9, d10, d11, d12, d13, x6, x7, rfl, rfl, hBI⟩
          · rw [HINV.out] at hI
            obtain ⟨d0, d1, d2, d3, d4, d5, d6, d7, d8, d9, d10, d11, d12, d13, x6, x7, rfl, rfl, hBI⟩ := hI
            obtain rfl : d3 = false := by simpa using hd
            simp [Region.binds] at hdep
            have e1 : d1 = true := by simp [hdep]
            have e2 : d2 = true := by simp [hdep]
            clear hdep
            simp only [e1, e2] at hBI ⊢
            rw [if_pos (by rfl)]
            unfold Oper.wp
            clear hd
            go_simp
            rw [HINV.out]
            exact ⟨d0, true, true, true, d4, d5, d6, d7, d8, d9, d10, d11, d12, d13, x6, x7, rfl, rfl, hBI⟩
          · rw [HINV.out] at hI
            obtain ⟨d0, d1, d2, d3, d4, d5, d6, d7, d8, d9, d10, d11, d12, d13, x6, x7, rfl, rfl, hBI⟩ := hI
            obtain rfl : d4 = false := by simpa using hd
            simp [Region.binds] at hdep
            have e3 : d3 = true := by simp [hdep]
            clear hdep
            simp only [e3] at hBI ⊢
            rw [if_pos (by rfl)]
            unfold Oper.wp
            clear hd
            have y0 := Below.keeps hBI.out.1 g1
            have y1 := Below.keeps hBI.out.1 g2
            go_simp
            rw [HINV.out]
            exact ⟨d0, d1, d2, true, true, d5, d6, d7, d8, d9, d10, d11, d12, d13, x6, x7, rfl, rfl, hBI⟩
          · rw [HINV.out] at hI
            obtain ⟨d0, d1, d2, d3, d4, d5, d6, d7, d8, d9, d10, d11, d12, d13, x6, x7, rfl, rfl, hBI⟩ := hI
            obtain rfl : d5 = false := by simpa using hd
            rw [if_pos (by rfl)]
            unfold Oper.wp
            clear hd hdep
            go_simp
            rw [HINV.out]
            exact ⟨d0, d1, d2, d3, d4, true, d6, d7, d8, d9, d10, d11, d12, d13, x6, x7, rfl, rfl, hBI⟩
          · rw [HINV.out] at hI
            obtain ⟨d0, d1, d2, d3, d4, d5, d6, d7, d8, d9, d10, d11, d12, d13, x6, x7, rfl, rfl, hBI⟩ := hI
            obtain rfl : d6 = false := by simpa using hd
            simp [Region.binds] at hdep
            have e5 : d5 = true := by simp [hdep]
            clear hdep
            simp only [e5] at hBI ⊢
            rw [if_pos (by rfl)]
            unfold Oper.wp
            clear hd
            have y0 := Below.keeps hBI.out.1 c3
            go_simp
            rw [HINV.out]
            exact ⟨d0, d1, d2, d3, d4, true, true, d7, d8, d9, d10, d11, d12, d13, x6, x7, rfl, rfl, hBI⟩
          · rw [HINV.out] at hI
            obtain ⟨d0, d1, d2, d3, d4, d5, d6, d7, d8, d9, d10, d11, d12, d13, x6, x7, rfl, rfl, hBI⟩ := hI
            obtain rfl : d7 = false := by simpa using hd
            rw [if_pos (by rfl)]
            unfold Oper.wp
            clear hd hdep
            go_simp
            rw [HINV.out]
            exact ⟨d0, d1, d2, d3, d4, d5, d6, true, d8, d9, d10, d11, d12, d13, x6, x7, rfl, rfl, hBI⟩
          · rw [HINV.out] at hI
            obtain ⟨d0, d1, d2, d3, d4, d5, d6, d7, d8, d9, d10, d11, d12, d13, x6, x7, rfl, rfl, hBI⟩ := hI
            obtain rfl : d8 = false := by simpa using hd
            simp [Region.binds] at hdep
            have e6 : d6 = true := by simp [hdep]
            have e7 : d7 = true := by simp [hdep]
            clear hdep
            simp only [e6, e7] at hBI ⊢
            rw [if_pos (by rfl)]
            unfold Oper.wp
            clear hd
            go_simp
            rw [HINV.out]
            exact ⟨d0, d1, d2, d3, d4, d5, true, true, true, d9, d10, d11, d12, d13, x6, x7, rfl, rfl, hBI⟩
          · rw [HINV.out] at hI
            obtain ⟨d0, d1, d2, d3, d4, d5, d6, d7, d8, d9, d10, d11, d12, d13, x6, x7, rfl, rfl, hBI⟩ := hI
            obtain rfl : d9 = false := by simpa using hd
            simp [Region.binds] at hdep
            have e8 : d8 = true := by simp [hdep]
            clear hdep
            simp only [e8] at hBI ⊢
            rw [if_pos (by rfl)]
            unfold Oper.wp
            clear hd
            have y0 := Below.keeps hBI.out.1 g3
            have y1 := Below.keeps hBI.out.1 g4
            go_simp
            rw [HINV.out]
            exact ⟨d0, d1, d2, d3, d4, d5, d6, d7, true, true, d10, d11, d12, d13, x6, x7, rfl, rfl, hBI⟩
          · rw [HINV.out] at hI
            obtain ⟨d0, d1, d2, d3, d4, d5, d6, d7, d8, d9, d10, d11, d12, d13, x6, x7, rfl, rfl, hBI⟩ := hI
            obtain rfl : d10 = false := by simpa using hd
            rw [if_pos (by rfl)]
            unfold Oper.wp
            clear hd hdep
            go_simp
            rw [HINV.out]
            exact ⟨d0, d1, d2, d3, d4, d5, d6, d7, d8, d9, true, d11, d12, d13, wx.heap.size, x7, rfl, rfl, hBI.out.alloc6⟩
          · rw [HINV.out] at hI
            obtain ⟨d0, d1, d2, d3, d4, d5, d6, d7, d8, d9, d10, d11, d12, d13, x6, x7, rfl, rfl, hBI⟩ := hI
            obtain rfl : d11 = false := by simpa using hd
            rw [if_pos (by rfl)]
            unfold Oper.wp
            clear hd hdep
            go_simp
            rw [HINV.out]
            exact ⟨d0, d1, d2, d3, d4, d5, d6, d7, d8, d9, d10, true, d12, d13, x6, wx.heap.size, rfl, rfl, hBI.out.alloc7⟩
          · rw [HINV.out] at hI
            obtain ⟨d0, d1, d2, d3, d4, d5, d6, d7, d8, d9, d10, d11, d12, d13, x6, x7, rfl, rfl, hBI⟩ := hI
            obtain rfl : d12 = false := by simpa using hd
            simp [Region.binds] at hdep
            have e0 : d0 = true := by simp [hdep]
            have e1 : d1 = true := by simp [hdep]
            have e2 : d2 = true := by simp [hdep]
            have e3 : d3 = true := by simp [hdep]
            have e4 : d4 = true := by simp [hdep]
            have e10 : d10 = true := by simp [hdep]
            have e11 : d11 = true := by simp [hdep]
            clear hdep
            simp only [e0, e1, e2, e3, e4, e10, e11] at hBI ⊢
            rw [if_pos (by rfl)]
            unfold Oper.wp
            clear hd
            obtain ⟨y0, y1, y2, y3⟩ := two_cells (hBI.out.2.1 rfl).2
            go_simp
            rw [HINV.out]
            exact ⟨true, true, true, true, true, d5, d6, d7, d8, d9, true, true, true, d13, x6, x7, rfl, rfl, hBI.out.store6⟩
          · rw [HINV.out] at hI
            obtain ⟨d0, d1, d2, d3, d4, d5, d6, d7, d8, d9, d10, d11, d12, d13, x6, x7, rfl, rfl, hBI⟩ := hI
            obtain rfl : d13 = false := by simpa using hd
            simp [Region.binds] at hdep
            have e0 : d0 = true := by simp [hdep]
            have e1 : d1 = true := by simp [hdep]
            have e2 : d2 = true := by simp [hdep]
            have e3 : d3 = true := by simp [hdep]
            have e4 : d4 = true := by simp [hdep]
            have e5 : d5 = true := by simp [hdep]
            have e6 : d6 = true := by simp [hdep]
            have e7 : d7 = true := by simp [hdep]
            have e8 : d8 = true := by simp [hdep]
            have e9 : d9 = true := by simp [hdep]
            have e10 : d10 = true := by simp [hdep]
            have e11 : d11 = true := by simp [hdep]
            have e12 : d12 = true := by simp [hdep]
            clear hdep
            simp only [e0, e1, e2, e3, e4, e5, e6, e7, e8, e9, e10, e11, e12] at hBI ⊢
            rw [if_pos (by rfl)]
            unfold Oper.wp
            clear hd
            obtain ⟨y0, y1, y2, y3⟩ := two_cells (hBI.out.2.2.1 rfl).2
            go_simp
            rw [HINV.out]
            exact ⟨true, true, true, true, true, true, true, true, true, true, true, true, true, true, x6, x7, rfl, rfl, hBI.out.store7⟩
        · obtain rfl : k = a.length := by omega
          have HF := Lib.hid (nds_eq hL.out fun j h h' => hH.out j h h' h)
          go_wp2_with fail
          go_ret
          exact ⟨by rw [decide_eq_true ⟨HF.out, HN.out⟩]; rfl, bt K3.out hB.out⟩
    · have t2 : (n0 != m0) = true := by rw [bne_iff_ne]; exact hn
      have HN := Lib.hid hn
      clear hn
      go_enter Try.func28, Try.ntmps28
      go_wp2_with fail
      rw [← hW1]
      go_ret
      exact ⟨by rw [decide_eq_false (fun e => HN.out e.2)]; rfl, K3.out⟩
  · have t1 : ((a.length : Int) != (b.length : Int)) = true := by rw [bne_iff_ne]; omega
    have hL := Lib.hid hl
    clear hl
    go_enter Try.func28, Try.ntmps28
    go_wp2_with fail
    rw [← hW1]
    go_ret
    exact ⟨by rw [decide_eq_false (fun e => hL.out (by rw [e.1]))]; rfl, K3.out⟩
end Go.Proofs.Ytahmacnmphjhgaa
namespace Go.Proofs.Ytahmacnmphjhgaa
open Go.RowKit Oct Go.WideMaps Go.Maps

theorem lawS : Keyed Try.prog 9 := string_keyed Try.underlying9
theorem zeroInt (w : World) : (zeroValue 3).run Try.prog w = .ok (.int .i64 0) w := by kernel_rfl
theorem keyS (s : List UInt8) (hs : s.length ≤ 140737488355328) : keyOf Try.prog 9 (.string (bs s)) = some (.string s) := by
  have := keyOf_string_mk (P := Try.prog) Try.underlying9 (s := bs s) (by simp; unfold maxLen; omega)
  simpa using this
def hasId (old : List Nd) (s : List UInt8) : Bool := old.any fun x => x.1 == s
def cntId (old : List Nd) (s : List UInt8) : Nat := old.countP fun x => x.1 == s
theorem cntId_zero (old : List Nd) (s : List UInt8) : (cntId old s = 0) ↔ hasId old s = false := by
  unfold cntId hasId
  rw [List.countP_eq_zero, List.any_eq_false]
theorem cntId_succ {old : List Nd} {k : Nat} (h : k < old.length) (s : List UInt8) : cntId (old.take (k + 1)) s = cntId (old.take k) s + (if old[k].1 = s then 1 else 0) := by
  unfold cntId
  rw [List.take_succ_eq_append_getElem h, List.countP_append]
  simp [List.countP_cons]
/-- which nodes are new -/
def freshF (old now : List Nd) (k : Nat) : List Int := ((List.range k).filter fun i => !hasId old (now.getD i ([], [])).1).map Int.ofNat
theorem freshF_succ (old now : List Nd) (k : Nat) (h : k < now.length) : freshF old now (k + 1) = if hasId old now[k].1 = true then freshF old now k else freshF old now k ++ [(k : Int)] := by
  unfold freshF
  rw [List.range_succ, List.filter_append]
  have e : (now.getD k ([], [])) = now[k] := by simp [List.getD, h]
  have e' : now[k]?.getD ([], []) = now[k] := by simp [h]
  cases hh : hasId old now[k].1 <;> simp [List.filter_cons, e', hh]
theorem freshF_le (old now : List Nd) (k : Nat) : (freshF old now k).length ≤ k := by
  unfold freshF
  rw [List.length_map]
  exact Nat.le_trans (List.length_filter_le _ _) (by simp)
theorem ownsMap_below {w w' : World} {M n : Nat} {D : DataW Unit} (h : w.ownsMap Try.prog 9 (plainElem Try.prog 3) M n D) (hB : Below w.heap.size w w') : w'.ownsMap Try.prog 9 (plainElem Try.prog 3) M n D :=
  h.kept (row := none) ⟨hB.os, hB.tape, hB.output, hB.size, fun k hk _ => hB.block k hk⟩ (by simp)
theorem ownsMap_chg {w w' : World} {M n : Nat} {D : DataW Unit} {row : Option Nat} (h : w.ownsMap Try.prog 9 (plainElem Try.prog 3) M n D) (hc : Chg (fun k => row = some k) w w') (hne : some M ≠ row) : w'.ownsMap Try.prog 9 (plainElem Try.prog 3) M n D :=
  h.kept (row := row) ⟨hc.os, hc.tape, hc.output, hc.size, fun k hk hn => hc.block k hk (fun e => hn (by rw [e]))⟩ hne

set_option maxRecDepth 100000 in
set_option maxHeartbeats 4000000 in
theorem Fresh23_any (va vb : Value) (n0 m0 : Int) (old now : List Nd) (w : World) (ha : NR w va old) (hb : NR w vb now) (hla : old.length ≤ 1000000) (hlb : now.length ≤ 1000000) (hia : ∀ x ∈ old, x.1.length ≤ 140737488355328) (hib : ∀ x ∈ now, x.1.length ≤ 140737488355328) :
    Calls Try.prog 29 #[.agg #[va, .int .i64 n0], .agg #[vb, .int .i64 m0]] w fun e w' => (∃ u, e = .returned u ∧ recI.Own w' w.heap.size u (freshF old now now.length)) ∧ Below w.heap.size w w' := by
  obtain ⟨aa, ca, rfl, _, hca⟩ := NR_open ha
  obtain ⟨ab, cb, rfl, _, hcb⟩ := NR_open hb
  have HCA := Lib.hid hca
  have HCB := Lib.hid hcb
  have HIA := Lib.hid hia
  have HIB := Lib.hid hib
  clear hca hcb ha hb hia hib
  have hmm := @run_makeMap Try.prog
  go_enter Try.func29, Try.ntmps29
  go_wp2_with fail
  obtain ⟨W0, hW0⟩ : ∃ W0, W0 = (w.alloc (.cells #[.slice aa old.length ca, .int .i64 n0] 44)).alloc (.cells #[.slice ab now.length cb, .int .i64 m0] 44) := ⟨_, rfl⟩
  obtain ⟨k1, k2, k3⟩ := two_new w (.cells #[.slice aa old.length ca, .int .i64 n0] 44) (.cells #[.slice ab now.length cb, .int .i64 m0] 44)
  obtain ⟨M, hM⟩ : ∃ M, M = w.heap.size + 1 + 1 := ⟨_, rfl⟩
  have hs0 : W0.heap.size = M := by rw [hW0, hM]; simp
  rw [← hW0] at k1 k2 k3 ⊢
  rw [← hM]
  obtain ⟨W1, hW1⟩ : ∃ W1, W1 = W0.alloc (.map #[] 0) := ⟨_, rfl⟩
  have hown0 : W1.ownsMap Try.prog 9 (plainElem (H := Unit) Try.prog 3) M 0 (.map []) := by rw [hW1, ← hs0]; exact World.ownsMap_made _ _ _ _
  have hb1 : Below w.heap.size w W1 := by rw [hW1]; exact bt k3 (b_alloc W0 _)
  have x1 : W1.heap[w.heap.size]? = some (.cells #[.slice aa old.length ca, .int .i64 n0] 44 (0, 0)) := by rw [hW1, Below.heap_alloc _ _ _ (Array.getElem?_eq_some_iff.1 k1).1]; exact k1
  have x2 : W1.heap[w.heap.size + 1]? = some (.cells #[.slice ab now.length cb, .int .i64 m0] 44 (0, 0)) := by rw [hW1, Below.heap_alloc _ _ _ (Array.getElem?_eq_some_iff.1 k2).1]; exact k2
  rw [← hW1]
  have hMlt := hown0.lt
  have HO0 := Lib.hid hown0
  have HB1 := Lib.hid hb1
  have X1 := Lib.hid x1
  have X2 := Lib.hid x2
  have HM := Lib.hid hM
  clear hW0 k1 k2 k3 hs0 hW1 hown0 hb1 x1 x2 hM
  have j9 : (old.length : Int) ≤ 1000000 := by omega
  have j8 : (now.length : Int) ≤ 1000000 := by omega
  go_loopw [14] (fun i wr => ∃ k : Nat, k ≤ old.length ∧ i = .int .i64 k ∧ Hid (∃ D : DataW Unit, wr.ownsMap Try.prog 9 (plainElem Try.prog 3) M k D ∧ ∀ s, D.atKey (.string s) (.lit (.int .i64 0)) = .lit (.int .i64 ((cntId (old.take k) s : Nat) : Int))) ∧ Hid (Chg (fun b => b = M) W1 wr)) (fun i _ => old.length - (intOf i).toNat)
  case atStart => exact ⟨0, by omega, rfl, ⟨_, HO0, fun s => rfl⟩, Chg.refl _ _⟩
  case round =>
    obtain ⟨k, hk, rfl, HD, HC⟩ := hrel
    by_cases h0 : k < old.length
    · obtain ⟨b1, o1, ak, nk, ck, rfl, hc1, hc2, _⟩ := HCA.out k h0
      have hMw : w.heap.size < M := by have := HM.out; omega
      have g1 := HC.out.cell (Below.keeps HB1.out hc1) (by have := lt_of_cell hc1; show ¬ b1 = M; simp at this; omega)
      have g2 := HC.out.cell (Below.keeps HB1.out hc2) (by have := lt_of_cell hc2; show ¬ b1 = M; simp at this; omega)
      have i0 : (0 : Int) ≤ (k : Int) := by omega
      have i1 : (k : Int) < (old.length : Int) := by omega
      have hlen := HIA.out old[k] (List.getElem_mem h0)
      have HCS := Lib.hid (fun s => cntId_succ h0 s)
      obtain ⟨s, hs⟩ : ∃ s, s = old[k].1 := ⟨_, rfl⟩
      rw [← hs] at g1 hlen HCS
      obtain ⟨D, hown, hat⟩ := HD.out
      have hkey := keyS s hlen
      have hba := b_alloc wr (.cells #[.string (bs s), .slice ak nk ck] 51)
      have hownA := ownsMap_below hown hba
      have HBA := Lib.hid hba
      have HAT := Lib.hid hat
      have HS := Lib.hid hs
      have hkm : k < maxLen := by unfold maxLen; omega
      have hcnt : cntId (old.take k) s ≤ k := by unfold cntId; exact Nat.le_trans List.countP_le_length (by rw [List.length_take]; omega)
      clear hc1 hc2 hs hown hat hba HD
      go_wp2_with (first
        | (at_lookup; refine wpList_lookup_own_int _ rfl _ _ 99 rfl 9 3 .i64 lawS Try.underlying99 Try.underlying3 (zeroInt _) M k D rfl hownA _ _ rfl hkey ?_; intro c hat2 hwc; have hce : c = ((cntId (old.take k) s : Nat) : Int) := (by have := (HAT.out s).symm.trans hat2; injection this with h; injection h with _ h2; exact h2.symm); clear hat2 hwc; subst hce)
        | (at_mapUpdate; refine wpList_mapUpdate_own _ rfl _ _ _ 99 rfl 9 3 lawS Try.underlying99 _ M k _ rfl hownA hkm _ _ _ rfl rfl hkey _ [] (plainElem_int Try.underlying3 (WalkArith.wf_i64 (by omega))) ?_; intro w1 hown1 hgrow1))
      refine ⟨⟨k + 1, by omega, by go_num, ⟨_, hown1, fun t => ?_⟩, (HC.out.trans (Chg.of_below HBA.out)).trans ⟨hgrow1.os, hgrow1.tape, hgrow1.output, hgrow1.size, fun b hb hn => hgrow1.block b hb (fun e => hn (Option.some.inj e))⟩⟩, by simp [intOf]; omega⟩
      rw [HCS.out t]
      by_cases hts : s = t
      · subst hts
        rw [if_pos rfl, atKey_put_same hownA.isMap (by trivial)]
        rfl
      · rw [if_neg hts, atKey_put_other (by intro e; injection e with e; exact hts e.symm), HAT.out t]
        rfl
    · obtain rfl : k = old.length := by omega
      obtain ⟨D, hown, hat⟩ := HD.out
      rw [List.take_length] at hat
      have HOWN := Lib.hid hown
      have HAT := Lib.hid hat
      have hMw : w.heap.size + 1 < M := by have := HM.out; omega
      have x2 := HC.out.at X2.out (by omega)
      obtain ⟨y1, y2, _, _⟩ := two_cells x2
      have hbw : Below w.heap.size w wr := HB1.out.trans (HC.out.below (fun k hk => by omega) HB1.out.size)
      have HBW := Lib.hid hbw
      have hMl := hown.lt
      clear hown hat x2 hbw HD
      obtain ⟨V, hV⟩ : ∃ V, V = wr := ⟨_, rfl⟩
      subst hV
      go_wp2
      go_loopw [4, 27] (fun vo vi ux => ∃ k : Nat, ∃ av cv, vo = .slice av (freshF old now k).length cv ∧ vi = .int .i64 (k : Int) ∧ k ≤ now.length ∧ Hid (recI.Own ux V.heap.size (.slice av (freshF old now k).length cv) (freshF old now k)) ∧ Hid (Below V.heap.size V ux)) (fun _ vi _ => now.length - (intOf vi).toNat)
      case atStart => exact ⟨0, none, 0, rfl, rfl, by omega, Rec.Own.nil _ _, Below.refl _ _⟩
      case round =>
        obtain ⟨k, av, cv, rfl, rfl, hk, HO, HB⟩ := hrel
        by_cases h0 : k < now.length
        · obtain ⟨b1, o1, ak, nk, ck, rfl, hc1, hc2, _⟩ := HCB.out k h0
          have g1 := Below.keeps HB.out (Below.keeps HBW.out hc1)
          have g2 := Below.keeps HB.out (Below.keeps HBW.out hc2)
          have i0 : (0 : Int) ≤ (k : Int) := by omega
          have i1 : (k : Int) < (now.length : Int) := by omega
          have hlen := HIB.out now[k] (List.getElem_mem h0)
          have HFS := Lib.hid (freshF_succ old now k h0)
          have HFL := Lib.hid (freshF_le old now k)
          obtain ⟨s, hs⟩ : ∃ s, s = now[k].1 := ⟨_, rfl⟩
          rw [← hs] at g1 hlen HFS
          have hkey := keyS s hlen
          have hba := b_alloc wr (.cells #[.string (bs s), .slice ak nk ck] 51)
          have hownA := ownsMap_below (ownsMap_below HOWN.out HB.out) hba
          have hsz : V.heap.size ≤ (wr.alloc (.cells #[.string (bs s), .slice ak nk ck] 51)).heap.size := Nat.le_trans HB.out.size hba.size
          have HBA := Lib.hid (Below.trans HB.out (hba.mono HB.out.size))
          have HO' := Lib.hid (HO.out.below hba)
          have hz := cntId_zero old s
          obtain ⟨c0, hc0⟩ : ∃ c0, c0 = cntId old s := ⟨_, rfl⟩
          have hats := HAT.out s
          rw [← hc0] at hz hats
          have HATS := Lib.hid hats
          clear hba hs hc0 hc1 hc2 hats
          cases hh : hasId old s with
          | true =>
            have e1 : ((c0 : Int) == 0) = false := by rw [beq_eq_false_iff_ne]; intro e; have := hz.1 (by omega); rw [hh] at this; cases this
            have HFS' := Lib.hid (show freshF old now (k + 1) = freshF old now k by rw [HFS.out, if_pos hh])
            clear hz hh
            go_wp2_with (first
              | (at_lookup; refine wpList_lookup_own_int _ rfl _ _ 99 rfl 9 3 .i64 lawS Try.underlying99 Try.underlying3 (zeroInt _) M old.length D rfl hownA _ _ rfl hkey ?_; intro c hat2 hwc; have hce : c = (c0 : Int) := (by have := HATS.out.symm.trans hat2; injection this with h; injection h with _ h2; exact h2.symm); clear hat2 hwc; subst hce))
            go_roundw
            case rel => exact ⟨k + 1, av, cv, by rw [HFS'.out], by go_num, by omega, by rw [HFS'.out]; exact HO'.out, HBA.out⟩
            case measure => simp [intOf]; omega
          | false =>
            have e1 : ((c0 : Int) == 0) = true := by rw [beq_iff_eq]; have := hz.2 hh; omega
            have HFS' := Lib.hid (show freshF old now (k + 1) = freshF old now k ++ [(k : Int)] by rw [HFS.out, if_neg (by rw [hh]; simp)])
            clear hz hh
            go_wp2_with (first
              | (at_lookup; refine wpList_lookup_own_int _ rfl _ _ 99 rfl 9 3 .i64 lawS Try.underlying99 Try.underlying3 (zeroInt _) M old.length D rfl hownA _ _ rfl hkey ?_; intro c hat2 hwc; have hce : c = (c0 : Int) := (by have := HATS.out.symm.trans hat2; injection this with h; injection h with _ h2; exact h2.symm); clear hat2 hwc; subst hce)
              | (at_builtin; go_must (refine recI.append1C _ (k : Int) rfl _ _ 49 rfl Try.underlying49 V.heap.size _ (freshF old now k) HO'.out rfl 1 (by rw [size_al]; rfl) _ rfl _ rfl (by have := HFL.out; show _ * 8 ≤ _; omega) hsz ?_); intro g cap3 w3 hown3 hc3 hg3; have HO3 := Lib.hid hown3; have hb3 : Below V.heap.size V w3 := HBA.out.trans (hc3.below (fun j hj => (HO'.out.lt j hj).1) hsz); have HB3 := Lib.hid hb3; clear hown3 hc3 hg3 hb3))
            go_roundw
            case rel => exact ⟨k + 1, some ⟨g, 0, none⟩, cap3, by rw [HFS'.out, List.length_append]; rfl, by go_num, by omega, by rw [HFS'.out, List.length_append]; exact HO3.out, HB3.out⟩
            case measure => simp [intOf]; omega
        · obtain rfl : k = now.length := by omega
          go_wp2
          go_ret
          exact ⟨⟨_, rfl, HO.out.mono HBW.out.size⟩, bt HBW.out HB.out⟩
end Go.Proofs.Ytahmacnmphjhgaa
namespace Go.Proofs.Ytahmacnmphjhgaa
open Go.RowKit Oct
theorem wpG_nilYH {P : Program} {ops : Array Oper} {C : World → Prop} {R : World → World → Prop} {F : Nat → Option (Known R)} {Q : Facts → Act → Prop} {k : Nat} {S : Facts} {a : Act} (h : Q S a) : wpG P ops C R F Q k [] S a := h
attribute [local irreducible] wpG

theorem hasId_self {N : List Nd} {i : Nat} (h : i < N.length) : hasId N (N.getD i ([], [])).1 = true := by
  unfold hasId
  rw [List.any_eq_true]
  exact ⟨N[i], List.getElem_mem h, by simp [List.getD, h]⟩
theorem freshF_self (N : List Nd) : freshF N N N.length = [] := by
  unfold freshF
  rw [List.map_eq_nil_iff, List.filter_eq_nil_iff]
  intro i hi
  rw [hasId_self (List.mem_range.1 hi)]
  simp
theorem freshF_none (N : List Nd) : (freshF [] N N.length).length = N.length := by
  unfold freshF
  rw [List.length_map]
  have : ((List.range N.length).filter fun i => !hasId [] (N.getD i ([], [])).1) = List.range N.length := by
    rw [List.filter_eq_self]; intro i _; rfl
  rw [this]; simp
theorem build_yes {w' : World} {l : List (List UInt8)} {e : Ending} (h : b23R w' l e) (hid : allIds l = true) (hl : l.length ≤ 4096) : ∃ a c, e = .returned (.tuple #[.agg #[.slice a (buildF l).length c, .int .i64 (l.length : Int)], .int .i64 0]) ∧ NR w' (.slice a (buildF l).length c) (buildF l) := by
  obtain ⟨v, he, hn⟩ := build_good h hid hl
  obtain ⟨a, c, rfl, _, _⟩ := NR_open hn
  exact ⟨a, c, he, hn⟩

set_option maxRecDepth 100000 in
set_option maxHeartbeats 8000000 in
theorem TreeIds_any (v : Value) (l : List (List UInt8)) (w : World) (hr : recS.Row w v l) (hl : l.length ≤ 140737488355328) (hm : ∀ s ∈ l, s.length ≤ 140737488355328) :
    Calls Try.prog 6 #[v] w fun e w' => e = .returned (.bool true) ∧ Below w.heap.size w w' := by
  obtain ⟨a0, c0, rfl, _⟩ := hr.2
  have HL := Lib.hid (long23_any _ l w hr hl hm)
  have HR := Lib.hid hr
  clear hr hm
  cases h1 : long23 l with
  | true =>
    rw [h1] at HL
    clear h1
    go_enter Try.func6, Try.ntmps6
    go_wp2_with fail
    refine HL.out.mono ?_
    rintro e w1 ⟨rfl, rfl⟩
    go_wp2_with fail
    refine (alive23 _).mono ?_
    rintro e w1 ⟨rfl, hB1⟩
    go_wp2_with fail
    go_ret
    exact ⟨rfl, hB1⟩
  | false =>
    rw [h1] at HL
    obtain ⟨n1, m1⟩ := long23_no h1
    have M1 := Lib.hid m1
    obtain ⟨ids, hids⟩ : ∃ ids, ids = idsF l := ⟨_, rfl⟩
    have hall : allIds ids = true := by rw [hids]; exact idsF_all l
    have hil : ids.length = l.length := by rw [hids]; exact idsF_len l
    have hsz := buildF_sizes hall
    obtain ⟨sp, level, _, hgd⟩ := buildF_gd hall
    obtain ⟨N, hN⟩ : ∃ N, N = buildF ids := ⟨_, rfl⟩
    rw [← hN] at hsz hgd
    have HIDS := Lib.hid hids
    have HALL := Lib.hid hall
    have HIL := Lib.hid hil
    have HSZ := Lib.hid hsz
    have HGD := Lib.hid hgd
    have HN := Lib.hid hN
    have hNl : N.length ≤ 120 := by have := hsz.2.1; omega
    have hck : ∀ x ∈ N, x.2.length ≤ 140737488355328 := fun x hx => by have := hsz.2.2.2 x hx; omega
    have hci : ∀ x ∈ N, x.1.length ≤ 140737488355328 := fun x hx => by have := hsz.2.2.1 x hx; omega
    have HCK := Lib.hid hck
    have HCI := Lib.hid hci
    clear h1 m1 hids hall hil hsz hgd hN hck hci
    go_enter Try.func6, Try.ntmps6
    go_wp2_with fail
    refine HL.out.mono ?_
    rintro e w1 ⟨rfl, rfl⟩
    go_wp2_with fail
    refine (Ids23_any _ l _ HR.out (by omega) M1.out).mono ?_
    rintro e w1 ⟨⟨u1, rfl, hown1⟩, hB1⟩
    obtain ⟨a1, c1, rfl⟩ := owns_slice hown1
    rw [← HIDS.out] at hown1 ⊢
    have HO1 := Lib.hid hown1
    have HB1 := Lib.hid hB1
    clear hown1 hB1
    go_wp2_with fail
    refine (Build_any _ ids _ HO1.out.row (fun b hb => (HO1.out.lt b hb).2) (by rw [HIL.out]; omega) (all_len HALL.out)).mono ?_
    rintro e w2 ⟨hres, hB2⟩
    obtain ⟨a2, c2, rfl, hn2⟩ := build_yes hres HALL.out (by rw [HIL.out]; omega)
    rw [← HN.out] at hn2 ⊢
    obtain ⟨A, hA⟩ : ∃ A, A = w2.alloc (.cells #[.slice a2 N.length c2, .int .i64 (ids.length : Int)] 44) := ⟨_, rfl⟩
    have hx2 := World.alloc_heap_new w2 (.cells #[.slice a2 N.length c2, .int .i64 (ids.length : Int)] 44)
    have hbA : Below w2.heap.size w2 A := by rw [hA]; exact b_alloc w2 _
    rw [← hA] at hx2
    have HX2 := Lib.hid hx2
    have HNA := Lib.hid (hn2.below hbA)
    have HBA := Lib.hid (bt (bt HB1.out hB2) hbA)
    clear hres hB2 hn2 hx2 hbA
    go_wp2_with fail
    rw [← hA]
    clear hA
    refine (Ids23_any _ l _ (HR.out.below HBA.out) (by omega) M1.out).mono ?_
    rintro e w3 ⟨⟨u3, rfl, hown3⟩, hB3⟩
    obtain ⟨a3, c3, rfl⟩ := owns_slice hown3
    rw [← HIDS.out] at hown3 ⊢
    have HO3 := Lib.hid hown3
    have HB3 := Lib.hid hB3
    clear hown3 hB3
    go_wp2_with fail
    refine (Build_any _ ids _ HO3.out.row (fun b hb => (HO3.out.lt b hb).2) (by rw [HIL.out]; omega) (all_len HALL.out)).mono ?_
    rintro e w4 ⟨hres, hB4⟩
    obtain ⟨a4, c4, rfl, hn4⟩ := build_yes hres HALL.out (by rw [HIL.out]; omega)
    rw [← HN.out] at hn4 ⊢
    obtain ⟨B, hB⟩ : ∃ B, B = w4.alloc (.cells #[.slice a4 N.length c4, .int .i64 (ids.length : Int)] 44) := ⟨_, rfl⟩
    have hx4 := World.alloc_heap_new w4 (.cells #[.slice a4 N.length c4, .int .i64 (ids.length : Int)] 44)
    have hbB : Below w4.heap.size w4 B := by rw [hB]; exact b_alloc w4 _
    rw [← hB] at hx4
    have hAB : Below A.heap.size A B := bt (bt HB3.out hB4) hbB
    have HX4 := Lib.hid hx4
    have hx2B : B.heap[w2.heap.size]? = _ := (hAB.block w2.heap.size (Array.getElem?_eq_some_iff.1 HX2.out).1).trans HX2.out
    have HX2B := Lib.hid hx2B
    have HNB := Lib.hid (hn4.below hbB)
    have HNAB := Lib.hid (HNA.out.below hAB)
    have HBB := Lib.hid (bt HBA.out hAB)
    obtain ⟨p1, p2, _, _⟩ := two_cells hx2B
    obtain ⟨p3, p4, _, _⟩ := two_cells hx4
    clear hres hB4 hn4 hx4 hbB hAB hx2B
    go_wp2_with fail
    rw [← hB]
    clear hB
    obtain ⟨F1, hF1⟩ : ∃ F1, F1 = freshF [] N N.length := ⟨_, rfl⟩
    have hF1l : (F1.length : Int) = (N.length : Int) := by rw [hF1, freshF_none]
    have HF1 := Lib.hid hF1
    have s1 : (decide (N = N ∧ (ids.length : Int) = (ids.length : Int))) = true := decide_eq_true ⟨rfl, rfl⟩
    have HS1 := Lib.hid s1
    clear hF1 s1
    refine region_known [(7, .exact _ (.agg #[.slice a2 N.length c2, .int .i64 (ids.length : Int)])), (8, .exact _ (.agg #[.slice a4 N.length c4, .int .i64 (ids.length : Int)])), (9, .exact _ (.bool true)), (13, .exact _ (.agg #[.slice a2 N.length c2, .int .i64 (ids.length : Int)])), (14, .exact _ (.agg #[.slice a4 N.length c4, .int .i64 (ids.length : Int)])), (15, kOwnR recI B.heap.size []), (21, .exact _ (.agg #[.slice a2 N.length c2, .int .i64 (ids.length : Int)])), (22, kOwnR recI B.heap.size F1), (25, .exact _ (.slice a2 N.length c2))] (by kernel_rfl) (by kernel_rfl) ?_
    (repeat (first | (refine wpG_skip (by kernel_rfl) (fun K hK => ?_); go_big_quiet_skip; refine wpQuiet_nil (hK _ ?_); clear hK K) | (refine wpG_quiet (by rfl) (by rfl) (fun K hK => ?_); go_big_quiet_want; go_big_quiet_op; go_big_quiet_on; refine wpQuiet_nil (hK _ ?_); clear hK K)))
    refine wpG_exact rfl (by kernel_rfl) (fun w' G hB hS hG => ?_) (fun K hK => ?_)
    · have y1 := Below.keeps hB p1
      have y2 := Below.keeps hB p2
      go_simp; exact hG _ (Bel.refl _)
    go_simp; refine hK _ ?_; clear hK K; (repeat (first | (refine wpG_skip (by kernel_rfl) (fun K hK => ?_); go_big_quiet_skip; refine wpQuiet_nil (hK _ ?_); clear hK K) | (refine wpG_quiet (by rfl) (by rfl) (fun K hK => ?_); go_big_quiet_want; go_big_quiet_op; go_big_quiet_on; refine wpQuiet_nil (hK _ ?_); clear hK K)))
    refine wpG_exact rfl (by kernel_rfl) (fun w' G hB hS hG => ?_) (fun K hK => ?_)
    · have y1 := Below.keeps hB p3
      have y2 := Below.keeps hB p4
      go_simp; exact hG _ (Bel.refl _)
    go_simp; refine hK _ ?_; clear hK K; (repeat (first | (refine wpG_skip (by kernel_rfl) (fun K hK => ?_); go_big_quiet_skip; refine wpQuiet_nil (hK _ ?_); clear hK K) | (refine wpG_quiet (by rfl) (by rfl) (fun K hK => ?_); go_big_quiet_want; go_big_quiet_op; go_big_quiet_on; refine wpQuiet_nil (hK _ ?_); clear hK K)))
    refine wpG_exact rfl (by kernel_rfl) (fun w' G hB hS hG => ?_) (fun K hK => ?_)
    · go_simp
      refine calls_told hG ?_
      have := rSame23_any _ _ (ids.length : Int) (ids.length : Int) N N w' (HNAB.out.below hB) (HNB.out.below hB) (by omega) (by omega) HCK.out HCK.out
      rwa [HS1.out] at this
    go_simp; refine hK _ ?_; clear hK K; (repeat (first | (refine wpG_skip (by kernel_rfl) (fun K hK => ?_); go_big_quiet_skip; refine wpQuiet_nil (hK _ ?_); clear hK K) | (refine wpG_quiet (by rfl) (by rfl) (fun K hK => ?_); go_big_quiet_want; go_big_quiet_op; go_big_quiet_on; refine wpQuiet_nil (hK _ ?_); clear hK K)))
    refine wpG_exact rfl (by kernel_rfl) (fun w' G hB hS hG => ?_) (fun K hK => ?_)
    · have y1 := Below.keeps hB p1
      have y2 := Below.keeps hB p2
      go_simp; exact hG _ (Bel.refl _)
    go_simp; refine hK _ ?_; clear hK K; (repeat (first | (refine wpG_skip (by kernel_rfl) (fun K hK => ?_); go_big_quiet_skip; refine wpQuiet_nil (hK _ ?_); clear hK K) | (refine wpG_quiet (by rfl) (by rfl) (fun K hK => ?_); go_big_quiet_want; go_big_quiet_op; go_big_quiet_on; refine wpQuiet_nil (hK _ ?_); clear hK K)))
    refine wpG_exact rfl (by kernel_rfl) (fun w' G hB hS hG => ?_) (fun K hK => ?_)
    · have y1 := Below.keeps hB p3
      have y2 := Below.keeps hB p4
      go_simp; exact hG _ (Bel.refl _)
    go_simp; refine hK _ ?_; clear hK K; (repeat (first | (refine wpG_skip (by kernel_rfl) (fun K hK => ?_); go_big_quiet_skip; refine wpQuiet_nil (hK _ ?_); clear hK K) | (refine wpG_quiet (by rfl) (by rfl) (fun K hK => ?_); go_big_quiet_want; go_big_quiet_op; go_big_quiet_on; refine wpQuiet_nil (hK _ ?_); clear hK K)))
    refine wpG_known (kOwnR recI B.heap.size []) rfl (by kernel_rfl) (fun w' G hB hS hG => ?_) (fun x K hK => ?_)
    · go_simp
      refine (Fresh23_any _ _ (ids.length : Int) (ids.length : Int) N N w' (HNAB.out.below hB) (HNB.out.below hB) (by omega) (by omega) HCI.out HCI.out).mono ?_
      rintro e w'' ⟨⟨u, rfl, hown⟩, hB''⟩
      rw [freshF_self] at hown
      obtain ⟨a5, c5, rfl⟩ := owns_slice hown
      exact ⟨_, rfl, hG (a5, c5) w'' hB'' (fun φ h => by cases h; exact hown.mono hB.size)⟩
    obtain ⟨ad, c⟩ := x; go_simp; refine hK _ ?_; clear hK K; (repeat (first | (refine wpG_skip (by kernel_rfl) (fun K hK => ?_); go_big_quiet_skip; refine wpQuiet_nil (hK _ ?_); clear hK K) | (refine wpG_quiet (by rfl) (by rfl) (fun K hK => ?_); go_big_quiet_want; go_big_quiet_op; go_big_quiet_on; refine wpQuiet_nil (hK _ ?_); clear hK K)))
    refine wpG_exact rfl (by kernel_rfl) (fun w' G hB hS hG => ?_) (fun K hK => ?_)
    · have y1 := Below.keeps hB p1
      have y2 := Below.keeps hB p2
      go_simp; exact hG _ (Bel.refl _)
    go_simp; refine hK _ ?_; clear hK K; (repeat (first | (refine wpG_skip (by kernel_rfl) (fun K hK => ?_); go_big_quiet_skip; refine wpQuiet_nil (hK _ ?_); clear hK K) | (refine wpG_quiet (by rfl) (by rfl) (fun K hK => ?_); go_big_quiet_want; go_big_quiet_op; go_big_quiet_on; refine wpQuiet_nil (hK _ ?_); clear hK K)))
    refine wpG_known (kOwnR recI B.heap.size F1) rfl (by kernel_rfl) (fun w' G hB hS hG => ?_) (fun x K hK => ?_)
    · go_simp
      refine (Fresh23_any _ _ 0 (ids.length : Int) [] N w' (NR.nil _) (HNAB.out.below hB) (by decide) (by omega) (fun x h => absurd h (by simp)) HCI.out).mono ?_
      rintro e w'' ⟨⟨u, rfl, hown⟩, hB''⟩
      rw [← HF1.out] at hown
      obtain ⟨a5, c5, rfl⟩ := owns_slice hown
      exact ⟨_, rfl, hG (a5, c5) w'' hB'' (fun φ h => by cases h; exact hown.mono hB.size)⟩
    obtain ⟨ad, c⟩ := x; go_simp; refine hK _ ?_; clear hK K; (repeat (first | (refine wpG_skip (by kernel_rfl) (fun K hK => ?_); go_big_quiet_skip; refine wpQuiet_nil (hK _ ?_); clear hK K) | (refine wpG_quiet (by rfl) (by rfl) (fun K hK => ?_); go_big_quiet_want; go_big_quiet_op; go_big_quiet_on; refine wpQuiet_nil (hK _ ?_); clear hK K)))
    refine wpG_exact rfl (by kernel_rfl) (fun w' G hB hS hG => ?_) (fun K hK => ?_)
    · have y1 := Below.keeps hB p1
      go_simp; exact hG _ (Bel.refl _)
    go_simp; refine hK _ ?_; clear hK K; (repeat (first | (refine wpG_skip (by kernel_rfl) (fun K hK => ?_); go_big_quiet_skip; refine wpQuiet_nil (hK _ ?_); clear hK K) | (refine wpG_quiet (by rfl) (by rfl) (fun K hK => ?_); go_big_quiet_want; go_big_quiet_op; go_big_quiet_on; refine wpQuiet_nil (hK _ ?_); clear hK K)))
    refine wpG_nilYH ?_
    intro w5 hB5 hA5
    have HB5 := Lib.hid hB5
    have q1 := Below.keeps hB5 p1
    have q2 := Below.keeps hB5 p2
    have HN5 := Lib.hid (HNAB.out.below hB5)
    have HBW5 := Lib.hid (bt HBB.out hB5)
    have HKO := Lib.hid HGD.out.kidsOk
    have u1 : (N.length : Int) ≤ 120 := by omega
    have u2 : (ids.length : Int) ≤ 60 := by rw [HIL.out]; omega
    clear hB5 hA5 p1 p2 p3 p4
    go_wp2
    clear hF1l
    go_loopw [7] (fun vi wr => ∃ i : Nat, vi = .int .i64 (i : Int) ∧ Hid (ids.length ≤ i) ∧ i ≤ N.length ∧ Hid (Below w5.heap.size w5 wr)) (fun vi _ => N.length - (intOf vi).toNat)
    case atStart => exact ⟨ids.length, rfl, Nat.le_refl _, HSZ.out.1, Below.refl _ _⟩
    case round =>
      obtain ⟨i, rfl, HI, hi, HB⟩ := hrel
      have r1 := Below.keeps HB.out q1
      have r2 := Below.keeps HB.out q2
      by_cases hin : i < N.length
      · obtain ⟨a6, c6, b, off, ak, nk, ck, hv6, rfl, d1, d2, hrow⟩ := (HN5.out.below HB.out).at hin
        injection hv6 with f1 _ f3
        subst f1 f3
        obtain ⟨_, _, hvk, _, hkc⟩ := recI_open hrow
        injection hvk with f1 f2 f3
        subst f1 f2 f3
        have HKC := Lib.hid hkc
        have hin2 := HGD.out.inner i HI.out hin
        have hkl : (kidsOf N i).length ≤ 8 := hin2.2.1
        have hjn : N[i].1 = joinF (idsOf N (kidsOf N i)) := by
          have := hin2.2.2.2.1
          rw [List.getD, List.getElem?_eq_getElem hin] at this
          exact this.trans (by unfold kidsOf; rw [List.getD, List.getElem?_eq_getElem hin])
        have HJN := Lib.hid hjn
        have HKI := Lib.hid (HKO.out i hin)
        have i0 : (0 : Int) ≤ (i : Int) := by omega
        have i1 : (i : Int) < (N.length : Int) := by omega
        obtain ⟨KS, hKS⟩ : ∃ KS, KS = kidsOf N i := ⟨_, rfl⟩
        rw [← hKS] at hkl HJN HKI HKC d2
        obtain ⟨Wr, hWr⟩ : ∃ Wr, Wr = wr := ⟨_, rfl⟩
        subst hWr
        clear hrow hkc hin2 hjn hKS
        go_wp2
        go_loopw [8, 9] (fun vo vk wx => ∃ k : Nat, ∃ av cv, vo = .slice av k cv ∧ vk = .int .i64 (k : Int) ∧ k ≤ KS.length ∧ Hid (recS.Own wx Wr.heap.size (.slice av k cv) (idsOf N (KS.take k))) ∧ Hid (Below Wr.heap.size Wr wx)) (fun _ vk _ => KS.length - (intOf vk).toNat)
        case atStart => exact ⟨0, none, 0, rfl, rfl, Nat.zero_le _, Rec.Own.nil _ _, Below.refl _ _⟩
        case round =>
          obtain ⟨k, av, cv, rfl, rfl, hk, HO, HBx⟩ := hrel
          have s1 := Below.keeps HBx.out r1
          have s3 := Below.keeps HBx.out d1
          have s4 := Below.keeps HBx.out d2
          by_cases hkk : k < KS.length
          · obtain ⟨kb, ko, rfl, x0⟩ := HKC.out k hkk
            have hkr := HKI.out KS[k] (List.getElem_mem hkk)
            obtain ⟨q, hq⟩ : ∃ q : Nat, (q : Int) = KS[k] := ⟨KS[k].toNat, by omega⟩
            rw [← hq] at x0 hkr
            have x1 := Below.keeps HBx.out x0
            have hqN : q < N.length := by omega
            obtain ⟨a7, c7, b7, off7, ak7, nk7, ck7, hv7, hb7, g1, _, _⟩ := ((HN5.out.below HB.out).below HBx.out).at hqN
            injection hv7 with e1 _ _
            rw [hb7] at e1
            injection e1 with e1
            injection e1 with e1 e2 _
            subst e1 e2
            have hnx : idsOf N (KS.take (k + 1)) = idsOf N (KS.take k) ++ [N[q].1] := by
              rw [idsOf_take hkk, ← hq]
              simp [List.getD, hqN]
            have hol : (idsOf N (KS.take k)).length = k := by rw [idsOf_length, List.length_take]; omega
            obtain ⟨N0, hN0⟩ : ∃ N0, N0 = N[q].1 := ⟨_, rfl⟩
            rw [← hN0] at hnx g1
            have HNX := Lib.hid hnx
            have HOL := Lib.hid hol
            have j0 : (0 : Int) ≤ (k : Int) := by omega
            have j1 : (k : Int) < (KS.length : Int) := by omega
            have j2 : (0 : Int) ≤ (q : Int) := by omega
            have j3 : (q : Int) < (N.length : Int) := by omega
            have j4 : (q : Int) < (i : Int) := by omega
            have j5 : (KS.length : Int) ≤ 8 := by omega
            have j6 : ¬ (q : Int) < 0 := by omega
            have j7 : ¬ (i : Int) ≤ (q : Int) := by omega
            have hkr0 := hkr.1
            clear x0 hq hN0 hnx hol hkr
            go_wp2_with (at_builtin; go_must (refine recS.append1C _ N0 rfl _ _ 40 rfl Try.underlying40 Wr.heap.size _ (idsOf N (KS.take k)) HO.out rfl 1 rfl _ rfl _ rfl (by rw [HOL.out]; show (k + 1) * 16 ≤ _; omega) HBx.out.size ?_); intro g cap3 w3 hown3 hc3 hg3; rw [HOL.out] at hown3 ⊢; have HO3 := Lib.hid hown3; have hb3 : Below Wr.heap.size Wr w3 := HBx.out.trans (hc3.below (fun j hj => (HO.out.lt j hj).1) HBx.out.size); have HB3 := Lib.hid hb3; clear hown3 hc3 hg3 hb3)
            exact ⟨⟨_, _, _, ⟨k + 1, some ⟨g, 0, none⟩, cap3, rfl, by go_num, by omega, by rw [HNX.out]; exact HO3.out⟩, rfl, rfl, rfl⟩, by simp [intOf]; omega⟩
          · obtain rfl : k = KS.length := by omega
            have ho := HO.out
            rw [List.take_length] at ho
            have HOF := Lib.hid ho
            clear ho
            have HWx := Lib.hid HBx.out
            have t1 := Below.keeps HBx.out r1
            have t2 := Below.keeps HBx.out r2
            have t3 := Below.keeps HBx.out d1
            obtain ⟨J, hJ⟩ : ∃ J, J = N[i].1 := ⟨_, rfl⟩
            rw [← hJ] at t3
            have HJ := Lib.hid (hJ.trans HJN.out)
            have hm32 : ∀ s ∈ idsOf N KS, s.length ≤ 32 := fun s hs => by
              unfold idsOf at hs
              obtain ⟨x, hx, rfl⟩ := List.mem_map.1 hs
              have hxr := HKI.out x hx
              have hxn : x.toNat < N.length := by omega
              rw [List.getD, List.getElem?_eq_getElem hxn]
              have := HSZ.out.2.2.1 N[x.toNat] (List.getElem_mem hxn)
              show (N[x.toNat]).1.length ≤ 32
              omega
            have HM32 := Lib.hid hm32
            clear hm32 hJ
            go_wp2
            refine region_known [(1, .exact _ (.slice (some ⟨b, off, none⟩) N.length c2)), (5, .exact _ (.string (bs J))), (7, .exact _ (.string (bs J)))] (by kernel_rfl) (by kernel_rfl) ?_
            (repeat (first | (refine wpG_skip (by kernel_rfl) (fun K hK => ?_); go_big_quiet_skip; refine wpQuiet_nil (hK _ ?_); clear hK K) | (refine wpG_quiet (by rfl) (by rfl) (fun K hK => ?_); go_big_quiet_want; go_big_quiet_op; go_big_quiet_on; refine wpQuiet_nil (hK _ ?_); clear hK K)))
            refine wpG_exact rfl (by kernel_rfl) (fun w' G hB hS hG => ?_) (fun K hK => ?_)
            · have y1 := Below.keeps hB t1
              go_simp; exact hG _ (Bel.refl _)
            go_simp; refine hK _ ?_; clear hK K; (repeat (first | (refine wpG_skip (by kernel_rfl) (fun K hK => ?_); go_big_quiet_skip; refine wpQuiet_nil (hK _ ?_); clear hK K) | (refine wpG_quiet (by rfl) (by rfl) (fun K hK => ?_); go_big_quiet_want; go_big_quiet_op; go_big_quiet_on; refine wpQuiet_nil (hK _ ?_); clear hK K)))
            refine wpG_exact rfl (by kernel_rfl) (fun w' G hB hS hG => ?_) (fun K hK => ?_)
            · have y1 := Below.keeps hB t3
              go_simp; exact hG _ (Bel.refl _)
            go_simp; refine hK _ ?_; clear hK K; (repeat (first | (refine wpG_skip (by kernel_rfl) (fun K hK => ?_); go_big_quiet_skip; refine wpQuiet_nil (hK _ ?_); clear hK K) | (refine wpG_quiet (by rfl) (by rfl) (fun K hK => ?_); go_big_quiet_want; go_big_quiet_op; go_big_quiet_on; refine wpQuiet_nil (hK _ ?_); clear hK K)))
            refine wpG_exact rfl (by kernel_rfl) (fun w' G hB hS hG => ?_) (fun K hK => ?_)
            · go_simp
              refine calls_told hG ?_
              have := rId_any _ (idsOf N KS) w' (HOF.out.row.below hB) (by rw [idsOf_length]; omega) HM32.out
              rwa [← HJ.out] at this
            go_simp; refine hK _ ?_; clear hK K; (repeat (first | (refine wpG_skip (by kernel_rfl) (fun K hK => ?_); go_big_quiet_skip; refine wpQuiet_nil (hK _ ?_); clear hK K) | (refine wpG_quiet (by rfl) (by rfl) (fun K hK => ?_); go_big_quiet_want; go_big_quiet_op; go_big_quiet_on; refine wpQuiet_nil (hK _ ?_); clear hK K)))
            refine wpG_nilYH ?_
            intro w8 hB8 hA8
            have HB8 := Lib.hid (bt (bt HB.out HWx.out) hB8)
            clear hB8 hA8
            go_wp2
            exact ⟨⟨i + 1, by go_num, Nat.le_trans HI.out (Nat.le_succ _), by omega, HB8.out⟩, by simp [intOf]; omega⟩
      · obtain rfl : i = N.length := by omega
        go_wp2_with fail
        refine (alive23 _).mono ?_
        rintro e w6 ⟨rfl, hB6⟩
        go_wp2_with fail
        go_ret
        exact ⟨rfl, bt (bt HBW5.out HB.out) hB6⟩
end Go.Proofs.Ytahmacnmphjhgaa
namespace Go.Proofs.Ytahmacnmphjhgaa
open Go.ChangeShapes Go.WideShapes Go.ChangeAt Go.RowKit Oct
open Go.ChangeMaps (open_string shut_string)

theorem u64_nat {a : Int} (h : (Lit.int .u64 a).wf = true) : ∃ n : Nat, a = (n : Int) ∧ n < 18446744073709551616 := by
  have h2 : 0 ≤ a ∧ a < 18446744073709551616 := by
    have := bounds_u64 h; omega
  exact ⟨a.toNat, by omega, by omega⟩

section
variable {P : Program} {H : Type} {enc : TypeId × Value → H} {W : World} {base : Nat}
theorem open_str {t j : Nat} {v : Value} {d : DataW H} {ps : List MemPlace} {ts : List TypeId} {ds : List (DataW H)} (ht : P.underlying t = some .string) (hv : Value.okWide P W .any base t v)
    (h : DataW.Trod enc P W 0 (fun _ => true) true t v d ps) (hsz : (DataW.weightsEach P ts ds).all (· ≤ reachBytes) = true) (hj : ts[j]? = some t) (hd : ds[j]? = some d) :
    ∃ l : List UInt8, v = .string (bs l) ∧ l.length ≤ 140737488355328 := by
  obtain ⟨s, rfl, rfl, _, _⟩ := open_string ht hv h
  refine ⟨s.data.toList, by rw [bs_of], ?_⟩
  have := sized_string hsz hj hd
  have h2 := reachBytes_lt
  omega

theorem weights_strs (e : TypeId) : ∀ (ss : List ByteArray) (s : ByteArray), s ∈ ss → s.data.toList.length ∈ DataW.weightsAll (H := H) P e (strs ss)
  | [], _, h => by simp at h
  | x :: ss, s, h => by
    have hx : strs (H := H) (x :: ss) = DataW.lit (.string x.data.toList) :: strs ss := rfl
    rw [hx, DataW.weightsAll]
    rcases List.mem_cons.1 h with rfl | h
    · simp [DataW.weights]
    · exact List.mem_append.2 (.inr (weights_strs e ss s h))
theorem add_cell {w : World} {a : Addr} {i : Nat} {u : Value} (h : w.cell? (a.add i) = some u) : a.add i = ⟨a.block, a.off + i, none⟩ := by
  unfold Addr.add at h ⊢
  split
  · rename_i hi
    rw [if_pos hi] at h
    subst hi
    cases a with
    | mk b o sp =>
      cases sp with
      | none => rfl
      | some x => exfalso; revert h; simp only [World.cell?]; split <;> simp
  · rfl
theorem open_texts {t e j : Nat} {v : Value} {d : DataW H} {ps : List MemPlace} {ts : List TypeId} {ds : List (DataW H)} (ht : P.underlying t = some (.slice e)) (he : P.underlying e = some .string) (hc : P.cellsOf e = 1) (hby : P.bytesOf e = 16)
    (hv : Value.okWide P W .any base t v) (h : DataW.Trod enc P W 0 (fun _ => true) true t v d ps) (hsz : (DataW.weightsEach P ts ds).all (· ≤ reachBytes) = true) (hj : ts[j]? = some t) (hd : ds[j]? = some d) :
    ∃ r : List (List UInt8), Reads W v r.length (tcells r) ∧ r.length ≤ 140737488355328 ∧ ∀ l ∈ r, l.length ≤ 140737488355328 := by
  have h47 := reachBytes_lt
  obtain ⟨a0, len, cap, rfl⟩ := okWide_slice ht hv
  obtain ⟨fuel, hf⟩ := h
  rcases open_strings ht he hc hf with ⟨hcs, hx⟩ | ⟨a, len', cap', ss, hcs, _, hl, hm, hz, hx, hcell, hws⟩
  · simp [Value.cells] at hcs
    obtain ⟨rfl, rfl, rfl⟩ := hcs
    exact ⟨[], Reads.nil _, by simp, by simp⟩
  · simp [Value.cells] at hcs
    obtain ⟨rfl, rfl, rfl⟩ := hcs
    simp at hz
    simp only [Prod.mk.injEq] at hx
    have hd2 := hx.1
    subst hd2
    have s1 := sized_slice hsz hj hd ht
    rw [hby] at s1
    simp only [strs, List.length_map, List.length_take, List.length_drop] at s1
    have hlen : (ss.take len).length = len := by simp; omega
    refine ⟨(ss.take len).map fun s => s.data.toList, ?_, ?_, ?_⟩
    · refine ⟨some a, cap, by rw [List.length_map, hlen], by simp, fun i u hu => ?_⟩
      have hi : i < len := by
        rcases Nat.lt_or_ge i len with h | h
        · exact h
        · rw [List.getElem?_eq_none (by simp [tcells]; omega)] at hu; simp at hu
      have hcl := hcell i (by omega)
      have e1 := add_cell hcl
      have e2 : a = ⟨a.block, a.off, none⟩ := by
        have h0 := add_cell (hcell 0 (by omega))
        simpa [Addr.add] using h0
      rw [e1] at hcl
      refine ⟨a.block, a.off, by rw [← e2], ?_⟩
      rw [hcl, ← hu]
      have hss : i < ss.length := by omega
      simp [tcells, List.getElem?_take, hi, hss, bs_of, List.getD]
    · simp; omega
    · intro l hl
      obtain ⟨s, hs, rfl⟩ := List.mem_map.1 hl
      have hin : s.data.toList.length ∈ DataW.weightsEach P ts ds := by
        refine DataW.weights_mem_each hj hd _ ?_
        simp only [DataW.weights, ht]
        exact List.mem_cons.2 (.inr (List.mem_append.2 (.inl (weights_strs e _ s hs))))
      have := List.all_eq_true.1 hsz _ hin
      simp at this
      simp
      omega
end
end Go.Proofs.Ytahmacnmphjhgaa
namespace Go.Proofs.Ytahmacnmphjhgaa
open Go.ChangeShapes Go.WideShapes Go.ChangeAt Go.RowKit Oct
open Go.ChangeMaps (open_string shut_string)

section
variable {P : Program} {H : Type} {enc : TypeId × Value → H} {W : World} {α β γ : Type}

/-- whatever the cells of a type read as, they hold an x; its measure is at most the datum's bulk -/
def Opens (enc : TypeId × Value → H) (P : Program) (W : World) (t : TypeId) (mu : α → Nat) (He : List Value → α → Prop) : Prop :=
  ∀ n cs d ps, DataW.trod enc P W 0 (fun _ => true) true n t cs = some (d, ps) → (∀ x ∈ d.weights P t, x ≤ reachBytes) → ∃ x, He cs x ∧ mu x ≤ Rows.uptoBulk d
theorem bulk_range (D : Nat → DataW H) (f : Nat → α) (mu : α → Nat) : ∀ n, (∀ i, i < n → mu (f i) ≤ Rows.uptoBulk (D i)) → (((List.range n).map f).map mu).sum ≤ Rows.uptoBulkAll ((List.range n).map D)
  | 0, _ => by simp
  | n + 1, h => by
    have ih := bulk_range D f mu n (fun i hi => h i (by omega))
    have app : ∀ (l r : List (DataW H)), Rows.uptoBulkAll (l ++ r) = Rows.uptoBulkAll l + Rows.uptoBulkAll r := by
      intro l r
      induction l with
      | nil => simp [Rows.uptoBulkAll]
      | cons x l ih => simp only [List.cons_append, Rows.uptoBulkAll, ih]; omega
    have := h n (by omega)
    simp only [List.range_succ, List.map_append, List.sum_append, app, List.map_cons, List.map_nil, List.sum_cons, List.sum_nil, Rows.uptoBulkAll]
    omega

theorem Opens.imp {t : TypeId} {mu : α → Nat} {He He' : List Value → α → Prop} (h : Opens enc P W t mu He) (hi : ∀ cs x, He cs x → He' cs x) : Opens enc P W t mu He' := by
  intro n cs d ps hd hw
  obtain ⟨x, hx, hb⟩ := h n cs d ps hd hw
  exact ⟨x, hi _ _ hx, hb⟩
/-- v is a row of elements of 'size' cells -/
def SliceOf (W : World) (size : Nat) (He : List Value → α → Prop) (v : Value) (xs : List α) : Prop :=
  ∃ a cap, v = .slice a xs.length cap ∧ xs.length ≤ cap ∧ (a = none → xs.length = 0 ∧ cap = 0) ∧
    ∀ k (h : k < xs.length), ∃ b off cs, a = some ⟨b, off, none⟩ ∧ cs.length = size ∧ (∀ j u, cs[j]? = some u → W.cell? ⟨b, off + k * size + j, none⟩ = some u) ∧ He cs xs[k]

theorem weights_all_mem (e : TypeId) : ∀ (ds : List (DataW H)) (d : DataW H), d ∈ ds → ∀ x ∈ d.weights P e, x ∈ DataW.weightsAll P e ds
  | [], _, h => by simp at h
  | d0 :: ds, d, h => by
    intro x hx
    rw [DataW.weightsAll]
    rcases List.mem_cons.1 h with rfl | h
    · exact List.mem_append.2 (.inl hx)
    · exact List.mem_append.2 (.inr (weights_all_mem e ds d h x hx))

theorem opens_str {t : TypeId} (ht : P.underlying t = some .string) : Opens enc P W t (fun l : List UInt8 => l.length + 1) fun cs (l : List UInt8) => cs = [.string (bs l)] ∧ l.length ≤ 140737488355328 := by
  intro n cs d ps h hw
  obtain ⟨s, rfl, hx, _⟩ := DataW.trod_string ht h
  simp only [Prod.mk.injEq] at hx
  obtain ⟨rfl, rfl⟩ := hx
  have := hw s.data.toList.length (by simp [DataW.weights])
  have h2 := reachBytes_lt
  exact ⟨s.data.toList, ⟨by rw [bs_of], by omega⟩, by simp [Rows.uptoBulk]⟩
theorem opens_int {t : TypeId} {k : IntKind} (ht : P.underlying t = some (.int k)) : Opens enc P W t (fun _ => 1) fun cs (a : Int) => cs = [.int k a] ∧ (Lit.int k a).wf = true := by
  intro n cs d ps h hw
  obtain ⟨a, rfl, hx, hwf⟩ := DataW.trod_int ht h
  simp only [Prod.mk.injEq] at hx
  obtain ⟨rfl, rfl⟩ := hx
  exact ⟨a, ⟨rfl, hwf⟩, by simp [Rows.uptoBulk]⟩
theorem opens_struct2 {t : TypeId} {f0 f1 : Field} {c0 c1 : Nat} {m0 : α → Nat} {m1 : β → Nat} {H0 : List Value → α → Prop} {H1 : List Value → β → Prop} (ht : P.underlying t = some (.struct #[f0, f1])) (hc : P.cellsOf t = c0 + c1)
    (hc0 : P.cellsOf f0.type = c0) (hc1 : P.cellsOf f1.type = c1) (o0 : f0.offset = 0) (o1 : f1.offset = c0)
    (h0 : Opens enc P W f0.type m0 H0) (h1 : Opens enc P W f1.type m1 H1) : Opens enc P W t (fun p => m0 p.1 + m1 p.2 + 1) fun cs (p : α × β) => ∃ cs0 cs1, cs = cs0 ++ cs1 ∧ cs0.length = c0 ∧ cs1.length = c1 ∧ H0 cs0 p.1 ∧ H1 cs1 p.2 := by
  intro n cs d ps h hw
  obtain ⟨y0, y1, m, hx, hl, e0, e1⟩ := trod_struct2 ht h
  simp only [Prod.mk.injEq] at hx
  obtain ⟨rfl, rfl⟩ := hx
  have hw' : ∀ x, x ∈ y0.1.weights P f0.type ∨ x ∈ y1.1.weights P f1.type → x ≤ reachBytes := by
    intro x hx
    refine hw x ?_
    simp only [DataW.weights, ht, DataW.weightsEach, List.map_cons, List.mem_append]
    rcases hx with hx | hx
    · exact .inl hx
    · exact .inr (.inl hx)
  obtain ⟨x0, k0, b0⟩ := h0 _ _ _ _ e0 (fun x hx => hw' x (.inl hx))
  obtain ⟨x1, k1, b1⟩ := h1 _ _ _ _ e1 (fun x hx => hw' x (.inr hx))
  rw [o0, hc0, List.drop_zero] at k0
  rw [o1, hc1] at k1
  refine ⟨(x0, x1), ⟨cs.take c0, (cs.drop c0).take c1, ?_, ?_, ?_, k0, k1⟩, by simp only [Rows.uptoBulk, Rows.uptoBulkAll]; omega⟩
  · have : (cs.drop c0).take c1 = cs.drop c0 := List.take_of_length_le (by simp; omega)
    rw [this, List.take_append_drop]
  · simp; omega
  · simp; omega
theorem opens_slice {t e : TypeId} {size : Nat} {mu : α → Nat} {He : List Value → α → Prop} (ht : P.underlying t = some (.slice e)) (hc : P.cellsOf e = size) (hpos : 0 < size) (he : Opens enc P W e mu He) :
    Opens enc P W t (fun xs => (xs.map mu).sum + 1) fun cs (xs : List α) => ∃ v, cs = [v] ∧ SliceOf W size He v xs ∧ xs.length * P.bytesOf e ≤ reachBytes := by
  intro n cs d ps h hw
  rcases Deep.open_slice ht h with ⟨rfl, hx⟩ | ⟨a, len, cap, m, n', D, Pl, rfl, _, hl, hm, hmm, hx, hcell⟩
  · simp only [Prod.mk.injEq] at hx
    obtain ⟨rfl, _⟩ := hx
    exact ⟨[], ⟨_, rfl, ⟨none, 0, rfl, Nat.le_refl _, fun _ => ⟨rfl, rfl⟩, fun k hk => by simp at hk⟩, by simp⟩, by simp [Rows.uptoBulk]⟩
  · simp only [Prod.mk.injEq] at hx
    obtain ⟨rfl, _⟩ := hx
    simp only [if_true] at hmm
    subst hmm
    have hin : ∀ i, i < len → ∀ x ∈ (D i).weights P e, x ≤ reachBytes := by
      intro i hi x hx
      refine hw x ?_
      simp only [DataW.weights, ht]
      exact List.mem_cons.2 (.inr (List.mem_append.2 (.inl (weights_all_mem e _ (D i) (List.mem_map.2 ⟨i, by simpa using hi, rfl⟩) x hx))))
    have each : ∀ i, i < len → ∃ x : α, (∃ cs', W.cells? 0 (a.add (i * size)) size = some cs' ∧ He cs' x) ∧ mu x ≤ Rows.uptoBulk (D i) := by
      intro i hi
      obtain ⟨cs', h1, h2⟩ := hcell i (by omega)
      rw [hc] at h1
      obtain ⟨x, hx, hb⟩ := he _ _ _ _ h2 (hin i hi)
      exact ⟨x, ⟨cs', h1, hx⟩, hb⟩
    have hlen := hw ((len + (m - len)) * P.bytesOf e) (by simp [DataW.weights, ht])
    have hlb : len * P.bytesOf e ≤ (len + (m - len)) * P.bytesOf e := Nat.mul_le_mul_right _ (by omega)
    by_cases h0 : len = 0
    · subst h0
      exact ⟨[], ⟨_, rfl, ⟨some a, m, rfl, Nat.zero_le _, by simp, fun k hk => by simp at hk⟩, by simp⟩, by simp [Rows.uptoBulk]⟩
    obtain ⟨x0, _⟩ := each 0 (by omega)
    haveI : Inhabited α := ⟨x0⟩
    obtain ⟨f, hf⟩ := Deep.choose_lt each
    have haddr : a = ⟨a.block, a.off, none⟩ := by
      obtain ⟨⟨cs', h1, _⟩, _⟩ := hf 0 (by omega)
      obtain ⟨_, hl', hcs⟩ := World.cells?_some h1
      have h2 := hcs 0 (by omega)
      rw [Nat.zero_mul] at h2
      have h3 : ∃ u, cs'[0]? = some u := ⟨cs'[0]'(by omega), List.getElem?_eq_getElem _⟩
      obtain ⟨u, hu⟩ := h3
      rw [hu] at h2
      have := add_cell (a := a.add 0) (i := 0) h2
      simpa [Addr.add] using this
    have hbulk := bulk_range D f mu len (fun i hi => (hf i hi).2)
    refine ⟨(List.range len).map f, ⟨_, rfl, ⟨some a, m, by simp, by simpa using hl, by simp, ?_⟩, ?_⟩, by simp only [Rows.uptoBulk]; omega⟩
    · intro k hk
      have hk' : k < len := by simpa using hk
      obtain ⟨⟨cs', h1, hHe⟩, _⟩ := hf k hk'
      obtain ⟨_, hl', hcs⟩ := World.cells?_some h1
      refine ⟨a.block, a.off, cs', by rw [← haddr], hl', ?_, by simpa using hHe⟩
      intro j u hj
      have hjl : j < size := by
        rcases Nat.lt_or_ge j size with h | h
        · exact h
        · rw [List.getElem?_eq_none (by omega)] at hj; cases hj
      have h2 := hcs j hjl
      rw [haddr, hj, Addr.add_lit, Addr.add_lit] at h2
      rw [← h2]
    · simp only [List.length_map, List.length_range]; omega

theorem open_any {t j : Nat} {v : Value} {d : DataW H} {ps : List MemPlace} {ts : List TypeId} {ds : List (DataW H)} {mu : α → Nat} {He : List Value → α → Prop} (ho : Opens enc P W t mu He)
    (h : DataW.Trod enc P W 0 (fun _ => true) true t v d ps) (hsz : (DataW.weightsEach P ts ds).all (· ≤ reachBytes) = true) (hj : ts[j]? = some t) (hd : ds[j]? = some d) : ∃ x, He v.cells.toList x ∧ mu x ≤ Rows.uptoBulk d := by
  obtain ⟨fuel, hf⟩ := h
  refine ho _ _ _ _ hf fun x hx => ?_
  simpa using List.all_eq_true.1 hsz x (DataW.weights_mem_each hj hd x hx)
theorem cells_slice {base : Nat} {t e : TypeId} {v v' : Value} (ht : P.underlying t = some (.slice e)) (hv : Value.okWide P W .any base t v) (h : v.cells.toList = [v']) : v = v' := by
  obtain ⟨a0, len, cap, rfl⟩ := okWide_slice ht hv
  simpa [Value.cells] using h
end
end Go.Proofs.Ytahmacnmphjhgaa
namespace Go.Proofs.Ytahmacnmphjhgaa
open Go.ChangeShapes Go.WideShapes Go.ChangeAt Go.RowKit Oct

section
variable {H : Type} {enc : TypeId × Value → H} {W : World}
theorem rec_of {α : Type} (R : Rec α) {He : List Value → α → Prop} (hcs0 : ∀ cs x, He cs x → cs = R.cell x) {v : Value} {xs : List α} (h : SliceOf W R.n He v xs) : R.Row W v xs ∧ ∀ x ∈ xs, ∃ cs, He cs x := by
  obtain ⟨a, cap, rfl, hle, hn, hc⟩ := h
  have hpos := R.pos
  refine ⟨⟨⟨a, cap, rfl, hn, ?_⟩, a, cap, rfl, hle⟩, ?_⟩
  · intro j u hj
    have hjl : j < xs.length * R.n := by
      rcases Nat.lt_or_ge j (xs.length * R.n) with h | h
      · exact h
      · rw [List.getElem?_eq_none (by rw [Rec.cells_length]; exact h)] at hj; cases hj
    have hk : j / R.n < xs.length := Nat.div_lt_of_lt_mul (by rw [Nat.mul_comm]; exact hjl)
    obtain ⟨b, off, cs, ha, hl, hcell, hcs⟩ := hc (j / R.n) hk
    obtain rfl := hcs0 _ _ hcs
    refine ⟨b, off, ha, ?_⟩
    have hm : j % R.n < R.n := Nat.mod_lt _ hpos
    have hu : (R.cell xs[j / R.n])[j % R.n]? = some ((R.cell xs[j / R.n])[j % R.n]'(by rw [R.len]; exact hm)) := List.getElem?_eq_getElem _
    have h1 := R.cells_at xs (j / R.n) hk (j % R.n) _ hu
    have e : j / R.n * R.n + j % R.n = j := Nat.div_add_mod' j R.n
    rw [e, hj] at h1
    have h2 := hcell (j % R.n) _ hu
    rw [← Option.some.inj h1, Nat.add_assoc, e] at h2
    exact h2
  · intro p hp
    obtain ⟨k, hk, rfl⟩ := List.getElem_of_mem hp
    obtain ⟨_, _, cs, _, _, _, h⟩ := hc k hk
    exact ⟨cs, h⟩
set_option maxRecDepth 100000 in
theorem open_strs {base j : Nat} {v : Value} {d : DataW H} {ps : List MemPlace} {ts : List TypeId} {ds : List (DataW H)}
    (hv : Value.okWide Try.prog W .any base 40 v) (h : DataW.Trod enc Try.prog W 0 (fun _ => true) true 40 v d ps) (hsz : (DataW.weightsEach Try.prog ts ds).all (· ≤ reachBytes) = true) (hj : ts[j]? = some 40) (hd : ds[j]? = some d) :
    ∃ l : List (List UInt8), recS.Row W v l ∧ l.length ≤ 140737488355328 ∧ ∀ s ∈ l, s.length ≤ 140737488355328 := by
  have ho : Opens enc Try.prog W 40 _ _ := opens_slice (size := 1) Try.underlying40 (by kernel_rfl) (by decide) (opens_str Try.underlying9)
  obtain ⟨l, ⟨v', hcs, h1, h2⟩, _⟩ := open_any ho h hsz hj hd
  obtain rfl := cells_slice Try.underlying40 hv hcs
  have hby : Try.prog.bytesOf 9 = 16 := by kernel_rfl
  rw [hby] at h2
  have h3 := reachBytes_lt
  obtain ⟨h4, h5⟩ := rec_of recS (fun cs x h => h.1) h1
  exact ⟨l, h4, by omega, fun s hs => by obtain ⟨cs, _, h⟩ := h5 s hs; exact h⟩
end
end Go.Proofs.Ytahmacnmphjhgaa
