/- Lemmas for DeltaTells, part 7: walks of the functions that it reaches, and the plain laws behind them. -/
import Derived.ProofKit
import Derived.OpenShut
import Derived.ShutString
import Derived.ChangeOld
import Derived.SizedLaws
import Derived.SliceStrings
import Derived.Test.YtahmacnmphjhgaaRows
import Derived.Deep.Slices
import Derived.ChangeSame
import Derived.Test.YtahmacnmphjhgaaDeltaTellsK6
set_option linter.unusedSimpArgs false
set_option linter.unusedVariables false
namespace Go.Proofs.Ytahmacnmphjhgaa
open Go.RowKit Oct

theorem rr_two {w : World} {v1 v2 : Value} {a b : List PR} (h1 : RP w v1 a) (h2 : RP w v2 b) (e : TypeId) : RR (w.alloc (.cells #[v1, v2] e)) (.slice (some ⟨w.heap.size, 0, none⟩) 2 2) [a, b] := by
  refine ⟨_, _, rfl, by simp, by simp, fun k hk => ?_⟩
  match k, hk with
  | 0, _ => exact ⟨_, _, v1, rfl, by rw [World.cell?_alloc_new]; rfl, h1.below (b_alloc _ _)⟩
  | 1, _ => exact ⟨_, _, v2, rfl, by rw [World.cell?_alloc_new]; rfl, h2.below (b_alloc _ _)⟩
theorem by200 {a b n : Nat} (h1 : a ≤ 100) (h2 : b ≤ n) (h3 : n ≤ 200) : (a + b + 1) * 56 ≤ 140737488355328 := by omega
theorem le200 {a b l : Nat} (h1 : a ≤ 100) (h2 : b ≤ 100) (h : l ≤ a + b) : l ≤ 200 := by omega
theorem hq_of {a b : List PR} {L : List TR} (hnil : (L = []) ↔ a = b) : ((L.length : Int) == 0) = decide (a = b) := by
  by_cases e : a = b
  · rw [decide_eq_true e, hnil.2 e]; rfl
  · rw [decide_eq_false e, beq_eq_false_iff_ne]
    intro h0
    exact e (hnil.1 (List.eq_nil_of_length_eq_zero (by omega)))
theorem by300 {b n : Nat} (h2 : b ≤ n) (h3 : n ≤ 200) : (b + 1) * 56 ≤ 140737488355328 := by omega

set_option maxRecDepth 100000 in
set_option maxHeartbeats 4000000 in
theorem DeltaBack_any (v1 : Value) (a : List PR) (v2 : Value) (b : List PR) (w : World) (hr1 : RP w v1 a) (hl1 : a.length ≤ 4398046511104) (hm1 : ∀ p ∈ a, p.1.length ≤ 140737488355328 ∧ p.2.length ≤ 140737488355328)
    (hr2 : RP w v2 b) (hl2 : b.length ≤ 4398046511104) (hm2 : ∀ p ∈ b, p.1.length ≤ 140737488355328 ∧ p.2.length ≤ 140737488355328) :
    Calls Try.prog 4 #[v1, v2] w fun e w' => e = .returned (.bool true) ∧ Below w.heap.size w w' := by
  obtain ⟨a1, c1, rfl, _, _⟩ := hr1.open
  obtain ⟨a2, c2, rfl, _, _⟩ := hr2.open
  have hlen : ∀ r ∈ [a, b], r.length ≤ 140737488355328 ∧ ∀ p ∈ r, p.1.length ≤ 140737488355328 ∧ p.2.length ≤ 140737488355328 := by
    intro r hr
    simp at hr
    rcases hr with rfl | rfl
    · exact ⟨Nat.le_trans hl1 (by decide), hm1⟩
    · exact ⟨Nat.le_trans hl2 (by decide), hm2⟩
  obtain ⟨w1, hw1⟩ : ∃ w1, w1 = w.alloc (.cells #[.slice a1 a.length c1, .slice a2 b.length c2] 22) := ⟨_, rfl⟩
  have hrr := rr_two hr1 hr2 22
  rw [← hw1] at hrr
  have hB1 : Below w.heap.size w w1 := by rw [hw1]; exact b_alloc _ _
  have HRR := Lib.hid hrr
  have HB1 := Lib.hid hB1
  have HA1 := Lib.hid (hr1.below hB1)
  have HB := Lib.hid (hr2.below hB1)
  have HLEN := Lib.hid hlen
  clear hrr hB1 hr1 hr2 hlen hm1 hm2
  go_enter Try.func4, Try.ntmps4
  go_wp2_with fail
  rw [← hw1]
  clear hw1
  cases hlg : long18 [a, b] with
  | true =>
    have HLG := Lib.hid hlg
    clear hlg
    refine (Long18_any _ [a, b] w1 HRR.out (by simp) HLEN.out).mono ?_
    rw [HLG.out]
    rintro e w2 ⟨rfl, hB2⟩
    have HW2 := Lib.hid (bt HB1.out hB2)
    clear hB2
    go_wp2_with fail
    refine (alive40 _).mono ?_
    rintro e w3 ⟨rfl, hB3⟩
    have HW3 := Lib.hid (bt HW2.out hB3)
    clear hB3
    go_wp2
    go_ret
    exact ⟨rfl, HW3.out⟩
  | false =>
    have hle := (long18_le [a, b] hlg).2
    have hla := (hle a (by simp)).1
    have hlb := (hle b (by simp)).1
    have HLG := Lib.hid hlg
    have HLA := Lib.hid hla
    have HLB := Lib.hid hlb
    clear hlg hle hla hlb hl1 hl2
    refine (Long18_any _ [a, b] w1 HRR.out (by simp) HLEN.out).mono ?_
    rw [HLG.out]
    rintro e w2 ⟨rfl, hB2⟩
    have HW2 := Lib.hid (bt HB1.out hB2)
    have HA2 := Lib.hid (HA1.out.below hB2)
    have HB2 := Lib.hid (HB.out.below hB2)
    clear hB2
    go_wp2_with fail
    cases hon : (once a && once b) with
    | false =>
      have HON := Lib.hid hon
      clear hon
      refine (Of_any _ _ a b w2 HA2.out HB2.out (by200 HLA.out HLB.out (by decide))).mono ?_
      rintro e w3 ⟨hres, hB3⟩
      obtain rfl := hres.bad HON.out
      have HW3 := Lib.hid (bt HW2.out hB3)
      have HA3 := Lib.hid (HA2.out.below hB3)
      have HB3 := Lib.hid (HB2.out.below hB3)
      clear hres hB3
      go_wp2_with fail
      cases hoa : once a with
      | false =>
        have HOA := Lib.hid hoa
        clear hoa
        refine (once18_any _ a w3 HA3.out (Nat.le_trans HLA.out (by decide))).mono ?_
        rw [HOA.out]
        rintro e w4 ⟨rfl, hB4⟩
        have HW4 := Lib.hid (bt HW3.out hB4)
        clear hB4
        go_wp2_with fail
        refine (alive40 _).mono ?_
        rintro e w5 ⟨rfl, hB5⟩
        have HW5 := Lib.hid (bt HW4.out hB5)
        clear hB5
        go_wp2
        go_ret
        exact ⟨rfl, HW5.out⟩
      | true =>
        have HOA := Lib.hid hoa
        have HOB := Lib.hid (show once b = false by have := HON.out; rw [hoa, Bool.true_and] at this; exact this)
        clear hoa
        refine (once18_any _ a w3 HA3.out (Nat.le_trans HLA.out (by decide))).mono ?_
        rw [HOA.out]
        rintro e w4 ⟨rfl, hB4⟩
        have HW4 := Lib.hid (bt HW3.out hB4)
        have HB4 := Lib.hid (HB3.out.below hB4)
        clear hB4
        go_wp2_with fail
        refine (once18_any _ b w4 HB4.out (Nat.le_trans HLB.out (by decide))).mono ?_
        rw [HOB.out]
        rintro e w5 ⟨rfl, hB5⟩
        have HW5 := Lib.hid (bt HW4.out hB5)
        clear hB5
        go_wp2_with fail
        refine (alive40 _).mono ?_
        rintro e w6 ⟨rfl, hB6⟩
        have HW6 := Lib.hid (bt HW5.out hB6)
        clear hB6
        go_wp2
        go_ret
        exact ⟨rfl, HW6.out⟩
    | true =>
      have hoa : once a = true := by rw [Bool.and_eq_true] at hon; exact hon.1
      have hob : once b = true := by rw [Bool.and_eq_true] at hon; exact hon.2
      have HON := Lib.hid hon
      have HON2 := Lib.hid (show (once b && once a) = true by rw [hoa, hob]; rfl)
      obtain ⟨L, hL⟩ : ∃ L, L = ofF a b := ⟨_, rfl⟩
      have hap := ap_of _ a b rfl hoa hob
      have hbp := ap_of _ b a rfl hob hoa
      have hba := of_back _ a b rfl
      have hll := ofF_length _ a b rfl
      have hnil := of_nil a b hoa hob
      rw [hba] at hbp
      rw [← hL] at hap hbp hba hll hnil
      obtain ⟨BK, hBK⟩ : ∃ BK, BK = L.map backT := ⟨_, rfl⟩
      rw [← hBK] at hbp hba
      have HBK := Lib.hid hBK
      have HBL := Lib.hid (show BK.length = L.length by rw [hBK, List.length_map])
      clear hBK
      have HRT := Lib.hid (show (once a && riseT L) = true by rw [hoa, hap.1]; rfl)
      have HRT2 := Lib.hid (show (once b && riseT BK) = true by rw [hob, hbp.1]; rfl)
      have HAP := Lib.hid (show apF a L ([], false) = (b, false) by rw [hap.2]; rfl)
      have HBP := Lib.hid (show apF b BK ([], false) = (a, false) by rw [hbp.2]; rfl)
      have HBA := Lib.hid hba
      have HLL := Lib.hid (le200 HLA.out HLB.out hll)
      obtain ⟨d, hd⟩ : ∃ d, d = decide (a = b) := ⟨_, rfl⟩
      have HD := Lib.hid hd
      have hq : ((L.length : Int) == 0) = d := by rw [hd]; exact hq_of hnil
      have HOA := Lib.hid hoa
      have HOB := Lib.hid hob
      have HL := Lib.hid hL
      clear hon hoa hob hap hbp hba hll hnil hL hd
      have hof := Of_any _ _ a b w2 HA2.out HB2.out (by200 HLA.out HLB.out (by decide))
      refine hof.mono ?_
      rintro e w3 ⟨hres, hB3⟩
      obtain ⟨a3, c3, rfl, hown3⟩ := hres.len HON.out
      rw [← HL.out] at hown3 ⊢
      have HT3 := Lib.hid (Rec.Own.row (R := recT) hown3)
      have HW3 := Lib.hid (bt HW2.out hB3)
      have HA3 := Lib.hid (HA2.out.below hB3)
      have HB3 := Lib.hid (HB2.out.below hB3)
      clear hof hres hB3 hown3
      go_wp2_with fail
      refine (once18_any _ a w3 HA3.out (Nat.le_trans HLA.out (by decide))).mono ?_
      rw [HOA.out]
      rintro e w4 ⟨rfl, hB4⟩
      have HW4 := Lib.hid (bt HW3.out hB4)
      have HA4 := Lib.hid (HA3.out.below hB4)
      have HB4 := Lib.hid (HB3.out.below hB4)
      have HT4 := Lib.hid (HT3.out.below hB4)
      clear hB4
      go_wp2_with fail
      refine (once18_any _ b w4 HB4.out (Nat.le_trans HLB.out (by decide))).mono ?_
      rw [HOB.out]
      rintro e w5 ⟨rfl, hB5⟩
      have HW5 := Lib.hid (bt HW4.out hB5)
      have HA5 := Lib.hid (HA4.out.below hB5)
      have HB5 := Lib.hid (HB4.out.below hB5)
      have HT5 := Lib.hid (HT4.out.below hB5)
      clear hB5
      go_wp2_with fail
      refine (Apply_any _ _ a L w5 HA5.out HT5.out (by200 HLA.out HLL.out (by decide))).mono ?_
      rintro e w6 ⟨hres, hB6⟩
      obtain ⟨v6, rfl, hown6⟩ := hres.good HRT.out b HAP.out
      obtain ⟨a6, c6, rfl⟩ := owns_slice hown6
      have HX6 := Lib.hid (OP.reads hown6)
      have HW6 := Lib.hid (bt HW5.out hB6)
      have HA6 := Lib.hid (HA5.out.below hB6)
      have HB6 := Lib.hid (HB5.out.below hB6)
      have HT6 := Lib.hid (HT5.out.below hB6)
      clear hB6 hres hown6
      go_wp2_with fail
      refine (Back_any _ L w6 HT6.out (by300 HLL.out (by decide))).mono ?_
      rintro e w7 ⟨⟨v7, rfl, hown7⟩, hB7⟩
      rw [← HBK.out] at hown7
      obtain ⟨a7, c7, rfl⟩ := owns_slice hown7
      have HBK7 := Lib.hid (Rec.Own.row (R := recT) hown7)
      have HX7 := Lib.hid (HX6.out.below hB7)
      have HW7 := Lib.hid (bt HW6.out hB7)
      have HA7 := Lib.hid (HA6.out.below hB7)
      have HB7 := Lib.hid (HB6.out.below hB7)
      have HT7 := Lib.hid (HT6.out.below hB7)
      clear hB7 hown7
      go_wp2_with fail
      refine (Apply_any _ _ b BK w7 HB7.out HBK7.out (by200 HLB.out (by rw [HBL.out]; exact HLL.out) (by decide))).mono ?_
      rintro e w8 ⟨hres, hB8⟩
      obtain ⟨v8, rfl, hown8⟩ := hres.good HRT2.out a HBP.out
      obtain ⟨a8, c8, rfl⟩ := owns_slice hown8
      have HY8 := Lib.hid (OP.reads hown8)
      have HX8 := Lib.hid (HX7.out.below hB8)
      have HW8 := Lib.hid (bt HW7.out hB8)
      have HA8 := Lib.hid (HA7.out.below hB8)
      have HB8 := Lib.hid (HB7.out.below hB8)
      have HT8 := Lib.hid (HT7.out.below hB8)
      clear hB8 hres hown8
      go_wp2_with fail
      refine (Of_any _ _ b a w8 HB8.out HA8.out (by200 HLB.out HLA.out (by decide))).mono ?_
      rintro e w9 ⟨hres, hB9⟩
      obtain ⟨a9, c9, rfl, hown9⟩ := hres.len HON2.out
      rw [HBA.out] at hown9 ⊢
      have HM9 := Lib.hid (Rec.Own.row (R := recT) hown9)
      have HY9 := Lib.hid (HY8.out.below hB9)
      have HX9 := Lib.hid (HX8.out.below hB9)
      have HW9 := Lib.hid (bt HW8.out hB9)
      have HA9 := Lib.hid (HA8.out.below hB9)
      have HB9 := Lib.hid (HB8.out.below hB9)
      have HT9 := Lib.hid (HT8.out.below hB9)
      clear hB9 hres hown9
      go_wp2_with fail
      refine (same14_any _ _ b b w9 HX9.out HB9.out (Nat.le_trans HLB.out (by decide)) (Nat.le_trans HLB.out (by decide))).mono ?_
      rw [decide_eq_true rfl]
      rintro e w10 ⟨rfl, hB10⟩
      have HM10 := Lib.hid (HM9.out.below hB10)
      have HY10 := Lib.hid (HY9.out.below hB10)
      have HW10 := Lib.hid (bt HW9.out hB10)
      have HA10 := Lib.hid (HA9.out.below hB10)
      have HB10 := Lib.hid (HB9.out.below hB10)
      have HT10 := Lib.hid (HT9.out.below hB10)
      clear hB10
      go_wp2_with fail
      refine (same14_any _ _ a a w10 HY10.out HA10.out (Nat.le_trans HLA.out (by decide)) (Nat.le_trans HLA.out (by decide))).mono ?_
      rw [decide_eq_true rfl]
      rintro e w11 ⟨rfl, hB11⟩
      have HM11 := Lib.hid (HM10.out.below hB11)
      have HW11 := Lib.hid (bt HW10.out hB11)
      have HA11 := Lib.hid (HA10.out.below hB11)
      have HB11 := Lib.hid (HB10.out.below hB11)
      have HT11 := Lib.hid (HT10.out.below hB11)
      clear hB11
      go_wp2_with fail
      refine (Back_any _ L w11 HT11.out (by300 HLL.out (by decide))).mono ?_
      rintro e w12 ⟨⟨v12, rfl, hown12⟩, hB12⟩
      rw [← HBK.out] at hown12
      obtain ⟨a12, c12, rfl⟩ := owns_slice hown12
      have HBK12 := Lib.hid (Rec.Own.row (R := recT) hown12)
      have HM12 := Lib.hid (HM11.out.below hB12)
      have HW12 := Lib.hid (bt HW11.out hB12)
      have HA12 := Lib.hid (HA11.out.below hB12)
      have HB12 := Lib.hid (HB11.out.below hB12)
      clear hB12 hown12
      go_wp2_with fail
      refine (sameT_any _ _ BK BK w12 HM12.out HBK12.out (by rw [HBL.out]; exact Nat.le_trans HLL.out (by decide)) (by rw [HBL.out]; exact Nat.le_trans HLL.out (by decide))).mono ?_
      rw [decide_eq_true rfl]
      rintro e w13 ⟨rfl, hB13⟩
      have HW13 := Lib.hid (bt HW12.out hB13)
      have HA13 := Lib.hid (HA12.out.below hB13)
      have HB13 := Lib.hid (HB12.out.below hB13)
      clear hB13
      go_wp2_with fail
      refine (same14_any _ _ a b w13 HA13.out HB13.out (Nat.le_trans HLA.out (by decide)) (Nat.le_trans HLB.out (by decide))).mono ?_
      rw [← HD.out]
      rintro e w14 ⟨rfl, hB14⟩
      have HW14 := Lib.hid (bt HW13.out hB14)
      clear hB14
      go_wp2_with fail
      refine (alive40 _).mono ?_
      rintro e w15 ⟨rfl, hB15⟩
      have HW15 := Lib.hid (bt HW14.out hB15)
      clear hB15
      go_wp2
      go_ret
      exact ⟨rfl, HW15.out⟩
end Go.Proofs.Ytahmacnmphjhgaa
namespace Go.Proofs.Ytahmacnmphjhgaa
open Go.RowKit Oct

theorem ROfRes.good {a b : List PR} {n : Nat} {e : Ending} {w : World} (h : ROfRes a b n e w) (hh : (once a && once b) = true) : ∃ av cv, e = .returned (.tuple #[.slice av (ofF a b).length cv, .int .i64 0]) ∧ recT.Own w n (.slice av (ofF a b).length cv) (ofF a b) := by
  unfold ROfRes at h
  rw [hh] at h
  obtain ⟨v, rfl, hown⟩ := h
  rw [Bool.and_eq_true] at hh
  rw [rOfF_eq a b hh.1 hh.2] at hown
  obtain ⟨av, cv, rfl⟩ := owns_slice hown
  exact ⟨av, cv, rfl, hown⟩
theorem ROfRes.bad {a b : List PR} {n : Nat} {e : Ending} {w : World} (h : ROfRes a b n e w) (hh : (once a && once b) = false) : e = .returned (.tuple #[.slice none 0 0, .int .i64 2]) := by
  unfold ROfRes at h; rw [hh] at h; exact h
/-- both give a row X of turns and the error x -/
def TellT (a b : List PR) : List TR × Int := if once a && once b then (ofF a b, 0) else ([], 2)
theorem OfRes.tell {a b : List PR} {n : Nat} {e : Ending} {w : World} (h : OfRes a b n e w) : ∃ av cv, e = .returned (.tuple #[.slice av (TellT a b).1.length cv, .int .i64 (TellT a b).2]) ∧ recT.Row w (.slice av (TellT a b).1.length cv) (TellT a b).1 := by
  unfold TellT
  cases hh : (once a && once b) with
  | true =>
    obtain ⟨av, cv, rfl, ho⟩ := h.len hh
    exact ⟨av, cv, rfl, Rec.Own.row (R := recT) ho⟩
  | false =>
    obtain rfl := h.bad hh
    exact ⟨none, 0, rfl, Rec.Row.nil _⟩
theorem ROfRes.tell {a b : List PR} {n : Nat} {e : Ending} {w : World} (h : ROfRes a b n e w) : ∃ av cv, e = .returned (.tuple #[.slice av (TellT a b).1.length cv, .int .i64 (TellT a b).2]) ∧ recT.Row w (.slice av (TellT a b).1.length cv) (TellT a b).1 := by
  unfold TellT
  cases hh : (once a && once b) with
  | true =>
    obtain ⟨av, cv, rfl, ho⟩ := h.good hh
    exact ⟨av, cv, rfl, Rec.Own.row (R := recT) ho⟩
  | false =>
    obtain rfl := h.bad hh
    exact ⟨none, 0, rfl, Rec.Row.nil _⟩
def TellA (a : List PR) (l : List TR) : List PR × Int := if okA a l then (outG a l, 0) else ([], 2)
theorem RApRes.tell {a : List PR} {l : List TR} {n : Nat} {e : Ending} {w : World} (h : RApRes a l n e w) : ∃ av cv, e = .returned (.tuple #[.slice av (TellA a l).1.length cv, .int .i64 (TellA a l).2]) ∧ RP w (.slice av (TellA a l).1.length cv) (TellA a l).1 := by
  unfold RApRes at h
  unfold TellA
  cases hh : okA a l with
  | true =>
    rw [hh] at h
    obtain ⟨v, rfl, ho⟩ := h
    obtain ⟨av, cv, rfl⟩ := owns_slice ho
    exact ⟨av, cv, rfl, OP.reads ho⟩
  | false =>
    rw [hh] at h
    subst h
    exact ⟨none, 0, rfl, RP.nil _⟩
theorem TellT_le {a b : List PR} (ha : a.length ≤ 100) (hb : b.length ≤ 100) : (TellT a b).1.length ≤ 140737488355328 := by
  unfold TellT
  split
  · have := ofF_length _ a b rfl
    show (ofF a b).length ≤ _
    omega
  · exact Nat.zero_le _
theorem TellA_le {a : List PR} {l : List TR} (ha : a.length ≤ 100) (hb : l.length ≤ 60) : (TellA a l).1.length ≤ 140737488355328 := by
  unfold TellA
  split
  · have := outG_le _ a l rfl
    show (outG a l).length ≤ _
    omega
  · exact Nat.zero_le _
theorem byq {a b l : Nat} (ha : a ≤ 100) (hb : b ≤ 100) (hl : l ≤ 60) : (0 + a) * 32 ≤ 140737488355328 ∧ (0 + b) * 32 ≤ 140737488355328 ∧ (0 + l) * 56 ≤ 140737488355328 ∧ (a + b + 1) * 56 ≤ 140737488355328 ∧ (a + l + 1) * 56 ≤ 140737488355328 ∧ (l + 1) * 56 ≤ 140737488355328 := by omega

set_option maxRecDepth 100000 in
set_option maxHeartbeats 8000000 in
theorem DeltaTells_any (v1 : Value) (a : List PR) (v2 : Value) (b : List PR) (v3 : Value) (l : List TR) (w : World) (hr1 : RP w v1 a) (hl1 : a.length ≤ 4398046511104) (hm1 : ∀ p ∈ a, p.1.length ≤ 140737488355328 ∧ p.2.length ≤ 140737488355328)
    (hr2 : RP w v2 b) (hl2 : b.length ≤ 4398046511104) (hm2 : ∀ p ∈ b, p.1.length ≤ 140737488355328 ∧ p.2.length ≤ 140737488355328)
    (hr3 : recT.Row w v3 l) (hl3 : l.length ≤ 140737488355328) (hm3 : ∀ p ∈ l, p.key.length ≤ 140737488355328 ∧ p.was.length ≤ 140737488355328 ∧ p.now.length ≤ 140737488355328) :
    Calls Try.prog 3 #[v1, v2, v3] w fun e w' => e = .returned (.bool true) ∧ Below w.heap.size w w' := by
  obtain ⟨a1, c1, rfl, _, _⟩ := hr1.open
  obtain ⟨a2, c2, rfl, _, _⟩ := hr2.open
  obtain ⟨a3, c3, rfl, _, _⟩ := recT_open hr3
  have hlen : ∀ r ∈ [a, b], r.length ≤ 140737488355328 ∧ ∀ p ∈ r, p.1.length ≤ 140737488355328 ∧ p.2.length ≤ 140737488355328 := by
    intro r hr
    simp at hr
    rcases hr with rfl | rfl
    · exact ⟨Nat.le_trans hl1 (by decide), hm1⟩
    · exact ⟨Nat.le_trans hl2 (by decide), hm2⟩
  obtain ⟨w1, hw1⟩ : ∃ w1, w1 = w.alloc (.cells #[.slice a1 a.length c1, .slice a2 b.length c2] 22) := ⟨_, rfl⟩
  have hrr := rr_two hr1 hr2 22
  rw [← hw1] at hrr
  have hB1 : Below w.heap.size w w1 := by rw [hw1]; exact b_alloc _ _
  have HRR := Lib.hid hrr
  have HB1 := Lib.hid hB1
  have HA1 := Lib.hid (hr1.below hB1)
  have HBB1 := Lib.hid (hr2.below hB1)
  have HL1 := Lib.hid (hr3.below hB1)
  have HLEN := Lib.hid hlen
  have HM3 := Lib.hid hm3
  have HL3 := Lib.hid hl3
  clear hrr hB1 hr1 hr2 hr3 hlen hm1 hm2 hm3 hl1 hl2 hl3
  go_enter Try.func3, Try.ntmps3
  go_wp2_with fail
  rw [← hw1]
  clear hw1
  cases hlg : long18 [a, b] with
  | true =>
    have HLG := Lib.hid hlg
    clear hlg
    refine (Long18_any _ [a, b] w1 HRR.out (by simp) HLEN.out).mono ?_
    rw [HLG.out]
    rintro e w2 ⟨rfl, hB2⟩
    have HW2 := Lib.hid (bt HB1.out hB2)
    clear hB2
    go_wp2_with fail
    refine (alive40 _).mono ?_
    rintro e w3 ⟨rfl, hB3⟩
    have HW3 := Lib.hid (bt HW2.out hB3)
    clear hB3
    go_wp2
    go_ret
    exact ⟨rfl, HW3.out⟩
  | false =>
    have hle := (long18_le [a, b] hlg).2
    have hla := (hle a (by simp)).1
    have hlb := (hle b (by simp)).1
    have HLG := Lib.hid hlg
    have HLA := Lib.hid hla
    have HLB := Lib.hid hlb
    clear hlg hle hla hlb
    refine (Long18_any _ [a, b] w1 HRR.out (by simp) HLEN.out).mono ?_
    rw [HLG.out]
    rintro e w2 ⟨rfl, hB2⟩
    have HW2 := Lib.hid (bt HB1.out hB2)
    have HA2 := Lib.hid (HA1.out.below hB2)
    have HBB2 := Lib.hid (HBB1.out.below hB2)
    have HL2 := Lib.hid (HL1.out.below hB2)
    clear hB2 HLEN HRR
    go_wp2_with fail
    cases hl4 : long40 l with
    | true =>
      have HLG4 := Lib.hid hl4
      clear hl4
      refine (long40_any _ l w2 HL2.out HL3.out HM3.out).mono ?_
      rw [HLG4.out]
      rintro e w3 ⟨rfl, hB3⟩
      have HW3 := Lib.hid (bt HW2.out hB3)
      clear hB3
      go_wp2_with fail
      refine (alive40 _).mono ?_
      rintro e w4 ⟨rfl, hB4⟩
      have HW4 := Lib.hid (bt HW3.out hB4)
      clear hB4
      go_wp2
      go_ret
      exact ⟨rfl, HW4.out⟩
    | false =>
      have HLL := Lib.hid (long40_le l hl4)
      have HLG4 := Lib.hid hl4
      have HQ := Lib.hid (byq HLA.out HLB.out HLL.out)
      clear hl4
      refine (long40_any _ l w2 HL2.out HL3.out HM3.out).mono ?_
      rw [HLG4.out]
      rintro e w3 ⟨rfl, hB3⟩
      have HW3 := Lib.hid (bt HW2.out hB3)
      have HA3 := Lib.hid (HA2.out.below hB3)
      have HBB3 := Lib.hid (HBB2.out.below hB3)
      have HL3' := Lib.hid (HL2.out.below hB3)
      clear hB3 HM3 HL3
      obtain ⟨X, hX⟩ : ∃ X, X = (TellT a b).1 := ⟨_, rfl⟩
      obtain ⟨x, hx⟩ : ∃ x, x = (TellT a b).2 := ⟨_, rfl⟩
      obtain ⟨U, hU⟩ : ∃ U, U = (TellA a l).1 := ⟨_, rfl⟩
      obtain ⟨u, hu⟩ : ∃ u, u = (TellA a l).2 := ⟨_, rfl⟩
      have HX := Lib.hid hX
      have Hx := Lib.hid hx
      have HU := Lib.hid hU
      have Hu := Lib.hid hu
      have HXL := Lib.hid (show X.length ≤ 140737488355328 by rw [hX]; exact TellT_le HLA.out HLB.out)
      have HUL := Lib.hid (show U.length ≤ 140737488355328 by rw [hU]; exact TellA_le HLA.out HLL.out)
      clear hX hx hU hu
      go_wp2_with (first
        | (at_builtin; (refine appendP w3 rfl _ _ 22 rfl Try.underlying22 w3.heap.size (.slice none 0 0) [] rfl (OP.nil _ _) (.slice a1 a.length c1) a rfl HA3.out HQ.out.1 (Nat.le_refl _) ?_); intro v5 w5 hown5 hB5; rw [List.nil_append] at hown5; obtain ⟨a5, c5, rfl⟩ := owns_slice hown5; have HO5 := Lib.hid (OP.reads hown5); have HB5 := Lib.hid hB5; have HBB5 := Lib.hid (HBB3.out.below hB5); clear hown5 hB5)
        | (at_builtin; (refine appendP w5 rfl _ _ 22 rfl Try.underlying22 w5.heap.size (.slice none 0 0) [] rfl (OP.nil _ _) (.slice a2 b.length c2) b rfl HBB5.out HQ.out.2.1 (Nat.le_refl _) ?_); intro v6 w6 hown6 hB6; rw [List.nil_append] at hown6; obtain ⟨a6, c6, rfl⟩ := owns_slice hown6; have HO6 := Lib.hid (OP.reads hown6); have HO56 := Lib.hid (HO5.out.below hB6); have HB6 := Lib.hid (bt HB5.out hB6); clear hown6 hB6)
        | fail)
      refine (Of_any _ _ a b w6 HO56.out HO6.out HQ.out.2.2.2.1).mono ?_
      rintro e w7 ⟨hres, hB7⟩
      obtain ⟨a7, c7, rfl, hrow7⟩ := hres.tell
      rw [← HX.out] at hrow7 ⊢
      rw [← Hx.out]
      have HX7 := Lib.hid hrow7
      have hB37 := bt HB6.out hB7
      have HW7 := Lib.hid (bt HW3.out hB37)
      have HA7 := Lib.hid (HA3.out.below hB37)
      have HBB7 := Lib.hid (HBB3.out.below hB37)
      have HL7 := Lib.hid (HL3'.out.below hB37)
      clear hres hrow7 hB7 hB37
      go_wp2_with fail
      refine (rOf_any _ _ a b w7 HA7.out HBB7.out HLA.out HLB.out).mono ?_
      rintro e w8 ⟨hres, hB8⟩
      obtain ⟨a8, c8, rfl, hrow8⟩ := hres.tell
      rw [← HX.out] at hrow8 ⊢
      rw [← Hx.out]
      have HY8 := Lib.hid hrow8
      have HX8 := Lib.hid (HX7.out.below hB8)
      have HW8 := Lib.hid (bt HW7.out hB8)
      have HA8 := Lib.hid (HA7.out.below hB8)
      have HL8 := Lib.hid (HL7.out.below hB8)
      clear hres hrow8 hB8
      go_wp2_with (first
        | (at_builtin; (refine appendP w8 rfl _ _ 22 rfl Try.underlying22 w8.heap.size (.slice none 0 0) [] rfl (OP.nil _ _) (.slice a1 a.length c1) a rfl HA8.out HQ.out.1 (Nat.le_refl _) ?_); intro v9 w9 hown9 hB9; rw [List.nil_append] at hown9; obtain ⟨a9, c9, rfl⟩ := owns_slice hown9; have HO9 := Lib.hid (OP.reads hown9); have HB9 := Lib.hid hB9; have HL9 := Lib.hid (HL8.out.below hB9); clear hown9 hB9)
        | (at_builtin; (refine recT.append w9 rfl _ _ 23 rfl Try.underlying23 w9.heap.size (.slice none 0 0) [] (Rec.Own.nil _ _) rfl (.slice a3 l.length c3) l HL9.out rfl HQ.out.2.2.1 (Nat.le_refl _) ?_); intro v10 w10 hown10 hB10; rw [List.nil_append] at hown10; obtain ⟨a10, c10, rfl⟩ := owns_slice hown10; have HO10 := Lib.hid (Rec.Own.row (R := recT) hown10); have HO910 := Lib.hid (HO9.out.below hB10); have HB10 := Lib.hid (bt HB9.out hB10); clear hown10 hB10)
        | fail)
      refine (Apply_any _ _ a l w10 HO910.out HO10.out HQ.out.2.2.2.2.1).mono ?_
      rintro e w11 ⟨hres, hB11⟩
      obtain ⟨a11, c11, rfl, hrow11⟩ := (ApRes.same hres).tell
      rw [← HU.out] at hrow11 ⊢
      rw [← Hu.out]
      have HU11 := Lib.hid hrow11
      have hB811 := bt HB10.out hB11
      have HX11 := Lib.hid (HX8.out.below hB811)
      have HY11 := Lib.hid (HY8.out.below hB811)
      have HW11 := Lib.hid (bt HW8.out hB811)
      have HA11 := Lib.hid (HA8.out.below hB811)
      have HL11 := Lib.hid (HL8.out.below hB811)
      clear hres hrow11 hB11 hB811
      go_wp2_with fail
      refine (rApply_any _ _ a l w11 HA11.out HL11.out HLA.out HLL.out).mono ?_
      rintro e w12 ⟨hres, hB12⟩
      obtain ⟨a12, c12, rfl, hrow12⟩ := hres.tell
      rw [← HU.out] at hrow12 ⊢
      rw [← Hu.out]
      have HV12 := Lib.hid hrow12
      have HU12 := Lib.hid (HU11.out.below hB12)
      have HX12 := Lib.hid (HX11.out.below hB12)
      have HY12 := Lib.hid (HY11.out.below hB12)
      have HW12 := Lib.hid (bt HW11.out hB12)
      have HL12 := Lib.hid (HL11.out.below hB12)
      clear hres hrow12 hB12
      go_wp2_with fail
      refine (sameT_any _ _ X X w12 HX12.out HY12.out HXL.out HXL.out).mono ?_
      rw [decide_eq_true rfl]
      rintro e w13 ⟨rfl, hB13⟩
      have HU13 := Lib.hid (HU12.out.below hB13)
      have HV13 := Lib.hid (HV12.out.below hB13)
      have HW13 := Lib.hid (bt HW12.out hB13)
      have HL13 := Lib.hid (HL12.out.below hB13)
      clear hB13
      go_wp2_with fail
      refine (same14_any _ _ U U w13 HU13.out HV13.out HUL.out HUL.out).mono ?_
      rw [decide_eq_true rfl]
      rintro e w14 ⟨rfl, hB14⟩
      have HW14 := Lib.hid (bt HW13.out hB14)
      have HL14 := Lib.hid (HL13.out.below hB14)
      clear hB14
      obtain ⟨BK, hBK⟩ : ∃ BK, BK = l.map backT := ⟨_, rfl⟩
      have HBK := Lib.hid hBK
      have HBKL := Lib.hid (show BK.length ≤ 140737488355328 by rw [hBK, List.length_map]; exact Nat.le_trans HLL.out (by decide))
      clear hBK
      go_wp2_with fail
      refine (Back_any _ l w14 HL14.out HQ.out.2.2.2.2.2).mono ?_
      rintro e w15 ⟨⟨v15, rfl, hown15⟩, hB15⟩
      rw [← HBK.out] at hown15
      obtain ⟨a15, c15, rfl⟩ := owns_slice hown15
      have HP15 := Lib.hid (Rec.Own.row (R := recT) hown15)
      have HW15 := Lib.hid (bt HW14.out hB15)
      have HL15 := Lib.hid (HL14.out.below hB15)
      clear hB15 hown15
      go_wp2_with fail
      refine (rBack_any _ l w15 HL15.out HQ.out.2.2.2.2.2).mono ?_
      rintro e w16 ⟨⟨v16, rfl, hown16⟩, hB16⟩
      rw [← HBK.out] at hown16
      obtain ⟨a16, c16, rfl⟩ := owns_slice hown16
      have HR16 := Lib.hid (Rec.Own.row (R := recT) hown16)
      have HP16 := Lib.hid (HP15.out.below hB16)
      have HW16 := Lib.hid (bt HW15.out hB16)
      clear hB16 hown16
      go_wp2_with fail
      refine (sameT_any _ _ BK BK w16 HP16.out HR16.out HBKL.out HBKL.out).mono ?_
      rw [decide_eq_true rfl]
      rintro e w17 ⟨rfl, hB17⟩
      have HW17 := Lib.hid (bt HW16.out hB17)
      clear hB17
      go_wp2_with fail
      refine (alive40 _).mono ?_
      rintro e w18 ⟨rfl, hB18⟩
      have HW18 := Lib.hid (bt HW17.out hB18)
      clear hB18
      go_wp2
      go_ret
      exact ⟨rfl, HW18.out⟩
end Go.Proofs.Ytahmacnmphjhgaa
namespace Go.Proofs.Ytahmacnmphjhgaa
open Go.ChangeShapes Go.WideShapes Go.ChangeAt Go.RowKit Oct
open Go.ChangeMaps (open_string shut_string)

theorem u64_nat {a : Int} (h : (Lit.int .u64 a).wf = true) : ∃ n : Nat, a = (n : Int) ∧ n < 18446744073709551616 := by
  have h2 : 0 ≤ a ∧ a < 18446744073709551616 := by
    have := bounds_u64 h; omega
  exact ⟨a.toNat, by omega, by omega⟩

section
variable {P : Program} {H : Type} {enc : TypeId × Value → H} {W : World} {base : Nat}
theorem open_str {t j : Nat} {v : Value} {d : DataW H} {ps : List MemPlace} {ts : List TypeId} {ds : List (DataW H)} (ht : P.underlying t = some .string) (hv : Value.okWide P W .any base t v)
    (h : DataW.Trod enc P W 0 (fun _ => true) true t v d ps) (hsz : (DataW.weightsEach P ts ds).all (· ≤ reachBytes) = true) (hj : ts[j]? = some t) (hd : ds[j]? = some d) :
    ∃ l : List UInt8, v = .string (bs l) ∧ l.length ≤ 140737488355328 := by
  obtain ⟨s, rfl, rfl, _, _⟩ := open_string ht hv h
  refine ⟨s.data.toList, by rw [bs_of], ?_⟩
  have := sized_string hsz hj hd
  have h2 := reachBytes_lt
  omega

theorem weights_strs (e : TypeId) : ∀ (ss : List ByteArray) (s : ByteArray), s ∈ ss → s.data.toList.length ∈ DataW.weightsAll (H := H) P e (strs ss)
  | [], _, h => by simp at h
  | x :: ss, s, h => by
    have hx : strs (H := H) (x :: ss) = DataW.lit (.string x.data.toList) :: strs ss := rfl
    rw [hx, DataW.weightsAll]
    rcases List.mem_cons.1 h with rfl | h
    · simp [DataW.weights]
    · exact List.mem_append.2 (.inr (weights_strs e ss s h))
theorem add_cell {w : World} {a : Addr} {i : Nat} {u : Value} (h : w.cell? (a.add i) = some u) : a.add i = ⟨a.block, a.off + i, none⟩ := by
  unfold Addr.add at h ⊢
  split
  · rename_i hi
    rw [if_pos hi] at h
    subst hi
    cases a with
    | mk b o sp =>
      cases sp with
      | none => rfl
      | some x => exfalso; revert h; simp only [World.cell?]; split <;> simp
  · rfl
theorem open_texts {t e j : Nat} {v : Value} {d : DataW H} {ps : List MemPlace} {ts : List TypeId} {ds : List (DataW H)} (ht : P.underlying t = some (.slice e)) (he : P.underlying e = some .string) (hc : P.cellsOf e = 1) (hby : P.bytesOf e = 16)
    (hv : Value.okWide P W .any base t v) (h : DataW.Trod enc P W 0 (fun _ => true) true t v d ps) (hsz : (DataW.weightsEach P ts ds).all (· ≤ reachBytes) = true) (hj : ts[j]? = some t) (hd : ds[j]? = some d) :
    ∃ r : List (List UInt8), Reads W v r.length (tcells r) ∧ r.length ≤ 140737488355328 ∧ ∀ l ∈ r, l.length ≤ 140737488355328 := by
  have h47 := reachBytes_lt
  obtain ⟨a0, len, cap, rfl⟩ := okWide_slice ht hv
  obtain ⟨fuel, hf⟩ := h
  rcases open_strings ht he hc hf with ⟨hcs, hx⟩ | ⟨a, len', cap', ss, hcs, _, hl, hm, hz, hx, hcell, hws⟩
  · simp [Value.cells] at hcs
    obtain ⟨rfl, rfl, rfl⟩ := hcs
    exact ⟨[], Reads.nil _, by simp, by simp⟩
  · simp [Value.cells] at hcs
    obtain ⟨rfl, rfl, rfl⟩ := hcs
    simp at hz
    simp only [Prod.mk.injEq] at hx
    have hd2 := hx.1
    subst hd2
    have s1 := sized_slice hsz hj hd ht
    rw [hby] at s1
    simp only [strs, List.length_map, List.length_take, List.length_drop] at s1
    have hlen : (ss.take len).length = len := by simp; omega
    refine ⟨(ss.take len).map fun s => s.data.toList, ?_, ?_, ?_⟩
    · refine ⟨some a, cap, by rw [List.length_map, hlen], by simp, fun i u hu => ?_⟩
      have hi : i < len := by
        rcases Nat.lt_or_ge i len with h | h
        · exact h
        · rw [List.getElem?_eq_none (by simp [tcells]; omega)] at hu; simp at hu
      have hcl := hcell i (by omega)
      have e1 := add_cell hcl
      have e2 : a = ⟨a.block, a.off, none⟩ := by
        have h0 := add_cell (hcell 0 (by omega))
        simpa [Addr.add] using h0
      rw [e1] at hcl
      refine ⟨a.block, a.off, by rw [← e2], ?_⟩
      rw [hcl, ← hu]
      have hss : i < ss.length := by omega
      simp [tcells, List.getElem?_take, hi, hss, bs_of, List.getD]
    · simp; omega
    · intro l hl
      obtain ⟨s, hs, rfl⟩ := List.mem_map.1 hl
      have hin : s.data.toList.length ∈ DataW.weightsEach P ts ds := by
        refine DataW.weights_mem_each hj hd _ ?_
        simp only [DataW.weights, ht]
        exact List.mem_cons.2 (.inr (List.mem_append.2 (.inl (weights_strs e _ s hs))))
      have := List.all_eq_true.1 hsz _ hin
      simp at this
      simp
      omega
end
end Go.Proofs.Ytahmacnmphjhgaa
namespace Go.Proofs.Ytahmacnmphjhgaa
open Go.ChangeShapes Go.WideShapes Go.ChangeAt Go.RowKit Oct
open Go.ChangeMaps (open_string shut_string)

section
variable {P : Program} {H : Type} {enc : TypeId × Value → H} {W : World} {α β γ : Type}

/-- whatever the cells of a type read as, they hold an x; its measure is at most the datum's bulk -/
def Opens (enc : TypeId × Value → H) (P : Program) (W : World) (t : TypeId) (mu : α → Nat) (He : List Value → α → Prop) : Prop :=
  ∀ n cs d ps, DataW.trod enc P W 0 (fun _ => true) true n t cs = some (d, ps) → (∀ x ∈ d.weights P t, x ≤ reachBytes) → ∃ x, He cs x ∧ mu x ≤ Rows.uptoBulk d
theorem bulk_range (D : Nat → DataW H) (f : Nat → α) (mu : α → Nat) : ∀ n, (∀ i, i < n → mu (f i) ≤ Rows.uptoBulk (D i)) → (((List.range n).map f).map mu).sum ≤ Rows.uptoBulkAll ((List.range n).map D)
  | 0, _ => by simp
  | n + 1, h => by
    have ih := bulk_range D f mu n (fun i hi => h i (by omega))
    have app : ∀ (l r : List (DataW H)), Rows.uptoBulkAll (l ++ r) = Rows.uptoBulkAll l + Rows.uptoBulkAll r := by
      intro l r
      induction l with
      | nil => simp [Rows.uptoBulkAll]
      | cons x l ih => simp only [List.cons_append, Rows.uptoBulkAll, ih]; omega
    have := h n (by omega)
    simp only [List.range_succ, List.map_append, List.sum_append, app, List.map_cons, List.map_nil, List.sum_cons, List.sum_nil, Rows.uptoBulkAll]
    omega

theorem Opens.imp {t : TypeId} {mu : α → Nat} {He He' : List Value → α → Prop} (h : Opens enc P W t mu He) (hi : ∀ cs x, He cs x → He' cs x) : Opens enc P W t mu He' := by
  intro n cs d ps hd hw
  obtain ⟨x, hx, hb⟩ := h n cs d ps hd hw
  exact ⟨x, hi _ _ hx, hb⟩
/-- v is a row of elements of 'size' cells -/
def SliceOf (W : World) (size : Nat) (He : List Value → α → Prop) (v : Value) (xs : List α) : Prop :=
  ∃ a cap, v = .slice a xs.length cap ∧ xs.length ≤ cap ∧ (a = none → xs.length = 0 ∧ cap = 0) ∧
    ∀ k (h : k < xs.length), ∃ b off cs, a = some ⟨b, off, none⟩ ∧ cs.length = size ∧ (∀ j u, cs[j]? = some u → W.cell? ⟨b, off + k * size + j, none⟩ = some u) ∧ He cs xs[k]

theorem weights_all_mem (e : TypeId) : ∀ (ds : List (DataW H)) (d : DataW H), d ∈ ds → ∀ x ∈ d.weights P e, x ∈ DataW.weightsAll P e ds
  | [], _, h => by simp at h
  | d0 :: ds, d, h => by
    intro x hx
    rw [DataW.weightsAll]
    rcases List.mem_cons.1 h with rfl | h
    · exact List.mem_append.2 (.inl hx)
    · exact List.mem_append.2 (.inr (weights_all_mem e ds d h x hx))

theorem opens_str {t : TypeId} (ht : P.underlying t = some .string) : Opens enc P W t (fun l : List UInt8 => l.length + 1) fun cs (l : List UInt8) => cs = [.string (bs l)] ∧ l.length ≤ 140737488355328 := by
  intro n cs d ps h hw
  obtain ⟨s, rfl, hx, _⟩ := DataW.trod_string ht h
  simp only [Prod.mk.injEq] at hx
  obtain ⟨rfl, rfl⟩ := hx
  have := hw s.data.toList.length (by simp [DataW.weights])
  have h2 := reachBytes_lt
  exact ⟨s.data.toList, ⟨by rw [bs_of], by omega⟩, by simp [Rows.uptoBulk]⟩
theorem opens_int {t : TypeId} {k : IntKind} (ht : P.underlying t = some (.int k)) : Opens enc P W t (fun _ => 1) fun cs (a : Int) => cs = [.int k a] ∧ (Lit.int k a).wf = true := by
  intro n cs d ps h hw
  obtain ⟨a, rfl, hx, hwf⟩ := DataW.trod_int ht h
  simp only [Prod.mk.injEq] at hx
  obtain ⟨rfl, rfl⟩ := hx
  exact ⟨a, ⟨rfl, hwf⟩, by simp [Rows.uptoBulk]⟩
theorem opens_struct2 {t : TypeId} {f0 f1 : Field} {c0 c1 : Nat} {m0 : α → Nat} {m1 : β → Nat} {H0 : List Value → α → Prop} {H1 : List Value → β → Prop} (ht : P.underlying t = some (.struct #[f0, f1])) (hc : P.cellsOf t = c0 + c1)
    (hc0 : P.cellsOf f0.type = c0) (hc1 : P.cellsOf f1.type = c1) (o0 : f0.offset = 0) (o1 : f1.offset = c0)
    (h0 : Opens enc P W f0.type m0 H0) (h1 : Opens enc P W f1.type m1 H1) : Opens enc P W t (fun p => m0 p.1 + m1 p.2 + 1) fun cs (p : α × β) => ∃ cs0 cs1, cs = cs0 ++ cs1 ∧ cs0.length = c0 ∧ cs1.length = c1 ∧ H0 cs0 p.1 ∧ H1 cs1 p.2 := by
  intro n cs d ps h hw
  obtain ⟨y0, y1, m, hx, hl, e0, e1⟩ := trod_struct2 ht h
  simp only [Prod.mk.injEq] at hx
  obtain ⟨rfl, rfl⟩ := hx
  have hw' : ∀ x, x ∈ y0.1.weights P f0.type ∨ x ∈ y1.1.weights P f1.type → x ≤ reachBytes := by
    intro x hx
    refine hw x ?_
    simp only [DataW.weights, ht, DataW.weightsEach, List.map_cons, List.mem_append]
    rcases hx with hx | hx
    · exact .inl hx
    · exact .inr (.inl hx)
  obtain ⟨x0, k0, b0⟩ := h0 _ _ _ _ e0 (fun x hx => hw' x (.inl hx))
  obtain ⟨x1, k1, b1⟩ := h1 _ _ _ _ e1 (fun x hx => hw' x (.inr hx))
  rw [o0, hc0, List.drop_zero] at k0
  rw [o1, hc1] at k1
  refine ⟨(x0, x1), ⟨cs.take c0, (cs.drop c0).take c1, ?_, ?_, ?_, k0, k1⟩, by simp only [Rows.uptoBulk, Rows.uptoBulkAll]; omega⟩
  · have : (cs.drop c0).take c1 = cs.drop c0 := List.take_of_length_le (by simp; omega)
    rw [this, List.take_append_drop]
  · simp; omega
  · simp; omega
theorem opens_slice {t e : TypeId} {size : Nat} {mu : α → Nat} {He : List Value → α → Prop} (ht : P.underlying t = some (.slice e)) (hc : P.cellsOf e = size) (hpos : 0 < size) (he : Opens enc P W e mu He) :
    Opens enc P W t (fun xs => (xs.map mu).sum + 1) fun cs (xs : List α) => ∃ v, cs = [v] ∧ SliceOf W size He v xs ∧ xs.length * P.bytesOf e ≤ reachBytes := by
  intro n cs d ps h hw
  rcases Deep.open_slice ht h with ⟨rfl, hx⟩ | ⟨a, len, cap, m, n', D, Pl, rfl, _, hl, hm, hmm, hx, hcell⟩
  · simp only [Prod.mk.injEq] at hx
    obtain ⟨rfl, _⟩ := hx
    exact ⟨[], ⟨_, rfl, ⟨none, 0, rfl, Nat.le_refl _, fun _ => ⟨rfl, rfl⟩, fun k hk => by simp at hk⟩, by simp⟩, by simp [Rows.uptoBulk]⟩
  · simp only [Prod.mk.injEq] at hx
    obtain ⟨rfl, _⟩ := hx
    simp only [if_true] at hmm
    subst hmm
    have hin : ∀ i, i < len → ∀ x ∈ (D i).weights P e, x ≤ reachBytes := by
      intro i hi x hx
      refine hw x ?_
      simp only [DataW.weights, ht]
      exact List.mem_cons.2 (.inr (List.mem_append.2 (.inl (weights_all_mem e _ (D i) (List.mem_map.2 ⟨i, by simpa using hi, rfl⟩) x hx))))
    have each : ∀ i, i < len → ∃ x : α, (∃ cs', W.cells? 0 (a.add (i * size)) size = some cs' ∧ He cs' x) ∧ mu x ≤ Rows.uptoBulk (D i) := by
      intro i hi
      obtain ⟨cs', h1, h2⟩ := hcell i (by omega)
      rw [hc] at h1
      obtain ⟨x, hx, hb⟩ := he _ _ _ _ h2 (hin i hi)
      exact ⟨x, ⟨cs', h1, hx⟩, hb⟩
    have hlen := hw ((len + (m - len)) * P.bytesOf e) (by simp [DataW.weights, ht])
    have hlb : len * P.bytesOf e ≤ (len + (m - len)) * P.bytesOf e := Nat.mul_le_mul_right _ (by omega)
    by_cases h0 : len = 0
    · subst h0
      exact ⟨[], ⟨_, rfl, ⟨some a, m, rfl, Nat.zero_le _, by simp, fun k hk => by simp at hk⟩, by simp⟩, by simp [Rows.uptoBulk]⟩
    obtain ⟨x0, _⟩ := each 0 (by omega)
    haveI : Inhabited α := ⟨x0⟩
    obtain ⟨f, hf⟩ := Deep.choose_lt each
    have haddr : a = ⟨a.block, a.off, none⟩ := by
      obtain ⟨⟨cs', h1, _⟩, _⟩ := hf 0 (by omega)
      obtain ⟨_, hl', hcs⟩ := World.cells?_some h1
      have h2 := hcs 0 (by omega)
      rw [Nat.zero_mul] at h2
      have h3 : ∃ u, cs'[0]? = some u := ⟨cs'[0]'(by omega), List.getElem?_eq_getElem _⟩
      obtain ⟨u, hu⟩ := h3
      rw [hu] at h2
      have := add_cell (a := a.add 0) (i := 0) h2
      simpa [Addr.add] using this
    have hbulk := bulk_range D f mu len (fun i hi => (hf i hi).2)
    refine ⟨(List.range len).map f, ⟨_, rfl, ⟨some a, m, by simp, by simpa using hl, by simp, ?_⟩, ?_⟩, by simp only [Rows.uptoBulk]; omega⟩
    · intro k hk
      have hk' : k < len := by simpa using hk
      obtain ⟨⟨cs', h1, hHe⟩, _⟩ := hf k hk'
      obtain ⟨_, hl', hcs⟩ := World.cells?_some h1
      refine ⟨a.block, a.off, cs', by rw [← haddr], hl', ?_, by simpa using hHe⟩
      intro j u hj
      have hjl : j < size := by
        rcases Nat.lt_or_ge j size with h | h
        · exact h
        · rw [List.getElem?_eq_none (by omega)] at hj; cases hj
      have h2 := hcs j hjl
      rw [haddr, hj, Addr.add_lit, Addr.add_lit] at h2
      rw [← h2]
    · simp only [List.length_map, List.length_range]; omega

theorem open_any {t j : Nat} {v : Value} {d : DataW H} {ps : List MemPlace} {ts : List TypeId} {ds : List (DataW H)} {mu : α → Nat} {He : List Value → α → Prop} (ho : Opens enc P W t mu He)
    (h : DataW.Trod enc P W 0 (fun _ => true) true t v d ps) (hsz : (DataW.weightsEach P ts ds).all (· ≤ reachBytes) = true) (hj : ts[j]? = some t) (hd : ds[j]? = some d) : ∃ x, He v.cells.toList x ∧ mu x ≤ Rows.uptoBulk d := by
  obtain ⟨fuel, hf⟩ := h
  refine ho _ _ _ _ hf fun x hx => ?_
  simpa using List.all_eq_true.1 hsz x (DataW.weights_mem_each hj hd x hx)
theorem cells_slice {base : Nat} {t e : TypeId} {v v' : Value} (ht : P.underlying t = some (.slice e)) (hv : Value.okWide P W .any base t v) (h : v.cells.toList = [v']) : v = v' := by
  obtain ⟨a0, len, cap, rfl⟩ := okWide_slice ht hv
  simpa [Value.cells] using h
end
end Go.Proofs.Ytahmacnmphjhgaa
namespace Go.Proofs.Ytahmacnmphjhgaa
open Go.ChangeShapes Go.WideShapes Go.ChangeAt Go.RowKit Oct

section
variable {H : Type} {enc : TypeId × Value → H} {W : World}
/-- a pair's cells, opened -/
def PairAt (cs : List Value) (p : PR) : Prop := cs = [.string (bs p.1), .string (bs p.2)] ∧ p.1.length ≤ 140737488355328 ∧ p.2.length ≤ 140737488355328
theorem opens_pair : Opens enc Try.prog W 71 (fun p => p.1.length + 1 + (p.2.length + 1) + 1) PairAt := by
  refine Opens.imp (opens_struct2 (c0 := 1) (c1 := 1) Try.underlying71 (by kernel_rfl) (by kernel_rfl) (by kernel_rfl) rfl rfl (opens_str Try.underlying9) (opens_str Try.underlying9)) ?_
  rintro cs p ⟨cs0, cs1, rfl, _, _, ⟨rfl, h0⟩, rfl, h1⟩
  exact ⟨rfl, h0, h1⟩
theorem rp_of {v : Value} {xs : List PR} (h : SliceOf W 2 PairAt v xs) : RP W v xs ∧ ∀ p ∈ xs, p.1.length ≤ 140737488355328 ∧ p.2.length ≤ 140737488355328 := by
  obtain ⟨a, cap, rfl, hle, hn, hc⟩ := h
  refine ⟨⟨⟨a, cap, rfl, hn, ?_⟩, a, cap, rfl, hle⟩, ?_⟩
  · intro j u hj
    have hjl : j < xs.length * 2 := by
      rcases Nat.lt_or_ge j (xs.length * 2) with h | h
      · exact h
      · rw [List.getElem?_eq_none (by rw [pcells_length]; exact h)] at hj; cases hj
    have hk : j / 2 < xs.length := by omega
    obtain ⟨b, off, cs, ha, _, hcell, hcs, _⟩ := hc (j / 2) hk
    subst hcs
    refine ⟨b, off, ha, ?_⟩
    rcases Nat.mod_two_eq_zero_or_one j with hm | hm
    · have e : j = j / 2 * 2 := by omega
      rw [e, pcells_key xs _ hk] at hj
      have := hcell 0 _ rfl
      rw [e, ← hj]
      exact this
    · have e : j = j / 2 * 2 + 1 := by omega
      rw [e, pcells_val xs _ hk] at hj
      have := hcell 1 _ rfl
      rw [e, ← hj, ← Nat.add_assoc]
      exact this
  · intro p hp
    obtain ⟨k, hk, rfl⟩ := List.getElem_of_mem hp
    obtain ⟨_, _, _, _, _, _, _, h⟩ := hc k hk
    exact h
/-- a row of pairs -/
def RowAt (W : World) (cs : List Value) (l : List PR) : Prop := ∃ v, cs = [v] ∧ RP W v l ∧ l.length ≤ 4398046511104 ∧ ∀ p ∈ l, p.1.length ≤ 140737488355328 ∧ p.2.length ≤ 140737488355328
/-- how many values and letters a row has -/
def bulkP (l : List PR) : Nat := (l.map fun p : PR => p.1.length + 1 + (p.2.length + 1) + 1).sum + 1
theorem opens_pairs : Opens enc Try.prog W 22 bulkP (RowAt W) := by
  refine Opens.imp (opens_slice (size := 2) Try.underlying22 (by kernel_rfl) (by decide) opens_pair) ?_
  rintro cs l ⟨v, rfl, hs, hb⟩
  have hby : Try.prog.bytesOf 71 = 32 := by kernel_rfl
  rw [hby] at hb
  have h2 := reachBytes_lt
  obtain ⟨h1, h3⟩ := rp_of hs
  exact ⟨v, rfl, h1, by omega, h3⟩
set_option maxRecDepth 100000 in
theorem open_pairs {base j : Nat} {v : Value} {d : DataW H} {ps : List MemPlace} {ts : List TypeId} {ds : List (DataW H)}
    (hv : Value.okWide Try.prog W .any base 22 v) (h : DataW.Trod enc Try.prog W 0 (fun _ => true) true 22 v d ps) (hsz : (DataW.weightsEach Try.prog ts ds).all (· ≤ reachBytes) = true) (hj : ts[j]? = some 22) (hd : ds[j]? = some d) :
    ∃ l : List PR, RP W v l ∧ l.length ≤ 4398046511104 ∧ ∀ p ∈ l, p.1.length ≤ 140737488355328 ∧ p.2.length ≤ 140737488355328 := by
  obtain ⟨l, ⟨v', hcs, h1, h2, h3⟩, _⟩ := open_any opens_pairs h hsz hj hd
  obtain rfl := cells_slice Try.underlying22 hv hcs
  exact ⟨l, h1, h2, h3⟩
end
end Go.Proofs.Ytahmacnmphjhgaa
namespace Go.Proofs.Ytahmacnmphjhgaa
open Go.ChangeShapes Go.WideShapes Go.ChangeAt Go.RowKit Oct

section
variable {H : Type} {enc : TypeId × Value → H} {W : World}
/-- a turn's cells, opened -/
def TurnAt (cs : List Value) (t : TR) : Prop := cs = recT.cell t ∧ t.key.length ≤ 140737488355328 ∧ t.was.length ≤ 140737488355328 ∧ t.now.length ≤ 140737488355328
theorem take1 {cs : List Value} {n : Nat} {v : Value} (h : (cs.drop n).take 1 = [v]) : cs[n]? = some v := by
  have h1 : ((cs.drop n).take 1)[0]? = some v := by rw [h]; rfl
  rw [List.getElem?_take, if_pos (by omega), List.getElem?_drop] at h1
  simpa using h1
theorem opens_bool {P : Program} {t : TypeId} (ht : P.underlying t = some .bool) : Opens enc P W t (fun _ : Bool => 0) fun cs (b : Bool) => cs = [.bool b] := by
  intro n cs d ps h hw
  obtain ⟨b, rfl, hx⟩ := DataW.trod_bool ht h
  exact ⟨b, rfl, Nat.zero_le _⟩
set_option maxRecDepth 100000 in
theorem opens_turn : Opens enc Try.prog W 73 (fun _ => 0) TurnAt := by
  intro n cs d ps h hw
  obtain ⟨xs, m, _, hx, hl, hlen, hf⟩ := DataW.trod_struct Try.underlying73 h
  match xs, hlen with
  | [y0, y1, y2, y3, y4], _ =>
    simp only [Prod.mk.injEq] at hx
    obtain ⟨rfl, rfl⟩ := hx
    have c1 : Try.prog.cellsOf 9 = 1 := by kernel_rfl
    have c2 : Try.prog.cellsOf 4 = 1 := by kernel_rfl
    have c5 : Try.prog.cellsOf 73 = 5 := by kernel_rfl
    have e0 : DataW.trod enc Try.prog W 0 (fun _ => true) true m 9 ((cs.drop 0).take (Try.prog.cellsOf 9)) = some y0 := by simpa using hf 0 _ rfl
    have e1 : DataW.trod enc Try.prog W 0 (fun _ => true) true m 9 ((cs.drop 1).take (Try.prog.cellsOf 9)) = some y1 := by simpa using hf 1 _ rfl
    have e2 : DataW.trod enc Try.prog W 0 (fun _ => true) true m 9 ((cs.drop 2).take (Try.prog.cellsOf 9)) = some y2 := by simpa using hf 2 _ rfl
    have e3 : DataW.trod enc Try.prog W 0 (fun _ => true) true m 4 ((cs.drop 3).take (Try.prog.cellsOf 4)) = some y3 := by simpa using hf 3 _ rfl
    have e4 : DataW.trod enc Try.prog W 0 (fun _ => true) true m 4 ((cs.drop 4).take (Try.prog.cellsOf 4)) = some y4 := by simpa using hf 4 _ rfl
    rw [c1] at e0 e1 e2
    rw [c2] at e3 e4
    have hw' : ∀ (i : Nat) (y : DataW H × List MemPlace) (t : TypeId), [y0, y1, y2, y3, y4][i]? = some y → [9, 9, 9, 4, 4][i]? = some t → ∀ x ∈ y.1.weights Try.prog t, x ≤ reachBytes := by
      intro i y t hy ht x hx
      refine hw x ?_
      simp only [DataW.weights, Try.underlying73, DataW.weightsEach, List.map_cons, List.mem_append]
      match i with
      | 0 => simp at hy ht; subst hy ht; exact .inl hx
      | 1 => simp at hy ht; subst hy ht; exact .inr (.inl hx)
      | 2 => simp at hy ht; subst hy ht; exact .inr (.inr (.inl hx))
      | 3 => simp at hy ht; subst hy ht; exact .inr (.inr (.inr (.inl hx)))
      | 4 => simp at hy ht; subst hy ht; exact .inr (.inr (.inr (.inr (.inl hx))))
      | i + 5 => simp at hy
    obtain ⟨s0, ⟨k0, b0⟩, _⟩ := opens_str Try.underlying9 _ _ _ _ e0 (hw' 0 y0 _ rfl rfl)
    obtain ⟨s1, ⟨k1, b1⟩, _⟩ := opens_str Try.underlying9 _ _ _ _ e1 (hw' 1 y1 _ rfl rfl)
    obtain ⟨s2, ⟨k2, b2⟩, _⟩ := opens_str Try.underlying9 _ _ _ _ e2 (hw' 2 y2 _ rfl rfl)
    obtain ⟨s3, k3, _⟩ := opens_bool (enc := enc) (W := W) Try.underlying4 _ _ _ _ e3 (hw' 3 y3 _ rfl rfl)
    obtain ⟨s4, k4, _⟩ := opens_bool (enc := enc) (W := W) Try.underlying4 _ _ _ _ e4 (hw' 4 y4 _ rfl rfl)
    refine ⟨⟨s0, s1, s2, s3, s4⟩, ⟨?_, b0, b1, b2⟩, Nat.zero_le _⟩
    have h5 : cs.length = 5 := by rw [hl, c5]
    have g0 := take1 k0
    have g1 := take1 k1
    have g2 := take1 k2
    have g3 := take1 k3
    have g4 := take1 k4
    match cs, h5 with
    | [x0, x1, x2, x3, x4], _ =>
      simp at g0 g1 g2 g3 g4
      subst g0 g1 g2 g3 g4
      rfl
theorem tp_of {v : Value} {xs : List TR} (h : SliceOf W 5 TurnAt v xs) : recT.Row W v xs ∧ ∀ p ∈ xs, p.key.length ≤ 140737488355328 ∧ p.was.length ≤ 140737488355328 ∧ p.now.length ≤ 140737488355328 := by
  obtain ⟨a, cap, rfl, hle, hn, hc⟩ := h
  refine ⟨⟨⟨a, cap, rfl, hn, ?_⟩, a, cap, rfl, hle⟩, ?_⟩
  · intro j u hj
    have hjl : j < xs.length * 5 := by
      rcases Nat.lt_or_ge j (xs.length * 5) with h | h
      · exact h
      · rw [List.getElem?_eq_none (by rw [Rec.cells_length]; exact h)] at hj; cases hj
    have hk : j / 5 < xs.length := by omega
    obtain ⟨b, off, cs, ha, hl, hcell, hcs, _⟩ := hc (j / 5) hk
    subst hcs
    refine ⟨b, off, ha, ?_⟩
    have hm : j % 5 < 5 := Nat.mod_lt _ (by decide)
    have hu : (recT.cell xs[j / 5])[j % 5]? = some ((recT.cell xs[j / 5])[j % 5]'(by rw [recT.len]; exact hm)) := List.getElem?_eq_getElem _
    have h1 := recT.cells_at xs (j / 5) hk (j % 5) _ hu
    have e : j / 5 * recT.n + j % 5 = j := by show j / 5 * 5 + j % 5 = j; omega
    rw [e, hj] at h1
    have h2 := hcell (j % 5) _ hu
    rw [← Option.some.inj h1] at h2
    rw [← h2]
    congr 2
    show off + j = off + j / 5 * 5 + j % 5
    omega
  · intro p hp
    obtain ⟨k, hk, rfl⟩ := List.getElem_of_mem hp
    obtain ⟨_, _, _, _, _, _, _, h⟩ := hc k hk
    exact h
set_option maxRecDepth 100000 in
theorem open_turns {base j : Nat} {v : Value} {d : DataW H} {ps : List MemPlace} {ts : List TypeId} {ds : List (DataW H)}
    (hv : Value.okWide Try.prog W .any base 23 v) (h : DataW.Trod enc Try.prog W 0 (fun _ => true) true 23 v d ps) (hsz : (DataW.weightsEach Try.prog ts ds).all (· ≤ reachBytes) = true) (hj : ts[j]? = some 23) (hd : ds[j]? = some d) :
    ∃ l : List TR, recT.Row W v l ∧ l.length ≤ 140737488355328 ∧ ∀ p ∈ l, p.key.length ≤ 140737488355328 ∧ p.was.length ≤ 140737488355328 ∧ p.now.length ≤ 140737488355328 := by
  have ho : Opens enc Try.prog W 23 _ _ := opens_slice (size := 5) Try.underlying23 (by kernel_rfl) (by decide) opens_turn
  obtain ⟨l, ⟨v', hcs, h1, h2⟩, _⟩ := open_any ho h hsz hj hd
  obtain rfl := cells_slice Try.underlying23 hv hcs
  have hby : Try.prog.bytesOf 73 = 56 := by kernel_rfl
  rw [hby] at h2
  have h3 := reachBytes_lt
  obtain ⟨h4, h5⟩ := tp_of h1
  exact ⟨l, h4, by omega, h5⟩
end
end Go.Proofs.Ytahmacnmphjhgaa
