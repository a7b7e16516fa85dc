/- Lemmas for PartTellsUpto, part 8: walks of the functions that it reaches, and the plain laws behind them. -/
import Derived.ProofKit
import Derived.OpenShut
import Derived.ShutString
import Derived.ChangeOld
import Derived.SizedLaws
import Derived.SliceStrings
import Derived.Test.YtdebgkjekcppmaaRows
import Derived.Deep.Slices
import Derived.ChangeSame
import Derived.Test.YtdebgkjekcppmaaPartTellsUptoK7
set_option linter.unusedSimpArgs false
set_option linter.unusedVariables false
namespace Go.Proofs.Ytdebgkjekcppmaa
open Go.RowKit Oct

set_option maxRecDepth 100000 in
set_option maxHeartbeats 4000000 in
theorem rJoin_any (v : Value) (rows : List (List PR)) (w : World) (hr : RR w v rows) (hn : rows.length ≤ 1000000) (hl : rows.flatten.length ≤ 1000000) (hm : ∀ l ∈ rows, ∀ p ∈ l, p.1.length ≤ 1099511627776) :
    Calls Try.prog 47 #[v] w fun e w' => JoinRes rows w.heap.size e w' ∧ Below w.heap.size w w' := by
  have HRR := Lib.hid hr
  obtain ⟨a, cap, rfl, _, _, hc⟩ := hr
  have HCL := Lib.hid hc
  have HM := Lib.hid hm
  clear hc hm
  cases hmb : mayB (rows.length : Int) with
  | false =>
    have HR := Lib.hid (show ∀ e w', e = .returned (.tuple #[.slice none 0 0, .int .i64 2]) → JoinRes rows w.heap.size e w' from fun e w' h => by unfold JoinRes; rw [hmb]; exact h)
    have HMB := Lib.hid hmb
    clear hmb
    go_enter Try.func47, Try.ntmps47
    go_wp2_with fail
    refine (may_any rows.length w).mono ?_
    rw [HMB.out]
    rintro e w2 ⟨rfl, hB2⟩
    have HB2 := Lib.hid hB2
    clear hB2
    go_wp2
    go_ret2
    exact ⟨HR.out _ _ rfl, HB2.out⟩
  | true =>
    have HRT := Lib.hid (show okJ rows = true → ∀ e w', (∃ v, e = .returned (.tuple #[v, .int .i64 0]) ∧ OP w' w.heap.size v (srt rows.flatten)) → JoinRes rows w.heap.size e w' from fun hk e w' h => by unfold JoinRes; rw [hmb, hk]; exact h)
    have HRF := Lib.hid (show okJ rows = false → ∀ e w', e = .returned (.tuple #[.slice none 0 0, .int .i64 2]) → JoinRes rows w.heap.size e w' from fun hk e w' h => by unfold JoinRes; rw [hmb, hk]; exact h)
    have hmm : 1 ≤ rows.length ∧ rows.length ≤ 16 := by simp [mayB] at hmb; omega
    obtain ⟨h1, h2⟩ := hmm
    have HMB := Lib.hid hmb
    clear hmb
    go_enter Try.func47, Try.ntmps47
    go_wp2_with fail
    refine (may_any rows.length w).mono ?_
    rw [HMB.out]
    rintro e w3 ⟨rfl, hB3⟩
    have HB3 := Lib.hid hB3
    clear hB3
    go_wp2
    go_loopw [4] (fun t wx => ∃ i : Nat, i ≤ rows.length ∧ t = .int .i64 (i : Int) ∧ Hid (∀ j (h : j < rows.length), j < i → ∀ p ∈ rows[j], partF p.1 rows.length = j) ∧ Hid (Below w3.heap.size w3 wx)) (fun t _ => rows.length - (intOf t).toNat)
    case atStart => exact ⟨0, by omega, rfl, fun j _ h => by omega, b_refl _⟩
    case round =>
      obtain ⟨i, hi, rfl, HOK, HB4⟩ := hrel
      by_cases hil : i < rows.length
      · have i0 : (0 : Int) ≤ (i : Int) := by omega
        have i1 : (i : Int) < (rows.length : Int) := by omega
        obtain ⟨br, or_, u, rfl, du, hru⟩ := HCL.out i hil
        have HBw := Lib.hid (bt HB3.out HB4.out)
        have HRU := Lib.hid (hru.below HBw.out)
        obtain ⟨au, cu, rfl, _, hcell⟩ := HRU.out.open
        have HCELL := Lib.hid hcell
        have du' := Below.keeps HBw.out du
        have HFL := Lib.hid (show rows[i].length ≤ 1000000 by
          have h := flat_take rows i hil
          have h' := flat_le rows (i + 1)
          rw [h, List.length_append] at h'
          omega)
        have HMI := Lib.hid (HM.out _ (List.getElem_mem hil))
        obtain ⟨l, hlr⟩ : ∃ l, l = rows[i] := ⟨_, rfl⟩
        rw [← hlr] at du' HCELL HFL HMI
        have HDU := Lib.hid du'
        have HLR := Lib.hid hlr
        have hFL := HFL.out
        clear hcell du hru hlr HRU
        obtain ⟨Wr, hWr⟩ : ∃ Wr, Wr = wr := ⟨_, rfl⟩
        subst hWr
        go_wp2
        go_loopw [5] (fun t wx => ∃ k : Nat, k ≤ l.length ∧ t = .int .i64 (k : Int) ∧ Hid (∀ j (h : j < l.length), j < k → partF l[j].1 rows.length = i) ∧ Hid (Below Wr.heap.size Wr wx)) (fun t _ => l.length - (intOf t).toNat)
        case atStart => exact ⟨0, by omega, rfl, fun j _ h => by omega, b_refl _⟩
        case round =>
          obtain ⟨k, hk, rfl, HOL, HB5⟩ := hrel
          have du5 := Below.keeps HB5.out HDU.out
          by_cases hkl : k < l.length
          · have k0 : (0 : Int) ≤ (k : Int) := by omega
            have k1 : (k : Int) < (l.length : Int) := by omega
            obtain ⟨bl, ol, rfl, d1, d2⟩ := HCELL.out k hkl
            replace d1 := Below.keeps HB5.out d1
            obtain ⟨p, hp⟩ : ∃ p, p = l[k] := ⟨_, rfl⟩
            rw [← hp] at d1
            have HP := Lib.hid hp
            have HPM := Lib.hid (show p.1.length ≤ 1099511627776 by rw [hp]; exact HMI.out _ (List.getElem_mem hkl))
            clear hp d2
            go_wp2_with fail
            refine (rOfP_any p.1 rows.length _ h1 h2 HPM.out).mono ?_
            rintro e w6 ⟨rfl, hB6⟩
            have HB6 := Lib.hid (bt HB5.out hB6)
            clear hB6 d1
            by_cases hat : partF p.1 rows.length = i
            · have HAT := Lib.hid hat
              rw [hat]
              clear hat
              go_wp2
              refine ⟨?_, by simp [intOf]; omega⟩
              have hok : ∀ j (h : j < l.length), j < k + 1 → partF l[j].1 rows.length = i := fun j h hj => by
                rcases Nat.lt_or_ge j k with h' | h'
                · exact HOL.out j h h'
                · obtain rfl : j = k := by omega
                  rw [← HP.out]; exact HAT.out
              first
                | exact ⟨k + 1, by omega, by go_num, hok, HB6.out⟩
                | ((repeat apply Exists.intro); exact ⟨⟨k + 1, by omega, by go_num, hok, HB6.out⟩, rfl⟩)
            · have HAT := Lib.hid (show okJ rows = false by
                rw [Bool.eq_false_iff]
                intro hok
                rw [okJ_iff] at hok
                refine hat (hok i hil p ?_)
                rw [← HLR.out, HP.out]
                exact List.getElem_mem hkl)
              have hne : ((partF p.1 rows.length : Nat) : Int) ≠ (i : Int) := by omega
              have hne2 : (((partF p.1 rows.length : Nat) : Int) != (i : Int)) = true := by rw [bne_iff_ne]; exact hne
              generalize partF p.1 rows.length = x at *
              clear hat
              go_wp2
              go_ret2
              exact ⟨HRF.out HAT.out _ _ rfl, bt HBw.out HB6.out⟩
          · obtain rfl : k = l.length := by omega
            have hok : ∀ j (h : j < rows.length), j < i + 1 → ∀ p ∈ rows[j], partF p.1 rows.length = j := fun j h hj p hp => by
              rcases Nat.lt_or_ge j i with h' | h'
              · exact HOK.out j h h' p hp
              · obtain rfl : j = i := by omega
                rw [← HLR.out] at hp
                obtain ⟨q, hq, rfl⟩ := List.getElem_of_mem hp
                exact HOL.out q hq hq
            have HOK2 := Lib.hid hok
            have HB6 := Lib.hid (bt HB4.out HB5.out)
            clear hok
            go_wp2
            refine ⟨?_, by simp [intOf]; omega⟩
            first
              | exact ⟨i + 1, by omega, by go_num, HOK2.out, HB6.out⟩
              | ((repeat apply Exists.intro); exact ⟨⟨i + 1, by omega, by go_num, HOK2.out, HB6.out⟩, rfl⟩)
      · obtain rfl : i = rows.length := by omega
        have HOKJ := Lib.hid (show okJ rows = true by rw [okJ_iff]; exact fun j h p hp => HOK.out j h h p hp)
        have HBw := Lib.hid (bt HB3.out HB4.out)
        go_wp2_with fail
        refine (rMergeP_any _ rows wr (HRR.out.below HBw.out) hn hl).mono ?_
        rintro e w6 ⟨v6, rfl, hown6, hB6⟩
        obtain ⟨a6, c6, rfl⟩ := owns_slice hown6
        have HO6 := Lib.hid (OP.mono hown6 HBw.out.size)
        have HB6 := Lib.hid (bt HBw.out hB6)
        clear hown6 hB6
        go_wp2
        go_ret2
        exact ⟨HRT.out HOKJ.out _ _ ⟨_, rfl, HO6.out⟩, HB6.out⟩
end Go.Proofs.Ytdebgkjekcppmaa
namespace Go.Proofs.Ytdebgkjekcppmaa
open Go.RowKit Oct

set_option maxRecDepth 100000 in
set_option maxHeartbeats 1000000 in
theorem flat17_any (v : Value) (rows : List (List PR)) (w : World) (hr : RR w v rows) (hn : rows.length ≤ 100) (hl : rows.flatten.length ≤ 1000000000) :
    Calls Try.prog 41 #[v] w fun e w' => ∃ v', e = .returned v' ∧ OP w' w.heap.size v' rows.flatten ∧ Below w.heap.size w w' := by
  obtain ⟨a, cap, rfl, _, _, hc⟩ := hr
  have HC := Lib.hid hc
  clear hc
  go_enter Try.func41, Try.ntmps41
  go_wp2
  go_loopw [3, 4] (fun o t wx => ∃ k : Nat, k ≤ rows.length ∧ t = .int .i64 (k : Int) ∧ Hid (OP wx w.heap.size o (rows.take k).flatten) ∧ Hid (Below w.heap.size w wx)) (fun _ t _ => rows.length - (intOf t).toNat)
  case atStart => exact ⟨0, by omega, rfl, OP.nil _ _, b_refl _⟩
  case round =>
    obtain ⟨k, hk, rfl, HO, HB⟩ := hrel
    obtain ⟨ao, co, rfl⟩ := owns_slice HO.out
    by_cases hkl : k < rows.length
    · have k0 : (0 : Int) ≤ (k : Int) := by omega
      have k1 : (k : Int) < (rows.length : Int) := by omega
      have k2 : (k : Int) < 100 := by omega
      obtain ⟨b1, o1, u, rfl, du, hru⟩ := HC.out k hkl
      replace du := Below.keeps HB.out du
      have HRU := Lib.hid (hru.below HB.out)
      obtain ⟨au, cu, rfl, _, _⟩ := hru.open
      have HFT := Lib.hid (flat_take rows k hkl)
      have hfl := flat_le rows (k + 1)
      rw [HFT.out, List.length_append] at hfl
      have hsz := HB.out.size
      have HFL := Lib.hid hfl
      clear hru hfl
      go_wp2_with (at_builtin; go_must (refine appendP wr rfl _ _ 35 rfl Try.underlying35 w.heap.size _ (rows.take k).flatten rfl HO.out _ rows[k] rfl HRU.out (by have := HFL.out; omega) hsz ?_))
      intro v7 w7 hown7 hB7
      have HO7 := Lib.hid (show OP w7 w.heap.size v7 (rows.take (k + 1)).flatten by rw [HFT.out]; exact hown7)
      have HB7 := Lib.hid (HB.out.trans hB7)
      clear hown7 hB7 du
      go_wp2
      refine ⟨?_, by simp [intOf]; omega⟩
      first
        | exact ⟨k + 1, by omega, by go_num, HO7.out, HB7.out⟩
        | ((repeat apply Exists.intro); exact ⟨⟨k + 1, by omega, by go_num, HO7.out, HB7.out⟩, rfl⟩)
    · obtain rfl : k = rows.length := by omega
      have HF := List.take_length (l := rows)
      obtain ⟨L, hL⟩ : ∃ L, L = (List.take rows.length rows).flatten.length := ⟨_, rfl⟩
      have HO2 := Lib.hid (show OP wr w.heap.size (.slice ao L co) rows.flatten by rw [hL]; have := HO.out; rw [HF] at this ⊢; exact this)
      rw [← hL]
      clear hL HO HF
      go_wp2
      go_ret
      exact ⟨_, rfl, HO2.out, HB.out⟩

set_option maxRecDepth 100000 in
set_option maxHeartbeats 1000000 in
theorem rSameR_any (va vb : Value) (a b : List (List PR)) (w : World) (ha : RR w va a) (hb : RR w vb b) (hna : a.length ≤ 1000000) (hla : ∀ l ∈ a, l.length ≤ 1000000) (hlb : ∀ l ∈ b, l.length ≤ 1000000) :
    Calls Try.prog 51 #[va, vb] w fun e w' => e = .returned (.bool (decide (a = b))) ∧ Below w.heap.size w w' := by
  obtain ⟨aa, ca, rfl, _, _, hca⟩ := ha
  obtain ⟨ab, cb, rfl, _, _, hcb⟩ := hb
  have HCA := Lib.hid hca
  have HCB := Lib.hid hcb
  have HLA := Lib.hid hla
  have HLB := Lib.hid hlb
  clear hca hcb hla hlb
  by_cases hl : a.length = b.length
  · have hL := Lib.hid hl
    have t1 : ((a.length : Int) != (b.length : Int)) = false := by rw [bne_eq_false_iff_eq]; omega
    clear hl
    go_enter Try.func51, Try.ntmps51
    go_wp2
    go_loopw [5] (fun i wr => ∃ k : Nat, k ≤ a.length ∧ i = .int .i64 k ∧ Hid (∀ j (h : j < a.length) (h' : j < b.length), j < k → a[j] = b[j]) ∧ Hid (Below w.heap.size w wr)) (fun i _ => a.length - (intOf i).toNat)
    case atStart => exact ⟨0, by omega, rfl, (by intro j _ _ h; omega), b_refl _⟩
    case round =>
      obtain ⟨k, hk, rfl, HH, HB⟩ := hrel
      by_cases h0 : k < a.length
      · have h0b : k < b.length := by have := hL.out; omega
        obtain ⟨b1, o1, u1, rfl, du1, hr1⟩ := HCA.out k h0
        obtain ⟨b2, o2, u2, rfl, du2, hr2⟩ := HCB.out k h0b
        have hd1 := Below.keeps HB.out du1
        have hd2 := Below.keeps HB.out du2
        have k0 : (0 : Int) ≤ (k : Int) := by omega
        have kk1 : (k : Int) < (a.length : Int) := by omega
        have kk2 : (k : Int) < (b.length : Int) := by omega
        have HR1 := Lib.hid (hr1.below HB.out)
        have HR2 := Lib.hid (hr2.below HB.out)
        obtain ⟨a1, c1, rfl, _, _⟩ := hr1.open
        obtain ⟨a2, c2, rfl, _, _⟩ := hr2.open
        have HL1 := Lib.hid (HLA.out _ (List.getElem_mem h0))
        have HL2 := Lib.hid (HLB.out _ (List.getElem_mem h0b))
        obtain ⟨x, hx⟩ : ∃ x, x = a[k] := ⟨_, rfl⟩
        obtain ⟨y, hy⟩ : ∃ y, y = b[k] := ⟨_, rfl⟩
        rw [← hx] at hd1 HR1 HL1
        rw [← hy] at hd2 HR2 HL2
        have HX := Lib.hid hx
        have HY := Lib.hid hy
        clear hx hy du1 du2 hr1 hr2
        go_wp2
        refine region_known [(3, .exact Bel (.slice a1 x.length c1)), (7, .exact Bel (.slice a2 y.length c2)), (8, .exact Bel (.bool (decide (x = y))))] (by kernel_rfl) (by kernel_rfl) ?_
        (repeat (first | (refine wpG_skip (by kernel_rfl) (fun K hK => ?_); go_big_quiet_skip; refine wpQuiet_nil (hK _ ?_); clear hK K) | (refine wpG_quiet (by rfl) (by rfl) (fun K hK => ?_); go_big_quiet_want; go_big_quiet_op; go_big_quiet_on; refine wpQuiet_nil (hK _ ?_); clear hK K)))
        refine wpG_exact rfl (by kernel_rfl) (fun w' G hB hS hG => ?_) (fun K hK => ?_)
        · have cc := Below.keeps hB hd1
          go_simp
          exact hG _ (Bel.refl _)
        go_simp; refine hK _ ?_; clear hK K; (repeat (first | (refine wpG_skip (by kernel_rfl) (fun K hK => ?_); go_big_quiet_skip; refine wpQuiet_nil (hK _ ?_); clear hK K) | (refine wpG_quiet (by rfl) (by rfl) (fun K hK => ?_); go_big_quiet_want; go_big_quiet_op; go_big_quiet_on; refine wpQuiet_nil (hK _ ?_); clear hK K)))
        refine wpG_exact rfl (by kernel_rfl) (fun w' G hB hS hG => ?_) (fun K hK => ?_)
        · have cc := Below.keeps hB hd2
          go_simp
          exact hG _ (Bel.refl _)
        go_simp; refine hK _ ?_; clear hK K; (repeat (first | (refine wpG_skip (by kernel_rfl) (fun K hK => ?_); go_big_quiet_skip; refine wpQuiet_nil (hK _ ?_); clear hK K) | (refine wpG_quiet (by rfl) (by rfl) (fun K hK => ?_); go_big_quiet_want; go_big_quiet_op; go_big_quiet_on; refine wpQuiet_nil (hK _ ?_); clear hK K)))
        refine wpG_exact rfl (by kernel_rfl) (fun w' G hB hS hG => ?_) (fun K hK => ?_)
        · go_simp
          exact calls_told hG (rSameP_any _ _ x y _ (HR1.out.below hB) (HR2.out.below hB) (Nat.le_trans HL1.out (by decide)) (Nat.le_trans HL2.out (by decide)))
        go_simp; refine hK _ ?_; clear hK K; (repeat (first | (refine wpG_skip (by kernel_rfl) (fun K hK => ?_); go_big_quiet_skip; refine wpQuiet_nil (hK _ ?_); clear hK K) | (refine wpG_quiet (by rfl) (by rfl) (fun K hK => ?_); go_big_quiet_want; go_big_quiet_op; go_big_quiet_on; refine wpQuiet_nil (hK _ ?_); clear hK K)))
        intro w' hB hA
        have HB' := Lib.hid (bt HB.out hB)
        clear hA hB hd1 hd2
        by_cases he : x = y
        · have HE := Lib.hid he
          rw [decide_eq_true he]
          clear he
          go_wp2
          refine ⟨?_, by simp [intOf]; omega⟩
          have hok : ∀ j (h : j < a.length) (h' : j < b.length), j < k + 1 → a[j] = b[j] := fun j h h' hj => by
            rcases Nat.lt_or_ge j k with h3 | h3
            · exact HH.out j h h' h3
            · obtain rfl : j = k := by omega
              rw [← HX.out, ← HY.out]; exact HE.out
          first
            | exact ⟨k + 1, by omega, by go_num, hok, HB'.out⟩
            | ((repeat apply Exists.intro); exact ⟨⟨k + 1, by omega, by go_num, hok, HB'.out⟩, rfl⟩)
        · have HE := Lib.hid (show decide (a = b) = false by
            rw [decide_eq_false_iff_not]
            rintro rfl
            exact he (HX.out.trans HY.out.symm))
          rw [decide_eq_false he]
          clear he
          go_wp2
          go_ret
          exact ⟨(by rw [HE.out]; rfl), HB'.out⟩
      · obtain rfl : k = a.length := by omega
        have HE := Lib.hid (show decide (a = b) = true by
          rw [decide_eq_true_iff]
          exact List.ext_getElem hL.out fun j h h' => HH.out j h h' h)
        go_wp2
        go_ret
        exact ⟨(by rw [HE.out]; rfl), HB.out⟩
  · have HE := Lib.hid (show decide (a = b) = false by
      rw [decide_eq_false_iff_not]
      rintro rfl
      exact hl rfl)
    have t1 : ((a.length : Int) != (b.length : Int)) = true := by rw [bne_iff_ne]; omega
    clear hl
    go_enter Try.func51, Try.ntmps51
    go_wp2
    go_ret
    exact ⟨(by rw [HE.out]; rfl), b_refl _⟩

/-- the cells of a row of numbers -/
def ncl (xs : List Int) : List Value := xs.map fun x => .int .i64 x
theorem ncl_length (xs : List Int) : (ncl xs).length = xs.length := by simp [ncl]
theorem ncl_at (xs : List Int) (k : Nat) (h : k < xs.length) : (ncl xs)[k]? = some (.int .i64 xs[k]) := by
  simp [ncl, h]
theorem lencells_ncl (rows : List (List PR)) : lencells rows = ncl (rows.map fun r => ((r.length : Nat) : Int)) := by
  simp [lencells, ncl]

set_option maxRecDepth 100000 in
set_option maxHeartbeats 1000000 in
theorem ints_any (va vb : Value) (a b : List Int) (w : World) (ha : Reads w va a.length (ncl a)) (hb : Reads w vb b.length (ncl b)) (hna : a.length ≤ 1000000) :
    Calls Try.prog 52 #[va, vb] w fun e w' => e = .returned (.bool (decide (a = b))) ∧ Below w.heap.size w w' := by
  obtain ⟨aa, ca, rfl, _, hca⟩ := ha
  obtain ⟨ab, cb, rfl, _, hcb⟩ := hb
  have HCA := Lib.hid hca
  have HCB := Lib.hid hcb
  clear hca hcb
  by_cases hl : a.length = b.length
  · have hL := Lib.hid hl
    have t1 : ((a.length : Int) != (b.length : Int)) = false := by rw [bne_eq_false_iff_eq]; omega
    clear hl
    go_enter Try.func52, Try.ntmps52
    go_wp2
    go_loopw [5] (fun i wr => ∃ k : Nat, k ≤ a.length ∧ i = .int .i64 k ∧ Hid (∀ j (h : j < a.length) (h' : j < b.length), j < k → a[j] = b[j]) ∧ Hid (Below w.heap.size w wr)) (fun i _ => a.length - (intOf i).toNat)
    case atStart => exact ⟨0, by omega, rfl, (by intro j _ _ h; omega), b_refl _⟩
    case round =>
      obtain ⟨k, hk, rfl, HH, HB⟩ := hrel
      by_cases h0 : k < a.length
      · have h0b : k < b.length := by have := hL.out; omega
        obtain ⟨b1, o1, rfl, du1⟩ := HCA.out k _ (ncl_at a k h0)
        obtain ⟨b2, o2, rfl, du2⟩ := HCB.out k _ (ncl_at b k h0b)
        have hd1 := Below.keeps HB.out du1
        have hd2 := Below.keeps HB.out du2
        have k0 : (0 : Int) ≤ (k : Int) := by omega
        have kk1 : (k : Int) < (a.length : Int) := by omega
        have kk2 : (k : Int) < (b.length : Int) := by omega
        obtain ⟨x, hx⟩ : ∃ x, x = a[k] := ⟨_, rfl⟩
        obtain ⟨y, hy⟩ : ∃ y, y = b[k] := ⟨_, rfl⟩
        rw [← hx] at hd1
        rw [← hy] at hd2
        have HX := Lib.hid hx
        have HY := Lib.hid hy
        clear hx hy du1 du2
        by_cases he : x = y
        · have he2 : (x != y) = false := by rw [bne_eq_false_iff_eq]; exact he
          have hok : ∀ j (h : j < a.length) (h' : j < b.length), j < k + 1 → a[j] = b[j] := fun j h h' hj => by
            rcases Nat.lt_or_ge j k with h3 | h3
            · exact HH.out j h h' h3
            · obtain rfl : j = k := by omega
              rw [← HX.out, ← HY.out]; exact he
          have HOK := Lib.hid hok
          clear hok he
          go_wp2
          go_quiet (fail)
          go_wp2
          refine ⟨?_, by simp [intOf]; omega⟩
          first
            | exact ⟨k + 1, by omega, by go_num, HOK.out, bt HB.out (Below.drewN' _ _)⟩
            | ((repeat apply Exists.intro); exact ⟨⟨k + 1, by omega, by go_num, HOK.out, bt HB.out (Below.drewN' _ _)⟩, rfl⟩)
        · have he2 : (x != y) = true := by rw [bne_iff_ne]; exact he
          have HE := Lib.hid (show decide (a = b) = false by
            rw [decide_eq_false_iff_not]
            rintro rfl
            exact he (HX.out.trans HY.out.symm))
          clear he
          go_wp2
          go_quiet (fail)
          go_wp2
          go_ret
          exact ⟨(by rw [HE.out]; rfl), bt HB.out (Below.drewN' _ _)⟩
      · obtain rfl : k = a.length := by omega
        have HE := Lib.hid (show decide (a = b) = true by
          rw [decide_eq_true_iff]
          exact List.ext_getElem hL.out fun j h h' => HH.out j h h' h)
        go_wp2
        go_ret
        exact ⟨(by rw [HE.out]; rfl), HB.out⟩
  · have HE := Lib.hid (show decide (a = b) = false by
      rw [decide_eq_false_iff_not]
      rintro rfl
      exact hl rfl)
    have t1 : ((a.length : Int) != (b.length : Int)) = true := by rw [bne_iff_ne]; omega
    clear hl
    go_enter Try.func52, Try.ntmps52
    go_wp2
    go_ret
    exact ⟨(by rw [HE.out]; rfl), b_refl _⟩
end Go.Proofs.Ytdebgkjekcppmaa
namespace Go.Proofs.Ytdebgkjekcppmaa
open Go.ChangeShapes Go.WideShapes Go.ChangeAt Go.RowKit Oct
open Go.ChangeMaps (open_string shut_string)

theorem u64_nat {a : Int} (h : (Lit.int .u64 a).wf = true) : ∃ n : Nat, a = (n : Int) ∧ n < 18446744073709551616 := by
  have h2 : 0 ≤ a ∧ a < 18446744073709551616 := by
    have := bounds_u64 h; omega
  exact ⟨a.toNat, by omega, by omega⟩

section
variable {P : Program} {H : Type} {enc : TypeId × Value → H} {W : World} {base : Nat}
theorem open_str {t j : Nat} {v : Value} {d : DataW H} {ps : List MemPlace} {ts : List TypeId} {ds : List (DataW H)} (ht : P.underlying t = some .string) (hv : Value.okWide P W .any base t v)
    (h : DataW.Trod enc P W 0 (fun _ => true) true t v d ps) (hsz : (DataW.weightsEach P ts ds).all (· ≤ reachBytes) = true) (hj : ts[j]? = some t) (hd : ds[j]? = some d) :
    ∃ l : List UInt8, v = .string (bs l) ∧ l.length ≤ 140737488355328 := by
  obtain ⟨s, rfl, rfl, _, _⟩ := open_string ht hv h
  refine ⟨s.data.toList, by rw [bs_of], ?_⟩
  have := sized_string hsz hj hd
  have h2 := reachBytes_lt
  omega

theorem weights_strs (e : TypeId) : ∀ (ss : List ByteArray) (s : ByteArray), s ∈ ss → s.data.toList.length ∈ DataW.weightsAll (H := H) P e (strs ss)
  | [], _, h => by simp at h
  | x :: ss, s, h => by
    have hx : strs (H := H) (x :: ss) = DataW.lit (.string x.data.toList) :: strs ss := rfl
    rw [hx, DataW.weightsAll]
    rcases List.mem_cons.1 h with rfl | h
    · simp [DataW.weights]
    · exact List.mem_append.2 (.inr (weights_strs e ss s h))
theorem add_cell {w : World} {a : Addr} {i : Nat} {u : Value} (h : w.cell? (a.add i) = some u) : a.add i = ⟨a.block, a.off + i, none⟩ := by
  unfold Addr.add at h ⊢
  split
  · rename_i hi
    rw [if_pos hi] at h
    subst hi
    cases a with
    | mk b o sp =>
      cases sp with
      | none => rfl
      | some x => exfalso; revert h; simp only [World.cell?]; split <;> simp
  · rfl
theorem open_texts {t e j : Nat} {v : Value} {d : DataW H} {ps : List MemPlace} {ts : List TypeId} {ds : List (DataW H)} (ht : P.underlying t = some (.slice e)) (he : P.underlying e = some .string) (hc : P.cellsOf e = 1) (hby : P.bytesOf e = 16)
    (hv : Value.okWide P W .any base t v) (h : DataW.Trod enc P W 0 (fun _ => true) true t v d ps) (hsz : (DataW.weightsEach P ts ds).all (· ≤ reachBytes) = true) (hj : ts[j]? = some t) (hd : ds[j]? = some d) :
    ∃ r : List (List UInt8), Reads W v r.length (tcells r) ∧ r.length ≤ 140737488355328 ∧ ∀ l ∈ r, l.length ≤ 140737488355328 := by
  have h47 := reachBytes_lt
  obtain ⟨a0, len, cap, rfl⟩ := okWide_slice ht hv
  obtain ⟨fuel, hf⟩ := h
  rcases open_strings ht he hc hf with ⟨hcs, hx⟩ | ⟨a, len', cap', ss, hcs, _, hl, hm, hz, hx, hcell, hws⟩
  · simp [Value.cells] at hcs
    obtain ⟨rfl, rfl, rfl⟩ := hcs
    exact ⟨[], Reads.nil _, by simp, by simp⟩
  · simp [Value.cells] at hcs
    obtain ⟨rfl, rfl, rfl⟩ := hcs
    simp at hz
    simp only [Prod.mk.injEq] at hx
    have hd2 := hx.1
    subst hd2
    have s1 := sized_slice hsz hj hd ht
    rw [hby] at s1
    simp only [strs, List.length_map, List.length_take, List.length_drop] at s1
    have hlen : (ss.take len).length = len := by simp; omega
    refine ⟨(ss.take len).map fun s => s.data.toList, ?_, ?_, ?_⟩
    · refine ⟨some a, cap, by rw [List.length_map, hlen], by simp, fun i u hu => ?_⟩
      have hi : i < len := by
        rcases Nat.lt_or_ge i len with h | h
        · exact h
        · rw [List.getElem?_eq_none (by simp [tcells]; omega)] at hu; simp at hu
      have hcl := hcell i (by omega)
      have e1 := add_cell hcl
      have e2 : a = ⟨a.block, a.off, none⟩ := by
        have h0 := add_cell (hcell 0 (by omega))
        simpa [Addr.add] using h0
      rw [e1] at hcl
      refine ⟨a.block, a.off, by rw [← e2], ?_⟩
      rw [hcl, ← hu]
      have hss : i < ss.length := by omega
      simp [tcells, List.getElem?_take, hi, hss, bs_of, List.getD]
    · simp; omega
    · intro l hl
      obtain ⟨s, hs, rfl⟩ := List.mem_map.1 hl
      have hin : s.data.toList.length ∈ DataW.weightsEach P ts ds := by
        refine DataW.weights_mem_each hj hd _ ?_
        simp only [DataW.weights, ht]
        exact List.mem_cons.2 (.inr (List.mem_append.2 (.inl (weights_strs e _ s hs))))
      have := List.all_eq_true.1 hsz _ hin
      simp at this
      simp
      omega
end
end Go.Proofs.Ytdebgkjekcppmaa
namespace Go.Proofs.Ytdebgkjekcppmaa
open Go.ChangeShapes Go.WideShapes Go.ChangeAt Go.RowKit Oct
open Go.ChangeMaps (open_string shut_string)

section
variable {P : Program} {H : Type} {enc : TypeId × Value → H} {W : World} {α β γ : Type}

/-- whatever the cells of a type read as, they hold an x; its measure is at most the datum's bulk -/
def Opens (enc : TypeId × Value → H) (P : Program) (W : World) (t : TypeId) (mu : α → Nat) (He : List Value → α → Prop) : Prop :=
  ∀ n cs d ps, DataW.trod enc P W 0 (fun _ => true) true n t cs = some (d, ps) → (∀ x ∈ d.weights P t, x ≤ reachBytes) → ∃ x, He cs x ∧ mu x ≤ Rows.uptoBulk d
theorem bulk_range (D : Nat → DataW H) (f : Nat → α) (mu : α → Nat) : ∀ n, (∀ i, i < n → mu (f i) ≤ Rows.uptoBulk (D i)) → (((List.range n).map f).map mu).sum ≤ Rows.uptoBulkAll ((List.range n).map D)
  | 0, _ => by simp
  | n + 1, h => by
    have ih := bulk_range D f mu n (fun i hi => h i (by omega))
    have app : ∀ (l r : List (DataW H)), Rows.uptoBulkAll (l ++ r) = Rows.uptoBulkAll l + Rows.uptoBulkAll r := by
      intro l r
      induction l with
      | nil => simp [Rows.uptoBulkAll]
      | cons x l ih => simp only [List.cons_append, Rows.uptoBulkAll, ih]; omega
    have := h n (by omega)
    simp only [List.range_succ, List.map_append, List.sum_append, app, List.map_cons, List.map_nil, List.sum_cons, List.sum_nil, Rows.uptoBulkAll]
    omega

theorem Opens.imp {t : TypeId} {mu : α → Nat} {He He' : List Value → α → Prop} (h : Opens enc P W t mu He) (hi : ∀ cs x, He cs x → He' cs x) : Opens enc P W t mu He' := by
  intro n cs d ps hd hw
  obtain ⟨x, hx, hb⟩ := h n cs d ps hd hw
  exact ⟨x, hi _ _ hx, hb⟩
/-- v is a row of elements of 'size' cells -/
def SliceOf (W : World) (size : Nat) (He : List Value → α → Prop) (v : Value) (xs : List α) : Prop :=
  ∃ a cap, v = .slice a xs.length cap ∧ xs.length ≤ cap ∧ (a = none → xs.length = 0 ∧ cap = 0) ∧
    ∀ k (h : k < xs.length), ∃ b off cs, a = some ⟨b, off, none⟩ ∧ cs.length = size ∧ (∀ j u, cs[j]? = some u → W.cell? ⟨b, off + k * size + j, none⟩ = some u) ∧ He cs xs[k]

theorem weights_all_mem (e : TypeId) : ∀ (ds : List (DataW H)) (d : DataW H), d ∈ ds → ∀ x ∈ d.weights P e, x ∈ DataW.weightsAll P e ds
  | [], _, h => by simp at h
  | d0 :: ds, d, h => by
    intro x hx
    rw [DataW.weightsAll]
    rcases List.mem_cons.1 h with rfl | h
    · exact List.mem_append.2 (.inl hx)
    · exact List.mem_append.2 (.inr (weights_all_mem e ds d h x hx))

theorem opens_str {t : TypeId} (ht : P.underlying t = some .string) : Opens enc P W t (fun l : List UInt8 => l.length + 1) fun cs (l : List UInt8) => cs = [.string (bs l)] ∧ l.length ≤ 140737488355328 := by
  intro n cs d ps h hw
  obtain ⟨s, rfl, hx, _⟩ := DataW.trod_string ht h
  simp only [Prod.mk.injEq] at hx
  obtain ⟨rfl, rfl⟩ := hx
  have := hw s.data.toList.length (by simp [DataW.weights])
  have h2 := reachBytes_lt
  exact ⟨s.data.toList, ⟨by rw [bs_of], by omega⟩, by simp [Rows.uptoBulk]⟩
theorem opens_int {t : TypeId} {k : IntKind} (ht : P.underlying t = some (.int k)) : Opens enc P W t (fun _ => 1) fun cs (a : Int) => cs = [.int k a] ∧ (Lit.int k a).wf = true := by
  intro n cs d ps h hw
  obtain ⟨a, rfl, hx, hwf⟩ := DataW.trod_int ht h
  simp only [Prod.mk.injEq] at hx
  obtain ⟨rfl, rfl⟩ := hx
  exact ⟨a, ⟨rfl, hwf⟩, by simp [Rows.uptoBulk]⟩
theorem opens_struct2 {t : TypeId} {f0 f1 : Field} {c0 c1 : Nat} {m0 : α → Nat} {m1 : β → Nat} {H0 : List Value → α → Prop} {H1 : List Value → β → Prop} (ht : P.underlying t = some (.struct #[f0, f1])) (hc : P.cellsOf t = c0 + c1)
    (hc0 : P.cellsOf f0.type = c0) (hc1 : P.cellsOf f1.type = c1) (o0 : f0.offset = 0) (o1 : f1.offset = c0)
    (h0 : Opens enc P W f0.type m0 H0) (h1 : Opens enc P W f1.type m1 H1) : Opens enc P W t (fun p => m0 p.1 + m1 p.2 + 1) fun cs (p : α × β) => ∃ cs0 cs1, cs = cs0 ++ cs1 ∧ cs0.length = c0 ∧ cs1.length = c1 ∧ H0 cs0 p.1 ∧ H1 cs1 p.2 := by
  intro n cs d ps h hw
  obtain ⟨y0, y1, m, hx, hl, e0, e1⟩ := trod_struct2 ht h
  simp only [Prod.mk.injEq] at hx
  obtain ⟨rfl, rfl⟩ := hx
  have hw' : ∀ x, x ∈ y0.1.weights P f0.type ∨ x ∈ y1.1.weights P f1.type → x ≤ reachBytes := by
    intro x hx
    refine hw x ?_
    simp only [DataW.weights, ht, DataW.weightsEach, List.map_cons, List.mem_append]
    rcases hx with hx | hx
    · exact .inl hx
    · exact .inr (.inl hx)
  obtain ⟨x0, k0, b0⟩ := h0 _ _ _ _ e0 (fun x hx => hw' x (.inl hx))
  obtain ⟨x1, k1, b1⟩ := h1 _ _ _ _ e1 (fun x hx => hw' x (.inr hx))
  rw [o0, hc0, List.drop_zero] at k0
  rw [o1, hc1] at k1
  refine ⟨(x0, x1), ⟨cs.take c0, (cs.drop c0).take c1, ?_, ?_, ?_, k0, k1⟩, by simp only [Rows.uptoBulk, Rows.uptoBulkAll]; omega⟩
  · have : (cs.drop c0).take c1 = cs.drop c0 := List.take_of_length_le (by simp; omega)
    rw [this, List.take_append_drop]
  · simp; omega
  · simp; omega
theorem opens_slice {t e : TypeId} {size : Nat} {mu : α → Nat} {He : List Value → α → Prop} (ht : P.underlying t = some (.slice e)) (hc : P.cellsOf e = size) (hpos : 0 < size) (he : Opens enc P W e mu He) :
    Opens enc P W t (fun xs => (xs.map mu).sum + 1) fun cs (xs : List α) => ∃ v, cs = [v] ∧ SliceOf W size He v xs ∧ xs.length * P.bytesOf e ≤ reachBytes := by
  intro n cs d ps h hw
  rcases Deep.open_slice ht h with ⟨rfl, hx⟩ | ⟨a, len, cap, m, n', D, Pl, rfl, _, hl, hm, hmm, hx, hcell⟩
  · simp only [Prod.mk.injEq] at hx
    obtain ⟨rfl, _⟩ := hx
    exact ⟨[], ⟨_, rfl, ⟨none, 0, rfl, Nat.le_refl _, fun _ => ⟨rfl, rfl⟩, fun k hk => by simp at hk⟩, by simp⟩, by simp [Rows.uptoBulk]⟩
  · simp only [Prod.mk.injEq] at hx
    obtain ⟨rfl, _⟩ := hx
    simp only [if_true] at hmm
    subst hmm
    have hin : ∀ i, i < len → ∀ x ∈ (D i).weights P e, x ≤ reachBytes := by
      intro i hi x hx
      refine hw x ?_
      simp only [DataW.weights, ht]
      exact List.mem_cons.2 (.inr (List.mem_append.2 (.inl (weights_all_mem e _ (D i) (List.mem_map.2 ⟨i, by simpa using hi, rfl⟩) x hx))))
    have each : ∀ i, i < len → ∃ x : α, (∃ cs', W.cells? 0 (a.add (i * size)) size = some cs' ∧ He cs' x) ∧ mu x ≤ Rows.uptoBulk (D i) := by
      intro i hi
      obtain ⟨cs', h1, h2⟩ := hcell i (by omega)
      rw [hc] at h1
      obtain ⟨x, hx, hb⟩ := he _ _ _ _ h2 (hin i hi)
      exact ⟨x, ⟨cs', h1, hx⟩, hb⟩
    have hlen := hw ((len + (m - len)) * P.bytesOf e) (by simp [DataW.weights, ht])
    have hlb : len * P.bytesOf e ≤ (len + (m - len)) * P.bytesOf e := Nat.mul_le_mul_right _ (by omega)
    by_cases h0 : len = 0
    · subst h0
      exact ⟨[], ⟨_, rfl, ⟨some a, m, rfl, Nat.zero_le _, by simp, fun k hk => by simp at hk⟩, by simp⟩, by simp [Rows.uptoBulk]⟩
    obtain ⟨x0, _⟩ := each 0 (by omega)
    haveI : Inhabited α := ⟨x0⟩
    obtain ⟨f, hf⟩ := Deep.choose_lt each
    have haddr : a = ⟨a.block, a.off, none⟩ := by
      obtain ⟨⟨cs', h1, _⟩, _⟩ := hf 0 (by omega)
      obtain ⟨_, hl', hcs⟩ := World.cells?_some h1
      have h2 := hcs 0 (by omega)
      rw [Nat.zero_mul] at h2
      have h3 : ∃ u, cs'[0]? = some u := ⟨cs'[0]'(by omega), List.getElem?_eq_getElem _⟩
      obtain ⟨u, hu⟩ := h3
      rw [hu] at h2
      have := add_cell (a := a.add 0) (i := 0) h2
      simpa [Addr.add] using this
    have hbulk := bulk_range D f mu len (fun i hi => (hf i hi).2)
    refine ⟨(List.range len).map f, ⟨_, rfl, ⟨some a, m, by simp, by simpa using hl, by simp, ?_⟩, ?_⟩, by simp only [Rows.uptoBulk]; omega⟩
    · intro k hk
      have hk' : k < len := by simpa using hk
      obtain ⟨⟨cs', h1, hHe⟩, _⟩ := hf k hk'
      obtain ⟨_, hl', hcs⟩ := World.cells?_some h1
      refine ⟨a.block, a.off, cs', by rw [← haddr], hl', ?_, by simpa using hHe⟩
      intro j u hj
      have hjl : j < size := by
        rcases Nat.lt_or_ge j size with h | h
        · exact h
        · rw [List.getElem?_eq_none (by omega)] at hj; cases hj
      have h2 := hcs j hjl
      rw [haddr, hj, Addr.add_lit, Addr.add_lit] at h2
      rw [← h2]
    · simp only [List.length_map, List.length_range]; omega

theorem open_any {t j : Nat} {v : Value} {d : DataW H} {ps : List MemPlace} {ts : List TypeId} {ds : List (DataW H)} {mu : α → Nat} {He : List Value → α → Prop} (ho : Opens enc P W t mu He)
    (h : DataW.Trod enc P W 0 (fun _ => true) true t v d ps) (hsz : (DataW.weightsEach P ts ds).all (· ≤ reachBytes) = true) (hj : ts[j]? = some t) (hd : ds[j]? = some d) : ∃ x, He v.cells.toList x ∧ mu x ≤ Rows.uptoBulk d := by
  obtain ⟨fuel, hf⟩ := h
  refine ho _ _ _ _ hf fun x hx => ?_
  simpa using List.all_eq_true.1 hsz x (DataW.weights_mem_each hj hd x hx)
theorem cells_slice {base : Nat} {t e : TypeId} {v v' : Value} (ht : P.underlying t = some (.slice e)) (hv : Value.okWide P W .any base t v) (h : v.cells.toList = [v']) : v = v' := by
  obtain ⟨a0, len, cap, rfl⟩ := okWide_slice ht hv
  simpa [Value.cells] using h
end
end Go.Proofs.Ytdebgkjekcppmaa
namespace Go.Proofs.Ytdebgkjekcppmaa
open Go.ChangeShapes Go.WideShapes Go.ChangeAt Go.RowKit Oct

section
variable {H : Type} {enc : TypeId × Value → H} {W : World}
/-- a pair's cells, opened -/
def PairAt (cs : List Value) (p : PR) : Prop := cs = [.string (bs p.1), .string (bs p.2)] ∧ p.1.length ≤ 140737488355328 ∧ p.2.length ≤ 140737488355328
theorem opens_pair : Opens enc Try.prog W 52 (fun p => p.1.length + 1 + (p.2.length + 1) + 1) PairAt := by
  refine Opens.imp (opens_struct2 (c0 := 1) (c1 := 1) Try.underlying52 (by kernel_rfl) (by kernel_rfl) (by kernel_rfl) rfl rfl (opens_str Try.underlying9) (opens_str Try.underlying9)) ?_
  rintro cs p ⟨cs0, cs1, rfl, _, _, ⟨rfl, h0⟩, rfl, h1⟩
  exact ⟨rfl, h0, h1⟩
theorem rp_of {v : Value} {xs : List PR} (h : SliceOf W 2 PairAt v xs) : RP W v xs ∧ ∀ p ∈ xs, p.1.length ≤ 140737488355328 ∧ p.2.length ≤ 140737488355328 := by
  obtain ⟨a, cap, rfl, hle, hn, hc⟩ := h
  refine ⟨⟨⟨a, cap, rfl, hn, ?_⟩, a, cap, rfl, hle⟩, ?_⟩
  · intro j u hj
    have hjl : j < xs.length * 2 := by
      rcases Nat.lt_or_ge j (xs.length * 2) with h | h
      · exact h
      · rw [List.getElem?_eq_none (by rw [pcells_length]; exact h)] at hj; cases hj
    have hk : j / 2 < xs.length := by omega
    obtain ⟨b, off, cs, ha, _, hcell, hcs, _⟩ := hc (j / 2) hk
    subst hcs
    refine ⟨b, off, ha, ?_⟩
    rcases Nat.mod_two_eq_zero_or_one j with hm | hm
    · have e : j = j / 2 * 2 := by omega
      rw [e, pcells_key xs _ hk] at hj
      have := hcell 0 _ rfl
      rw [e, ← hj]
      exact this
    · have e : j = j / 2 * 2 + 1 := by omega
      rw [e, pcells_val xs _ hk] at hj
      have := hcell 1 _ rfl
      rw [e, ← hj, ← Nat.add_assoc]
      exact this
  · intro p hp
    obtain ⟨k, hk, rfl⟩ := List.getElem_of_mem hp
    obtain ⟨_, _, _, _, _, _, _, h⟩ := hc k hk
    exact h
/-- a row of pairs -/
def RowAt (W : World) (cs : List Value) (l : List PR) : Prop := ∃ v, cs = [v] ∧ RP W v l ∧ l.length ≤ 4398046511104 ∧ ∀ p ∈ l, p.1.length ≤ 140737488355328 ∧ p.2.length ≤ 140737488355328
/-- how many values and letters a row has -/
def bulkP (l : List PR) : Nat := (l.map fun p : PR => p.1.length + 1 + (p.2.length + 1) + 1).sum + 1
theorem opens_pairs : Opens enc Try.prog W 35 bulkP (RowAt W) := by
  refine Opens.imp (opens_slice (size := 2) Try.underlying35 (by kernel_rfl) (by decide) opens_pair) ?_
  rintro cs l ⟨v, rfl, hs, hb⟩
  have hby : Try.prog.bytesOf 52 = 32 := by kernel_rfl
  rw [hby] at hb
  have h2 := reachBytes_lt
  obtain ⟨h1, h3⟩ := rp_of hs
  exact ⟨v, rfl, h1, by omega, h3⟩
set_option maxRecDepth 100000 in
theorem open_pairs {base j : Nat} {v : Value} {d : DataW H} {ps : List MemPlace} {ts : List TypeId} {ds : List (DataW H)}
    (hv : Value.okWide Try.prog W .any base 35 v) (h : DataW.Trod enc Try.prog W 0 (fun _ => true) true 35 v d ps) (hsz : (DataW.weightsEach Try.prog ts ds).all (· ≤ reachBytes) = true) (hj : ts[j]? = some 35) (hd : ds[j]? = some d) :
    ∃ l : List PR, RP W v l ∧ l.length ≤ 4398046511104 ∧ ∀ p ∈ l, p.1.length ≤ 140737488355328 ∧ p.2.length ≤ 140737488355328 := by
  obtain ⟨l, ⟨v', hcs, h1, h2, h3⟩, _⟩ := open_any opens_pairs h hsz hj hd
  obtain rfl := cells_slice Try.underlying35 hv hcs
  exact ⟨l, h1, h2, h3⟩
/-- a row of rows -/
def RowsAt (W : World) (cs : List Value) (rows : List (List PR)) : Prop := ∃ v, cs = [v] ∧ RR W v rows ∧ rows.length ≤ 5864062014805 ∧ ∀ l ∈ rows, l.length ≤ 4398046511104 ∧ ∀ p ∈ l, p.1.length ≤ 140737488355328 ∧ p.2.length ≤ 140737488355328
def bulkR (rows : List (List PR)) : Nat := (rows.map bulkP).sum + 1
theorem opens_rows : Opens enc Try.prog W 43 bulkR (RowsAt W) := by
  refine Opens.imp (opens_slice (size := 1) Try.underlying43 (by kernel_rfl) (by decide) opens_pairs) ?_
  rintro cs rows ⟨v, rfl, ⟨a, cap, rfl, hle, hn, hc⟩, hb⟩
  have hby : Try.prog.bytesOf 35 = 24 := by kernel_rfl
  rw [hby] at hb
  have h2 := reachBytes_lt
  refine ⟨_, rfl, ⟨a, cap, rfl, hle, hn, ?_⟩, by omega, ?_⟩
  · intro k hk
    obtain ⟨b, off, cs, ha, _, hcell, v, rfl, h1, _⟩ := hc k hk
    refine ⟨b, off, v, ha, ?_, h1⟩
    have := hcell 0 _ rfl
    simpa using this
  · intro l hl
    obtain ⟨k, hk, rfl⟩ := List.getElem_of_mem hl
    obtain ⟨_, _, _, _, _, _, _, _, _, h3, h4⟩ := hc k hk
    exact ⟨h3, h4⟩
set_option maxRecDepth 100000 in
theorem open_rows {base j : Nat} {v : Value} {d : DataW H} {ps : List MemPlace} {ts : List TypeId} {ds : List (DataW H)}
    (hv : Value.okWide Try.prog W .any base 43 v) (h : DataW.Trod enc Try.prog W 0 (fun _ => true) true 43 v d ps) (hsz : (DataW.weightsEach Try.prog ts ds).all (· ≤ reachBytes) = true) (hj : ts[j]? = some 43) (hd : ds[j]? = some d) :
    ∃ rows : List (List PR), RR W v rows ∧ rows.length ≤ 5864062014805 ∧ (∀ l ∈ rows, l.length ≤ 4398046511104 ∧ ∀ p ∈ l, p.1.length ≤ 140737488355328 ∧ p.2.length ≤ 140737488355328) ∧ bulkR rows ≤ Rows.uptoBulk d := by
  obtain ⟨rows, ⟨v', hcs, h1, h2, h3⟩, h4⟩ := open_any opens_rows h hsz hj hd
  obtain rfl := cells_slice Try.underlying43 hv hcs
  exact ⟨rows, h1, h2, h3, h4⟩
end
end Go.Proofs.Ytdebgkjekcppmaa
namespace Go.Proofs.Ytdebgkjekcppmaa
open Go.RowKit Oct

theorem OP.some {w : World} {base : Nat} {v : Value} {l : List PR} (h : OP w base v l) (h0 : 0 < l.length) : ∃ g cap, v = .slice (some ⟨g, 0, none⟩) l.length cap ∧ base ≤ g := by
  rcases h.2 with ⟨_, h0'⟩ | ⟨g, cap, cur, hv, hg, _⟩
  · omega
  · exact ⟨g, cap, hv, hg⟩
set_option maxRecDepth 100000 in
set_option maxHeartbeats 4000000 in
theorem rSplit_any (v : Value) (l : List PR) (m : Nat) (w : World) (hr : RP w v l) (hl : l.length ≤ 100000) (hm : ∀ p ∈ l, p.1.length ≤ 1099511627776) (h1 : 1 ≤ m) (h2 : m ≤ 16) :
    Calls Try.prog 49 #[v, .int .i64 (m : Int)] w fun e w' => ∃ D, e = .returned (.slice (some ⟨D, 0, none⟩) m m) ∧ w.heap.size ≤ D ∧ OR w' D D (splitP l m) ∧ Below w.heap.size w w' := by
  obtain ⟨a, cap, rfl, _, hcell⟩ := hr.open
  have HCELL := Lib.hid hcell
  have HM := Lib.hid hm
  have hmk := make_one (P := Try.prog) 43 35 (.slice none 0 0) 24 Try.underlying43 (by kernel_rfl) rfl m (by omega) (by omega) w
  have HO := Lib.hid (OR.empty w w.heap.size m)
  obtain ⟨w4, hw4⟩ : ∃ w4, w4 = w.alloc (.cells (List.replicate m (.slice none 0 0)).toArray 35) := ⟨_, rfl⟩
  rw [← hw4] at hmk HO
  have hB4 : Below w.heap.size w w4 := by rw [hw4]; exact b_alloc _ _
  have HB4 := Lib.hid hB4
  have hsp : splitP (l.take 0) m = List.replicate m [] := by
    apply List.ext_getElem
    · simp [splitP]
    · intro i h h'; simp [splitP]
  rw [← hsp] at HO
  obtain ⟨D, hD⟩ : ∃ D, D = w.heap.size := ⟨_, rfl⟩
  rw [← hD] at HO HB4 hmk
  have HD := Lib.hid hD
  clear hr hcell hm hw4 hB4 hsp hD
  go_enter Try.func49, Try.ntmps49
  go_wp2
  clear hmk
  go_loopw [6] (fun t wx => ∃ k : Nat, k ≤ l.length ∧ t = .int .i64 (k : Int) ∧ Hid (OR wx D D (splitP (l.take k) m)) ∧ Hid (Below D w wx)) (fun t _ => l.length - (intOf t).toNat)
  case atStart => exact ⟨0, by omega, rfl, HO, HB4⟩
  case round =>
    clear HO HB4
    obtain ⟨k, hk, rfl, HO, HB4⟩ := hrel
    by_cases hkl : k < l.length
    · have k0 : (0 : Int) ≤ (k : Int) := by omega
      have k1 : (k : Int) < (l.length : Int) := by omega
      obtain ⟨bl, ol, rfl, d1, d2⟩ := HCELL.out k hkl
      have HBx : Below w.heap.size w wr := by rw [← HD.out]; exact HB4.out
      have HD1 := Lib.hid d1
      have HD2 := Lib.hid d2
      replace d1 := Below.keeps HBx d1
      obtain ⟨p, hp⟩ : ∃ p, p = l[k] := ⟨_, rfl⟩
      rw [← hp] at d1 HD1 HD2
      have HP := Lib.hid hp
      have HPL := Lib.hid (show p.1.length ≤ 1099511627776 by rw [hp]; exact HM.out _ (List.getElem_mem hkl))
      clear hp d2 HBx
      go_wp2_with fail
      refine (rOfP_any p.1 m wr h1 h2 HPL.out).mono ?_
      rintro e w6 ⟨rfl, hB6⟩
      have HO6 := Lib.hid (HO.out.below hB6)
      have HB6 := Lib.hid (HB4.out.trans (hB6.mono (by obtain ⟨_, _, h, _⟩ := HO.out; omega)))
      have hat := partF_lt p.1 m h1
      obtain ⟨t, ht⟩ : ∃ t, t = partF p.1 m := ⟨_, rfl⟩
      rw [← ht] at hat ⊢
      have HT := Lib.hid ht
      clear hB6 ht
      obtain ⟨vs, q1, q2, q3, q4, q5⟩ := HO6.out
      have q1' := q1
      rw [splitP_length] at q1'
      have hvl : t < vs.length := by omega
      have hrl : t < (splitP (l.take k) m).length := by rw [splitP_length]; exact hat
      have dv := q3.cell (k := t) (List.getElem?_eq_getElem hvl)
      have fv := q3.free (k := t) hvl
      have hown := (q4 t hvl hrl).1
      obtain ⟨at_, ct, hvt⟩ := owns_slice hown
      have t0 : (0 : Int) ≤ (t : Int) := by omega
      have t1 : (t : Int) < (m : Int) := by omega
      rw [hvt] at dv
      have HV := Lib.hid hvt
      have HQ1 := Lib.hid q1
      have HQ3 := Lib.hid q3
      have HQ4 := Lib.hid q4
      have HQ5 := Lib.hid q5
      have HOWN := Lib.hid hown
      clear hvt q1 q1' q3 q4 q5 hown
      obtain ⟨R, hR⟩ : ∃ R, R = (splitP (l.take k) m)[t]'hrl := ⟨_, rfl⟩
      rw [← hR] at dv HV HOWN
      rw [HV.out] at HOWN
      have HRD := Lib.hid hR
      have HRL := Lib.hid (show R.length ≤ 100000 by
        rw [hR, splitP_get _ _ _ hat]
        refine Nat.le_trans (List.length_filter_le _ _) ?_
        rw [List.length_take]; omega)
      have hDv := Lib.hid dv
      have hFv := Lib.hid fv
      clear hR fv
      have HRP := Lib.hid (show RP w6 (.slice at_ R.length ct) R from HOWN.out.reads)
      go_wp2_with (at_builtin; go_must (refine appendP w6 rfl _ _ 35 rfl Try.underlying35 w6.heap.size _ [] rfl (OP.nil _ _) _ R rfl HRP.out (by have := HRL.out; simp; omega) (Nat.le_refl _) ?_))
      intro v7 w7 hown7 hB7
      obtain ⟨a7, c7, rfl⟩ := owns_slice hown7
      have HO7 := Lib.hid hown7
      have HB7 := Lib.hid hB7
      have hs7 := hB7.size
      have HBw7 := Lib.hid (show Below w.heap.size w w7 by rw [← HD.out]; exact HB6.out.trans (hB7.mono (by omega)))
      have e1 := Below.keeps HBw7.out HD1.out
      have e2 := Below.keeps HBw7.out HD2.out
      clear hown7 hB7 dv d1
      go_wp2_with (at_builtin; go_must (refine append1P w7 p rfl _ _ 35 rfl Try.underlying35 w6.heap.size _ R rfl HO7.out _ rfl (by have := HRL.out; omega) hs7 ?_))
      intro v8 w8 hown8 hB8
      obtain ⟨g8, cap8, hv8, hg8⟩ := hown8.some (by simp)
      rw [List.length_append, List.length_singleton] at hv8
      subst hv8
      have hB68 := HB7.out.trans hB8
      have hblk := hB68.block D (by omega)
      have dv8 : w8.cell? ⟨D, t, none⟩ = some (.slice at_ R.length ct) := (World.cell?_of_block (w := w6) (a := ⟨D, t, none⟩) hblk).trans hDv.out
      have fv8 : w8.frozen? ⟨D, t, none⟩ = false := (World.frozen?_of_block (w := w6) (a := ⟨D, t, none⟩) hblk).trans hFv.out
      have hown8' : OP w8 D (.slice (some ⟨g8, 0, none⟩) (R.length + 1) cap8) (R ++ [p]) := OP.mono hown8 (by omega)
      have hstep := OR.step (w := w6) (w1 := w6) (w2 := w8) (base := D) (D := D) (g := g8) (cap := cap8) (k := t) (rows := splitP (l.take k) m) (vs := vs) (p := p) HQ1.out HQ3.out HQ4.out HQ5.out hrl (b_refl w6) (by rw [← HRD.out]; exact hown8') (fun j hj _ => hB68.block j hj) (.inr hg8) hB68.size
      rw [← HRD.out] at hstep
      have hsn : splitP (l.take (k + 1)) m = (splitP (l.take k) m).set t (R ++ [p]) := by
        rw [List.take_succ_eq_append_getElem hkl, ← HP.out, splitP_snoc _ _ _ t HT.out.symm hat, ← HRD.out]
      rw [← hsn] at hstep
      have HST := Lib.hid hstep
      have HBW := Lib.hid (show Below D w (w8.setCell ⟨D, t, none⟩ (.slice (some ⟨g8, 0, none⟩) (R.length + 1) cap8)) from
        (HB6.out.trans (hB68.mono (by omega))).setCell (p := ⟨D, t, none⟩) (Nat.le_refl _) _)
      clear hstep hsn hown8 hown8' hB8 hblk hB68 e1 e2
      go_wp2
      refine ⟨?_, by simp [intOf]; omega⟩
      first
        | exact ⟨k + 1, by omega, by go_num, HST.out, HBW.out⟩
        | ((repeat apply Exists.intro); exact ⟨⟨k + 1, by omega, by go_num, HST.out, HBW.out⟩, rfl⟩)
    · obtain rfl : k = l.length := by omega
      have HF := Lib.hid (List.take_length (l := l))
      go_wp2
      go_ret
      refine ⟨D, rfl, by have := HD.out; omega, ?_, ?_⟩
      · have := HO.out
        rw [HF.out] at this
        exact this
      · rw [← HD.out]; exact HB4.out
end Go.Proofs.Ytdebgkjekcppmaa
namespace Go.Proofs.Ytdebgkjekcppmaa
open Go.RowKit Oct

/-- what Join gives, as a row and a code -/
def joinV (rows : List (List PR)) : List PR × Int := if mayB (rows.length : Int) && okJ rows then (srt rows.flatten, 0) else ([], 2)
theorem JoinRes.open {rows : List (List PR)} {base : Nat} {e : Ending} {w' : World} (h : JoinRes rows base e w') :
    ∃ a c, e = .returned (.tuple #[.slice a (joinV rows).1.length c, .int .i64 (joinV rows).2]) ∧ RP w' (.slice a (joinV rows).1.length c) (joinV rows).1 := by
  unfold JoinRes at h
  unfold joinV
  by_cases hc : (mayB (rows.length : Int) && okJ rows) = true
  · rw [if_pos hc] at h
    rw [if_pos hc]
    obtain ⟨v, rfl, ho⟩ := h
    obtain ⟨a, c, rfl⟩ := owns_slice ho
    exact ⟨a, c, rfl, ho.reads⟩
  · rw [if_neg hc] at h
    rw [if_neg hc]
    exact ⟨none, 0, h, (OP.nil w' 0).reads⟩
theorem joinV_le (rows : List (List PR)) : (joinV rows).1.length ≤ rows.flatten.length := by
  unfold joinV
  split
  · rw [srt_length]; exact Nat.le_refl _
  · exact Nat.zero_le _
theorem Blk.reads {w : World} {b : Nat} {t : TypeId} {cs : List Value} (h : Blk w b t cs) (c : Nat) : Reads w (.slice (some ⟨b, 0, none⟩) cs.length c) cs.length cs :=
  ⟨_, _, rfl, (by simp), fun j u hj => ⟨b, 0, rfl, by rw [Nat.zero_add]; exact h.cell hj⟩⟩
theorem len_bulkT (l : List PR) : l.length ≤ bulkP l := by
  induction l with
  | nil => simp [bulkP]
  | cons p l ih => simp only [bulkP, List.map_cons, List.sum_cons, List.length_cons] at ih ⊢; omega
theorem flat_bulkT (rows : List (List PR)) : rows.flatten.length ≤ bulkR rows := by
  induction rows with
  | nil => simp [bulkR]
  | cons l rows ih =>
    have := len_bulkT l
    simp only [bulkR, List.map_cons, List.sum_cons, List.flatten_cons, List.length_append] at ih ⊢
    omega
theorem infoInt : (Try.prog.info? 3).map (fun i => (i.zero, i.size, i.bytes)) = some (some (.int .i64 0), 1, 8) := by kernel_rfl
theorem Reads.below' {w w' : World} {v : Value} {n : Nat} {xs : List Value} (h : Reads w v n xs) (hB : Below w.heap.size w w') : Reads w' v n xs := by
  obtain ⟨a, cap, hv, hn, hc⟩ := h
  refine ⟨a, cap, hv, hn, fun j u hj => ?_⟩
  obtain ⟨b, off, ha, hu⟩ := hc j u hj
  exact ⟨b, off, ha, Below.keeps hB hu⟩

set_option maxRecDepth 100000 in
set_option maxHeartbeats 8000000 in
theorem PartTells_any (key : List UInt8) (v : Value) (l : List PR) (n : Int) (v3 : Value) (rows : List (List PR)) (w : World) (hk : key.length ≤ 140737488355328)
    (hr : RP w v l) (hl : l.length ≤ 4398046511104) (hm : ∀ p ∈ l, p.1.length ≤ 140737488355328 ∧ p.2.length ≤ 140737488355328) (hr3 : RR w v3 rows) (hf : rows.flatten.length ≤ 1048576)
    (hm3 : ∀ p ∈ rows.flatten, p.1.length ≤ 140737488355328 ∧ p.2.length ≤ 140737488355328) :
    Calls Try.prog 11 #[.string (bs key), v, .int .i64 n, v3] w fun e w' => e = .returned (.bool true) ∧ Below w.heap.size w w' := by
  obtain ⟨a, cap, rfl, _, _⟩ := hr.open
  have HRP := Lib.hid hr
  have HM := Lib.hid hm
  have HRR := Lib.hid hr3
  have HM3 := Lib.hid hm3
  have HF := Lib.hid hf
  obtain ⟨a3, cap3, rfl, _, _, _⟩ := hr3
  clear hr hm hm3 hf
  obtain ⟨fl, hfe⟩ : ∃ fl, fl = rows.flatten := ⟨_, rfl⟩
  have HFE := Lib.hid hfe
  rw [← hfe] at HM3 HF
  clear hfe
  by_cases hk1 : (1024 : Int) < (key.length : Int)
  · go_enter Try.func11, Try.ntmps11
    go_wp2_with fail
    refine (alive17 _).mono ?_
    rintro e w2 ⟨rfl, hB2⟩
    have HB2 := Lib.hid hB2
    clear hB2
    go_wp2_with fail
    go_ret
    exact ⟨rfl, HB2.out⟩
  cases hlg : large17 l with
  | true =>
    have HLG := Lib.hid hlg
    clear hlg
    go_enter Try.func11, Try.ntmps11
    go_wp2_with fail
    refine (large17_any _ l w HRP.out (by omega) HM.out).mono ?_
    rw [HLG.out]
    rintro e w1 ⟨rfl, hB1⟩
    have HB1 := Lib.hid hB1
    clear hB1
    go_wp2_with fail
    refine (alive17 _).mono ?_
    rintro e w2 ⟨rfl, hB2⟩
    have HB2 := Lib.hid (bt HB1.out hB2)
    clear hB2
    go_wp2_with fail
    go_ret
    exact ⟨rfl, HB2.out⟩
  | false =>
    obtain ⟨hl40, hkl⟩ := large17_le l hlg
    have HLG := Lib.hid hlg
    have HKL2 := Lib.hid (show ∀ p ∈ l, p.1.length ≤ 1099511627776 from fun p hp => Nat.le_trans (hkl p hp) (by decide))
    have HKL := Lib.hid (show ∀ p ∈ l, p.1.length ≤ 70368744177664 from fun p hp => Nat.le_trans (hkl p hp) (by decide))
    clear hlg hkl
    by_cases h20 : (20 : Int) < (rows.length : Int)
    · go_enter Try.func11, Try.ntmps11
      go_wp2_with fail
      refine (large17_any _ l w HRP.out (by omega) HM.out).mono ?_
      rw [HLG.out]
      rintro e w1 ⟨rfl, hB1⟩
      have HB1 := Lib.hid hB1
      clear hB1
      go_wp2_with fail
      refine (alive17 _).mono ?_
      rintro e w2 ⟨rfl, hB2⟩
      have HB2 := Lib.hid (bt HB1.out hB2)
      clear hB2
      go_wp2_with fail
      go_ret
      exact ⟨rfl, HB2.out⟩
    have h20' : rows.length ≤ 20 := by omega
    cases hlf : large17 fl with
    | true =>
      have HLF := Lib.hid hlf
      clear hlf
      go_enter Try.func11, Try.ntmps11
      go_wp2_with fail
      refine (large17_any _ l w HRP.out (by omega) HM.out).mono ?_
      rw [HLG.out]
      rintro e w1 ⟨rfl, hB1⟩
      have HB1 := Lib.hid hB1
      have HRR1 := Lib.hid (HRR.out.below hB1)
      clear hB1
      go_wp2_with fail
      refine (flat17_any _ rows w1 HRR1.out (by omega) (by have := HF.out; rw [HFE.out] at this; omega)).mono ?_
      rw [← HFE.out]
      rintro e w2 ⟨v2, rfl, hown, hB2⟩
      obtain ⟨a2, c2, rfl⟩ := owns_slice hown
      have HFR := Lib.hid hown.reads
      have HB2 := Lib.hid (bt HB1.out hB2)
      clear hown hB2
      go_wp2_with fail
      refine (large17_any _ fl w2 HFR.out (by have := HF.out; omega) HM3.out).mono ?_
      rw [HLF.out]
      rintro e w3 ⟨rfl, hB3⟩
      have HB3 := Lib.hid (bt HB2.out hB3)
      clear hB3
      go_wp2_with fail
      refine (alive17 _).mono ?_
      rintro e w4 ⟨rfl, hB4⟩
      have HB4 := Lib.hid (bt HB3.out hB4)
      clear hB4
      go_wp2_with fail
      go_ret
      exact ⟨rfl, HB4.out⟩
    | false =>
      obtain ⟨hf40, hkf⟩ := large17_le fl hlf
      have HLF := Lib.hid hlf
      have HKF := Lib.hid (show ∀ r ∈ rows, ∀ p ∈ r, p.1.length ≤ 1099511627776 from fun r hr p hp => Nat.le_trans (hkf p (by rw [HFE.out]; exact List.mem_flatten.2 ⟨r, hr, hp⟩)) (by decide))
      have HF40 := Lib.hid (show rows.flatten.length ≤ 40 by rw [← HFE.out]; exact hf40)
      have HJL := Lib.hid (show (joinV rows).1.length ≤ 140737488355328 from Nat.le_trans (joinV_le rows) (Nat.le_trans HF40.out (by decide)))
      have HKK2 := Lib.hid (show key.length ≤ 1024 by omega)
      have HKK := Lib.hid (show key.length ≤ 70368744177664 by omega)
      clear hlf hkf hf40
      cases hmb : mayB n with
      | false =>
        have HMB := Lib.hid hmb
        have HS := Lib.hid (show ∀ b e w', SplitRes l n b e w' → e = .returned (.tuple #[.slice none 0 0, .int .i64 2]) from fun b e w' h => by unfold SplitRes at h; rw [hmb] at h; exact h)
        have HC := Lib.hid (show ∀ b e w', CountRes l n b e w' → e = .returned (.tuple #[.slice none 0 0, .int .i64 2]) from fun b e w' h => by unfold CountRes at h; rw [hmb] at h; exact h)
        have HOF := Lib.hid (show ofV key n = .tuple #[.int .i64 0, .int .i64 2] by rw [ofV, hmb]; rfl)
        clear hmb
        go_enter Try.func11, Try.ntmps11
        go_wp2_with fail
        refine (large17_any _ l w HRP.out (by omega) HM.out).mono ?_
        rw [HLG.out]
        rintro e w1 ⟨rfl, hB1⟩
        have HB1 := Lib.hid hB1
        have HRR1 := Lib.hid (HRR.out.below hB1)
        clear hB1
        go_wp2_with fail
        refine (flat17_any _ rows w1 HRR1.out (by omega) (by have := HF.out; rw [HFE.out] at this; omega)).mono ?_
        rw [← HFE.out]
        rintro e w2 ⟨v2, rfl, hown, hB2⟩
        obtain ⟨a2, c2, rfl⟩ := owns_slice hown
        have HFR := Lib.hid hown.reads
        have HB2 := Lib.hid (bt HB1.out hB2)
        clear hown hB2
        go_wp2_with fail
        refine (large17_any _ fl w2 HFR.out (by have := HF.out; omega) HM3.out).mono ?_
        rw [HLF.out]
        rintro e w3 ⟨rfl, hB3⟩
        have HB3 := Lib.hid (bt HB2.out hB3)
        have HRP3 := Lib.hid (HRP.out.below (bt HB2.out hB3))
        clear hB3
        go_wp2_with (at_builtin; go_must (refine appendP w3 rfl _ _ 35 rfl Try.underlying35 w3.heap.size _ [] rfl (OP.nil _ _) _ l rfl HRP3.out (by simp; omega) (Nat.le_refl _) ?_))
        intro v4 w4 hown4 hB4
        obtain ⟨a4, c4, rfl⟩ := owns_slice hown4
        have HO4 := Lib.hid (show RP w4 _ l from hown4.reads)
        have HB4 := Lib.hid (bt HB3.out hB4)
        clear hown4 hB4
        go_wp2_with fail
        refine (OfP_any key _ w4 HKK.out).mono ?_
        rw [HOF.out]
        rintro e w5 ⟨rfl, hB5⟩
        have HO5 := Lib.hid (HO4.out.below hB5)
        have HB5 := Lib.hid (bt HB4.out hB5)
        clear hB5
        go_wp2_with fail
        refine (Split_any _ l n w5 HO5.out (by omega) HKL.out).mono ?_
        rintro e w6 ⟨hres, hB6⟩
        obtain rfl := HS.out _ _ _ hres
        have HO6 := Lib.hid (HO5.out.below hB6)
        have HB6 := Lib.hid (bt HB5.out hB6)
        clear hres hB6
        go_wp2_with fail
        refine (Count_any _ l n w6 HO6.out (by omega) HKL.out).mono ?_
        rintro e w7 ⟨hres, hB7⟩
        obtain rfl := HC.out _ _ _ hres
        have HO7 := Lib.hid (HO6.out.below hB7)
        have HB7 := Lib.hid (bt HB6.out hB7)
        have HRR7 := Lib.hid (HRR.out.below (bt HB6.out hB7))
        clear hres hB7
        go_wp2_with fail
        refine (Join_any _ rows w7 HRR7.out (by omega) (by have := HF40.out; omega) (fun r hr p hp => Nat.le_trans (HKF.out r hr p hp) (by decide))).mono ?_
        rintro e w8 ⟨hres, hB8⟩
        obtain ⟨ax, cx, rfl, hx⟩ := hres.open
        have HX8 := Lib.hid hx
        have HRR8 := Lib.hid (HRR7.out.below hB8)
        have HO8 := Lib.hid (HO7.out.below hB8)
        have HB8 := Lib.hid (bt HB7.out hB8)
        have HG8 := Lib.hid hB8
        clear hres hB8 hx
        go_wp2_with fail
        refine (rJoin_any _ rows w8 HRR8.out (by omega) (by have := HF40.out; omega) HKF.out).mono ?_
        rintro e w9 ⟨hres, hB9⟩
        obtain ⟨ay, cy, rfl, hy⟩ := hres.open
        have HY9 := Lib.hid hy
        have HX9 := Lib.hid (HX8.out.below hB9)
        have HO9 := Lib.hid (HO8.out.below hB9)
        have HB9 := Lib.hid (bt HB8.out hB9)
        have HG9 := Lib.hid (bt HG8.out hB9)
        have HRP9 := Lib.hid (HRP.out.below (bt HB8.out hB9))
        clear hres hB9 hy
        go_wp2_with fail
        refine (rSameP_any _ _ l l w9 HO9.out HRP9.out (by omega) (by omega)).mono ?_
        rw [decide_eq_true (Eq.refl l)]
        rintro e w10 ⟨rfl, hB10⟩
        have HX10 := Lib.hid (HX9.out.below hB10)
        have HY10 := Lib.hid (HY9.out.below hB10)
        have HB10 := Lib.hid (bt HB9.out hB10)
        have HG10 := Lib.hid (bt HG9.out hB10)
        clear hB10
        go_wp2_with fail
        refine (rSameP_any _ _ (joinV rows).1 (joinV rows).1 w10 HX10.out HY10.out HJL.out HJL.out).mono ?_
        rw [decide_eq_true (Eq.refl (joinV rows).1)]
        rintro e w11 ⟨rfl, hB11⟩
        have HB11 := Lib.hid (bt HB10.out hB11)
        have HG11 := Lib.hid (bt HG10.out hB11)
        clear hB11
        go_wp2_with fail
        refine (may_any n _).mono ?_
        rw [HMB.out]
        rintro e w12 ⟨rfl, hB12⟩
        have HB12 := Lib.hid (bt HB11.out hB12)
        clear hB12
        go_wp2_with fail
        refine (alive17 _).mono ?_
        rintro e w13 ⟨rfl, hB13⟩
        have HB13 := Lib.hid (bt HB12.out hB13)
        clear hB13
        go_wp2_with fail
        go_ret
        exact ⟨rfl, HB13.out⟩
      | true =>
        obtain ⟨m, rfl, h1, h2⟩ := mayB_nat hmb
        have HMB := Lib.hid hmb
        have HS := Lib.hid (show ∀ b e w', SplitRes l (m : Int) b e w' → ∃ D, e = .returned (.tuple #[.slice (some ⟨D, 0, none⟩) m m, .int .i64 0]) ∧ b ≤ D ∧ OR w' D D (splitP l m) from fun b e w' h => by unfold SplitRes at h; rw [hmb, Int.toNat_natCast] at h; exact h)
        have HC := Lib.hid (show ∀ b e w', CountRes l (m : Int) b e w' → ∃ D, e = .returned (.tuple #[.slice (some ⟨D, 0, none⟩) m m, .int .i64 0]) ∧ b ≤ D ∧ Blk w' D 3 (lencells (splitP l m)) from fun b e w' h => by unfold CountRes at h; rw [hmb, Int.toNat_natCast] at h; exact h)
        have HOF := Lib.hid (show ofV key (m : Int) = .tuple #[.int .i64 ((partF key m : Nat) : Int), .int .i64 0] by rw [ofV, hmb, Int.toNat_natCast]; rfl)
        have HSL := Lib.hid (splitP_length l m)
        obtain ⟨S, hS⟩ : ∃ S, S = splitP l m := ⟨_, rfl⟩
        have HSE := Lib.hid hS
        rw [← hS] at HSL
        have hcl := lencells_ncl S
        obtain ⟨ls, hls⟩ : ∃ ls, ls = S.map (fun r => ((r.length : Nat) : Int)) := ⟨_, rfl⟩
        rw [← hls] at hcl
        have HLS := Lib.hid hls
        have HCL := Lib.hid hcl
        have HLL := Lib.hid (show ls.length = m by rw [hls, List.length_map]; exact HSL.out)
        have HSR := Lib.hid (show ∀ r ∈ S, r.length ≤ 1000000 by
          intro r hr
          rw [hS] at hr
          simp only [splitP, List.mem_map] at hr
          obtain ⟨i, _, rfl⟩ := hr
          exact Nat.le_trans (List.length_filter_le _ _) (by omega))
        clear hmb hS hcl hls
        go_enter Try.func11, Try.ntmps11
        go_wp2_with fail
        refine (large17_any _ l w HRP.out (by omega) HM.out).mono ?_
        rw [HLG.out]
        rintro e w1 ⟨rfl, hB1⟩
        have HB1 := Lib.hid hB1
        have HRR1 := Lib.hid (HRR.out.below hB1)
        clear hB1
        go_wp2_with fail
        refine (flat17_any _ rows w1 HRR1.out (by omega) (by have := HF.out; rw [HFE.out] at this; omega)).mono ?_
        rw [← HFE.out]
        rintro e w2 ⟨v2, rfl, hown, hB2⟩
        obtain ⟨a2, c2, rfl⟩ := owns_slice hown
        have HFR := Lib.hid hown.reads
        have HB2 := Lib.hid (bt HB1.out hB2)
        clear hown hB2
        go_wp2_with fail
        refine (large17_any _ fl w2 HFR.out (by have := HF.out; omega) HM3.out).mono ?_
        rw [HLF.out]
        rintro e w3 ⟨rfl, hB3⟩
        have HB3 := Lib.hid (bt HB2.out hB3)
        have HRP3 := Lib.hid (HRP.out.below (bt HB2.out hB3))
        clear hB3
        go_wp2_with (at_builtin; go_must (refine appendP w3 rfl _ _ 35 rfl Try.underlying35 w3.heap.size _ [] rfl (OP.nil _ _) _ l rfl HRP3.out (by simp; omega) (Nat.le_refl _) ?_))
        intro v4 w4 hown4 hB4
        obtain ⟨a4, c4, rfl⟩ := owns_slice hown4
        have HO4 := Lib.hid (show RP w4 _ l from hown4.reads)
        have HB4 := Lib.hid (bt HB3.out hB4)
        clear hown4 hB4
        go_wp2_with fail
        refine (OfP_any key _ w4 HKK.out).mono ?_
        rw [HOF.out]
        rintro e w5 ⟨rfl, hB5⟩
        have HO5 := Lib.hid (HO4.out.below hB5)
        have HB5 := Lib.hid (bt HB4.out hB5)
        clear hB5
        go_wp2_with fail
        refine (Split_any _ l m w5 HO5.out (by omega) HKL.out).mono ?_
        rintro e w6 ⟨hres, hB6⟩
        obtain ⟨D, rfl, _, hor⟩ := HS.out _ _ _ hres
        have hrr := hor.rr
        rw [← HSE.out, HSL.out] at hrr
        have HRS6 := Lib.hid hrr
        have HO6 := Lib.hid (HO5.out.below hB6)
        have HB6 := Lib.hid (bt HB5.out hB6)
        clear hres hB6 hor hrr
        go_wp2_with fail
        refine (Count_any _ l m w6 HO6.out (by omega) HKL.out).mono ?_
        rintro e w7 ⟨hres, hB7⟩
        obtain ⟨E, rfl, _, hblk⟩ := HC.out _ _ _ hres
        rw [← HSE.out, HCL.out] at hblk
        have hrd := hblk.reads m
        rw [ncl_length, HLL.out] at hrd
        have HN7 := Lib.hid (show Reads w7 _ ls.length (ncl ls) by rw [HLL.out]; exact hrd)
        have HO7 := Lib.hid (HO6.out.below hB7)
        have HRS7 := Lib.hid (HRS6.out.below hB7)
        have HB7 := Lib.hid (bt HB6.out hB7)
        have HRR7 := Lib.hid (HRR.out.below (bt HB6.out hB7))
        clear hres hB7 hblk hrd
        go_wp2_with fail
        refine (Join_any _ rows w7 HRR7.out (by omega) (by have := HF40.out; omega) (fun r hr p hp => Nat.le_trans (HKF.out r hr p hp) (by decide))).mono ?_
        rintro e w8 ⟨hres, hB8⟩
        obtain ⟨ax, cx, rfl, hx⟩ := hres.open
        have HX8 := Lib.hid hx
        have HRR8 := Lib.hid (HRR7.out.below hB8)
        have HO8 := Lib.hid (HO7.out.below hB8)
        have HB8 := Lib.hid (bt HB7.out hB8)
        have HG8 := Lib.hid hB8
        clear hres hB8 hx
        go_wp2_with fail
        refine (rJoin_any _ rows w8 HRR8.out (by omega) (by have := HF40.out; omega) HKF.out).mono ?_
        rintro e w9 ⟨hres, hB9⟩
        obtain ⟨ay, cy, rfl, hy⟩ := hres.open
        have HY9 := Lib.hid hy
        have HX9 := Lib.hid (HX8.out.below hB9)
        have HO9 := Lib.hid (HO8.out.below hB9)
        have HB9 := Lib.hid (bt HB8.out hB9)
        have HG9 := Lib.hid (bt HG8.out hB9)
        have HRP9 := Lib.hid (HRP.out.below (bt HB8.out hB9))
        clear hres hB9 hy
        go_wp2_with fail
        refine (rSameP_any _ _ l l w9 HO9.out HRP9.out (by omega) (by omega)).mono ?_
        rw [decide_eq_true (Eq.refl l)]
        rintro e w10 ⟨rfl, hB10⟩
        have HX10 := Lib.hid (HX9.out.below hB10)
        have HY10 := Lib.hid (HY9.out.below hB10)
        have HB10 := Lib.hid (bt HB9.out hB10)
        have HG10 := Lib.hid (bt HG9.out hB10)
        clear hB10
        go_wp2_with fail
        refine (rSameP_any _ _ (joinV rows).1 (joinV rows).1 w10 HX10.out HY10.out HJL.out HJL.out).mono ?_
        rw [decide_eq_true (Eq.refl (joinV rows).1)]
        rintro e w11 ⟨rfl, hB11⟩
        have HB11 := Lib.hid (bt HB10.out hB11)
        have HG11 := Lib.hid (bt HG10.out hB11)
        clear hB11
        go_wp2_with fail
        refine (may_any m _).mono ?_
        rw [HMB.out]
        rintro e w12 ⟨rfl, hB12⟩
        have HG12 := Lib.hid (bt HG11.out hB12)
        have HRS12 := Lib.hid (HRS7.out.below HG12.out)
        have HN12 := Lib.hid (HN7.out.below' HG12.out)
        have HB12 := Lib.hid (bt HB11.out hB12)
        have HRP12 := Lib.hid (HRP.out.below HB12.out)
        clear hB12
        go_wp2_with fail
        refine (rSplit_any _ l m _ HRP12.out (by omega) HKL2.out h1 h2).mono ?_
        rintro e w13 ⟨G, rfl, _, hor, hB13⟩
        have hrr := hor.rr
        rw [← HSE.out, HSL.out] at hrr
        have HQ13 := Lib.hid hrr
        have HRS13 := Lib.hid (HRS12.out.below hB13)
        have HN13 := Lib.hid (HN12.out.below' hB13)
        have HB13 := Lib.hid (bt HB12.out hB13)
        clear hB13 hor hrr
        go_wp2
        go_loopw [21, 22] (fun o t wx => ∃ k : Nat, k ≤ m ∧ t = .int .i64 (k : Int) ∧ Hid (wx.ownsRow w13.heap.size 3 1 o k (ncl (ls.take k))) ∧ Hid (Below w13.heap.size w13 wx)) (fun _ t _ => m - (intOf t).toNat)
        case atStart => exact ⟨0, by omega, rfl, ⟨rfl, .inl ⟨rfl, rfl⟩⟩, b_refl _⟩
        case round =>
          obtain ⟨k, hk, rfl, HO, HB⟩ := hrel
          obtain ⟨ao, co, rfl, _, _⟩ := Reads.owned HO.out
          by_cases hkl : k < m
          · have k0 : (0 : Int) ≤ (k : Int) := by omega
            have k1 : (k : Int) < (m : Int) := by omega
            have hil : k < S.length := by rw [HSL.out]; exact hkl
            have hil2 : k < ls.length := by rw [HLL.out]; exact hkl
            obtain ⟨a', c', hv', _, _, hc'⟩ := HQ13.out
            obtain ⟨b1, o1, u, ha', du, hru⟩ := hc' k hil
            injection hv' with e1 e2 e3
            rw [← e1] at ha'
            cases ha'
            rw [Nat.zero_add] at du
            obtain ⟨au, cu, rfl, _, _⟩ := hru.open
            replace du := Below.keeps HB.out du
            have HLK := Lib.hid (show ls[k]'hil2 = (((S[k]'hil).length : Nat) : Int) by simp only [HLS.out, List.getElem_map])
            obtain ⟨R, hR⟩ : ∃ R, R = S[k]'hil := ⟨_, rfl⟩
            rw [← hR] at du HLK
            have HSN := Lib.hid (show ncl (ls.take (k + 1)) = ncl (ls.take k) ++ [.int .i64 ((R.length : Nat) : Int)] by
              rw [List.take_succ_eq_append_getElem hil2, HLK.out]; simp [ncl])
            have hsz : w13.heap.size ≤ wr.heap.size := HB.out.size
            clear hc' e1 e2 e3 hru hR
            go_wp2_with (at_builtin; go_must (refine append1 wr [_] 3 rfl _ _ 57 rfl w13.heap.size (.int .i64 0) 1 8 Try.underlying57 infoInt rfl (by decide) _ _ _ rfl HO.out _ rfl rfl (by simp [Value.oneCell']) (by omega) (by decide) hsz ?_); intro v' w2 hown2 hB2)
            rw [← HSN.out] at hown2
            have HO2 := Lib.hid hown2
            have HB2' := Lib.hid (HB.out.trans hB2)
            clear hown2 hB2 du
            go_wp2
            refine ⟨?_, by simp [intOf]; omega⟩
            first
              | exact ⟨k + 1, by omega, by go_num, HO2.out, HB2'.out⟩
              | ((repeat apply Exists.intro); exact ⟨⟨k + 1, by omega, by go_num, HO2.out, HB2'.out⟩, rfl⟩)
          · obtain rfl : k = m := by omega
            have hrd := Reads.owned HO.out
            rw [show ls.take k = ls from by rw [← HLL.out]; exact List.take_length] at hrd
            have HRD := Lib.hid hrd
            have HRSw := Lib.hid (HRS13.out.below HB.out)
            have HNw := Lib.hid (HN13.out.below' HB.out)
            have HQw := Lib.hid (HQ13.out.below HB.out)
            have HBw := Lib.hid (bt HB13.out HB.out)
            clear hrd
            go_wp2_with fail
            refine (rOfP_any key k wr h1 h2 (Nat.le_trans HKK2.out (by decide))).mono ?_
            rintro e w14 ⟨rfl, hB14⟩
            have HRS14 := Lib.hid (HRSw.out.below hB14)
            have HN14 := Lib.hid (HNw.out.below' hB14)
            have HQ14 := Lib.hid (HQw.out.below hB14)
            have HRD14 := Lib.hid (HRD.out.below' hB14)
            have HB14 := Lib.hid (bt HBw.out hB14)
            clear hB14
            go_wp2_with fail
            refine (rSameR_any _ _ S S w14 HRS14.out HQ14.out (by rw [HSL.out]; omega) HSR.out HSR.out).mono ?_
            rw [decide_eq_true (Eq.refl S)]
            rintro e w15 ⟨rfl, hB15⟩
            have HN15 := Lib.hid (HN14.out.below' hB15)
            have HRD15 := Lib.hid (HRD14.out.below' hB15)
            have HB15 := Lib.hid (bt HB14.out hB15)
            clear hB15
            go_wp2_with fail
            refine (ints_any _ _ ls ls w15 HN15.out (by rw [HLL.out]; exact HRD15.out) (by rw [HLL.out]; omega)).mono ?_
            rw [decide_eq_true (Eq.refl ls)]
            rintro e w16 ⟨rfl, hB16⟩
            have HB16 := Lib.hid (bt HB15.out hB16)
            clear hB16
            go_wp2_with fail
            refine (alive17 _).mono ?_
            rintro e w17 ⟨rfl, hB17⟩
            have HB17 := Lib.hid (bt HB16.out hB17)
            clear hB17
            go_wp2_with fail
            go_ret
            exact ⟨rfl, HB17.out⟩
theorem PartTells_upto (key : List UInt8) (v : Value) (l : List PR) (n : Int) (v3 : Value) (rows : List (List PR)) (w : World) (hk : key.length ≤ 140737488355328)
    (hr : RP w v l) (hl : l.length ≤ 4398046511104) (hm : ∀ p ∈ l, p.1.length ≤ 140737488355328 ∧ p.2.length ≤ 140737488355328) (_hn : (Lit.int .i64 n).wf = true) (hr3 : RR w v3 rows) (_hl3 : rows.length ≤ 5864062014805)
    (hm3 : ∀ l ∈ rows, l.length ≤ 4398046511104 ∧ ∀ p ∈ l, p.1.length ≤ 140737488355328 ∧ p.2.length ≤ 140737488355328) (hu : bulkR rows ≤ 1048576) :
    Calls Try.prog 11 #[.string (bs key), v, .int .i64 n, v3] w fun e w' => e = .returned (.bool true) ∧ Below w.heap.size w w' := by
  refine PartTells_any key v l n v3 rows w hk hr hl hm hr3 (Nat.le_trans (flat_bulkT rows) hu) ?_
  intro p hp
  obtain ⟨l, h1, h2⟩ := List.mem_flatten.1 hp
  exact (hm3 l h1).2 p h2
end Go.Proofs.Ytdebgkjekcppmaa
