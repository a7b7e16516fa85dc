/- Lemmas for PartAgain, part 6: walks of the functions that it reaches, and the plain laws behind them. -/
import Derived.Lib.Hide
import Derived.BigQuiet
import Derived.Deep.QuietTactic
import Derived.Maps.RangeWalk
import Derived.Test.YtdebgkjekcppmaaPartAgainK5
set_option linter.unusedSimpArgs false
set_option linter.unusedVariables false
namespace Go.Proofs.Ytdebgkjekcppmaa
open Go.RowKit Oct

/-- each pair lies in its part -/
def okJ (rows : List (List PR)) : Bool := (List.range rows.length).all fun i => (rows.getD i []).all fun p => partF p.1 rows.length == i
theorem okJ_iff (rows : List (List PR)) : okJ rows = true ↔ ∀ i (h : i < rows.length), ∀ p ∈ rows[i], partF p.1 rows.length = i := by
  simp only [okJ, List.all_eq_true, List.mem_range, beq_iff_eq]
  constructor
  · intro h i hi p hp
    exact h i hi p (by rw [List.getD_eq_getElem?_getD, List.getElem?_eq_getElem hi, Option.getD_some]; exact hp)
  · intro h i hi p hp
    rw [List.getD_eq_getElem?_getD, List.getElem?_eq_getElem hi, Option.getD_some] at hp
    exact h i hi p hp
/-- what Join gives -/
def JoinRes (rows : List (List PR)) (base : Nat) (e : Ending) (w' : World) : Prop :=
  if mayB (rows.length : Int) && okJ rows then ∃ v, e = .returned (.tuple #[v, .int .i64 0]) ∧ OP w' base v (srt rows.flatten)
  else e = .returned (.tuple #[.slice none 0 0, .int .i64 2])

set_option maxRecDepth 100000 in
set_option maxHeartbeats 4000000 in
theorem Join_any (v : Value) (rows : List (List PR)) (w : World) (hr : RR w v rows) (hn : rows.length ≤ 1000000) (hl : rows.flatten.length ≤ 1000000) (hm : ∀ l ∈ rows, ∀ p ∈ l, p.1.length ≤ 70368744177664) :
    Calls Try.prog 46 #[v] w fun e w' => JoinRes rows w.heap.size e w' ∧ Below w.heap.size w w' := by
  have HRR := Lib.hid hr
  obtain ⟨a, cap, rfl, _, _, hc⟩ := hr
  have HCL := Lib.hid hc
  have HM := Lib.hid hm
  clear hc hm
  cases hmb : mayB (rows.length : Int) with
  | false =>
    have HR := Lib.hid (show ∀ e w', e = .returned (.tuple #[.slice none 0 0, .int .i64 2]) → JoinRes rows w.heap.size e w' from fun e w' h => by unfold JoinRes; rw [hmb]; exact h)
    by_cases h1 : (rows.length : Int) < 1
    · clear hmb
      go_enter Try.func46, Try.ntmps46
      go_wp2
      go_ret2
      exact ⟨HR.out _ _ rfl, b_refl _⟩
    · have h2 : (16 : Int) < (rows.length : Int) := by simp [mayB] at hmb; omega
      clear hmb
      go_enter Try.func46, Try.ntmps46
      go_wp2
      go_ret2
      exact ⟨HR.out _ _ rfl, b_refl _⟩
  | true =>
    have HRT := Lib.hid (show okJ rows = true → ∀ e w', (∃ v, e = .returned (.tuple #[v, .int .i64 0]) ∧ OP w' w.heap.size v (srt rows.flatten)) → JoinRes rows w.heap.size e w' from fun hk e w' h => by unfold JoinRes; rw [hmb, hk]; exact h)
    have HRF := Lib.hid (show okJ rows = false → ∀ e w', e = .returned (.tuple #[.slice none 0 0, .int .i64 2]) → JoinRes rows w.heap.size e w' from fun hk e w' h => by unfold JoinRes; rw [hmb, hk]; exact h)
    have hmm : 1 ≤ rows.length ∧ rows.length ≤ 16 := by simp [mayB] at hmb; omega
    obtain ⟨h1, h2⟩ := hmm
    have h3 : ¬ (rows.length : Int) < 1 := by omega
    have h4 : ¬ (16 : Int) < (rows.length : Int) := by omega
    clear hmb
    go_enter Try.func46, Try.ntmps46
    go_wp2_with fail
    refine (by_any rows.length w).mono ?_
    rintro e w2 ⟨b, rfl, hb, _, hB2⟩
    have HBk := Lib.hid hb
    have HB2 := Lib.hid hB2
    have hz : Blk (w2.alloc (.cells #[.nilFunc] 115)) w2.heap.size 115 [.nilFunc] := Blk.new w2 [.nilFunc] _
    have HZ := Lib.hid hz
    have HI := Lib.hid (show (Try.prog.info? 115).map (·.size) = some 1 by kernel_rfl)
    clear hb hB2 hz
    go_wp2_with (refine blk_storeK w2.heap.size [.nilFunc] [.func (.func 96) #[] #[.pointer (some ⟨b, 0, none⟩)]] HZ.out rfl _ _ _ rfl rfl rfl HI.out rfl (by simp [Value.oneCell']) ?_)
    intro w3 hw3
    have hC3 : Blk w3 w2.heap.size 115 [.func (.func 96) #[] #[.pointer (some ⟨b, 0, none⟩)]] := by
      rw [← hw3.out]; exact HZ.out.row _
    have hB23 : Below w2.heap.size w2 w3 := by rw [← hw3.out]; exact below_setRow (b_alloc _ _) (Nat.le_refl _) _
    have HBk3 := Lib.hid (HBk.out.below hB23)
    have HB3 := Lib.hid (bt HB2.out hB23)
    have HC3 := Lib.hid hC3
    obtain ⟨C, hC⟩ : ∃ C, C = w2.heap.size := ⟨_, rfl⟩
    rw [← hC] at HC3 ⊢
    clear hw3 hC3 hB23 hC HZ HBk
    go_wp2
    go_loopw [23] (fun t wx => ∃ i : Nat, i ≤ rows.length ∧ t = .int .i64 (i : Int) ∧ Hid (∀ j (h : j < rows.length), j < i → ∀ p ∈ rows[j], partF p.1 rows.length = j) ∧ Hid (Below w3.heap.size w3 wx)) (fun t _ => rows.length - (intOf t).toNat)
    case atStart => exact ⟨0, by omega, rfl, fun j _ h => by omega, b_refl _⟩
    case round =>
      obtain ⟨i, hi, rfl, HOK, HB4⟩ := hrel
      by_cases hil : i < rows.length
      · have i0 : (0 : Int) ≤ (i : Int) := by omega
        have i1 : (i : Int) < (rows.length : Int) := by omega
        obtain ⟨br, or_, u, rfl, du, hru⟩ := HCL.out i hil
        have HBw := Lib.hid (bt HB3.out HB4.out)
        have HRU := Lib.hid (hru.below HBw.out)
        obtain ⟨au, cu, rfl, _, hcell⟩ := HRU.out.open
        have HCELL := Lib.hid hcell
        have du' := Below.keeps HBw.out du
        have HFL := Lib.hid (show rows[i].length ≤ 1000000 by
          have h := flat_take rows i hil
          have h' := flat_le rows (i + 1)
          rw [h, List.length_append] at h'
          omega)
        have HMI := Lib.hid (HM.out _ (List.getElem_mem hil))
        obtain ⟨l, hlr⟩ : ∃ l, l = rows[i] := ⟨_, rfl⟩
        rw [← hlr] at du' HCELL HFL HMI
        have HLR := Lib.hid hlr
        have hFL := HFL.out
        clear hcell du hru hlr HRU
        obtain ⟨Wr, hWr⟩ : ∃ Wr, Wr = wr := ⟨_, rfl⟩
        subst hWr
        go_wp2
        go_loopw [30] (fun t wx => ∃ k : Nat, k ≤ l.length ∧ t = .int .i64 (k : Int) ∧ Hid (∀ j (h : j < l.length), j < k → partF l[j].1 rows.length = i) ∧ Hid (Below Wr.heap.size Wr wx)) (fun t _ => l.length - (intOf t).toNat)
        case atStart => exact ⟨0, by omega, rfl, fun j _ h => by omega, b_refl _⟩
        case round =>
          obtain ⟨k, hk, rfl, HOL, HB5⟩ := hrel
          by_cases hkl : k < l.length
          · have k0 : (0 : Int) ≤ (k : Int) := by omega
            have k1 : (k : Int) < (l.length : Int) := by omega
            obtain ⟨bl, ol, rfl, d1, d2⟩ := HCELL.out k hkl
            replace d1 := Below.keeps HB5.out d1
            replace d2 := Below.keeps HB5.out d2
            have HB35 := Lib.hid (bt HB4.out HB5.out)
            have cC := (HC3.out.below HB35.out).cell (k := 0) rfl
            have hCl := (HC3.out.below HB35.out).lt
            have HBk5 := Lib.hid (HBk3.out.below HB35.out)
            obtain ⟨p, hp⟩ : ∃ p, p = l[k] := ⟨_, rfl⟩
            rw [← hp] at d1 d2
            have HP := Lib.hid hp
            have HPL := Lib.hid (show p.1.length ≤ 70368744177664 by rw [hp]; exact HMI.out _ (List.getElem_mem hkl))
            clear hp
            go_wp2_with fail
            refine (by1_any p.1 rows.length b _ (HBk5.out.below (b_alloc _ _)) h1 h2 HPL.out).mono ?_
            rintro e w6 ⟨rfl, hB6⟩
            have HB6 := Lib.hid (bt HB5.out (bt (b_alloc _ _) hB6))
            clear hB6 cC hCl d1 d2 HBk5
            by_cases hat : partF p.1 rows.length = i
            · have HAT := Lib.hid hat
              rw [hat]
              clear hat
              go_wp2
              refine ⟨?_, by simp [intOf]; omega⟩
              have hok : ∀ j (h : j < l.length), j < k + 1 → partF l[j].1 rows.length = i := fun j h hj => by
                rcases Nat.lt_or_ge j k with h' | h'
                · exact HOL.out j h h'
                · obtain rfl : j = k := by omega
                  rw [← HP.out]; exact HAT.out
              first
                | exact ⟨k + 1, by omega, by go_num, hok, HB6.out⟩
                | ((repeat apply Exists.intro); exact ⟨⟨k + 1, by omega, by go_num, hok, HB6.out⟩, rfl⟩)
            · have HAT := Lib.hid (show okJ rows = false by
                rw [Bool.eq_false_iff]
                intro hok
                rw [okJ_iff] at hok
                refine hat (hok i hil p ?_)
                rw [← HLR.out, HP.out]
                exact List.getElem_mem hkl)
              have hne : ((partF p.1 rows.length : Nat) : Int) ≠ (i : Int) := by omega
              have hne2 : (((partF p.1 rows.length : Nat) : Int) != (i : Int)) = true := by rw [bne_iff_ne]; exact hne
              generalize partF p.1 rows.length = x at *
              clear hat
              go_wp2
              go_ret2
              exact ⟨HRF.out HAT.out _ _ rfl, bt HBw.out HB6.out⟩
          · obtain rfl : k = l.length := by omega
            have hok : ∀ j (h : j < rows.length), j < i + 1 → ∀ p ∈ rows[j], partF p.1 rows.length = j := fun j h hj p hp => by
              rcases Nat.lt_or_ge j i with h' | h'
              · exact HOK.out j h h' p hp
              · obtain rfl : j = i := by omega
                rw [← HLR.out] at hp
                obtain ⟨q, hq, rfl⟩ := List.getElem_of_mem hp
                exact HOL.out q hq hq
            have HOK2 := Lib.hid hok
            have HB6 := Lib.hid (bt HB4.out HB5.out)
            clear hok
            go_wp2
            refine ⟨?_, by simp [intOf]; omega⟩
            first
              | exact ⟨i + 1, by omega, by go_num, HOK2.out, HB6.out⟩
              | ((repeat apply Exists.intro); exact ⟨⟨i + 1, by omega, by go_num, HOK2.out, HB6.out⟩, rfl⟩)
      · obtain rfl : i = rows.length := by omega
        have HOKJ := Lib.hid (show okJ rows = true by rw [okJ_iff]; exact fun j h p hp => HOK.out j h h p hp)
        have HBw := Lib.hid (bt HB3.out HB4.out)
        go_wp2_with fail
        refine (Merge_any _ rows wr (HRR.out.below HBw.out) (by omega) (by omega)).mono ?_
        rintro e w6 ⟨v6, rfl, hown6, hB6⟩
        obtain ⟨a6, c6, rfl⟩ := owns_slice hown6
        have HO6 := Lib.hid (OP.mono hown6 HBw.out.size)
        have HB6 := Lib.hid (bt HBw.out hB6)
        clear hown6 hB6
        go_wp2
        go_ret2
        exact ⟨HRT.out HOKJ.out _ _ ⟨_, rfl, HO6.out⟩, HB6.out⟩
end Go.Proofs.Ytdebgkjekcppmaa
namespace Go.Proofs.Ytdebgkjekcppmaa.Oct

/-- seven bits a byte, the lowest first -/
def val7 : List UInt8 → Nat
  | [] => 0
  | c :: l => c.toNat % 128 + 128 * val7 l

theorem val7_lt : ∀ l : List UInt8, val7 l < 128 ^ l.length
  | [] => by simp [val7]
  | c :: l => by
    have := val7_lt l
    have hc := Nat.mod_lt c.toNat (show 0 < 128 by decide)
    simp only [val7, List.length_cons, Nat.pow_succ]
    omega
theorem val7_append : ∀ a b : List UInt8, val7 (a ++ b) = val7 a + 128 ^ a.length * val7 b
  | [], b => by simp [val7]
  | c :: a, b => by
    simp only [List.cons_append, val7, val7_append a b, List.length_cons, Nat.pow_succ]
    rw [Nat.mul_add, Nat.mul_comm (128 ^ a.length) 128, Nat.mul_assoc, Nat.add_assoc]

theorem ofNat_toNat (x : Nat) (h : x < 256) : (UInt8.ofNat x).toNat = x := by simp; omega
theorem add128_toNat (x : Nat) : (UInt8.ofNat (x % 128) + 128).toNat = x % 128 + 128 := by
  rw [UInt8.toNat_add]; simp; omega

theorem val7_shortF : ∀ (f v : Nat), v < 128 ^ f → val7 (shortF f v) = v
  | 0, v, h => by simp at h; simp [shortF, val7, h]
  | f + 1, v, h => by
    by_cases hv : v < 128
    · rw [shortF_lt _ _ hv]; simp [val7]; omega
    · rw [shortF_ge _ _ (by omega)]
      have := val7_shortF f (v / 128) (by rw [Nat.pow_succ] at h; omega)
      rw [val7, this, add128_toNat]; omega

/-- the form of a short number's bytes -/
def wf7 : List UInt8 → Bool
  | [] => false
  | [c] => decide (c.toNat < 128)
  | [c, d] => decide (128 ≤ c.toNat) && decide (0 < d.toNat) && decide (d.toNat < 128)
  | c :: d :: e :: l => decide (128 ≤ c.toNat) && wf7 (d :: e :: l)

theorem wf7_cons (c : UInt8) (l : List UInt8) : wf7 (c :: l) = if l = [] then decide (c.toNat < 128) else decide (128 ≤ c.toNat) && wf7 l && !(l == [0]) := by
  match l with
  | [] => rfl
  | [d] =>
    simp only [wf7, reduceCtorEq, if_false]
    have : (([d] : List UInt8) == [0]) = decide (d.toNat = 0) := by
      rw [Bool.eq_iff_iff]; simp [← UInt8.toNat_inj]
    rw [this]
    by_cases h : d.toNat = 0 <;> by_cases h2 : d.toNat < 128 <;> simp [h, h2] <;> omega
  | d :: e :: l =>
    simp only [wf7, reduceCtorEq, if_false]
    have : ((d :: e :: l : List UInt8) == [0]) = false := by simp
    rw [this]; simp

theorem val7_pos : ∀ l : List UInt8, wf7 l = true → l ≠ [0] → 0 < val7 l
  | [], h, _ => by simp [wf7] at h
  | c :: l, h, h0 => by
    rw [wf7_cons] at h
    by_cases hl : l = []
    · subst hl
      simp at h
      have : c ≠ 0 := by rintro rfl; exact h0 rfl
      have : c.toNat ≠ 0 := fun e => this (by rw [← UInt8.toNat_inj]; simpa using e)
      simp [val7]; omega
    · simp [hl] at h
      have := val7_pos l h.1.2 h.2
      simp [val7]; omega

theorem shortF_val7 : ∀ (l : List UInt8) (f : Nat), wf7 l = true → l.length ≤ f → shortF f (val7 l) = l
  | [], _, h, _ => by simp [wf7] at h
  | c :: l, f, h, hf => by
    obtain ⟨f, rfl⟩ : ∃ f', f = f' + 1 := ⟨f - 1, by simp at hf; omega⟩
    rw [wf7_cons] at h
    by_cases hl : l = []
    · subst hl
      simp at h
      have hv : val7 [c] = c.toNat := by simp [val7]; omega
      rw [hv, shortF_lt _ _ h]; simp
    · simp [hl] at h
      have hp := val7_pos l h.1.2 h.2
      have hc := c.toNat_lt
      have e1 : (c.toNat % 128 + 128 * val7 l) / 128 = val7 l := by omega
      have e2 : (c.toNat % 128 + 128 * val7 l) % 128 = c.toNat - 128 := by omega
      have e3 : UInt8.ofNat (c.toNat - 128) + 128 = c := by
        rw [← UInt8.toNat_inj, UInt8.toNat_add]
        simp; omega
      rw [val7, shortF_ge _ _ (by omega), e1, e2, shortF_val7 l f h.1.2 (by simp at hf; omega), e3]

theorem wf7_shortF : ∀ (f v : Nat), v < 128 ^ (f + 1) → wf7 (shortF (f + 1) v) = true
  | f, v, h => by
    by_cases hv : v < 128
    · rw [shortF_lt _ _ hv, wf7, ofNat_toNat _ (by omega)]; exact decide_eq_true hv
    · match f with
      | 0 => rw [Nat.zero_add, Nat.pow_one] at h; omega
      | f + 1 =>
        have h2 := wf7_shortF f (v / 128) (by rw [Nat.pow_succ] at h; omega)
        rw [shortF_ge _ _ (by omega), wf7_cons]
        have hne : shortF (f + 1) (v / 128) ≠ [] := by intro e; rw [e] at h2; simp [wf7] at h2
        have hz : shortF (f + 1) (v / 128) ≠ [0] := by
          intro e
          have := val7_shortF (f + 1) (v / 128) (by rw [Nat.pow_succ] at h; omega)
          rw [e] at this; simp [val7] at this; omega
        have h128 : 128 ≤ (UInt8.ofNat (v % 128) + 128).toNat := by rw [add128_toNat]; omega
        simp only [hne, if_false, h2, hz, h128]; simp [hz]

/-- the end of ReadShort: k bytes ahead, that come to a; c is the next -/
def rsFin (k a : Nat) (c : UInt8) : Nat × Nat × Int :=
  if 0 < k ∧ c.toNat = 0 then (0, 0, 7) else if k = 9 ∧ 1 < c.toNat then (0, 0, 7) else (a + c.toNat * 128 ^ k, k + 1, 0)
def rsF : Nat → Nat → List UInt8 → Nat × Nat × Int
  | _, _, [] => (0, 0, 6)
  | k, a, c :: l => if 128 ≤ c.toNat ∧ k < 9 then rsF (k + 1) (a + c.toNat % 128 * 128 ^ k) l else rsFin k a c
/-- ReadShort -/
def readShort (l : List UInt8) : Nat × Nat × Int := rsF 0 0 l

/-- how many bytes at the head are 128 or more -/
def lead : List UInt8 → Nat
  | [] => 0
  | c :: l => if 128 ≤ c.toNat then lead l + 1 else 0
theorem lead_le : ∀ l, lead l ≤ l.length
  | [] => by simp [lead]
  | c :: l => by have := lead_le l; simp only [lead]; split <;> simp <;> omega

theorem rsF_end : ∀ (l : List UInt8) (k a : Nat), lead l = l.length → k + l.length ≤ 9 → rsF k a l = (0, 0, 6)
  | [], _, _, _, _ => rfl
  | c :: l, k, a, h, hk => by
    simp only [lead] at h
    split at h
    · rename_i hc
      simp at h hk
      rw [rsF, if_pos ⟨hc, by omega⟩, rsF_end l _ _ h (by omega)]
    · simp at h
theorem rsF_step : ∀ (l : List UInt8) (k a n : Nat) (h : n < l.length), n ≤ lead l → k + n ≤ 9 → rsF k a l = rsF (k + n) (a + 128 ^ k * val7 (l.take n)) (l.drop n)
  | l, k, a, 0, _, _, _ => by simp [val7]
  | [], _, _, n + 1, h, _, _ => by simp at h
  | c :: l, k, a, n + 1, h, hl, hk => by
    simp only [lead] at hl
    split at hl
    · rename_i hc
      simp at h
      rw [rsF, if_pos ⟨hc, by omega⟩, rsF_step l (k + 1) _ n h (by omega) (by omega)]
      have e : k + (n + 1) = k + 1 + n := by omega
      simp only [List.take_succ_cons, List.drop_succ_cons, val7, Nat.pow_succ, e]
      congr 1
      rw [Nat.mul_add, Nat.add_assoc, Nat.mul_comm (c.toNat % 128), Nat.mul_assoc]
    · omega
theorem lead_not : ∀ (l : List UInt8) (h : lead l < l.length), (l[lead l]'h).toNat < 128
  | [], h => by simp at h
  | c :: l, h => by
    by_cases hc : 128 ≤ c.toNat
    · have e : lead (c :: l) = lead l + 1 := by simp [lead, hc]
      simp only [e, List.getElem_cons_succ]
      exact lead_not l _
    · have e : lead (c :: l) = 0 := by simp [lead, hc]
      simp only [e, List.getElem_cons_zero]; omega
theorem lead_yes : ∀ (l : List UInt8) (i : Nat) (h : i < l.length), i < lead l → 128 ≤ (l[i]'h).toNat
  | [], _, h, _ => by simp at h
  | c :: l, i, h, hi => by
    simp only [lead] at hi
    split at hi
    · rename_i hc
      cases i with
      | zero => exact hc
      | succ i => exact lead_yes l i _ (by omega)
    · omega

theorem readShort_end (l : List UInt8) (h : lead l = l.length) (h9 : l.length ≤ 9) : readShort l = (0, 0, 6) := rsF_end l 0 0 h (by omega)
theorem readShort_big (l : List UInt8) (h : 10 ≤ lead l) : readShort l = (0, 0, 7) := by
  have hle := lead_le l
  have hc := lead_yes l 9 (by omega) (by omega)
  rw [readShort, rsF_step l 0 0 9 (by omega) (by omega) (by omega), List.drop_eq_getElem_cons (by omega), rsF, if_neg (by omega), rsFin, if_neg (by omega), if_pos (by omega)]
theorem readShort_mid (l : List UInt8) (h : lead l < l.length) (h9 : lead l ≤ 9) : readShort l = rsFin (lead l) (val7 (l.take (lead l))) l[lead l] := by
  have hc := lead_not l h
  rw [readShort, rsF_step l 0 0 (lead l) h (Nat.le_refl _) (by omega), List.drop_eq_getElem_cons h, rsF, if_neg (by omega)]
  simp

theorem wf7_mid : ∀ (l : List UInt8) (n : Nat) (h : n < l.length), (∀ i (hi : i < n), 128 ≤ (l[i]'(by omega)).toNat) → (l[n]'h).toNat < 128 → wf7 (l.take (n + 1)) = (decide (n = 0) || decide (0 < (l[n]'h).toNat))
  | [], _, h, _, _ => by simp at h
  | c :: l, 0, h, _, hc => by simp at hc; simp [wf7, hc]
  | c :: l, n + 1, h, ha, hc => by
    have h0 := ha 0 (by omega)
    simp at h0 h hc
    have ih := wf7_mid l n h (fun i hi => by have := ha (i + 1) (by omega); simpa using this) hc
    rw [List.take_succ_cons, wf7_cons, ih]
    have hne : l.take (n + 1) ≠ [] := by intro e; have := congrArg List.length e; simp at this; subst this; simp at h
    simp only [hne, if_false, h0, decide_true, Bool.true_and, List.getElem_cons_succ]
    by_cases hn : n = 0
    · subst hn
      cases l with
      | nil => simp at h
      | cons d l =>
        have e : (List.take (0 + 1) (d :: l) == [0]) = decide (d.toNat = 0) := by rw [Bool.eq_iff_iff]; simp [← UInt8.toNat_inj]
        rw [e]
        by_cases hd : d.toNat = 0 <;> simp [hd]; omega
    · have : (l.take (n + 1) == [0]) = false := by
        rw [beq_eq_false_iff_ne]; intro e; have := congrArg List.length e; simp at this; omega
      simp [this, hn]

/-- what the reference asks: is the short form of the number these bytes? -/
theorem readShort_ref (l : List UInt8) (h : lead l < l.length) (h9 : lead l ≤ 9) :
    readShort l = if short (val7 (l.take (lead l + 1)) % 18446744073709551616) = l.take (lead l + 1) then (val7 (l.take (lead l + 1)) % 18446744073709551616, lead l + 1, 0) else (0, 0, 7) := by
  have hc := lead_not l h
  have hw := wf7_mid l (lead l) h (fun i hi => lead_yes l i (by omega) hi) hc
  have hlen : (l.take (lead l + 1)).length = lead l + 1 := by simp; omega
  have hv : val7 (l.take (lead l + 1)) = val7 (l.take (lead l)) + l[lead l].toNat * 128 ^ lead l := by
    rw [List.take_succ_eq_append_getElem h, val7_append]
    have : (l.take (lead l)).length = lead l := by simp; omega
    rw [this]
    simp [val7, Nat.mul_comm, Nat.mod_eq_of_lt hc]
  rw [readShort_mid l h h9, rsFin]
  generalize hn : lead l = n at *
  generalize hd : (l[n]'h) = c at *
  generalize ht : l.take (n + 1) = t at *
  have hlt : val7 (l.take n) < 128 ^ n := by
    have := val7_lt (l.take n)
    rwa [show (l.take n).length = n by simp; omega] at this
  have hp : 128 ^ n ≤ 128 ^ 9 := Nat.pow_le_pow_right (by decide) h9
  by_cases h1 : 0 < n ∧ c.toNat = 0
  · rw [if_pos h1, if_neg]
    intro e
    have : wf7 t = true := by rw [← e]; exact wf7_shortF 9 _ (by omega)
    rw [hw] at this
    simp at this; omega
  · rw [if_neg h1]
    have hwt : wf7 t = true := by rw [hw]; simp; omega
    by_cases h2 : n = 9 ∧ 1 < c.toNat
    · rw [if_pos h2, if_neg]
      intro e
      have e2 := val7_shortF 10 (val7 t % 18446744073709551616) (by omega)
      rw [short] at e
      rw [e] at e2
      obtain ⟨rfl, h3⟩ := h2
      omega
    · rw [if_neg h2]
      have hsmall : val7 t < 18446744073709551616 := by
        rw [hv]
        by_cases h3 : n = 9
        · subst h3
          have : c.toNat ≤ 1 := by omega
          have := Nat.mul_le_mul_right (128 ^ 9) this
          omega
        · have hp8 : 128 ^ n ≤ 128 ^ 8 := Nat.pow_le_pow_right (by decide) (by omega)
          have := Nat.mul_le_mul (show c.toNat ≤ 127 by omega) hp8
          omega
      rw [Nat.mod_eq_of_lt hsmall, short, shortF_val7 t 10 hwt (by omega), if_pos rfl, hv]
end Go.Proofs.Ytdebgkjekcppmaa.Oct
namespace Go.Proofs.Ytdebgkjekcppmaa.Oct

/-- Text -/
def text (l : List UInt8) : List UInt8 × Int := if l.length ≤ 65535 then (num l.length 2 ++ l, 0) else ([], 5)
/-- Read -/
def readT (l : List UInt8) : List UInt8 × Nat × Int :=
  if l.length < 2 then ([], 0, 6) else if l.length < 2 + val (l.take 2) then ([], 0, 6) else ((l.drop 2).take (val (l.take 2)), 2 + val (l.take 2), 0)
/-- the texts of a row, one behind the other -/
def texts : List (List UInt8) → List UInt8
  | [] => []
  | l :: r => num l.length 2 ++ l ++ texts r
def fits (r : List (List UInt8)) : Bool := r.all fun l => decide (l.length ≤ 65535)
/-- Row -/
def row (r : List (List UInt8)) : List UInt8 × Int :=
  if r.length ≤ 65535 then if fits r then (num r.length 2 ++ texts r, 0) else ([], 5) else ([], 5)
/-- ReadRow: k texts -/
def readTexts : Nat → List UInt8 → Option (List (List UInt8))
  | 0, l => if l = [] then some [] else none
  | k + 1, l => if (readT l).2.2 = 0 then (readTexts k (l.drop (readT l).2.1)).map ((readT l).1 :: ·) else none
def readRow (l : List UInt8) : Option (List (List UInt8)) :=
  if l.length < 2 then none else readTexts (val (l.take 2)) (l.drop 2)

theorem texts_snoc (r : List (List UInt8)) (l : List UInt8) : texts (r ++ [l]) = texts r ++ (num l.length 2 ++ l) := by
  induction r with
  | nil => simp [texts]
  | cons a r ih => simp [texts, ih]
theorem val2_lt (l : List UInt8) : val (l.take 2) < 65536 := by
  have h := val_lt (l.take 2)
  have h2 : (l.take 2).length ≤ 2 := by simp; omega
  have := pow256_le h2
  omega
theorem val2 (l : List UInt8) (h : 2 ≤ l.length) : val (l.take 2) = l[0].toNat + 256 * l[1].toNat := by
  match l, h with
  | a :: b :: l, _ => simp [val]
theorem text_le (l : List UInt8) (h : l.length ≤ 65535) : text l = (num l.length 2 ++ l, 0) := if_pos h
theorem text_gt (l : List UInt8) (h : ¬ l.length ≤ 65535) : text l = ([], 5) := if_neg h
theorem texts_take (r : List (List UInt8)) (k : Nat) (h : k < r.length) : texts (r.take (k + 1)) = texts (r.take k) ++ (num r[k].length 2 ++ r[k]) := by
  rw [List.take_succ_eq_append_getElem h, texts_snoc]
theorem texts_append (a b : List (List UInt8)) : texts (a ++ b) = texts a ++ texts b := by
  induction a with
  | nil => rfl
  | cons x a ih => simp [texts, ih]
theorem texts_take_le (r : List (List UInt8)) (k : Nat) : (texts (r.take k)).length ≤ (texts r).length := by
  have h := congrArg (fun r => (texts r).length) (List.take_append_drop k r)
  simp only [texts_append, List.length_append] at h
  omega
theorem texts_mem_le (r : List (List UInt8)) (k : Nat) (h : k < r.length) : r[k].length ≤ (texts r).length := by
  have := texts_take_le r (k + 1)
  rw [texts_take r k h] at this
  simp at this; omega
theorem fits_take (r : List (List UInt8)) (k : Nat) (h : k < r.length) (h' : fits (r.take k) = true) (h2 : r[k].length ≤ 65535) : fits (r.take (k + 1)) = true := by
  rw [List.take_succ_eq_append_getElem h]; simp only [fits, List.all_append] at h' ⊢; simp [h', h2]
theorem fits_not (r : List (List UInt8)) (k : Nat) (h : k < r.length) (h2 : ¬ r[k].length ≤ 65535) : fits r = false := by
  rw [fits, List.all_eq_false]; exact ⟨r[k], List.getElem_mem h, by simpa using h2⟩
theorem row_long (r : List (List UInt8)) (h : ¬ r.length ≤ 65535) : row r = ([], 5) := if_neg h
theorem row_ok (r : List (List UInt8)) (h : r.length ≤ 65535) (h' : fits r = true) : row r = (num r.length 2 ++ texts r, 0) := by rw [row, if_pos h, if_pos h']
theorem row_no (r : List (List UInt8)) (h : r.length ≤ 65535) (h' : fits r = false) : row r = ([], 5) := by rw [row, if_pos h, h']; rfl
theorem readT_le (l : List UInt8) (h : (readT l).2.2 = 0) : (readT l).2.1 ≤ l.length ∧ 2 ≤ (readT l).2.1 := by
  unfold readT at h ⊢
  split at h
  · simp at h
  · split at h
    · simp at h
    · rename_i h1 h2
      rw [if_neg h1, if_neg h2]
      exact ⟨by dsimp only; omega, by dsimp only; omega⟩
theorem readTexts_ok (k : Nat) (l : List UInt8) (h : (readT l).2.2 = 0) : readTexts (k + 1) l = (readTexts k (l.drop (readT l).2.1)).map ((readT l).1 :: ·) := if_pos h
theorem readTexts_no (k : Nat) (l : List UInt8) (h : ¬ (readT l).2.2 = 0) : readTexts (k + 1) l = none := if_neg h
/-- the state of ReadRow's loop: k texts are read, r; m are wanted yet, of l -/
def RrInv (l0 : List UInt8) (k0 m : Nat) (r : List (List UInt8)) (l : List UInt8) : Prop := readTexts k0 l0 = (readTexts m l).map (r ++ ·)
theorem RrInv.start (l0 : List UInt8) (k0 : Nat) : RrInv l0 k0 k0 [] l0 := by simp [RrInv]
theorem RrInv.step {l0 : List UInt8} {k0 m : Nat} {r : List (List UInt8)} {l : List UInt8} (h : RrInv l0 k0 (m + 1) r l) (ho : (readT l).2.2 = 0) : RrInv l0 k0 m (r ++ [(readT l).1]) (l.drop (readT l).2.1) := by
  unfold RrInv at h ⊢
  rw [h, readTexts_ok m l ho, Option.map_map]
  congr 1
  funext x
  simp
theorem RrInv.no {l0 : List UInt8} {k0 m : Nat} {r : List (List UInt8)} {l : List UInt8} (h : RrInv l0 k0 (m + 1) r l) (ho : ¬ (readT l).2.2 = 0) : readTexts k0 l0 = none := by
  rw [h, readTexts_no m l ho]; rfl
theorem RrInv.fin {l0 : List UInt8} {k0 : Nat} {r : List (List UInt8)} {l : List UInt8} (h : RrInv l0 k0 0 r l) : readTexts k0 l0 = if l = [] then some r else none := by
  rw [h, readTexts]; split <;> simp
theorem readRow_short (l : List UInt8) (h : l.length < 2) : readRow l = none := if_pos h
theorem readRow_at (l : List UInt8) (h : ¬ l.length < 2) : readRow l = readTexts (val (l.take 2)) (l.drop 2) := if_neg h
theorem readTexts_length : ∀ (k : Nat) (l : List UInt8) (q : List (List UInt8)), readTexts k l = some q → q.length = k
  | 0, l, q, h => by
    rw [readTexts] at h
    split at h
    · simp at h; subst h; rfl
    · simp at h
  | k + 1, l, q, h => by
    by_cases ho : (readT l).2.2 = 0
    · rw [readTexts_ok k l ho] at h
      obtain ⟨q', h1, h2⟩ := Option.map_eq_some_iff.1 h
      subst h2
      simp [readTexts_length k _ q' h1]
    · rw [readTexts_no k l ho] at h; simp at h
theorem readRow_length (l : List UInt8) (q : List (List UInt8)) (h : readRow l = some q) : q.length ≤ 65535 := by
  by_cases hl : l.length < 2
  · rw [readRow_short l hl] at h; simp at h
  · rw [readRow_at l hl] at h
    have := readTexts_length _ _ _ h
    have := val2_lt l
    omega
theorem readT_text (l rest : List UInt8) (h : l.length ≤ 65535) : readT (num l.length 2 ++ l ++ rest) = (l, 2 + l.length, 0) := by
  have e1 : (num l.length 2 ++ l ++ rest).take 2 = num l.length 2 := by
    rw [List.append_assoc, List.take_left' (num_length 2 _)]
  have e2 : val (num l.length 2) = l.length := by rw [val_num]; omega
  have e3 : (num l.length 2 ++ l ++ rest).drop 2 = l ++ rest := by
    rw [List.append_assoc, List.drop_left' (num_length 2 _)]
  have e4 : (num l.length 2 ++ l ++ rest).length = 2 + l.length + rest.length := by simp; omega
  rw [readT, e1, e2, e3, e4, if_neg (by omega), if_neg (by omega), List.take_left' rfl]
theorem readTexts_texts : ∀ r : List (List UInt8), fits r = true → readTexts r.length (texts r) = some r
  | [], _ => rfl
  | l :: r, h => by
    simp only [fits, List.all_cons, Bool.and_eq_true, decide_eq_true_eq] at h
    have ih := readTexts_texts r h.2
    have e := readT_text l (texts r) h.1
    have ed : (num l.length 2 ++ l ++ texts r).drop (2 + l.length) = texts r := by
      rw [List.drop_left' (by simp)]
    rw [texts, List.length_cons, readTexts_ok _ _ (by rw [e]), e, ed, ih]; rfl
theorem readRow_row (r : List (List UInt8)) (h : r.length ≤ 65535) (hf : fits r = true) : readRow (num r.length 2 ++ texts r) = some r := by
  have e1 : (num r.length 2 ++ texts r).take 2 = num r.length 2 := List.take_left' (num_length 2 _)
  have e2 : val (num r.length 2) = r.length := by rw [val_num]; omega
  have e3 : (num r.length 2 ++ texts r).drop 2 = texts r := List.drop_left' (num_length 2 _)
  rw [readRow_at _ (by simp), e1, e2, e3, readTexts_texts r hf]
theorem readT_back (l : List UInt8) (h : (readT l).2.2 = 0) : (readT l).1.length ≤ 65535 ∧ num (readT l).1.length 2 ++ (readT l).1 ++ l.drop (readT l).2.1 = l := by
  have hv := val2_lt l
  unfold readT at h ⊢
  split at h
  · simp at h
  · split at h
    · simp at h
    · rename_i h1 h2
      rw [if_neg h1, if_neg h2]
      dsimp only
      have e1 : ((l.drop 2).take (val (l.take 2))).length = val (l.take 2) := by simp; omega
      have e2 : num (val (l.take 2)) 2 = l.take 2 := by
        have := num_val (l.take 2)
        rwa [show (l.take 2).length = 2 by simp; omega] at this
      refine ⟨by omega, ?_⟩
      rw [e1, e2, List.append_assoc, ← List.drop_drop, List.take_append_drop, List.take_append_drop]
theorem readTexts_back : ∀ (k : Nat) (l : List UInt8) (q : List (List UInt8)), readTexts k l = some q → fits q = true ∧ texts q = l
  | 0, l, q, h => by
    rw [readTexts] at h
    split at h
    · rename_i hl
      simp at h; subst h; exact ⟨rfl, hl.symm⟩
    · simp at h
  | k + 1, l, q, h => by
    by_cases ho : (readT l).2.2 = 0
    · rw [readTexts_ok k l ho] at h
      obtain ⟨q', h1, h2⟩ := Option.map_eq_some_iff.1 h
      subst h2
      obtain ⟨f1, f2⟩ := readTexts_back k _ q' h1
      obtain ⟨b1, b2⟩ := readT_back l ho
      refine ⟨?_, ?_⟩
      · simp only [fits, List.all_cons, Bool.and_eq_true, decide_eq_true_eq]; exact ⟨b1, f1⟩
      · rw [texts, f2, b2]
    · rw [readTexts_no k l ho] at h; simp at h
theorem row_readRow (l : List UInt8) (q : List (List UInt8)) (h : readRow l = some q) : row q = (l, 0) := by
  have hl := readRow_length l q h
  by_cases h2 : l.length < 2
  · rw [readRow_short l h2] at h; simp at h
  · rw [readRow_at l h2] at h
    have e := readTexts_length _ _ _ h
    obtain ⟨f1, f2⟩ := readTexts_back _ _ _ h
    rw [row_ok q hl f1, f2, e]
    have e2 := num_val (l.take 2)
    rw [show (l.take 2).length = 2 by simp; omega] at e2
    rw [e2, List.take_append_drop]
theorem row_cases (r : List (List UInt8)) (h : r.length ≤ 65535) : (∃ x, row r = (x, 0) ∧ readRow x = some r ∧ x.length = 2 + (texts r).length) ∨ row r = ([], 5) := by
  cases hf : fits r
  · exact .inr (row_no r h hf)
  · exact .inl ⟨_, row_ok r h hf, readRow_row r h hf, by simp⟩
theorem row_inj {a b : List (List UInt8)} {x y : List UInt8} (ha : readRow x = some a) (hb : readRow y = some b) : (x == y) = decide (a = b) := by
  rw [Bool.eq_iff_iff]
  simp only [beq_iff_eq, decide_eq_true_eq]
  constructor
  · rintro rfl; rw [ha] at hb; exact Option.some.inj hb
  · rintro rfl
    have h1 := row_readRow x a ha
    have h2 := row_readRow y a hb
    rw [h1] at h2
    exact congrArg Prod.fst h2
end Go.Proofs.Ytdebgkjekcppmaa.Oct
namespace Go.Proofs.Ytdebgkjekcppmaa
open Go.RowKit Oct

/-- keys and values, one behind the other -/
def tx : List PR → List (List UInt8)
  | [] => []
  | p :: l => p.1 :: p.2 :: tx l
theorem tx_append (a b : List PR) : tx (a ++ b) = tx a ++ tx b := by
  induction a with
  | nil => rfl
  | cons x a ih => simp [tx, ih]
theorem tx_take (l : List PR) (k : Nat) (h : k < l.length) : tx (l.take (k + 1)) = tx (l.take k) ++ [l[k].1, l[k].2] := by
  rw [List.take_succ_eq_append_getElem h, tx_append]; rfl
theorem texts_take_p (l : List PR) (k : Nat) (h : k < l.length) : texts (tx (l.take (k + 1))) = texts (tx (l.take k)) ++ (num l[k].1.length 2 ++ l[k].1) ++ (num l[k].2.length 2 ++ l[k].2) := by
  rw [tx_take l k h, texts_append]; simp [texts]
theorem texts_le_p (l : List PR) (k : Nat) : (texts (tx (l.take k))).length ≤ (texts (tx l)).length := by
  have h := congrArg (fun r => (texts (tx r)).length) (List.take_append_drop k l)
  simp only [tx_append, texts_append, List.length_append] at h
  omega
theorem texts_mem_p (l : List PR) (k : Nat) (h : k < l.length) : l[k].1.length + l[k].2.length ≤ (texts (tx l)).length := by
  have := texts_le_p l (k + 1)
  rw [texts_take_p l k h] at this
  simp at this; omega
theorem fits_app (a b : List (List UInt8)) : fits (a ++ b) = (fits a && fits b) := by simp [fits]
theorem fits_take_p (l : List PR) (k : Nat) (h : k < l.length) (h' : fits (tx (l.take k)) = true) (h1 : l[k].1.length ≤ 65535) (h2 : l[k].2.length ≤ 65535) : fits (tx (l.take (k + 1))) = true := by
  rw [tx_take l k h, fits_app, h']; simp [fits, h1, h2]
theorem fits_not_p (l : List PR) (k : Nat) (h : k < l.length) (h2 : ¬ (l[k].1.length ≤ 65535 ∧ l[k].2.length ≤ 65535)) : fits (tx l) = false := by
  have e : tx l = tx (l.take k) ++ ([l[k].1, l[k].2] ++ tx (l.drop (k + 1))) := by
    rw [← List.append_assoc, ← tx_take l k h, ← tx_append, List.take_append_drop]
  rw [e, fits_app, fits_app]
  have : fits [l[k].1, l[k].2] = false := by
    cases hf : fits [l[k].1, l[k].2]
    · rfl
    · simp [fits] at hf; exact absurd hf h2
  rw [this]; simp
/-- Put -/
def putP (l : List PR) : List UInt8 × Int :=
  if l.length ≤ 65535 then if fits (tx l) then if sorted l then (num l.length 2 ++ texts (tx l), 0) else ([], 2) else ([], 5) else ([], 5)
theorem putP_long (l : List PR) (h : ¬ l.length ≤ 65535) : putP l = ([], 5) := if_neg h
theorem putP_fat (l : List PR) (h : l.length ≤ 65535) (h' : fits (tx l) = false) : putP l = ([], 5) := by rw [putP, if_pos h, h']; rfl
theorem putP_mixed (l : List PR) (h : l.length ≤ 65535) (h' : fits (tx l) = true) (h2 : sorted l = false) : putP l = ([], 2) := by rw [putP, if_pos h, h', h2]; rfl
theorem putP_ok (l : List PR) (h : l.length ≤ 65535) (h' : fits (tx l) = true) (h2 : sorted l = true) : putP l = (num l.length 2 ++ texts (tx l), 0) := by rw [putP, if_pos h, h', h2]; rfl
end Go.Proofs.Ytdebgkjekcppmaa
namespace Go.Proofs.Ytdebgkjekcppmaa
open Go.RowKit Oct

theorem put_no (v n : Int) (h : n < 1 ∨ 8 < n) : putS v n = ([], 2) := by
  have : putOk v n = false := by unfold putOk; simp; omega
  simp [putS, this]
theorem pow28 (n : Nat) : (2 : Int) ^ (8 * n) = ((256 ^ n : Nat) : Int) := by rw [Int.pow_mul]; simp
theorem put_ok (v n : Int) (h : 1 ≤ n) (h' : n ≤ 8) (h3 : v.toNat < 256 ^ n.toNat) : putS v n = (num v.toNat n.toNat, 0) := by
  have : putOk v n = true := by unfold putOk; simp; omega
  simp [putS, this]
theorem put_big (v n : Int) (h3 : ¬ v.toNat < 256 ^ n.toNat) : putS v n = ([], 2) := by
  have : putOk v n = false := by unfold putOk; simp; omega
  simp [putS, this]
theorem put_ok' (v n : Int) (h : 1 ≤ n) (h' : n ≤ 8) (h0 : 0 ≤ v) (h3 : (v / 2 ^ (8 * n).toNat != 0) = false) : putS v n = (num v.toNat n.toNat, 0) := by
  refine put_ok v n h h' ?_
  obtain ⟨n, rfl⟩ := Int.eq_ofNat_of_zero_le (show 0 ≤ n by omega)
  obtain ⟨v, rfl⟩ := Int.eq_ofNat_of_zero_le h0
  have e : (8 * (n : Int)).toNat = 8 * n := by omega
  rw [e, pow28, bne_eq_false_iff_eq] at h3
  norm_cast at h3
  exact (Nat.div_eq_zero_iff_lt (Nat.pow_pos (by decide))).1 h3
theorem put_big' (v n : Int) (h : 1 ≤ n) (h0 : 0 ≤ v) (h3 : (v / 2 ^ (8 * n).toNat != 0) = true) : putS v n = ([], 2) := by
  refine put_big v n ?_
  obtain ⟨n, rfl⟩ := Int.eq_ofNat_of_zero_le (show 0 ≤ n by omega)
  obtain ⟨v, rfl⟩ := Int.eq_ofNat_of_zero_le h0
  have e : (8 * (n : Int)).toNat = 8 * n := by omega
  rw [e, pow28, bne_iff_ne] at h3
  intro h5
  apply h3
  norm_cast
  exact Nat.div_eq_of_lt h5

theorem t_put {p q : List UInt8 × Int} (h : p = q) : Ending.returned (.tuple #[.string (bs q.1), .int .i64 q.2]) = .returned (.tuple #[.string (bs p.1), .int .i64 p.2]) := by rw [h]

set_option maxRecDepth 100000 in
set_option maxHeartbeats 400000 in
theorem Put_any (v n : Int) (w : World) (h3 : 0 ≤ v) (h4 : v < 18446744073709551616) :
    Calls Try.prog 64 #[.int .u64 v, .int .i64 n] w fun e w' => e = .returned (.tuple #[.string (bs (putS v n).1), .int .i64 (putS v n).2]) ∧ Below w.heap.size w w' := by
  by_cases hn : n < 1 ∨ 8 < n
  · go_enter Try.func64, Try.ntmps64
    have hp := Hid.out (put_no v n hn)
    rw [put_no v n hn]
    rcases hn with hn | hn
    all_goals
      go_wp2
      go_ret2
      exact ⟨rfl, Below.refl _ _⟩
  · by_cases h8 : n = 8
    · subst h8
      rw [put_ok v 8 (by omega) (by omega) (by simp; omega)]
      go_enter Try.func64, Try.ntmps64
      go_wp2_with (go_at_call 93; refine (bytes_any _ _ _ (by omega) (by omega) h3 h4).mono ?_; rintro e w' ⟨rfl, hB⟩)
      go_ret2
      exact ⟨rfl, hB⟩
    · have hlo : 1 ≤ n := by omega
      have hhi : n ≤ 7 := by omega
      cases hv : (v / 2 ^ (8 * n).toNat != 0)
      · rw [put_ok' v n hlo (by omega) h3 hv]
        go_enter Try.func64, Try.ntmps64
        go_wp2_with (go_at_call 93; refine (bytes_any _ _ _ (by omega) (by omega) h3 h4).mono ?_; rintro e w' ⟨rfl, hB⟩)
        go_ret2
        exact ⟨rfl, hB⟩
      · rw [put_big' v n hlo h3 hv]
        go_enter Try.func64, Try.ntmps64
        go_wp2
        go_ret2
        exact ⟨rfl, Below.refl _ _⟩

end Go.Proofs.Ytdebgkjekcppmaa
namespace Go.Proofs.Ytdebgkjekcppmaa
open Go.RowKit Oct

/-- what Text gives, as a value -/
def txV (r : List UInt8 × Int) : Value := .tuple #[.string (bs r.1), .int .i64 r.2]
theorem txV_mk (a : List UInt8) (c : Int) : txV (a, c) = .tuple #[.string (bs a), .int .i64 c] := rfl

set_option maxRecDepth 100000 in
set_option maxHeartbeats 400000 in
theorem Text_any (l : List UInt8) (w : World) (hs : l.length ≤ 140737488355328) :
    Calls Try.prog 66 #[.string (bs l)] w fun e w' => e = .returned (txV (text l)) ∧ Below w.heap.size w w' := by
  by_cases h : l.length ≤ 65535
  · rw [text_le l h, txV_mk]
    go_enter Try.func66, Try.ntmps66
    go_wp2_with (go_at_call 93; refine (bytes_any _ _ _ (by omega) (by omega) (by omega) (by omega)).mono ?_; rintro e w' ⟨rfl, hB⟩)
    go_ret2
    exact ⟨by rw [← bs_append]; rfl, hB⟩
  · rw [text_gt l h, txV_mk]
    go_enter Try.func66, Try.ntmps66
    go_wp2
    go_ret2
    exact ⟨rfl, Below.refl _ _⟩

set_option maxRecDepth 100000 in
set_option maxHeartbeats 400000 in
theorem rText_any (l : List UInt8) (w : World) (hs : l.length ≤ 140737488355328) :
    Calls Try.prog 68 #[.string (bs l)] w fun e w' => e = .returned (txV (text l)) ∧ Below w.heap.size w w' := by
  by_cases h : l.length ≤ 65535
  · rw [text_le l h, txV_mk]
    go_enter Try.func68, Try.ntmps68
    go_wp2_with (go_at_call 67; refine (num_any _ _ _ (by omega) (by omega) (by omega) (by omega)).mono ?_; rintro e w' ⟨rfl, hB⟩)
    go_ret2
    exact ⟨by rw [← bs_append]; rfl, hB⟩
  · rw [text_gt l h, txV_mk]
    go_enter Try.func68, Try.ntmps68
    go_wp2
    go_ret2
    exact ⟨rfl, Below.refl _ _⟩

/-- what Read gives, as a value -/
def rdV (r : List UInt8 × Nat × Int) : Value := .tuple #[.string (bs r.1), .int .i64 r.2.1, .int .i64 r.2.2]
theorem rdV_mk (a : List UInt8) (b : Nat) (c : Int) : rdV (a, b, c) = .tuple #[.string (bs a), .int .i64 b, .int .i64 c] := rfl
theorem rd_fin {a a' : List UInt8} {b : Int} {b' : Nat} {c : Int} (h1 : a = a') (h2 : b = (b' : Int)) : Ending.returned (.tuple #[.string (bs a), .int .i64 b, .int .i64 c]) = .returned (rdV (a', b', c)) := by subst h1; subst h2; rfl
theorem readT_short (l : List UInt8) (h : l.length < 2) : readT l = ([], 0, 6) := if_pos h
theorem readT_end (l : List UInt8) (h : ¬ l.length < 2) (h' : l.length < 2 + val (l.take 2)) : readT l = ([], 0, 6) := by rw [readT, if_neg h, if_pos h']
theorem readT_ok (l : List UInt8) (h : ¬ l.length < 2) (h' : ¬ l.length < 2 + val (l.take 2)) : readT l = ((l.drop 2).take (val (l.take 2)), 2 + val (l.take 2), 0) := by rw [readT, if_neg h, if_neg h']

set_option maxRecDepth 100000 in
set_option maxHeartbeats 400000 in
theorem Read_any (l : List UInt8) (w : World) (hs : l.length ≤ 140737488355328) :
    Calls Try.prog 71 #[.string (bs l)] w fun e w' => e = .returned (rdV (readT l)) ∧ Below w.heap.size w w' := by
  by_cases h : l.length < 2
  · rw [readT_short l h, rdV_mk]
    go_enter Try.func71, Try.ntmps71
    go_wp2
    go_ret3
    exact ⟨rfl, Below.refl _ _⟩
  · have HV := Lib.hid (val2 l (by omega))
    have z0 : 0 < l.length := by omega
    have z1 : 1 < l.length := by omega
    have y1 : (1 : Int) < (l.length : Int) := by omega
    have c0 := l[0].toNat_lt
    have c1 := l[1].toNat_lt
    by_cases h2 : l.length < 2 + val (l.take 2)
    · rw [readT_end l h h2, rdV_mk]
      have h3 : (l.length : Int) < 2 + (l[0].toNat : Int) + (l[1].toNat : Int) * 256 := by have := HV.out; omega
      go_enter Try.func71, Try.ntmps71
      go_wp2
      go_quiet (fail)
      go_wp2
      go_ret3
      exact ⟨rfl, Below.drewN' _ _⟩
    · rw [readT_ok l h h2]
      have h3 : 2 + (l[0].toNat : Int) + (l[1].toNat : Int) * 256 ≤ (l.length : Int) := by have := HV.out; omega
      go_enter Try.func71, Try.ntmps71
      go_wp2
      go_quiet (fail)
      go_wp2
      go_ret3
      exact ⟨rd_fin (by have := HV.out; congr 1; omega) (by have := HV.out; omega), Below.drewN' _ _⟩

set_option maxRecDepth 100000 in
set_option maxHeartbeats 400000 in
theorem rRead_any (l : List UInt8) (w : World) (hs : l.length ≤ 140737488355328) :
    Calls Try.prog 73 #[.string (bs l)] w fun e w' => e = .returned (rdV (readT l)) ∧ Below w.heap.size w w' := by
  by_cases h : l.length < 2
  · rw [readT_short l h, rdV_mk]
    go_enter Try.func73, Try.ntmps73
    go_wp2
    go_ret3
    exact ⟨rfl, Below.refl _ _⟩
  · have hv := val2_lt l
    by_cases h2 : l.length < 2 + val (l.take 2)
    · rw [readT_end l h h2, rdV_mk]
      go_enter Try.func73, Try.ntmps73
      go_wp2_with (go_at_call 72; refine (value_any _ _ (by simp; omega)).mono ?_; rw [bs_data]; rintro e w' ⟨rfl, rfl⟩)
      go_ret3
      exact ⟨rfl, Below.refl _ _⟩
    · rw [readT_ok l h h2]
      go_enter Try.func73, Try.ntmps73
      go_wp2_with (go_at_call 72; refine (value_any _ _ (by simp; omega)).mono ?_; rw [bs_data]; rintro e w' ⟨rfl, rfl⟩)
      go_ret3
      exact ⟨rd_fin (by congr 1; omega) (by omega), Below.refl _ _⟩
end Go.Proofs.Ytdebgkjekcppmaa
namespace Go.Proofs.Ytdebgkjekcppmaa
open Go.RowKit Oct

set_option maxRecDepth 100000 in
set_option maxHeartbeats 4000000 in
theorem rPutP_any (v : Value) (l : List PR) (w : World) (hr : RP w v l) (hs : (texts (tx l)).length ≤ 1000000000) (hl : l.length ≤ 1000000000) :
    Calls Try.prog 28 #[v] w fun e w' => e = .returned (txV (putP l)) ∧ Below w.heap.size w w' := by
  have HR := Lib.hid hr
  obtain ⟨a, cap, rfl, _, hc⟩ := hr.open
  clear hr
  by_cases h : l.length ≤ 65535
  · go_enter Try.func28, Try.ntmps28
    go_wp2_with (go_at_call 67; refine (num_any _ _ _ (by omega) (by omega) (by omega) (by omega)).mono ?_; rintro e w1 ⟨rfl, hB1⟩)
    go_loopw [4, 5] (fun s i wr => ∃ k : Nat, ∃ m : List UInt8, k ≤ l.length ∧ i = .int .i64 k ∧ s = .string (bs m) ∧ m.length ≤ 1000000002 ∧ Hid (m = num l.length 2 ++ texts (tx (l.take k)) ∧ fits (tx (l.take k)) = true) ∧ Below w.heap.size w wr) (fun _ i _ => l.length - (intOf i).toNat)
    case atStart => exact ⟨0, _, by omega, rfl, rfl, by simp, ⟨by simp [texts, tx], rfl⟩, hB1⟩
    case round =>
      obtain ⟨k, m, hk, rfl, rfl, hm2, hH, hB⟩ := hrel
      by_cases h0 : k < l.length
      · obtain ⟨b, off, rfl, d1, d2⟩ := hc k h0
        replace d1 := Below.keeps hB d1
        replace d2 := Below.keeps hB d2
        have hmm := texts_mem_p l k h0
        have hm3 : m.length + (2 + l[k].1.length) + (2 + l[k].2.length) ≤ 1000000002 := by
          obtain ⟨rfl, _⟩ := hH.out
          have := texts_le_p l (k + 1)
          rw [texts_take_p l k h0] at this
          simp at this ⊢; omega
        clear hc
        have kk : (k : Int) < (l.length : Int) := by omega
        by_cases h1 : l[k].1.length ≤ 65535 ∧ l[k].2.length ≤ 65535
        · have ht1 := Lib.hid (text_le l[k].1 h1.1)
          have ht2 := Lib.hid (text_le l[k].2 h1.2)
          have H1 := Lib.hid h1
          clear h1
          go_wp2_with fail
          refine (rText_any _ _ (by omega)).mono ?_; rw [ht1.out, txV_mk]; rintro e w2 ⟨rfl, hB2⟩
          replace d2 := Below.keeps hB2 d2
          clear d1
          go_wp2_with fail
          refine (rText_any _ _ (by omega)).mono ?_; rw [ht2.out, txV_mk]; rintro e w3 ⟨rfl, hB3⟩
          go_wp2
          go_roundw
          case rel =>
            obtain ⟨rfl, hf⟩ := hH.out
            refine ⟨k + 1, _, by omega, by go_num, rfl, ?_, ⟨?_, fits_take_p l k h0 hf H1.out.1 H1.out.2⟩, bt hB (bt hB2 hB3)⟩
            · simp at hm3 ⊢; omega
            · rw [texts_take_p l k h0]; simp
          case measure => simp [intOf]; omega
        · have hno := Lib.hid (fits_not_p l k h0 h1)
          by_cases h2 : l[k].1.length ≤ 65535
          · have h3 : ¬ l[k].2.length ≤ 65535 := fun h3 => h1 ⟨h2, h3⟩
            have ht1 := Lib.hid (text_le l[k].1 h2)
            have ht2 := Lib.hid (text_gt l[k].2 h3)
            clear h1 h2 h3
            go_wp2_with fail
            refine (rText_any _ _ (by omega)).mono ?_; rw [ht1.out, txV_mk]; rintro e w2 ⟨rfl, hB2⟩
            replace d2 := Below.keeps hB2 d2
            clear d1
            go_wp2_with fail
            refine (rText_any _ _ (by omega)).mono ?_; rw [ht2.out, txV_mk]; rintro e w3 ⟨rfl, hB3⟩
            go_wp2
            go_ret2
            exact ⟨by rw [putP_fat l h hno.out]; rfl, bt hB (bt hB2 hB3)⟩
          · have ht1 := Lib.hid (text_gt l[k].1 h2)
            obtain ⟨x2, e2, ht2⟩ : ∃ x e, text l[k].2 = (x, e) := ⟨_, _, rfl⟩
            have HT2 := Lib.hid ht2
            clear h1 h2 ht2
            go_wp2_with fail
            refine (rText_any _ _ (by omega)).mono ?_; rw [ht1.out, txV_mk]; rintro e w2 ⟨rfl, hB2⟩
            replace d2 := Below.keeps hB2 d2
            clear d1
            go_wp2_with fail
            refine (rText_any _ _ (by omega)).mono ?_; rw [HT2.out, txV_mk]; rintro e w3 ⟨rfl, hB3⟩
            go_wp2
            go_ret2
            exact ⟨by rw [putP_fat l h hno.out]; rfl, bt hB (bt hB2 hB3)⟩
      · obtain rfl : k = l.length := by omega
        obtain ⟨rfl, hf⟩ := hH.out
        rw [List.take_length] at hf ⊢
        have HF := Lib.hid hf
        clear hf hc hH
        cases hst : sorted l
        · have hp := Lib.hid (putP_mixed l h HF.out hst)
          have HS := Lib.hid hst; clear hst
          go_wp2_with fail
          refine (rSorted_any _ l _ (HR.out.below hB) (by omega)).mono ?_; rw [HS.out]; rintro e w2 ⟨rfl, hB2⟩
          go_wp2
          go_ret2
          exact ⟨by rw [hp.out]; rfl, bt hB hB2⟩
        · have hp := Lib.hid (putP_ok l h HF.out hst)
          have HS := Lib.hid hst; clear hst
          go_wp2_with fail
          refine (rSorted_any _ l _ (HR.out.below hB) (by omega)).mono ?_; rw [HS.out]; rintro e w2 ⟨rfl, hB2⟩
          go_wp2
          go_ret2
          exact ⟨by rw [hp.out]; rfl, bt hB hB2⟩
  · rw [putP_long l h, txV_mk]
    go_enter Try.func28, Try.ntmps28
    go_wp2
    go_ret2
    exact ⟨rfl, Below.refl _ _⟩

theorem putS2 (n : Nat) (h : n ≤ 65535) : putS n 2 = (num n 2, 0) := by
  unfold putS
  have e : (256 : Nat) ^ (2 : Int).toNat = 65536 := by decide
  rw [if_pos (by simp only [putOk, decide_eq_true_eq, e]; omega)]
  rfl
theorem Bld.drew {B b : Nat} {l : List UInt8} {w : World} (h : Bld B b l w) : Bld B b l w.drew := Bld.below h (b_drew w)

set_option maxRecDepth 100000 in
set_option maxHeartbeats 4000000 in
theorem PutP_any (v : Value) (l : List PR) (w : World) (hr : RP w v l) (hs : (texts (tx l)).length ≤ 1000000000) (hl : l.length ≤ 1000000000) :
    Calls Try.prog 27 #[v] w fun e w' => e = .returned (txV (putP l)) ∧ Below w.heap.size w w' := by
  have HR := Lib.hid hr
  obtain ⟨a, cap, rfl, _, hc⟩ := hr.open
  clear hr
  by_cases h : l.length ≤ 65535
  · have hb := Bld.fresh w
    have HP := Lib.hid (putS2 l.length h)
    go_enter Try.func27, Try.ntmps27
    go_wp2_with fail
    refine (Put_any _ _ _ (by omega) (by omega)).mono ?_; rw [show ((2 : Int)) = ((2 : Nat) : Int) from rfl] at *; rw [HP.out]; rintro e w1 ⟨rfl, hB1⟩
    have hb1 := Bld.below hb hB1
    go_wp2_with fail
    refine (WriteString_any _ _ _ _ _ hb1 (by simp)).mono ?_; rintro e w2 ⟨rfl, hb2, hB2⟩
    have hB0 : Below w.heap.size w w2 := (b_alloc w _).trans ((hB1.mono (by simp)).trans hB2)
    rw [List.nil_append] at hb2
    clear hb hb1 hB1 hB2
    go_wp2
    go_loopw [28] (fun i wr => ∃ k : Nat, k ≤ l.length ∧ i = .int .i64 k ∧ Bld w.heap.size w.heap.size (num l.length 2 ++ texts (tx (l.take k))) wr ∧ Hid (fits (tx (l.take k)) = true) ∧ Below w.heap.size w wr) (fun i _ => l.length - (intOf i).toNat)
    case atStart => exact ⟨0, by omega, rfl, by simpa [texts, tx] using hb2, rfl, hB0⟩
    case round =>
      obtain ⟨k, hk, rfl, hb, hH, hB⟩ := hrel
      clear hb2 hB0
      obtain ⟨W0, hW0⟩ : ∃ W, W = wr := ⟨_, rfl⟩
      subst hW0
      by_cases h0 : k < l.length
      · obtain ⟨b, off, rfl, d1, d2⟩ := hc k h0
        replace d1 := Below.keeps hB d1
        replace d2 := Below.keeps hB d2
        have hmm := texts_mem_p l k h0
        clear hc
        have kk : (k : Int) < (l.length : Int) := by omega
        have hm3 : (num l.length 2 ++ texts (tx (l.take k))).length + (2 + l[k].1.length) + (2 + l[k].2.length) ≤ 1000000002 := by
          have := texts_le_p l (k + 1)
          rw [texts_take_p l k h0] at this
          simp at this ⊢; omega
        obtain ⟨x1, x2, hBx⟩ := two_new W0 (.cells #[.string (bs l[k].1), .string (bs l[k].2)] 52) (.cells #[.string (bs l[k].1), .string (bs l[k].2)] 9)
        have hbx := hb.below hBx
        go_wp2
        have hszB := hB.size
        revert x1 x2 hBx hbx
        generalize ((W0.alloc (.cells #[.string (bs l[k].1), .string (bs l[k].2)] 52)).alloc (.cells #[.string (bs l[k].1), .string (bs l[k].2)] 9)) = wx
        intro x1 x2 hBx hbx
        go_loopw [38] (fun i wy => ∃ j : Nat, j ≤ 2 ∧ i = .int .i64 j ∧ Bld w.heap.size w.heap.size (num l.length 2 ++ texts (tx (l.take k)) ++ texts ([l[k].1, l[k].2].take j)) wy ∧ Hid (fits ([l[k].1, l[k].2].take j) = true) ∧ wy.heap[W0.heap.size + 1]? = some (.cells #[.string (bs l[k].1), .string (bs l[k].2)] 9 (0, 0)) ∧ Below w.heap.size wx wy) (fun i _ => 2 - (intOf i).toNat)
        case atStart => exact ⟨0, by omega, rfl, by simpa [texts] using hbx, rfl, x2, Below.refl _ _⟩
        case round =>
          obtain ⟨j, hj, rfl, hby, hHy, hxy, hBy⟩ := hrel
          have hBt : Below w.heap.size w wr := hB.trans ((hBx.mono hB.size).trans hBy)
          have hszW := hBx.size
          have y1 : wr.cell? ⟨W0.heap.size + 1, 0, none⟩ = some (.string (bs l[k].1)) := by rw [Lib.cell_of_heap hxy]; rfl
          have y2 : wr.cell? ⟨W0.heap.size + 1, 1, none⟩ = some (.string (bs l[k].2)) := by rw [Lib.cell_of_heap hxy]; rfl
          have hne : W0.heap.size + 1 ≠ w.heap.size := by omega
          match j, hj with
          | 0, _ =>
            by_cases h1 : l[k].1.length ≤ 65535
            · have ht := Lib.hid (text_le l[k].1 h1)
              go_wp2_with fail
              refine (Text_any _ _ (by omega)).mono ?_; rw [ht.out, txV_mk]; rintro e w3 ⟨rfl, hB3⟩
              have hb3 := hby.below hB3
              have hx3 := (hB3.block _ (lt_of_block hxy)).trans hxy
              go_wp2_with fail
              refine (WriteString_kept _ _ _ _ _ hb3 (by simp [texts] at hm3 ⊢; omega)).mono ?_; rintro e w4 ⟨rfl, hb4, hB4, hK4⟩
              have hx4 := hK4 _ _ _ _ hne (by decide) hx3
              go_wp2
              go_roundw
              case rel => exact ⟨1, by omega, by go_num, by simpa [texts] using hb4, by simp [Hid, fits, h1], hx4, (hBy.trans (hB3.mono (by have := hBy.size; have := hB.size; omega))).trans hB4⟩
              case measure => simp [intOf]
            · have ht := Lib.hid (text_gt l[k].1 h1)
              have hno := Lib.hid (fits_not_p l k h0 (fun c => h1 c.1))
              clear h1
              go_wp2_with fail
              refine (Text_any _ _ (by omega)).mono ?_; rw [ht.out, txV_mk]; rintro e w3 ⟨rfl, hB3⟩
              go_wp2
              go_ret2
              exact ⟨by rw [putP_fat l h hno.out]; rfl, bt hBt hB3⟩
          | 1, _ =>
            have hH1 : l[k].1.length ≤ 65535 := by have := hHy.out; simpa [fits] using this
            by_cases h1 : l[k].2.length ≤ 65535
            · have ht := Lib.hid (text_le l[k].2 h1)
              go_wp2_with fail
              refine (Text_any _ _ (by omega)).mono ?_; rw [ht.out, txV_mk]; rintro e w3 ⟨rfl, hB3⟩
              have hb3 := hby.below hB3
              have hx3 := (hB3.block _ (lt_of_block hxy)).trans hxy
              go_wp2_with fail
              refine (WriteString_kept _ _ _ _ _ hb3 (by simp [texts] at hm3 ⊢; omega)).mono ?_; rintro e w4 ⟨rfl, hb4, hB4, hK4⟩
              have hx4 := hK4 _ _ _ _ hne (by decide) hx3
              go_wp2
              go_roundw
              case rel => exact ⟨2, by omega, by go_num, by simpa [texts] using hb4, by simp [Hid, fits, hH1, h1], hx4, (hBy.trans (hB3.mono (by have := hBy.size; have := hB.size; omega))).trans hB4⟩
              case measure => simp [intOf]
            · have ht := Lib.hid (text_gt l[k].2 h1)
              have hno := Lib.hid (fits_not_p l k h0 (fun c => h1 c.2))
              clear h1
              go_wp2_with fail
              refine (Text_any _ _ (by omega)).mono ?_; rw [ht.out, txV_mk]; rintro e w3 ⟨rfl, hB3⟩
              go_wp2
              go_ret2
              exact ⟨by rw [putP_fat l h hno.out]; rfl, bt hBt hB3⟩
          | 2, _ =>
            have hf2 := hHy.out
            have hff : l[k].1.length ≤ 65535 ∧ l[k].2.length ≤ 65535 := by simpa [fits] using hf2
            have HFF := Lib.hid hff
            clear hf2 hff
            go_wp2
            go_roundw
            case rel =>
              refine ⟨k + 1, by omega, by go_num, ?_, fits_take_p l k h0 hH.out HFF.out.1 HFF.out.2, hBt⟩
              rw [texts_take_p l k h0]; simpa [texts] using hby
            case measure => simp [intOf]; omega
      · obtain rfl : k = l.length := by omega
        rw [List.take_length] at hb hH
        have HF := Lib.hid hH.out
        clear hc hH
        cases hst : sorted l
        · have hp := Lib.hid (putP_mixed l h HF.out hst)
          have HS := Lib.hid hst; clear hst
          go_wp2_with fail
          refine (Check_any _ l _ (HR.out.below hB) (by omega)).mono ?_; rw [chk, HS.out]; rintro e w2 ⟨rfl, hB2⟩
          go_wp2
          go_ret2
          exact ⟨by rw [hp.out]; rfl, bt hB hB2⟩
        · have hp := Lib.hid (putP_ok l h HF.out hst)
          have HS := Lib.hid hst; clear hst
          go_wp2_with fail
          refine (Check_any _ l _ (HR.out.below hB) (by omega)).mono ?_; rw [chk, HS.out]; rintro e w2 ⟨rfl, hB2⟩
          have hb2 := hb.below hB2
          go_wp2_with fail
          refine (BString_any _ _ _ _ hb2).mono ?_; rintro e w3 ⟨rfl, hB3⟩
          go_wp2
          go_ret2
          exact ⟨by rw [hp.out]; rfl, (bt hB hB2).trans hB3⟩
  · rw [putP_long l h, txV_mk]
    go_enter Try.func27, Try.ntmps27
    go_wp2
    go_ret2
    exact ⟨rfl, Below.refl _ _⟩
end Go.Proofs.Ytdebgkjekcppmaa
namespace Go.Proofs.Ytdebgkjekcppmaa
open Go.RowKit Oct

/-- a pair's first text, its rest, its second -/
def rest1 (l : List UInt8) : List UInt8 := l.drop (readT l).2.1
def pok (l : List UInt8) : Prop := (readT l).2.2 = 0 ∧ (readT (rest1 l)).2.2 = 0
instance (l : List UInt8) : Decidable (pok l) := by unfold pok; infer_instance
def pnow (l : List UInt8) : PR := ((readT l).1, (readT (rest1 l)).1)
def plen (l : List UInt8) : Nat := (readT l).2.1 + (readT (rest1 l)).2.1
def readPs : Nat → List UInt8 → Option (List PR)
  | 0, l => if l = [] then some [] else none
  | k + 1, l => if pok l then (readPs k (l.drop (plen l))).map (pnow l :: ·) else none
/-- Get -/
def getP (l : List UInt8) : Option (List PR) :=
  if l.length < 2 then none else (readPs (val (l.take 2)) (l.drop 2)).bind fun r => if sorted r then some r else none
theorem readPs_ok (k : Nat) (l : List UInt8) (h : pok l) : readPs (k + 1) l = (readPs k (l.drop (plen l))).map (pnow l :: ·) := if_pos h
theorem readPs_no (k : Nat) (l : List UInt8) (h : ¬ pok l) : readPs (k + 1) l = none := if_neg h
theorem plen_le (l : List UInt8) (h : pok l) : plen l ≤ l.length := by
  have h1 := (readT_le l h.1).1
  have h2 := (readT_le _ h.2).1
  unfold plen
  unfold rest1 at h2 ⊢
  rw [List.length_drop] at h2
  omega
def PsInv (l0 : List UInt8) (k0 m : Nat) (r : List PR) (l : List UInt8) : Prop := readPs k0 l0 = (readPs m l).map (r ++ ·)
theorem PsInv.start (l0 : List UInt8) (k0 : Nat) : PsInv l0 k0 k0 [] l0 := by simp [PsInv]
theorem PsInv.step {l0 : List UInt8} {k0 m : Nat} {r : List PR} {l : List UInt8} (h : PsInv l0 k0 (m + 1) r l) (ho : pok l) : PsInv l0 k0 m (r ++ [pnow l]) (l.drop (plen l)) := by
  unfold PsInv at h ⊢
  rw [h, readPs_ok m l ho, Option.map_map]
  congr 1
  funext x
  simp
theorem PsInv.no {l0 : List UInt8} {k0 m : Nat} {r : List PR} {l : List UInt8} (h : PsInv l0 k0 (m + 1) r l) (ho : ¬ pok l) : readPs k0 l0 = none := by
  rw [h, readPs_no m l ho]; rfl
theorem PsInv.fin {l0 : List UInt8} {k0 : Nat} {r : List PR} {l : List UInt8} (h : PsInv l0 k0 0 r l) : readPs k0 l0 = if l = [] then some r else none := by
  rw [h, readPs]; split <;> simp
theorem getP_short (l : List UInt8) (h : l.length < 2) : getP l = none := if_pos h
theorem getP_no (l : List UInt8) (h : readPs (val (l.take 2)) (l.drop 2) = none) : getP l = none := by
  unfold getP; split
  · rfl
  · rw [h]; rfl
theorem getP_some (l : List UInt8) (h0 : ¬ l.length < 2) (r : List PR) (h : readPs (val (l.take 2)) (l.drop 2) = some r) : getP l = if sorted r then some r else none := by
  rw [getP, if_neg h0, h]; rfl
end Go.Proofs.Ytdebgkjekcppmaa
namespace Go.Proofs.Ytdebgkjekcppmaa
open Go.RowKit Oct

theorem get_no (l : List UInt8) (h : l.length < 1 ∨ 8 < l.length) : getS l = (0, 2) := by unfold getS; rw [if_neg (by omega)]
theorem get_ok (l : List UInt8) (h : 1 ≤ l.length) (h' : l.length ≤ 8) : getS l = ((val l : Int), 0) := by unfold getS; rw [if_pos (by omega)]
theorem len_data (s : ByteArray) : s.data.toList.length = s.size := by simp

set_option maxRecDepth 100000 in
set_option maxHeartbeats 400000 in
theorem Get_any (s : ByteArray) (w : World) (hs : s.size ≤ maxLen) :
    Calls Try.prog 70 #[.string s] w fun e w' => e = .returned (.tuple #[.int .u64 (getS s.data.toList).1, .int .i64 (getS s.data.toList).2]) ∧ w = w' := by
  unfold maxLen at hs
  have hl := len_data s
  by_cases h1 : s.size < 1 ∨ 8 < s.size
  · rw [get_no s.data.toList (by omega)]
    clear hl
    rcases h1 with h1 | h1
    all_goals
      go_enter Try.func70, Try.ntmps70
      go_wp2
      go_ret2
      exact ⟨rfl, rfl⟩
  · rw [get_ok s.data.toList (by omega) (by omega)]
    go_enter Try.func70, Try.ntmps70
    go_wp2
    go_loop [2, 15] (fun v i => ∃ k x : Nat, k ≤ s.size ∧ i = .int .i64 k ∧ v = .int .u64 x ∧ x < 256 ^ k ∧ Hid (x = val (s.data.toList.take k))) (fun _ i => s.size - (intOf i).toNat)
    case atStart => exact ⟨0, 0, by omega, rfl, rfl, by decide, rfl⟩
    case round =>
      obtain ⟨k, x, hk, rfl, rfl, hx, hH⟩ := hrel
      by_cases h0 : k < s.size
      · have hp : 256 ^ k ≤ 256 ^ 7 := Nat.pow_le_pow_right (by decide) (by omega)
        have hp0 : 0 < 256 ^ k := Nat.pow_pos (by decide)
        have hc := s[k].toNat_lt
        have hp8 : (2 : Nat) ^ (8 * k) = 256 ^ k := by rw [Nat.pow_mul]
        have hmul : s[k].toNat * 256 ^ k ≤ 255 * 256 ^ k := Nat.mul_le_mul_right _ (by omega)
        have E := or_hi x s[k].toNat (8 * k) (by omega) (by rw [hp8]; exact hx) (by rw [hp8]; omega)
        have V := val_take s.data.toList k (by omega)
        have e : (s.data.toList[k]'(by omega)) = s[k] := by simp; rfl
        rw [e] at V
        rw [hp8] at E
        have E := Lib.hid E
        have V := Lib.hid V
        have hx2 : Hid (x + s[k].toNat * 256 ^ k < 256 ^ (k + 1)) := by show _ < _; rw [Nat.pow_succ]; omega
        clear hp hp0 hp8 hmul hc
        rename_i E1 V1; clear E1 V1
        go_wp2
        go_round
        case rel => exact ⟨k + 1, x + s[k].toNat * 256 ^ k, by omega, by go_num, v_int E.out, hx2.out, by show _ = _; rw [V.out, hH.out]⟩
        case measure => simp [intOf]; omega
      · obtain rfl : k = s.size := by omega
        go_wp2
        go_ret2
        have hh : x = val s.data.toList := by rw [hH.out, List.take_of_length_le (by omega)]
        subst hh
        exact ⟨rfl, rfl⟩
end Go.Proofs.Ytdebgkjekcppmaa
namespace Go.Proofs.Ytdebgkjekcppmaa
open Go.RowKit Oct

/-- what Get gives -/
def PsRes (o : Option (List PR)) (base : Nat) (e : Ending) (w' : World) : Prop :=
  match o with
  | some r => ∃ v, e = .returned (.tuple #[v, .int .i64 0]) ∧ OP w' base v r
  | none => e = .returned (.tuple #[.slice none 0 0, .int .i64 7])
theorem b_drewB (w : World) (b : Nat) : Below b w w.drew := (Below.refl _ _).drew
theorem rdV_at' (r : List UInt8 × Nat × Int) : rdV r = .tuple #[.string (bs r.1), .int .i64 r.2.1, .int .i64 r.2.2] := rfl

set_option maxRecDepth 100000 in
set_option maxHeartbeats 4000000 in
theorem rGetP_any (l : List UInt8) (w : World) (hs : l.length ≤ 140737488355328) :
    Calls Try.prog 30 #[.string (bs l)] w fun e w' => PsRes (getP l) w.heap.size e w' ∧ Below w.heap.size w w' := by
  by_cases h : l.length < 2
  · rw [getP_short l h]
    go_enter Try.func30, Try.ntmps30
    go_wp2
    go_ret2
    exact ⟨rfl, Below.refl _ _⟩
  · have hv := val2_lt l
    go_enter Try.func30, Try.ntmps30
    go_wp2_with (go_at_call 72; refine (value_any _ _ (by simp; omega)).mono ?_; rw [bs_data]; rintro e w' ⟨rfl, rfl⟩)
    go_loopw [0, 5, 6] (fun s v i wr => ∃ k m : Nat, ∃ r : List PR, ∃ t : List UInt8, k + m = val (l.take 2) ∧ i = .int .i64 k ∧ s = .string (bs t) ∧ t.length ≤ 140737488355328 ∧ r.length = k ∧ OP wr w.heap.size v r ∧ Hid (PsInv (l.drop 2) (val (l.take 2)) m r t) ∧ Below w.heap.size w wr) (fun _ _ i _ => val (l.take 2) - (intOf i).toNat)
    case atStart => exact ⟨0, val (l.take 2), [], _, by omega, rfl, rfl, by simp; omega, rfl, OP.nil _ _, PsInv.start _ _, Below.refl _ _⟩
    case round =>
      obtain ⟨k, m, r, t, hkm, rfl, rfl, ht, hrk, hown, hH, hB⟩ := hrel
      have HK := Lib.hid hkm
      have HR := Lib.hid hrk
      have hk1 : r.length ≤ 65536 := by omega
      by_cases h0 : k < val (l.take 2)
      · clear hkm hrk
        obtain ⟨m, rfl⟩ : ∃ m', m = m' + 1 := ⟨m - 1, by have := HK.out; omega⟩
        by_cases ho : (readT t).2.2 = 0
        · have hle := (readT_le t ho).1
          have hr1 : (rest1 t).length ≤ 140737488355328 := by unfold rest1; simp; omega
          go_wp2_with fail
          refine (rRead_any _ _ ht).mono ?_; rw [rdV_at']; rintro e w2 ⟨rfl, hB2⟩
          go_wp2_with fail
          have HO := Lib.hid ho
          by_cases ho2 : (readT (rest1 t)).2.2 = 0
          · have hp : pok t := ⟨ho, ho2⟩
            have hpl := plen_le t hp
            have HP := Lib.hid hp
            clear hp ho
            have hown2 := hown.below hB2
            refine (rRead_any (rest1 t) _ hr1).mono ?_; rw [rdV_at']; rintro e w3 ⟨rfl, hB3⟩
            have hown3 := hown2.below hB3
            have hby : (r.length + 1) * 32 ≤ 140737488355328 := by omega
            have hbase := (bt hB (bt hB2 hB3)).size
            have q0 : (readT t).2.1 + (readT (rest1 t)).2.1 ≤ t.length := hpl
            have q1 : IntKind.i64.wrap (((readT t).2.1 : Int) + ((readT (rest1 t)).2.1 : Int)) = ((readT t).2.1 : Int) + ((readT (rest1 t)).2.1 : Int) := IntWalk.i64_in _ (by omega)
            have HL := Lib.hid hpl
            clear hpl
            go_wp2_with (at_builtin; refine append1P w3 (pnow t) rfl _ _ 35 rfl Try.underlying35 w.heap.size _ r rfl hown3 _ rfl hby hbase ?_; intro v' w4 hown4 hB4)
            go_roundw
            case rel => exact ⟨k + 1, m, r ++ [pnow t], _, by have := HK.out; omega, by go_num, rfl, by simp; omega, by simp [HR.out], hown4, hH.out.step HP.out, (bt hB (bt hB2 hB3)).trans hB4⟩
            case measure => simp [intOf]; omega
          · have HO2 := Lib.hid (fun hp : pok t => ho2 hp.2)
            have ho1 : ((readT (rest1 t)).2.2 == 0) = false := by simpa using ho2
            have ho3 : ((readT (rest1 t)).2.2 != 0) = true := by simpa using ho2
            clear ho ho2
            refine (rRead_any (rest1 t) _ hr1).mono ?_; rw [rdV_at']; rintro e w3 ⟨rfl, hB3⟩
            go_wp2
            go_ret2
            rw [getP_no l (hH.out.no HO2.out)]
            exact ⟨rfl, bt hB (bt hB2 hB3)⟩
        · have ho1 : ((readT t).2.2 == 0) = false := by simpa using ho
          have ho2 : ((readT t).2.2 != 0) = true := by simpa using ho
          have HO := Lib.hid (fun hp : pok t => ho hp.1)
          clear ho
          go_wp2_with fail
          refine (rRead_any _ _ ht).mono ?_; rw [rdV_at']; rintro e w2 ⟨rfl, hB2⟩
          go_wp2
          go_ret2
          rw [getP_no l (hH.out.no HO.out)]
          exact ⟨rfl, bt hB hB2⟩
      · obtain rfl : m = 0 := by omega
        have hF := hH.out.fin
        by_cases hz : t = []
        · subst hz
          rw [if_pos rfl] at hF
          have hG := getP_some l h r hF
          clear hkm hrk hF
          cases hst : sorted r
          · have hG2 : getP l = none := by rw [hG, hst]; rfl
            have HG := Lib.hid hG2
            have HS := Lib.hid hst
            clear hG hG2 hst
            go_wp2_with fail
            refine (rSorted_any _ r _ hown.reads (by omega)).mono ?_; rw [HS.out]; rintro e w2 ⟨rfl, hB2⟩
            go_wp2
            go_ret2
            rw [HG.out]
            exact ⟨rfl, bt hB hB2⟩
          · have hG2 : getP l = some r := by rw [hG, hst]; rfl
            have HG := Lib.hid hG2
            have HS := Lib.hid hst
            clear hG hG2 hst
            go_wp2_with fail
            refine (rSorted_any _ r _ hown.reads (by omega)).mono ?_; rw [HS.out]; rintro e w2 ⟨rfl, hB2⟩
            have hown2 := hown.below hB2
            go_wp2
            go_ret2
            rw [HG.out]
            exact ⟨⟨_, rfl, hown2⟩, bt hB hB2⟩
        · rw [if_neg hz] at hF
          have HG := Lib.hid (getP_no l hF)
          clear hkm hrk hF
          have hz2 : t.isEmpty = false := by simpa using hz
          go_wp2
          go_ret2
          rw [HG.out]
          exact ⟨rfl, hB⟩
theorem getS2 (l : List UInt8) (h : ¬ l.length < 2) : getS (l.take 2) = ((val (l.take 2) : Int), 0) := by
  unfold getS; rw [if_pos (by simp; omega)]

set_option maxRecDepth 100000 in
set_option maxHeartbeats 4000000 in
theorem GetP_any (l : List UInt8) (w : World) (hs : l.length ≤ 140737488355328) :
    Calls Try.prog 29 #[.string (bs l)] w fun e w' => PsRes (getP l) w.heap.size e w' ∧ Below w.heap.size w w' := by
  by_cases h : l.length < 2
  · rw [getP_short l h]
    go_enter Try.func29, Try.ntmps29
    go_wp2
    go_ret2
    exact ⟨rfl, Below.refl _ _⟩
  · have hv := val2_lt l
    go_enter Try.func29, Try.ntmps29
    have HG0 := Lib.hid (getS2 l h)
    go_wp2_with (go_at_call 70; refine (Get_any _ _ (by simp [maxLen]; omega)).mono ?_; rw [bs_data, HG0.out]; rintro e w' ⟨rfl, rfl⟩)
    go_loopw [0, 2, 23] (fun s v i wr => ∃ k m : Nat, ∃ r : List PR, ∃ t : List UInt8, k + m = val (l.take 2) ∧ i = .int .u64 k ∧ s = .string (bs t) ∧ t.length ≤ 140737488355328 ∧ r.length = k ∧ OP wr w.heap.size v r ∧ Hid (PsInv (l.drop 2) (val (l.take 2)) m r t) ∧ Below w.heap.size w wr) (fun _ _ i _ => val (l.take 2) - (intOf i).toNat)
    case atStart => exact ⟨0, val (l.take 2), [], _, by omega, rfl, rfl, by simp; omega, rfl, OP.nil _ _, PsInv.start _ _, Below.refl _ _⟩
    case round =>
      obtain ⟨k, m, r, t, hkm, rfl, rfl, ht, hrk, hown, hH, hB⟩ := hrel
      have HK := Lib.hid hkm
      have HR := Lib.hid hrk
      have hk1 : r.length ≤ 65536 := by omega
      by_cases h0 : k < val (l.take 2)
      · clear hkm hrk
        obtain ⟨m, rfl⟩ : ∃ m', m = m' + 1 := ⟨m - 1, by have := HK.out; omega⟩
        by_cases ho : (readT t).2.2 = 0
        · have hle := (readT_le t ho).1
          have hr1 : (rest1 t).length ≤ 140737488355328 := by unfold rest1; simp; omega
          go_wp2_with fail
          refine (Read_any _ _ ht).mono ?_; rw [rdV_at']; rintro e w2 ⟨rfl, hB2⟩
          go_wp2_with fail
          have HO := Lib.hid ho
          by_cases ho2 : (readT (rest1 t)).2.2 = 0
          · have hp : pok t := ⟨ho, ho2⟩
            have hpl := plen_le t hp
            have HP := Lib.hid hp
            clear hp ho
            have hown2 := hown.below hB2
            refine (Read_any (rest1 t) _ hr1).mono ?_; rw [rdV_at']; rintro e w3 ⟨rfl, hB3⟩
            have hown3 := hown2.below hB3
            have hby : (r.length + 1) * 32 ≤ 140737488355328 := by omega
            have hbase := (bt hB (bt hB2 hB3)).size
            have q0 : (readT t).2.1 + (readT (rest1 t)).2.1 ≤ t.length := hpl
            have q1 : IntKind.i64.wrap (((readT t).2.1 : Int) + ((readT (rest1 t)).2.1 : Int)) = ((readT t).2.1 : Int) + ((readT (rest1 t)).2.1 : Int) := IntWalk.i64_in _ (by omega)
            have HL := Lib.hid hpl
            clear hpl
            have q2 : (0 : Int) ≤ ((readT t).2.1 : Int) + ((readT (rest1 t)).2.1 : Int) := by omega
            have q3 : (((readT t).2.1 : Int) + ((readT (rest1 t)).2.1 : Int)).toNat = (readT t).2.1 + (readT (rest1 t)).2.1 := by omega
            have q4 : ((readT t).2.1 : Int) + ((readT (rest1 t)).2.1 : Int) ≤ (t.length : Int) := by omega
            have hown3d := World.ownsRow.drew hown3
            have hbased : w.heap.size ≤ w3.drew.heap.size := hbase
            obtain ⟨ao, co, rfl⟩ := owns_slice hown
            clear hown hown2 hown3
            go_wp2
            go_region_law (refine step_append1P w3.drew (pnow t) rfl _ _ 35 rfl Try.underlying35 w.heap.size _ r rfl hown3d _ rfl hby hbased ?_; intro g cap w4 hown4 hB4)
            all_goals
              simp only [List.getElem_toArray, List.getElem_cons_succ, List.getElem_cons_zero]
              go_frame
              go_wp2
              go_roundw
              case rel => exact ⟨k + 1, m, r ++ [pnow t], _, by have := HK.out; omega, by go_num, rfl, by simp; omega, by simp [HR.out], hown4, hH.out.step HP.out, (bt hB (bt hB2 hB3)).trans ((b_drewB w3 _).trans hB4)⟩
              case measure => simp [intOf]; omega
          · have HO2 := Lib.hid (fun hp : pok t => ho2 hp.2)
            have ho1 : ((readT (rest1 t)).2.2 == 0) = false := by simpa using ho2
            have ho3 : ((readT (rest1 t)).2.2 != 0) = true := by simpa using ho2
            clear ho ho2
            refine (Read_any (rest1 t) _ hr1).mono ?_; rw [rdV_at']; rintro e w3 ⟨rfl, hB3⟩
            go_wp2
            go_ret2
            rw [getP_no l (hH.out.no HO2.out)]
            exact ⟨rfl, bt hB (bt hB2 hB3)⟩
        · have ho1 : ((readT t).2.2 == 0) = false := by simpa using ho
          have ho2 : ((readT t).2.2 != 0) = true := by simpa using ho
          have HO := Lib.hid (fun hp : pok t => ho hp.1)
          clear ho
          go_wp2_with fail
          refine (Read_any _ _ ht).mono ?_; rw [rdV_at']; rintro e w2 ⟨rfl, hB2⟩
          go_wp2
          go_ret2
          rw [getP_no l (hH.out.no HO.out)]
          exact ⟨rfl, bt hB hB2⟩
      · obtain rfl : m = 0 := by omega
        have hF := hH.out.fin
        by_cases hz : t = []
        · subst hz
          rw [if_pos rfl] at hF
          have hG := getP_some l h r hF
          clear hkm hrk hF
          cases hst : sorted r
          · have hG2 : getP l = none := by rw [hG, hst]; rfl
            have HG := Lib.hid hG2
            have HS := Lib.hid hst
            clear hG hG2 hst
            go_wp2_with fail
            refine (Check_any _ r _ hown.reads (by omega)).mono ?_; rw [chk, HS.out]; rintro e w2 ⟨rfl, hB2⟩
            go_wp2
            go_ret2
            rw [HG.out]
            exact ⟨rfl, bt hB hB2⟩
          · have hG2 : getP l = some r := by rw [hG, hst]; rfl
            have HG := Lib.hid hG2
            have HS := Lib.hid hst
            clear hG hG2 hst
            go_wp2_with fail
            refine (Check_any _ r _ hown.reads (by omega)).mono ?_; rw [chk, HS.out]; rintro e w2 ⟨rfl, hB2⟩
            have hown2 := hown.below hB2
            go_wp2
            go_ret2
            rw [HG.out]
            exact ⟨⟨_, rfl, hown2⟩, bt hB hB2⟩
        · rw [if_neg hz] at hF
          have HG := Lib.hid (getP_no l hF)
          clear hkm hrk hF
          have hz2 : t.isEmpty = false := by simpa using hz
          go_wp2
          go_ret2
          rw [HG.out]
          exact ⟨rfl, hB⟩
end Go.Proofs.Ytdebgkjekcppmaa
namespace Go.Proofs.Ytdebgkjekcppmaa
open Go.RowKit Oct

theorem size_alloc' (w : World) (o : Obj) : (w.alloc o).heap.size = w.heap.size + 1 := by simp
theorem b_drew'' (w : World) (b : Nat) : Below b w w.drew := (Below.refl _ _).drew
theorem size_ad (w : World) (o : Obj) : w.heap.size ≤ (w.alloc o).drew.heap.size := by show w.heap.size ≤ (w.alloc o).heap.size; simp
theorem RR.two (w : World) (l1 l2 : List PR) (e e' : TypeId) :
    RR (((w.alloc (.cells (pcells l1).toArray e)).alloc (.cells (pcells l2).toArray e)).alloc (.cells #[.slice (some ⟨w.heap.size, 0, none⟩) l1.length l1.length, .slice (some ⟨w.heap.size + 1, 0, none⟩) l2.length l2.length] e')) (.slice (some ⟨w.heap.size + 2, 0, none⟩) 2 2) [l1, l2] := by
  refine ⟨_, _, rfl, Nat.le_refl _, (by simp), ?_⟩
  intro k hk
  have hs : ((w.alloc (.cells (pcells l1).toArray e)).alloc (.cells (pcells l2).toArray e)).heap.size = w.heap.size + 2 := by simp
  have r1 := ((RP.new w l1 e).below (b_alloc _ (.cells (pcells l2).toArray e))).below (b_alloc _ (.cells #[.slice (some ⟨w.heap.size, 0, none⟩) l1.length l1.length, .slice (some ⟨w.heap.size + 1, 0, none⟩) l2.length l2.length] e'))
  have r2 := (RP.new (w.alloc (.cells (pcells l1).toArray e)) l2 e).below (b_alloc _ (.cells #[.slice (some ⟨w.heap.size, 0, none⟩) l1.length l1.length, .slice (some ⟨w.heap.size + 1, 0, none⟩) l2.length l2.length] e'))
  rw [size_alloc'] at r2
  match k, hk with
  | 0, _ => exact ⟨_, _, _, rfl, by rw [← hs, World.cell?_alloc_new]; rfl, r1⟩
  | 1, _ => exact ⟨_, _, _, rfl, by rw [← hs, World.cell?_alloc_new]; rfl, r2⟩

theorem c_sort : srt [([98], [49]), ([97], [50]), ([98], [48])] = [([97], [50]), ([98], [49]), ([98], [48])] := by decide
theorem c_merge : srt [[([97], [49]), ([99], [49])], [([97], [48]), ([98], [48])]].flatten = [([97], [49]), ([97], [48]), ([98], [48]), ([99], [49])] := by decide
theorem c_put : putP [([97], [49])] = ([1, 0, 1, 0, 97, 1, 0, 49], 0) := by decide
theorem c_get : getP [1] = none := by decide
theorem c_chk : chk [([97], [50]), ([98], [49]), ([98], [48])] = 0 := by decide
theorem c_chk2 : chk [([98], [49]), ([97], [50])] = 2 := by decide

/-- a slot that holds a row of pairs -/
def kRow (n : Nat) (l : List PR) : Known Bel := ⟨Option Addr × Nat, fun x => .slice x.1 n x.2, fun x => some fun w => RP w (.slice x.1 n x.2) l, fun _ _ h _ _ hφ hB => by cases h; exact RP.below hφ hB⟩
theorem row_new {w' : World} {G : Value → World → Prop} {n : Nat} {l : List PR} {cs : Array Value} {e : TypeId} (hG : ∀ x w'', Bel w' w'' → (∀ φ, (kRow n l).fact x = some φ → φ w'') → G ((kRow n l).val x) w'') (hcs : cs = (pcells l).toArray) (hn : n = l.length) :
    G (.slice (some ⟨w'.heap.size, 0, none⟩) n n) (w'.alloc (.cells cs e)) := by
  subst hcs hn
  exact hG (some ⟨w'.heap.size, 0, none⟩, l.length) _ (b_alloc w' _) (fun φ h => by cases h; exact RP.new w' l e)
theorem same_true (w : World) (va vb : Value) (l : List PR) (hl : l.length ≤ 1000) (h : RP w va l) (h' : RP w vb l) :
    Calls Try.prog 31 #[va, vb] w fun e w' => e = .returned (.bool true) ∧ Below w.heap.size w w' := by
  refine (rSameP_any _ _ l l _ h h' (by omega) (by omega)).mono ?_
  rintro e w' ⟨rfl, hB⟩
  exact ⟨by rw [decide_eq_true rfl], hB⟩
theorem check_is (w : World) (va : Value) (l : List PR) (x : Int) (h0 : RP w va l) (hl : l.length ≤ 1000) (h : chk l = x) :
    Calls Try.prog 36 #[va] w fun e w' => e = .returned (.int .i64 x) ∧ Below w.heap.size w w' := by
  refine (Check_any _ l _ h0 (by omega)).mono ?_
  rintro e w' ⟨rfl, hB⟩
  exact ⟨by rw [h], hB⟩

set_option maxRecDepth 100000 in
set_option maxHeartbeats 1000000 in
theorem alive16 (w : World) : Calls Try.prog 26 #[] w fun e w' => e = .returned (.bool true) ∧ Below w.heap.size w w' := by
  go_enter Try.func26, Try.ntmps26
  go_wp2_with fail
  refine (Sort_any 3 _ [([98], [49]), ([97], [50]), ([98], [48])] _ (by decide) (RP.new w _ _) (by decide)).mono ?_
  rw [c_sort]; rintro e w1 ⟨va, rfl, hownA, hB1⟩
  obtain ⟨aa, ca, rfl⟩ := owns_slice hownA
  have hA := Lib.hid hownA
  clear hownA
  go_wp2_with fail
  refine (Merge_any _ [[([97], [49]), ([99], [49])], [([97], [48]), ([98], [48])]] _ (RR.two w1 _ _ _ _) (by decide) (by decide)).mono ?_
  rw [c_merge]; rintro e w2 ⟨vb, rfl, hownB, hB2⟩
  obtain ⟨ab, cb, rfl⟩ := owns_slice hownB
  have hBB := Lib.hid hownB
  clear hownB
  go_wp2_with fail
  refine (PutP_any _ [([97], [49])] _ (RP.new w2 _ _) (by decide) (by decide)).mono ?_
  rw [c_put, txV_mk]; rintro e w3 ⟨rfl, hB3⟩
  go_wp2_with fail
  refine (GetP_any [1] _ (by decide)).mono ?_
  rw [c_get]; rintro e w4 ⟨rfl, hB4⟩
  have hs1 : Below w.heap.size w w1 := (b_alloc w _).trans (hB1.mono (by simp))
  have hs2 : Below w1.heap.size w1 w2 := ((b_alloc w1 _).trans ((b_alloc _ _).mono (by simp))).trans (((b_alloc _ _).mono (by simp; omega)).trans (hB2.mono (by simp; omega)))
  have hs3 : Below w2.heap.size w2 w3 := (b_alloc w2 _).trans (hB3.mono (by simp))
  have hB24 := bt hs3 hB4
  have ra := Lib.hid (hA.out.reads.below (bt hs2 hB24))
  have rb := Lib.hid (hBB.out.reads.below hB24)
  have hTot := bt hs1 (bt hs2 hB24)
  clear hA hBB hB1 hB2 hB3 hB4 hs1 hs2 hs3 hB24
  obtain ⟨_, _, hv1, _, hcell⟩ := ra.out.open
  injection hv1 with hv1 _ hv3
  subst hv1
  subst hv3
  obtain ⟨g, off, rfl, d1, d2⟩ := hcell 0 (by decide)
  obtain ⟨g', off', hv2, d3, d4⟩ := hcell 1 (by decide)
  cases hv2
  clear hcell
  rw [Nat.zero_mul, Nat.add_zero] at d1 d2
  go_wp2
  refine region_known [(4, kRow 3 [([97], [50]), ([98], [49]), ([98], [48])]), (5, .exact _ (.bool true)), (12, kRow 4 [([97], [49]), ([97], [48]), ([98], [48]), ([99], [49])]), (13, .exact _ (.bool true)), (29, .exact _ (.int .i64 0)), (35, .exact _ (.agg #[.string (bs [98]), .string (bs [49])])), (38, .exact _ (.agg #[.string (bs [97]), .string (bs [50])])), (39, kRow 2 [([98], [49]), ([97], [50])]), (40, .exact _ (.int .i64 2))] (by kernel_rfl) (by kernel_rfl) ?_
  (repeat (first | (refine wpG_skip (by kernel_rfl) (fun K hK => ?_); go_big_quiet_skip; refine wpQuiet_nil (hK _ ?_); clear hK K) | (refine wpG_quiet (by rfl) (by rfl) (fun K hK => ?_); go_big_quiet_want; go_big_quiet_op; go_big_quiet_on; refine wpQuiet_nil (hK _ ?_); clear hK K)))
  refine wpG_known _ rfl (by kernel_rfl) (fun w' G hB hS hG => ?_) (fun ⟨ad, c⟩ K hK => ?_)
  · go_simp; exact row_new hG rfl rfl
  go_simp; refine hK _ ?_; clear hK K; (repeat (first | (refine wpG_skip (by kernel_rfl) (fun K hK => ?_); go_big_quiet_skip; refine wpQuiet_nil (hK _ ?_); clear hK K) | (refine wpG_quiet (by rfl) (by rfl) (fun K hK => ?_); go_big_quiet_want; go_big_quiet_op; go_big_quiet_on; refine wpQuiet_nil (hK _ ?_); clear hK K)))
  refine wpG_exact rfl (by kernel_rfl) (fun w' G hB hS hG => ?_) (fun K hK => ?_)
  · go_simp; exact calls_told hG (same_true _ _ _ _ (by decide) (ra.out.below hB) (at0 hS (by kernel_rfl)))
  go_simp; refine hK _ ?_; clear hK K; (repeat (first | (refine wpG_skip (by kernel_rfl) (fun K hK => ?_); go_big_quiet_skip; refine wpQuiet_nil (hK _ ?_); clear hK K) | (refine wpG_quiet (by rfl) (by rfl) (fun K hK => ?_); go_big_quiet_want; go_big_quiet_op; go_big_quiet_on; refine wpQuiet_nil (hK _ ?_); clear hK K)))
  refine wpG_known _ rfl (by kernel_rfl) (fun w' G hB hS hG => ?_) (fun ⟨ad, c⟩ K hK => ?_)
  · go_simp; exact row_new hG rfl rfl
  go_simp; refine hK _ ?_; clear hK K; (repeat (first | (refine wpG_skip (by kernel_rfl) (fun K hK => ?_); go_big_quiet_skip; refine wpQuiet_nil (hK _ ?_); clear hK K) | (refine wpG_quiet (by rfl) (by rfl) (fun K hK => ?_); go_big_quiet_want; go_big_quiet_op; go_big_quiet_on; refine wpQuiet_nil (hK _ ?_); clear hK K)))
  refine wpG_exact rfl (by kernel_rfl) (fun w' G hB hS hG => ?_) (fun K hK => ?_)
  · go_simp; exact calls_told hG (same_true _ _ _ _ (by decide) (rb.out.below hB) (at0 hS (by kernel_rfl)))
  go_simp; refine hK _ ?_; clear hK K; (repeat (first | (refine wpG_skip (by kernel_rfl) (fun K hK => ?_); go_big_quiet_skip; refine wpQuiet_nil (hK _ ?_); clear hK K) | (refine wpG_quiet (by rfl) (by rfl) (fun K hK => ?_); go_big_quiet_want; go_big_quiet_op; go_big_quiet_on; refine wpQuiet_nil (hK _ ?_); clear hK K)))
  refine wpG_exact rfl (by kernel_rfl) (fun w' G hB hS hG => ?_) (fun K hK => ?_)
  · go_simp; exact calls_told hG (check_is _ _ _ _ (ra.out.below hB) (by decide) c_chk)
  go_simp; refine hK _ ?_; clear hK K; (repeat (first | (refine wpG_skip (by kernel_rfl) (fun K hK => ?_); go_big_quiet_skip; refine wpQuiet_nil (hK _ ?_); clear hK K) | (refine wpG_quiet (by rfl) (by rfl) (fun K hK => ?_); go_big_quiet_want; go_big_quiet_op; go_big_quiet_on; refine wpQuiet_nil (hK _ ?_); clear hK K)))
  refine wpG_exact rfl (by kernel_rfl) (fun w' G hB hS hG => ?_) (fun K hK => ?_)
  · have e3 := Below.keeps hB d3; have e4 := Below.keeps hB d4
    go_simp; exact hG _ (Bel.refl _)
  go_simp; refine hK _ ?_; clear hK K; (repeat (first | (refine wpG_skip (by kernel_rfl) (fun K hK => ?_); go_big_quiet_skip; refine wpQuiet_nil (hK _ ?_); clear hK K) | (refine wpG_quiet (by rfl) (by rfl) (fun K hK => ?_); go_big_quiet_want; go_big_quiet_op; go_big_quiet_on; refine wpQuiet_nil (hK _ ?_); clear hK K)))
  refine wpG_exact rfl (by kernel_rfl) (fun w' G hB hS hG => ?_) (fun K hK => ?_)
  · have e3 := Below.keeps hB d1; have e4 := Below.keeps hB d2
    go_simp; exact hG _ (Bel.refl _)
  go_simp; refine hK _ ?_; clear hK K; (repeat (first | (refine wpG_skip (by kernel_rfl) (fun K hK => ?_); go_big_quiet_skip; refine wpQuiet_nil (hK _ ?_); clear hK K) | (refine wpG_quiet (by rfl) (by rfl) (fun K hK => ?_); go_big_quiet_want; go_big_quiet_op; go_big_quiet_on; refine wpQuiet_nil (hK _ ?_); clear hK K)))
  refine wpG_known _ rfl (by kernel_rfl) (fun w' G hB hS hG => ?_) (fun ⟨ad, c⟩ K hK => ?_)
  · go_simp; exact row_new hG rfl rfl
  go_simp; refine hK _ ?_; clear hK K; (repeat (first | (refine wpG_skip (by kernel_rfl) (fun K hK => ?_); go_big_quiet_skip; refine wpQuiet_nil (hK _ ?_); clear hK K) | (refine wpG_quiet (by rfl) (by rfl) (fun K hK => ?_); go_big_quiet_want; go_big_quiet_op; go_big_quiet_on; refine wpQuiet_nil (hK _ ?_); clear hK K)))
  refine wpG_exact rfl (by kernel_rfl) (fun w' G hB hS hG => ?_) (fun K hK => ?_)
  · go_simp; exact calls_told hG (check_is _ _ _ _ (at0 hS (by kernel_rfl)) (by decide) c_chk2)
  go_simp; refine hK _ ?_; clear hK K; (repeat (first | (refine wpG_skip (by kernel_rfl) (fun K hK => ?_); go_big_quiet_skip; refine wpQuiet_nil (hK _ ?_); clear hK K) | (refine wpG_quiet (by rfl) (by rfl) (fun K hK => ?_); go_big_quiet_want; go_big_quiet_op; go_big_quiet_on; refine wpQuiet_nil (hK _ ?_); clear hK K)))
  intro w' hB hA
  clear hA
  go_wp2
  go_ret
  exact ⟨rfl, bt hTot hB⟩
end Go.Proofs.Ytdebgkjekcppmaa
namespace Go.Proofs.Ytdebgkjekcppmaa
open Go.RowKit Oct

theorem tx_length (r : List PR) : (tx r).length = 2 * r.length := by
  induction r with
  | nil => rfl
  | cons p r ih => simp only [tx, List.length_cons, ih]; omega
theorem readPs_texts : ∀ (k : Nat) (l : List UInt8) (r : List PR), readPs k l = some r → readTexts (2 * k) l = some (tx r) ∧ r.length = k
  | 0, l, r, h => by
    rw [readPs] at h
    split at h
    · rename_i hl
      simp at h; subst h; subst hl; exact ⟨rfl, rfl⟩
    · simp at h
  | k + 1, l, r, h => by
    by_cases ho : pok l
    · rw [readPs_ok k l ho] at h
      obtain ⟨r', h1, rfl⟩ := Option.map_eq_some_iff.1 h
      obtain ⟨e1, e2⟩ := readPs_texts k _ r' h1
      refine ⟨?_, by simp [e2]⟩
      rw [show 2 * (k + 1) = (2 * k + 1) + 1 by omega, readTexts_ok _ _ ho.1]
      have h2 := ho.2
      unfold rest1 at h2
      rw [readTexts_ok _ _ h2, List.drop_drop]
      unfold plen rest1 at e1
      rw [e1]
      rfl
    · rw [readPs_no k l ho] at h; simp at h
theorem readTexts_cons {k : Nat} {l x : List UInt8} {q : List (List UInt8)} (h : readTexts (k + 1) l = some (x :: q)) : (readT l).2.2 = 0 ∧ (readT l).1 = x ∧ readTexts k (l.drop (readT l).2.1) = some q := by
  by_cases ho : (readT l).2.2 = 0
  · rw [readTexts_ok k l ho] at h
    obtain ⟨q', h1, h2⟩ := Option.map_eq_some_iff.1 h
    injection h2 with h2 h3
    subst h3
    exact ⟨ho, h2, h1⟩
  · rw [readTexts_no k l ho] at h; simp at h
theorem readPs_of : ∀ (r : List PR) (l : List UInt8), readTexts (2 * r.length) l = some (tx r) → readPs r.length l = some r
  | [], l, h => by
    simp only [List.length_nil, Nat.mul_zero, readTexts] at h
    split at h
    · rename_i hl; simp [readPs, hl]
    · simp at h
  | p :: r, l, h => by
    rw [List.length_cons, show 2 * (r.length + 1) = (2 * r.length + 1) + 1 by omega, tx] at h
    obtain ⟨a1, a2, a3⟩ := readTexts_cons h
    obtain ⟨b1, b2, b3⟩ := readTexts_cons a3
    have ho : pok l := ⟨a1, b1⟩
    rw [List.drop_drop] at b3
    rw [List.length_cons, readPs_ok _ _ ho]
    unfold plen rest1
    rw [readPs_of r _ b3]
    unfold pnow rest1
    rw [a2, b2]
    rfl
theorem getP_cases (l : List UInt8) (q : List PR) (h : getP l = some q) : ¬ l.length < 2 ∧ readPs (val (l.take 2)) (l.drop 2) = some q ∧ sorted q = true := by
  unfold getP at h
  split at h
  · simp at h
  · rename_i h0
    obtain ⟨r, h1, h2⟩ := Option.bind_eq_some_iff.1 h
    split at h2
    · rename_i hs
      simp at h2; subst h2
      exact ⟨h0, h1, hs⟩
    · simp at h2
theorem getP_length (l : List UInt8) (q : List PR) (h : getP l = some q) : q.length ≤ 65535 := by
  obtain ⟨_, h1, _⟩ := getP_cases l q h
  have := (readPs_texts _ _ _ h1).2
  have := val2_lt l
  omega
theorem putP_get (l : List UInt8) (q : List PR) (h : getP l = some q) : putP q = (l, 0) := by
  have hl := getP_length l q h
  obtain ⟨h0, h1, hs⟩ := getP_cases l q h
  obtain ⟨e1, e2⟩ := readPs_texts _ _ _ h1
  obtain ⟨f1, f2⟩ := readTexts_back _ _ _ e1
  rw [putP_ok q hl f1 hs, f2, e2]
  have e3 := num_val (l.take 2)
  rw [show (l.take 2).length = 2 by simp; omega] at e3
  rw [e3, List.take_append_drop]
theorem getP_put (b : List UInt8) (r : List PR) (h : putP r = (b, 0)) : getP b = some r := by
  unfold putP at h
  split at h
  · rename_i h1
    split at h
    · rename_i h2
      split at h
      · rename_i h3
        simp only [Prod.mk.injEq] at h
        obtain ⟨rfl, _⟩ := h
        have e1 : (num r.length 2 ++ texts (tx r)).take 2 = num r.length 2 := List.take_left' (num_length 2 _)
        have e2 : val (num r.length 2) = r.length := by rw [val_num]; omega
        have e3 : (num r.length 2 ++ texts (tx r)).drop 2 = texts (tx r) := List.drop_left' (num_length 2 _)
        have e4 := readTexts_texts (tx r) h2
        rw [tx_length] at e4
        have e5 := readPs_of r _ e4
        rw [getP_some _ (by simp) r (by rw [e1, e2, e3]; exact e5), if_pos h3]
      · simp at h
    · simp at h
  · simp at h
theorem putP_err (r : List PR) (h : (putP r).2 ≠ 0) : (putP r).2 = 5 ∨ (putP r).2 = 2 := by
  unfold putP at h ⊢
  repeat' split
  all_goals simp_all
theorem putP_len (r : List PR) (h : (putP r).1.length ≤ (texts (tx r)).length + 2 → False) : False := by
  apply h
  unfold putP
  repeat' split
  all_goals simp
  all_goals omega
end Go.Proofs.Ytdebgkjekcppmaa
