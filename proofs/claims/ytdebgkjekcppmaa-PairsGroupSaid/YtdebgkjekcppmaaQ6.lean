/- Walks: Put of pairs. -/
import Derived.Test.YtdebgkjekcppmaaQ2
import Derived.Test.YtdebgkjekcppmaaQR
import Derived.Test.YtdebgkjekcppmaaW2
import Derived.Test.YtdebgkjekcppmaaW7
import Derived.Test.YtdebgkjekcppmaaB1
namespace Go.Proofs.Ytdebgkjekcppmaa
open Go.RowKit Oct

set_option maxRecDepth 100000 in
set_option maxHeartbeats 4000000 in
theorem rPutP_any (v : Value) (l : List PR) (w : World) (hr : RP w v l) (hs : (texts (tx l)).length ≤ 1000000000) (hl : l.length ≤ 1000000000) :
    Calls Try.prog 28 #[v] w fun e w' => e = .returned (txV (putP l)) ∧ Below w.heap.size w w' := by
  have HR := Lib.hid hr
  obtain ⟨a, cap, rfl, _, hc⟩ := hr.open
  clear hr
  by_cases h : l.length ≤ 65535
  · go_enter Try.func28, Try.ntmps28
    go_wp2_with (go_at_call 67; refine (num_any _ _ _ (by omega) (by omega) (by omega) (by omega)).mono ?_; rintro e w1 ⟨rfl, hB1⟩)
    go_loopw [4, 5] (fun s i wr => ∃ k : Nat, ∃ m : List UInt8, k ≤ l.length ∧ i = .int .i64 k ∧ s = .string (bs m) ∧ m.length ≤ 1000000002 ∧ Hid (m = num l.length 2 ++ texts (tx (l.take k)) ∧ fits (tx (l.take k)) = true) ∧ Below w.heap.size w wr) (fun _ i _ => l.length - (intOf i).toNat)
    case atStart => exact ⟨0, _, by omega, rfl, rfl, by simp, ⟨by simp [texts, tx], rfl⟩, hB1⟩
    case round =>
      obtain ⟨k, m, hk, rfl, rfl, hm2, hH, hB⟩ := hrel
      by_cases h0 : k < l.length
      · obtain ⟨b, off, rfl, d1, d2⟩ := hc k h0
        replace d1 := Below.keeps hB d1
        replace d2 := Below.keeps hB d2
        have hmm := texts_mem_p l k h0
        have hm3 : m.length + (2 + l[k].1.length) + (2 + l[k].2.length) ≤ 1000000002 := by
          obtain ⟨rfl, _⟩ := hH.out
          have := texts_le_p l (k + 1)
          rw [texts_take_p l k h0] at this
          simp at this ⊢; omega
        clear hc
        have kk : (k : Int) < (l.length : Int) := by omega
        by_cases h1 : l[k].1.length ≤ 65535 ∧ l[k].2.length ≤ 65535
        · have ht1 := Lib.hid (text_le l[k].1 h1.1)
          have ht2 := Lib.hid (text_le l[k].2 h1.2)
          have H1 := Lib.hid h1
          clear h1
          go_wp2_with fail
          refine (rText_any _ _ (by omega)).mono ?_; rw [ht1.out, txV_mk]; rintro e w2 ⟨rfl, hB2⟩
          replace d2 := Below.keeps hB2 d2
          clear d1
          go_wp2_with fail
          refine (rText_any _ _ (by omega)).mono ?_; rw [ht2.out, txV_mk]; rintro e w3 ⟨rfl, hB3⟩
          go_wp2
          go_roundw
          case rel =>
            obtain ⟨rfl, hf⟩ := hH.out
            refine ⟨k + 1, _, by omega, by go_num, rfl, ?_, ⟨?_, fits_take_p l k h0 hf H1.out.1 H1.out.2⟩, bt hB (bt hB2 hB3)⟩
            · simp at hm3 ⊢; omega
            · rw [texts_take_p l k h0]; simp
          case measure => simp [intOf]; omega
        · have hno := Lib.hid (fits_not_p l k h0 h1)
          by_cases h2 : l[k].1.length ≤ 65535
          · have h3 : ¬ l[k].2.length ≤ 65535 := fun h3 => h1 ⟨h2, h3⟩
            have ht1 := Lib.hid (text_le l[k].1 h2)
            have ht2 := Lib.hid (text_gt l[k].2 h3)
            clear h1 h2 h3
            go_wp2_with fail
            refine (rText_any _ _ (by omega)).mono ?_; rw [ht1.out, txV_mk]; rintro e w2 ⟨rfl, hB2⟩
            replace d2 := Below.keeps hB2 d2
            clear d1
            go_wp2_with fail
            refine (rText_any _ _ (by omega)).mono ?_; rw [ht2.out, txV_mk]; rintro e w3 ⟨rfl, hB3⟩
            go_wp2
            go_ret2
            exact ⟨by rw [putP_fat l h hno.out]; rfl, bt hB (bt hB2 hB3)⟩
          · have ht1 := Lib.hid (text_gt l[k].1 h2)
            obtain ⟨x2, e2, ht2⟩ : ∃ x e, text l[k].2 = (x, e) := ⟨_, _, rfl⟩
            have HT2 := Lib.hid ht2
            clear h1 h2 ht2
            go_wp2_with fail
            refine (rText_any _ _ (by omega)).mono ?_; rw [ht1.out, txV_mk]; rintro e w2 ⟨rfl, hB2⟩
            replace d2 := Below.keeps hB2 d2
            clear d1
            go_wp2_with fail
            refine (rText_any _ _ (by omega)).mono ?_; rw [HT2.out, txV_mk]; rintro e w3 ⟨rfl, hB3⟩
            go_wp2
            go_ret2
            exact ⟨by rw [putP_fat l h hno.out]; rfl, bt hB (bt hB2 hB3)⟩
      · obtain rfl : k = l.length := by omega
        obtain ⟨rfl, hf⟩ := hH.out
        rw [List.take_length] at hf ⊢
        have HF := Lib.hid hf
        clear hf hc hH
        cases hst : sorted l
        · have hp := Lib.hid (putP_mixed l h HF.out hst)
          have HS := Lib.hid hst; clear hst
          go_wp2_with fail
          refine (rSorted_any _ l _ (HR.out.below hB) (by omega)).mono ?_; rw [HS.out]; rintro e w2 ⟨rfl, hB2⟩
          go_wp2
          go_ret2
          exact ⟨by rw [hp.out]; rfl, bt hB hB2⟩
        · have hp := Lib.hid (putP_ok l h HF.out hst)
          have HS := Lib.hid hst; clear hst
          go_wp2_with fail
          refine (rSorted_any _ l _ (HR.out.below hB) (by omega)).mono ?_; rw [HS.out]; rintro e w2 ⟨rfl, hB2⟩
          go_wp2
          go_ret2
          exact ⟨by rw [hp.out]; rfl, bt hB hB2⟩
  · rw [putP_long l h, txV_mk]
    go_enter Try.func28, Try.ntmps28
    go_wp2
    go_ret2
    exact ⟨rfl, Below.refl _ _⟩

theorem putS2 (n : Nat) (h : n ≤ 65535) : putS n 2 = (num n 2, 0) := by
  unfold putS
  have e : (256 : Nat) ^ (2 : Int).toNat = 65536 := by decide
  rw [if_pos (by simp only [putOk, decide_eq_true_eq, e]; omega)]
  rfl
theorem Bld.drew {B b : Nat} {l : List UInt8} {w : World} (h : Bld B b l w) : Bld B b l w.drew := Bld.below h (b_drew w)

set_option maxRecDepth 100000 in
set_option maxHeartbeats 4000000 in
theorem PutP_any (v : Value) (l : List PR) (w : World) (hr : RP w v l) (hs : (texts (tx l)).length ≤ 1000000000) (hl : l.length ≤ 1000000000) :
    Calls Try.prog 27 #[v] w fun e w' => e = .returned (txV (putP l)) ∧ Below w.heap.size w w' := by
  have HR := Lib.hid hr
  obtain ⟨a, cap, rfl, _, hc⟩ := hr.open
  clear hr
  by_cases h : l.length ≤ 65535
  · have hb := Bld.fresh w
    have HP := Lib.hid (putS2 l.length h)
    go_enter Try.func27, Try.ntmps27
    go_wp2_with fail
    refine (Put_any _ _ _ (by omega) (by omega)).mono ?_; rw [show ((2 : Int)) = ((2 : Nat) : Int) from rfl] at *; rw [HP.out]; rintro e w1 ⟨rfl, hB1⟩
    have hb1 := Bld.below hb hB1
    go_wp2_with fail
    refine (WriteString_any _ _ _ _ _ hb1 (by simp)).mono ?_; rintro e w2 ⟨rfl, hb2, hB2⟩
    have hB0 : Below w.heap.size w w2 := (b_alloc w _).trans ((hB1.mono (by simp)).trans hB2)
    rw [List.nil_append] at hb2
    clear hb hb1 hB1 hB2
    go_wp2
    go_loopw [28] (fun i wr => ∃ k : Nat, k ≤ l.length ∧ i = .int .i64 k ∧ Bld w.heap.size w.heap.size (num l.length 2 ++ texts (tx (l.take k))) wr ∧ Hid (fits (tx (l.take k)) = true) ∧ Below w.heap.size w wr) (fun i _ => l.length - (intOf i).toNat)
    case atStart => exact ⟨0, by omega, rfl, by simpa [texts, tx] using hb2, rfl, hB0⟩
    case round =>
      obtain ⟨k, hk, rfl, hb, hH, hB⟩ := hrel
      clear hb2 hB0
      obtain ⟨W0, hW0⟩ : ∃ W, W = wr := ⟨_, rfl⟩
      subst hW0
      by_cases h0 : k < l.length
      · obtain ⟨b, off, rfl, d1, d2⟩ := hc k h0
        replace d1 := Below.keeps hB d1
        replace d2 := Below.keeps hB d2
        have hmm := texts_mem_p l k h0
        clear hc
        have kk : (k : Int) < (l.length : Int) := by omega
        have hm3 : (num l.length 2 ++ texts (tx (l.take k))).length + (2 + l[k].1.length) + (2 + l[k].2.length) ≤ 1000000002 := by
          have := texts_le_p l (k + 1)
          rw [texts_take_p l k h0] at this
          simp at this ⊢; omega
        obtain ⟨x1, x2, hBx⟩ := two_new W0 (.cells #[.string (bs l[k].1), .string (bs l[k].2)] 52) (.cells #[.string (bs l[k].1), .string (bs l[k].2)] 9)
        have hbx := hb.below hBx
        go_wp2
        have hszB := hB.size
        revert x1 x2 hBx hbx
        generalize ((W0.alloc (.cells #[.string (bs l[k].1), .string (bs l[k].2)] 52)).alloc (.cells #[.string (bs l[k].1), .string (bs l[k].2)] 9)) = wx
        intro x1 x2 hBx hbx
        go_loopw [38] (fun i wy => ∃ j : Nat, j ≤ 2 ∧ i = .int .i64 j ∧ Bld w.heap.size w.heap.size (num l.length 2 ++ texts (tx (l.take k)) ++ texts ([l[k].1, l[k].2].take j)) wy ∧ Hid (fits ([l[k].1, l[k].2].take j) = true) ∧ wy.heap[W0.heap.size + 1]? = some (.cells #[.string (bs l[k].1), .string (bs l[k].2)] 9 (0, 0)) ∧ Below w.heap.size wx wy) (fun i _ => 2 - (intOf i).toNat)
        case atStart => exact ⟨0, by omega, rfl, by simpa [texts] using hbx, rfl, x2, Below.refl _ _⟩
        case round =>
          obtain ⟨j, hj, rfl, hby, hHy, hxy, hBy⟩ := hrel
          have hBt : Below w.heap.size w wr := hB.trans ((hBx.mono hB.size).trans hBy)
          have hszW := hBx.size
          have y1 : wr.cell? ⟨W0.heap.size + 1, 0, none⟩ = some (.string (bs l[k].1)) := by rw [Lib.cell_of_heap hxy]; rfl
          have y2 : wr.cell? ⟨W0.heap.size + 1, 1, none⟩ = some (.string (bs l[k].2)) := by rw [Lib.cell_of_heap hxy]; rfl
          have hne : W0.heap.size + 1 ≠ w.heap.size := by omega
          match j, hj with
          | 0, _ =>
            by_cases h1 : l[k].1.length ≤ 65535
            · have ht := Lib.hid (text_le l[k].1 h1)
              go_wp2_with fail
              refine (Text_any _ _ (by omega)).mono ?_; rw [ht.out, txV_mk]; rintro e w3 ⟨rfl, hB3⟩
              have hb3 := hby.below hB3
              have hx3 := (hB3.block _ (lt_of_block hxy)).trans hxy
              go_wp2_with fail
              refine (WriteString_kept _ _ _ _ _ hb3 (by simp [texts] at hm3 ⊢; omega)).mono ?_; rintro e w4 ⟨rfl, hb4, hB4, hK4⟩
              have hx4 := hK4 _ _ _ _ hne (by decide) hx3
              go_wp2
              go_roundw
              case rel => exact ⟨1, by omega, by go_num, by simpa [texts] using hb4, by simp [Hid, fits, h1], hx4, (hBy.trans (hB3.mono (by have := hBy.size; have := hB.size; omega))).trans hB4⟩
              case measure => simp [intOf]
            · have ht := Lib.hid (text_gt l[k].1 h1)
              have hno := Lib.hid (fits_not_p l k h0 (fun c => h1 c.1))
              clear h1
              go_wp2_with fail
              refine (Text_any _ _ (by omega)).mono ?_; rw [ht.out, txV_mk]; rintro e w3 ⟨rfl, hB3⟩
              go_wp2
              go_ret2
              exact ⟨by rw [putP_fat l h hno.out]; rfl, bt hBt hB3⟩
          | 1, _ =>
            have hH1 : l[k].1.length ≤ 65535 := by have := hHy.out; simpa [fits] using this
            by_cases h1 : l[k].2.length ≤ 65535
            · have ht := Lib.hid (text_le l[k].2 h1)
              go_wp2_with fail
              refine (Text_any _ _ (by omega)).mono ?_; rw [ht.out, txV_mk]; rintro e w3 ⟨rfl, hB3⟩
              have hb3 := hby.below hB3
              have hx3 := (hB3.block _ (lt_of_block hxy)).trans hxy
              go_wp2_with fail
              refine (WriteString_kept _ _ _ _ _ hb3 (by simp [texts] at hm3 ⊢; omega)).mono ?_; rintro e w4 ⟨rfl, hb4, hB4, hK4⟩
              have hx4 := hK4 _ _ _ _ hne (by decide) hx3
              go_wp2
              go_roundw
              case rel => exact ⟨2, by omega, by go_num, by simpa [texts] using hb4, by simp [Hid, fits, hH1, h1], hx4, (hBy.trans (hB3.mono (by have := hBy.size; have := hB.size; omega))).trans hB4⟩
              case measure => simp [intOf]
            · have ht := Lib.hid (text_gt l[k].2 h1)
              have hno := Lib.hid (fits_not_p l k h0 (fun c => h1 c.2))
              clear h1
              go_wp2_with fail
              refine (Text_any _ _ (by omega)).mono ?_; rw [ht.out, txV_mk]; rintro e w3 ⟨rfl, hB3⟩
              go_wp2
              go_ret2
              exact ⟨by rw [putP_fat l h hno.out]; rfl, bt hBt hB3⟩
          | 2, _ =>
            have hf2 := hHy.out
            have hff : l[k].1.length ≤ 65535 ∧ l[k].2.length ≤ 65535 := by simpa [fits] using hf2
            have HFF := Lib.hid hff
            clear hf2 hff
            go_wp2
            go_roundw
            case rel =>
              refine ⟨k + 1, by omega, by go_num, ?_, fits_take_p l k h0 hH.out HFF.out.1 HFF.out.2, hBt⟩
              rw [texts_take_p l k h0]; simpa [texts] using hby
            case measure => simp [intOf]; omega
      · obtain rfl : k = l.length := by omega
        rw [List.take_length] at hb hH
        have HF := Lib.hid hH.out
        clear hc hH
        cases hst : sorted l
        · have hp := Lib.hid (putP_mixed l h HF.out hst)
          have HS := Lib.hid hst; clear hst
          go_wp2_with fail
          refine (Check_any _ l _ (HR.out.below hB) (by omega)).mono ?_; rw [chk, HS.out]; rintro e w2 ⟨rfl, hB2⟩
          go_wp2
          go_ret2
          exact ⟨by rw [hp.out]; rfl, bt hB hB2⟩
        · have hp := Lib.hid (putP_ok l h HF.out hst)
          have HS := Lib.hid hst; clear hst
          go_wp2_with fail
          refine (Check_any _ l _ (HR.out.below hB) (by omega)).mono ?_; rw [chk, HS.out]; rintro e w2 ⟨rfl, hB2⟩
          have hb2 := hb.below hB2
          go_wp2_with fail
          refine (BString_any _ _ _ _ hb2).mono ?_; rintro e w3 ⟨rfl, hB3⟩
          go_wp2
          go_ret2
          exact ⟨by rw [hp.out]; rfl, (bt hB hB2).trans hB3⟩
  · rw [putP_long l h, txV_mk]
    go_enter Try.func27, Try.ntmps27
    go_wp2
    go_ret2
    exact ⟨rfl, Below.refl _ _⟩
end Go.Proofs.Ytdebgkjekcppmaa
