/- Walks of package octet: Row. -/
import Derived.Test.YtdfppopmephaaaaW7
import Derived.Test.YtdfppopmephaaaaB0
namespace Go.Proofs.Ytdfppopmephaaaa
open Go.RowKit Oct

set_option maxRecDepth 100000 in
set_option maxHeartbeats 1000000 in
theorem rRow_any (v : Value) (r : List (List UInt8)) (w : World) (hr : Reads w v r.length (tcells r)) (hs : (texts r).length ≤ 1000000000) (hl : r.length ≤ 1000000000) :
    Calls Try.prog 22 #[v] w fun e w' => e = .returned (txV (row r)) ∧ Below w.heap.size w w' := by
  obtain ⟨a, cap, rfl, _, hc⟩ := hr
  by_cases h : r.length ≤ 65535
  · go_enter Try.func22, Try.ntmps22
    go_wp2_with (go_at_call 41; refine (num_any _ _ _ (by omega) (by omega) (by omega) (by omega)).mono ?_; rintro e w1 ⟨rfl, hB1⟩)
    go_loopw [4, 5] (fun s i wr => ∃ k : Nat, ∃ l : List UInt8, k ≤ r.length ∧ i = .int .i64 k ∧ s = .string (bs l) ∧ l.length ≤ 1000000002 ∧ Hid (l = num r.length 2 ++ texts (r.take k) ∧ fits (r.take k) = true) ∧ Below w.heap.size w wr) (fun _ i _ => r.length - (intOf i).toNat)
    case atStart => exact ⟨0, _, by omega, rfl, rfl, by simp, ⟨by simp [texts], rfl⟩, hB1⟩
    case round =>
      obtain ⟨k, l, hk, rfl, rfl, hl2, hH, hB⟩ := hrel
      by_cases h0 : k < r.length
      · obtain ⟨b, off, rfl, hcell⟩ := hc k _ (tcells_at r k h0)
        have hcell2 := Below.keeps hB hcell
        have hm := texts_mem_le r k h0
        clear hc
        by_cases h1 : r[k].length ≤ 65535
        · have ht := Lib.hid (text_le r[k] h1)
          go_wp2_with (go_at_call 26; refine (rText_any _ _ (by omega)).mono ?_; rw [ht.out, txV_mk]; rintro e w2 ⟨rfl, hB2⟩)
          go_roundw
          case rel =>
            obtain ⟨rfl, hf⟩ := hH.out
            refine ⟨k + 1, _, by omega, by go_num, rfl, ?_, ⟨?_, fits_take r k h0 hf h1⟩, hB.trans (hB2.mono hB.size)⟩
            · have := texts_take_le r (k + 1)
              rw [texts_take r k h0] at this
              simp at this ⊢; omega
            · rw [texts_take r k h0]; simp
          case measure => simp [intOf]; omega
        · have ht := Lib.hid (text_gt r[k] h1)
          go_wp2_with (go_at_call 26; refine (rText_any _ _ (by omega)).mono ?_; rw [ht.out, txV_mk]; rintro e w2 ⟨rfl, hB2⟩)
          go_ret2
          exact ⟨by rw [row_no r h (fits_not r k h0 h1)]; rfl, hB.trans (hB2.mono hB.size)⟩
      · obtain rfl : k = r.length := by omega
        go_wp2
        go_ret2
        obtain ⟨rfl, hf⟩ := hH.out
        rw [List.take_length] at hf
        exact ⟨by rw [row_ok r h hf, List.take_length]; rfl, hB⟩
  · rw [row_long r h, txV_mk]
    go_enter Try.func22, Try.ntmps22
    go_wp2
    go_ret2
    exact ⟨rfl, Below.refl _ _⟩

set_option maxRecDepth 100000 in
set_option maxHeartbeats 1000000 in
theorem Row_any (v : Value) (r : List (List UInt8)) (w : World) (hr : Reads w v r.length (tcells r)) (hs : (texts r).length ≤ 1000000000) (hl : r.length ≤ 1000000000) :
    Calls Try.prog 21 #[v] w fun e w' => e = .returned (txV (row r)) ∧ Below w.heap.size w w' := by
  obtain ⟨a, cap, rfl, _, hc⟩ := hr
  by_cases h : r.length ≤ 65535
  · have hb := Bld.fresh w
    go_enter Try.func21, Try.ntmps21
    go_wp2_with (first | (go_at_call 40; refine (bytes_any _ _ _ (by omega) (by omega) (by omega) (by omega)).mono ?_; rintro e w1 ⟨rfl, hB1⟩; have hb1 := Bld.below hb hB1) | (go_at_call 43; refine (WriteString_any _ _ _ _ _ hb1 (by simp)).mono ?_; rintro e w2 ⟨rfl, hb2, hB2⟩))
    have hB0 : Below w.heap.size w w2 := ((Below.refl w.heap.size w).alloc (Nat.le_refl _) _).trans ((hB1.mono (by simp)).trans hB2)
    rw [List.nil_append] at hb2
    clear hb hb1 hB1 hB2
    go_loopw [19] (fun i wr => ∃ k : Nat, k ≤ r.length ∧ i = .int .i64 k ∧ Bld w.heap.size w.heap.size (num r.length 2 ++ texts (r.take k)) wr ∧ Hid (fits (r.take k) = true) ∧ Below w.heap.size w wr) (fun i _ => r.length - (intOf i).toNat)
    case atStart => exact ⟨0, by omega, rfl, by simpa [texts] using hb2, rfl, hB0⟩
    case round =>
      obtain ⟨k, hk, rfl, hb, hH, hB⟩ := hrel
      by_cases h0 : k < r.length
      · obtain ⟨b, off, rfl, hcell⟩ := hc k _ (tcells_at r k h0)
        have hcell2 := Below.keeps hB hcell
        have hm := texts_mem_le r k h0
        have ht2 := texts_take_le r k
        clear hc
        by_cases h1 : r[k].length ≤ 65535
        · have ht := Lib.hid (text_le r[k] h1)
          go_wp2_with (first | (go_at_call 18; refine (Text_any _ _ (by omega)).mono ?_; rw [ht.out, txV_mk]; rintro e w3 ⟨rfl, hB3⟩; have hb3 := Bld.below hb hB3) | (go_at_call 43; refine (WriteString_any _ _ _ _ _ hb3 (by simp; omega)).mono ?_; rintro e w4 ⟨rfl, hb4, hB4⟩))
          go_roundw
          case rel =>
            refine ⟨k + 1, by omega, by go_num, ?_, fits_take r k h0 hH.out h1, hB.trans ((hB3.mono hB.size).trans hB4)⟩
            rw [texts_take r k h0]; simpa using hb4
          case measure => simp [intOf]; omega
        · have ht := Lib.hid (text_gt r[k] h1)
          go_wp2_with (go_at_call 18; refine (Text_any _ _ (by omega)).mono ?_; rw [ht.out, txV_mk]; rintro e w3 ⟨rfl, hB3⟩)
          go_ret2
          exact ⟨by rw [row_no r h (fits_not r k h0 h1)]; rfl, hB.trans (hB3.mono hB.size)⟩
      · obtain rfl : k = r.length := by omega
        go_wp2_with (go_at_call 44; refine (BString_any _ _ _ _ hb).mono ?_; rintro e w3 ⟨rfl, hB3⟩)
        go_ret2
        have hf := hH.out
        rw [List.take_length] at hf
        exact ⟨by rw [row_ok r h hf]; rfl, hB.trans hB3⟩
  · rw [row_long r h, txV_mk]
    go_enter Try.func21, Try.ntmps21
    go_wp2
    go_ret2
    exact ⟨rfl, Below.refl _ _⟩
end Go.Proofs.Ytdfppopmephaaaa
