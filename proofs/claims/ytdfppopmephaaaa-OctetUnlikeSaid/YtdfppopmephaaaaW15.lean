/- Walk of the law OctetUnlike. -/
import Derived.Test.YtdfppopmephaaaaW14
import Derived.Deep.DeepCutAuto
namespace Go.Proofs.Ytdfppopmephaaaa
open Go.RowKit Oct

theorem row_len {q : List (List UInt8)} {l : List UInt8} (h : row q = (l, 0)) : (texts q).length ≤ l.length := by
  by_cases h1 : q.length ≤ 65535
  · rcases row_cases q h1 with ⟨x, h2, _, h4⟩ | h2
    · rw [h] at h2; simp at h2; subst h2; omega
    · rw [h] at h2; simp at h2
  · rw [row_long q h1] at h; simp at h

set_option maxRecDepth 100000 in
set_option maxHeartbeats 4000000 in
theorem Unlike_main (va vb : Value) (a b : List (List UInt8)) (l : List UInt8) (w : World) (ha : Reads w va a.length (tcells a)) (hb : Reads w vb b.length (tcells b))
    (hla : a.length ≤ 140737488355328) (hma : ∀ l ∈ a, l.length ≤ 140737488355328) (hlb : b.length ≤ 140737488355328) (hmb : ∀ l ∈ b, l.length ≤ 140737488355328) (hs : l.length ≤ 131072) (hLa : long01 a = false) (hLb : long01 b = false) :
    Calls Try.prog 6 #[va, vb, .string (bs l)] w fun e w' => e = .returned (.bool true) ∧ Below w.heap.size w w' := by
  obtain ⟨a1, a2⟩ := long01_le a hLa
  obtain ⟨b1, b2⟩ := long01_le b hLb
  have HLa := Lib.hid hLa; clear hLa
  have HLb := Lib.hid hLb; clear hLb
  obtain ⟨xa, ea, hra⟩ : ∃ x e, row a = (x, e) := ⟨_, _, rfl⟩
  obtain ⟨xb, eb, hrb⟩ : ∃ x e, row b = (x, e) := ⟨_, _, rfl⟩
  have HRa := Lib.hid hra
  have HRb := Lib.hid hrb
  have ca := row_cases a (by omega)
  have cb := row_cases b (by omega)
  rw [hra] at ca
  rw [hrb] at cb
  have CA : Hid ((ea = 0 ∧ readRow xa = some a ∧ xa.length ≤ 140737488355328) ∨ ea = 5) := by
    rcases ca with ⟨x, h1, h2, h3⟩ | h1
    · simp only [Prod.mk.injEq] at h1
      obtain ⟨rfl, rfl⟩ := h1
      exact .inl ⟨rfl, h2, by omega⟩
    · simp only [Prod.mk.injEq] at h1
      exact .inr h1.2
  have CB : Hid ((eb = 0 ∧ readRow xb = some b ∧ xb.length ≤ 140737488355328) ∨ eb = 5) := by
    rcases cb with ⟨x, h1, h2, h3⟩ | h1
    · simp only [Prod.mk.injEq] at h1
      obtain ⟨rfl, rfl⟩ := h1
      exact .inl ⟨rfl, h2, by omega⟩
    · simp only [Prod.mk.injEq] at h1
      exact .inr h1.2
  clear ca cb hra hrb
  go_enter Try.func6, Try.ntmps6
  go_wp2_with fail
  refine (Long_any _ a _ ha hla hma).mono ?_; rw [HLa.out]; rintro e w1 ⟨rfl, rfl⟩
  go_wp2_with fail
  refine (Long_any _ b _ hb hlb hmb).mono ?_; rw [HLb.out]; rintro e w1 ⟨rfl, rfl⟩
  go_wp2_with fail
  refine (Row_any _ a _ ha (by omega) (by omega)).mono ?_; rw [HRa.out, txV_mk]; rintro e w1 ⟨rfl, hB1⟩
  go_wp2_with fail
  refine (Row_any _ b _ (hb.below hB1) (by omega) (by omega)).mono ?_; rw [HRb.out, txV_mk]; rintro e w2 ⟨rfl, hB2⟩
  have hB := bt hB1 hB2
  clear hB1 hB2
  go_upto_if 40 with fail
  go_cut [] (fun wx => Below w.heap.size w wx)
  case first =>
    rcases CA.out with ⟨rfl, hx, hxl⟩ | rfl
    · have HX := Lib.hid hx; clear hx
      go_wp2_with fail
      refine (ReadRow_any xa _ hxl).mono ?_; rw [HX.out]; rintro e w4 ⟨hres, hB4⟩; obtain ⟨v1, rfl, hr1⟩ := RowRes_some hres; clear hres
      go_wp2_with fail
      refine (Same_any _ _ a a _ (Reads.owned hr1) (ha.below (bt hB hB4)) (by omega) (by omega)).mono ?_; rw [decide_eq_true rfl]; rintro e w10 ⟨rfl, hB10⟩
      go_wp2_with fail
      go_meet
      case rel => exact bt hB (bt hB4 hB10)
    · go_wp2_with fail
      go_meet
      case rel => exact hB
  case rest =>
    clear hB
    have hB := hcut
    clear hcut
    go_upto_region 9 with fail
    go_cut [68] (fun s wx => s = .bool false ∧ Below w.heap.size w wx)
    case first =>
      rcases CA.out with ⟨rfl, hx, hxl⟩ | rfl
      · rcases CB.out with ⟨rfl, hy, hyl⟩ | rfl
        · have E := row_inj hx hy
          clear hx hy
          go_wp2_with (go_at_call 27; refine (Same_any _ _ a b _ (ha.below hB) (hb.below hB) (by omega) (by omega)).mono ?_; rintro e w10 ⟨rfl, hB10⟩)
          go_meet
          case rel => exact ⟨by simp, bt hB hB10⟩
        · go_wp2_with fail
          go_meet
          case rel => exact ⟨rfl, hB⟩
      · go_wp2_with fail
        go_meet
        case rel => exact ⟨rfl, hB⟩
    case rest =>
      clear hB
      obtain ⟨rfl, hB⟩ := hcut
      cases hq : readRow l with
      | none =>
        have HQ := Lib.hid hq; clear hq
        go_wp2_with fail
        refine (ReadRow_any l _ (by omega)).mono ?_; rw [HQ.out]; rintro e w4 ⟨hres, hB4⟩; obtain rfl := RowRes_none hres; clear hres
        go_wp2_with fail
        refine (alive01 _).mono ?_; rintro e w11 ⟨rfl, hB11⟩
        go_wp2_with fail
        go_ret
        exact ⟨rfl, bt hB (bt hB4 hB11)⟩
      | some q =>
        have hql := readRow_length l q hq
        have hrow := row_readRow l q hq
        have HQ := Lib.hid hq; clear hq
        have HR := Lib.hid hrow; clear hrow
        go_wp2_with fail
        refine (ReadRow_any l _ (by omega)).mono ?_; rw [HQ.out]; rintro e w4 ⟨hres, hB4⟩; obtain ⟨v1, rfl, hr1⟩ := RowRes_some hres; clear hres
        go_wp2_with fail
        refine (Row_any _ q _ (Reads.owned hr1) (by have := row_len HR.out; omega) (by omega)).mono ?_; rw [HR.out, txV_mk]; rintro e w5 ⟨rfl, hB5⟩
        go_wp2_with fail
        refine (alive01 _).mono ?_; rintro e w11 ⟨rfl, hB11⟩
        go_wp2_with fail
        go_ret
        exact ⟨rfl, bt hB (bt hB4 (bt hB5 hB11))⟩

set_option maxRecDepth 100000 in
set_option maxHeartbeats 1000000 in
theorem OctetUnlike_any (va : Value) (a : List (List UInt8)) (vb : Value) (b : List (List UInt8)) (l : List UInt8) (w : World) (ha : Reads w va a.length (tcells a)) (hla : a.length ≤ 140737488355328) (hma : ∀ l ∈ a, l.length ≤ 140737488355328)
    (hb : Reads w vb b.length (tcells b)) (hlb : b.length ≤ 140737488355328) (hmb : ∀ l ∈ b, l.length ≤ 140737488355328) (hs : l.length ≤ 140737488355328) :
    Calls Try.prog 6 #[va, vb, .string (bs l)] w fun e w' => e = .returned (.bool true) ∧ Below w.heap.size w w' := by
  cases hLa : long01 a
  · cases hLb : long01 b
    · by_cases h3 : 131072 < l.length
      · have HLa := Lib.hid hLa; clear hLa
        have HLb := Lib.hid hLb; clear hLb
        go_enter Try.func6, Try.ntmps6
        go_wp2_with fail
        refine (Long_any _ a _ ha hla hma).mono ?_; rw [HLa.out]; rintro e w1 ⟨rfl, rfl⟩
        go_wp2_with fail
        refine (Long_any _ b _ hb hlb hmb).mono ?_; rw [HLb.out]; rintro e w1 ⟨rfl, rfl⟩
        go_wp2_with (go_at_call 9; refine (alive01 _).mono ?_; rintro e w1 ⟨rfl, hB1⟩)
        go_ret
        exact ⟨rfl, hB1⟩
      · exact Unlike_main va vb a b l w ha hb hla hma hlb hmb (by omega) hLa hLb
    · have HLa := Lib.hid hLa; clear hLa
      have HLb := Lib.hid hLb; clear hLb
      go_enter Try.func6, Try.ntmps6
      go_wp2_with fail
      refine (Long_any _ a _ ha hla hma).mono ?_; rw [HLa.out]; rintro e w1 ⟨rfl, rfl⟩
      go_wp2_with fail
      refine (Long_any _ b _ hb hlb hmb).mono ?_; rw [HLb.out]; rintro e w1 ⟨rfl, rfl⟩
      go_wp2_with (go_at_call 9; refine (alive01 _).mono ?_; rintro e w1 ⟨rfl, hB1⟩)
      go_ret
      exact ⟨rfl, hB1⟩
  · have HLa := Lib.hid hLa; clear hLa
    go_enter Try.func6, Try.ntmps6
    go_wp2_with fail
    refine (Long_any _ a _ ha hla hma).mono ?_; rw [HLa.out]; rintro e w1 ⟨rfl, rfl⟩
    go_wp2_with (go_at_call 9; refine (alive01 _).mono ?_; rintro e w1 ⟨rfl, hB1⟩)
    go_ret
    exact ⟨rfl, hB1⟩
end Go.Proofs.Ytdfppopmephaaaa
