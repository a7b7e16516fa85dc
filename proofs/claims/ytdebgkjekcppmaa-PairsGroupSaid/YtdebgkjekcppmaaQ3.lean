/- Walks over rows of pairs: Clone, merged. -/
import Derived.Test.YtdebgkjekcppmaaQ2
import Derived.Test.YtdebgkjekcppmaaQP
import Derived.Maps.RangeWalk
namespace Go.Proofs.Ytdebgkjekcppmaa
open Go.RowKit Oct

theorem b_drew' (w : World) (b : Nat) : Below b w w.drew := (Below.refl _ _).drew
theorem OP.empty (w : World) : OP (w.alloc (.cells #[] 52)) w.heap.size (.slice (some ⟨w.heap.size, 0, none⟩) 0 0) [] :=
  ⟨rfl, .inr ⟨w.heap.size, 0, #[], rfl, Nat.le_refl _, by show (w.heap.push _)[w.heap.size]? = _; simp, Nat.le_refl _, by decide, rfl, rfl⟩⟩

set_option maxRecDepth 100000 in
set_option maxHeartbeats 1000000 in
theorem Clone_any (v : Value) (l : List PR) (w : World) (hr : RP w v l) (hl : l.length * 32 ≤ 140737488355328) :
    Calls Try.prog 78 #[v] w fun e w' => ∃ v', e = .returned v' ∧ OP w' w.heap.size v' l ∧ Below w.heap.size w w' := by
  obtain ⟨hr0, a, cap, rfl, hle⟩ := id hr
  have hnil := none_cap hr0
  cases a with
  | none =>
    obtain ⟨h0, rfl⟩ := hnil rfl
    have hl0 : l = [] := List.eq_nil_of_length_eq_zero h0
    subst hl0
    go_enter Try.func78, Try.ntmps78
    have q := fun w : World => Lib.run_eql_slice_nil w 35 52 none 0 0 0 0 Try.underlying35
    go_wp2
    go_ret
    exact ⟨_, rfl, OP.nil _ _, Below.refl _ _⟩
  | some ad =>
    have q := fun w : World => Lib.run_eql_slice_nil w 35 52 (some ad) l.length cap 0 0 Try.underlying35
    have H := Lib.hid hr
    clear hr hr0 hnil
    go_enter Try.func78, Try.ntmps78
    go_wp2_with (at_builtin; refine appendP _ rfl _ _ _ rfl Try.underlying35 w.heap.size _ [] rfl (OP.empty w) _ l rfl (H.out.below (b_alloc _ _)) (by simpa using hl) (by simp) ?_; intro v' w1 hown1 hB1)
    go_ret
    exact ⟨_, rfl, hown1, (b_alloc w _).trans hB1⟩

/-- a slice's length -/
def slen : Value → Nat
  | .slice _ n _ => n
  | _ => 0
/-- make([]Pair, 0, n) -/
theorem makeP (w : World) (n : Nat) (hb : 32 * n ≤ 281474976710656) : ∃ w', (Instr.makeSlice 35 (.int .i64 0) (.int .i64 (n : Int))).run Try.prog w = .ok (.slice (some ⟨w.heap.size, 0, none⟩) 0 n) w' ∧
    OP w' w.heap.size (.slice (some ⟨w.heap.size, 0, none⟩) 0 n) [] ∧ Below w.heap.size w w' := by
  obtain ⟨i, hi, hz, hi1, hi2⟩ := info_parts infoPair
  obtain ⟨w', h1, h2, h3⟩ := run_make_own (P := Try.prog) w w.heap.size 35 52 i _ 2 Try.underlying35 hi hz hi1 .i64 .i64 n (by rw [hi2]; exact hb) (by unfold maxLen; omega) (Nat.le_refl _)
  exact ⟨w', h1, h2, (Below.refl _ _).grown h3 (Nat.le_refl _) (by simp)⟩

set_option maxRecDepth 100000 in
set_option maxHeartbeats 4000000 in
theorem merged_any (va vb : Value) (la lb : List PR) (w : World) (ha : RP w va la) (hb : RP w vb lb) (hl : (la.length + lb.length) * 32 ≤ 140737488355328) :
    Calls Try.prog 74 #[va, vb, .func (.func 75) #[] #[]] w fun e w' => ∃ v', e = .returned v' ∧ OP w' w.heap.size v' (mrg la lb) ∧ Below w.heap.size w w' := by
  obtain ⟨_, aa, ca, rfl, hca⟩ := id ha
  obtain ⟨_, ab, cb, rfl, hcb⟩ := id hb
  obtain ⟨w1, hmk, hown1, hB1⟩ := makeP w (la.length + lb.length) (by omega)
  rw [Int.natCast_add] at hmk
  have HA := Lib.hid ha
  have HB := Lib.hid hb
  clear ha hb
  go_enter Try.func74, Try.ntmps74
  go_wp2
  go_loopw [7, 0, 1] (fun vo xa xb wr => ∃ o xs ys, OP wr w.heap.size vo o ∧ RP w xa xs ∧ RP w xb ys ∧ Hid (o ++ mrg xs ys = mrg la lb) ∧ o.length + xs.length + ys.length = la.length + lb.length ∧ Below w.heap.size w wr) (fun vo xa xb _ => slen xa + slen xb)
  case atStart => exact ⟨[], la, lb, hown1, HA.out, HB.out, rfl, by simp, hB1⟩
  case round =>
    obtain ⟨o, xs, ys, hown, hxs, hys, hH, hlen, hB⟩ := hrel
    clear HA HB hown1 hmk hB1
    obtain ⟨a1, c1, rfl, hc1, hx⟩ := hxs.open
    obtain ⟨a2, c2, rfl, hc2, hy⟩ := hys.open
    obtain ⟨ao, co, rfl⟩ := owns_slice hown
    have HXS := Lib.hid hxs
    have HYS := Lib.hid hys
    by_cases h1 : 0 < xs.length
    · by_cases h2 : 0 < ys.length
      · obtain ⟨b1, o1, rfl, d1, d2⟩ := hx 0 h1
        obtain ⟨b2, o2, rfl, d3, d4⟩ := hy 0 h2
        rw [Nat.zero_mul, Nat.add_zero] at d1 d2 d3 d4
        obtain ⟨A1, C1, s1, hc1'⟩ := hxs.cutRun 1 1 rfl h1
        obtain ⟨A2, C2, s2, hc2'⟩ := hys.cutRun 1 1 rfl h2
        have HC1 := Lib.hid hc1'
        have HC2 := Lib.hid hc2'
        clear hc1' hc2'
        clear hxs hys
        replace d1 := Below.keeps hB d1
        replace d2 := Below.keeps hB d2
        replace d3 := Below.keeps hB d3
        replace d4 := Below.keeps hB d4
        have kk1 : (0 : Int) < (xs.length : Int) := by omega
        have kk2 : (0 : Int) < (ys.length : Int) := by omega
        have kk3 : (1 : Int) ≤ (xs.length : Int) := by omega
        have kk4 : (1 : Int) ≤ (ys.length : Int) := by omega
        have hX : xs = xs[0] :: xs.drop 1 := by cases xs with | nil => simp at h1 | cons x xs => rfl
        have hY : ys = ys[0] :: ys.drop 1 := by cases ys with | nil => simp at h2 | cons x xs => rfl
        have HX := Lib.hid hX; have HY := Lib.hid hY
        clear hX hY hx hy
        cases hlt : lt ys[0].1 xs[0].1
        · have HL := Lib.hid hlt; clear hlt
          go_wp2
          go_region_with (go_at_call 75; refine (less_any _ _ _).mono ?_; rw [HL.out]; rintro e w2 ⟨rfl, hB2⟩)
          all_goals
            have hB2' : Below wr.heap.size wr w2 := (b_drew wr).trans hB2
            have e1 := Below.keeps hB2' d1
            have e2 := Below.keeps hB2' d2
            have hown2 := World.ownsRow.drew (hown.below hB2')
            have hby : (o.length + 1) * 32 ≤ 140737488355328 := by omega
            have hbase : w.heap.size ≤ w2.drew.heap.size := by have := hB.size; have := hB2'.size; show w.heap.size ≤ w2.heap.size; omega
            clear hown d1 d2 d3 d4
            go_wp2
            go_region_law (refine step_append1P w2.drew xs[0] rfl _ _ 35 rfl Try.underlying35 w.heap.size _ o rfl hown2 _ rfl hby hbase ?_; intro g cap w3 hown3 hB3)
            all_goals
              simp only [List.getElem_toArray, List.getElem_cons_succ, List.getElem_cons_zero]
              go_frame
              go_wp2
              go_roundw
              case rel =>
                refine ⟨o ++ [xs[0]], xs.drop 1, ys, hown3, HC1.out, HYS.out, ?_, by simp; omega, hB.trans ((hB2'.mono hB.size).trans ((b_drew' w2 _).trans hB3))⟩
                have hh := hH.out
                rw [HX.out, HY.out, mrg_cons, if_neg (by rw [HL.out]; simp), ← HY.out] at hh
                unfold Hid
                rw [← hh]
                simp
              case measure => simp [slen]; omega
        · have HL := Lib.hid hlt; clear hlt
          go_wp2
          go_region_with (go_at_call 75; refine (less_any _ _ _).mono ?_; rw [HL.out]; rintro e w2 ⟨rfl, hB2⟩)
          all_goals
            have hB2' : Below wr.heap.size wr w2 := (b_drew wr).trans hB2
            have e1 := Below.keeps hB2' d3
            have e2 := Below.keeps hB2' d4
            have hown2 := World.ownsRow.drew (hown.below hB2')
            have hby : (o.length + 1) * 32 ≤ 140737488355328 := by omega
            have hbase : w.heap.size ≤ w2.drew.heap.size := by have := hB.size; have := hB2'.size; show w.heap.size ≤ w2.heap.size; omega
            clear hown d1 d2 d3 d4
            go_wp2
            go_region_law (refine step_append1P w2.drew ys[0] rfl _ _ 35 rfl Try.underlying35 w.heap.size _ o rfl hown2 _ rfl hby hbase ?_; intro g cap w3 hown3 hB3)
            all_goals
              simp only [List.getElem_toArray, List.getElem_cons_succ, List.getElem_cons_zero]
              go_frame
              go_wp2
              go_roundw
              case rel =>
                refine ⟨o ++ [ys[0]], xs, ys.drop 1, hown3, HXS.out, HC2.out, ?_, by simp; omega, hB.trans ((hB2'.mono hB.size).trans ((b_drew' w2 _).trans hB3))⟩
                have hh := hH.out
                rw [HX.out, HY.out, mrg_cons, if_pos HL.out, ← HX.out] at hh
                unfold Hid
                rw [← hh]
                simp
              case measure => simp [slen]; omega
      · obtain rfl : ys = [] := List.eq_nil_of_length_eq_zero (by omega)
        have kk1 : (0 : Int) < (xs.length : Int) := by omega
        clear hx hy hxs hys
        have hby : (o.length + xs.length) * 32 ≤ 140737488355328 := by simp at hlen; omega
        have hby2 : ((o ++ xs).length + 0) * 32 ≤ 140737488355328 := by simp at hlen ⊢; omega
        have hbase := hB.size
        have hx := HXS.out.below hB
        go_wp2_with (first | (at_builtin; refine appendP w2 rfl _ _ _ rfl Try.underlying35 w.heap.size _ (o ++ xs) rfl hown2 _ [] rfl (HYS.out.below hB2') hby2 hB2'.size ?_; intro v3 w3 hown3 hB3) | (at_builtin; refine appendP wr rfl _ _ _ rfl Try.underlying35 w.heap.size _ o rfl hown _ xs rfl hx hby hbase ?_; intro v2 w2 hown2 hB2; have hB2' := hB.trans hB2))
        go_ret
        have hh := hH.out
        rw [mrg_nil_r] at hh
        rw [hh, List.append_nil] at hown3
        exact ⟨_, rfl, hown3, hB2'.trans hB3⟩
    · obtain rfl : xs = [] := List.eq_nil_of_length_eq_zero (by omega)
      clear hx hy hxs hys
      have hby : (o.length + 0) * 32 ≤ 140737488355328 := by simp at hlen; omega
      have hby2 : ((o ++ []).length + ys.length) * 32 ≤ 140737488355328 := by simp at hlen ⊢; omega
      have hbase := hB.size
      have hx := HXS.out.below hB
      go_wp2_with (first | (at_builtin; refine appendP w2 rfl _ _ _ rfl Try.underlying35 w.heap.size _ (o ++ []) rfl hown2 _ ys rfl (HYS.out.below hB2') hby2 hB2'.size ?_; intro v3 w3 hown3 hB3) | (at_builtin; refine appendP wr rfl _ _ _ rfl Try.underlying35 w.heap.size _ o rfl hown _ [] rfl hx hby hbase ?_; intro v2 w2 hown2 hB2; have hB2' := hB.trans hB2))
      go_ret
      have hh := hH.out
      rw [mrg_nil_l] at hh
      rw [List.append_nil, hh] at hown3
      exact ⟨_, rfl, hown3, hB2'.trans hB3⟩
end Go.Proofs.Ytdebgkjekcppmaa
