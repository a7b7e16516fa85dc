/- Walks over rows of pairs: Sort, Merge. -/
import Derived.Test.YtdebgkjekcppmaaQ3
namespace Go.Proofs.Ytdebgkjekcppmaa
open Go.RowKit Oct

theorem OP.mono {w : World} {base base' : Nat} {v : Value} {l : List PR} (h : OP w base v l) (hb : base' ≤ base) : OP w base' v l := owns_mono h hb

theorem owns_two {w : World} {base : Nat} {v : Value} {p q : PR} (h : OP w base v [p, q]) : ∃ g cap, v = .slice (some ⟨g, 0, none⟩) 2 cap ∧ base ≤ g := by
  rcases h.2 with ⟨_, h0⟩ | ⟨g', cap', cur, hv, hg, _⟩
  · simp at h0
  · exact ⟨g', cap', hv, hg⟩
theorem owns_cells2 {w : World} {base g cap : Nat} {p q : PR} (h : OP w base (.slice (some ⟨g, 0, none⟩) 2 cap) [p, q]) :
    w.cell? ⟨g, 0, none⟩ = some (.string (bs p.1)) ∧ w.cell? ⟨g, 1, none⟩ = some (.string (bs p.2)) ∧ w.cell? ⟨g, 2, none⟩ = some (.string (bs q.1)) ∧ w.cell? ⟨g, 3, none⟩ = some (.string (bs q.2)) ∧
    w.frozen? ⟨g, 0, none⟩ = false ∧ w.frozen? ⟨g, 1, none⟩ = false ∧ w.frozen? ⟨g, 2, none⟩ = false ∧ w.frozen? ⟨g, 3, none⟩ = false := by
  have hc := World.ownsRow.cells (g := g) h rfl
  have hf : ∀ j, w.frozen? ⟨g, j, none⟩ = false := by
    rcases h.2 with ⟨hv, _⟩ | ⟨g', cap', cur, hv, _, hh, _⟩
    · simp at hv
    · simp only [Value.slice.injEq, Option.some.injEq, Addr.mk.injEq, and_true, true_and] at hv
      obtain ⟨rfl, _, rfl⟩ := hv
      intro j
      simp [World.frozen?, hh]
  refine ⟨?_, ?_, ?_, ?_, hf _, hf _, hf _, hf _⟩
  · have := hc 0 _ rfl; rwa [Addr.add_lit] at this
  · have := hc 1 _ rfl; rwa [Addr.add_lit] at this
  · have := hc 2 _ rfl; rwa [Addr.add_lit] at this
  · have := hc 3 _ rfl; rwa [Addr.add_lit] at this

theorem owns_swap {w : World} {base g cap : Nat} {p q : PR} (h : OP w base (.slice (some ⟨g, 0, none⟩) 2 cap) [p, q]) (hb : base ≤ g) (hs : base ≤ w.heap.size) :
    OP ((((w.setCell ⟨g, 0, none⟩ (.string (bs q.1))).setCell ⟨g, 1, none⟩ (.string (bs q.2))).setCell ⟨g, 2, none⟩ (.string (bs p.1))).setCell ⟨g, 3, none⟩ (.string (bs p.2))).drew base (.slice (some ⟨g, 0, none⟩) 2 cap) [q, p] ∧
    Below base w ((((w.setCell ⟨g, 0, none⟩ (.string (bs q.1))).setCell ⟨g, 1, none⟩ (.string (bs q.2))).setCell ⟨g, 2, none⟩ (.string (bs p.1))).setCell ⟨g, 3, none⟩ (.string (bs p.2))).drew := by
  have h1 := (World.ownsRow.stored h 0 (.string (bs q.1))).1
  have h2 := (World.ownsRow.stored h1 1 (.string (bs q.2))).1
  have h3 := (World.ownsRow.stored h2 2 (.string (bs p.1))).1
  have h4 := (World.ownsRow.stored h3 3 (.string (bs p.2))).1
  exact ⟨World.ownsRow.drew h4, (((((Below.refl base w).setCell hb _).setCell hb _).setCell hb _).setCell hb _).drew⟩

set_option maxRecDepth 100000 in
set_option maxHeartbeats 4000000 in
theorem Sort_two (v : Value) (p q : PR) (w : World) (hr : RP w v [p, q]) (hl : [p, q].length * 32 ≤ 140737488355328) :
    Calls Try.prog 35 #[v] w fun e w' => ∃ v', e = .returned v' ∧ OP w' w.heap.size v' (srt [p, q]) ∧ Below w.heap.size w w' := by
  rw [srt_two]
  cases hlt : lt q.1 p.1
  · skip
    have HL := Lib.hid hlt; clear hlt
    go_enter Try.func35, Try.ntmps35
    go_wp2_with (go_at_call 78; refine (Clone_any _ [p, q] _ hr hl).mono ?_; rintro e w1 ⟨vc, rfl, hown, hB1⟩; obtain ⟨g, cc, rfl, hgb⟩ := owns_two hown; obtain ⟨c0, c1, c2, c3, f0, f1, f2, f3⟩ := owns_cells2 hown)
    have HO := Lib.hid hown
    clear hown
    go_region_with (go_at_call 75; refine (less_any _ _ _).mono ?_; rw [HL.out]; rintro e w2 ⟨rfl, hB2⟩)
    all_goals
      have hB3 := (b_drew w1).trans hB2
      go_wp2
      go_ret
      exact ⟨_, rfl, HO.out.below hB3, bt hB1 hB3⟩
  · skip
    have HL := Lib.hid hlt; clear hlt
    go_enter Try.func35, Try.ntmps35
    go_wp2_with (go_at_call 78; refine (Clone_any _ [p, q] _ hr hl).mono ?_; rintro e w1 ⟨vc, rfl, hown, hB1⟩; obtain ⟨g, cc, rfl, hgb⟩ := owns_two hown; obtain ⟨c0, c1, c2, c3, f0, f1, f2, f3⟩ := owns_cells2 hown)
    have HO := Lib.hid hown
    clear hown
    go_region_with (go_at_call 75; refine (less_any _ _ _).mono ?_; rw [HL.out]; rintro e w2 ⟨rfl, hB2⟩)
    all_goals
      have hB3 := (b_drew w1).trans hB2
      have ho2 := HO.out.below hB3
      clear c0 c1 c2 c3 f0 f1 f2 f3 HO
      obtain ⟨c0, c1, c2, c3, f0, f1, f2, f3⟩ := owns_cells2 ho2
      have HO2 := Lib.hid ho2
      clear ho2
      go_wp2
      go_region
      all_goals
        go_wp2
        go_ret
        obtain ⟨k1, k2⟩ := owns_swap (HO2.out) hgb ((bt hB1 hB3).size)
        exact ⟨_, rfl, k1, (bt hB1 hB3).trans k2⟩

set_option maxRecDepth 100000 in
set_option maxHeartbeats 4000000 in
theorem Sort_any : ∀ (n : Nat) (v : Value) (l : List PR) (w : World), l.length ≤ n → RP w v l → l.length * 32 ≤ 140737488355328 →
    Calls Try.prog 35 #[v] w fun e w' => ∃ v', e = .returned v' ∧ OP w' w.heap.size v' (srt l) ∧ Below w.heap.size w w' := by
  intro n
  induction n with
  | zero =>
    intro v l w hn hr hl
    obtain rfl : l = [] := List.eq_nil_of_length_eq_zero (by omega)
    go_enter Try.func35, Try.ntmps35
    go_wp2_with (go_at_call 78; refine (Clone_any _ _ _ hr hl).mono ?_; rintro e w1 ⟨vc, rfl, hown, hB1⟩; obtain ⟨ac, cc, rfl⟩ := owns_slice hown)
    go_ret
    exact ⟨_, rfl, hown, hB1⟩
  | succ n ih =>
    intro v l w hn hr hl
    by_cases h1 : l.length < 2
    · have hi1 : (l.length : Int) < 2 := by omega
      have hs : srt l = l := by
        match l, h1 with
        | [], _ => rfl
        | [p], _ => rfl
      have HS := Lib.hid hs
      clear hs
      go_enter Try.func35, Try.ntmps35
      go_wp2_with (go_at_call 78; refine (Clone_any _ l _ hr hl).mono ?_; rintro e w1 ⟨vc, rfl, hown, hB1⟩; obtain ⟨ac, cc, rfl⟩ := owns_slice hown)
      go_ret
      exact ⟨_, rfl, by rw [HS.out]; exact hown, hB1⟩
    · by_cases h2 : l.length = 2
      · obtain ⟨p, q, rfl⟩ : ∃ p q, l = [p, q] := by
          match l, h2 with
          | [p, q], _ => exact ⟨p, q, rfl⟩
        exact Sort_two v p q w hr hl
      · have hi1 : ¬ (l.length : Int) < 2 := by omega
        have hi2 : ((l.length : Int) == 2) = false := by rw [beq_eq_false_iff_ne]; omega
        clear h1 h2
        go_enter Try.func35, Try.ntmps35
        go_wp2_with (go_at_call 78; refine (Clone_any _ l _ hr hl).mono ?_; rintro e w1 ⟨vc, rfl, hown, hB1⟩; obtain ⟨ac, cc, rfl⟩ := owns_slice hown)
        have hrp := hown.reads
        obtain ⟨A1, C1, s1, r1⟩ := hrp.headRun (l.length / 2) ((l.length : Int) / 2) (by omega) (by omega)
        obtain ⟨A2, C2, s2, r2⟩ := hrp.cutRun (l.length / 2) ((l.length : Int) / 2) (by omega) (by omega)
        have R1 := Lib.hid r1
        have R2 := Lib.hid r2
        have hn1 : (l.take (l.length / 2)).length ≤ n := by simp; omega
        have hn2 : (l.drop (l.length / 2)).length ≤ n := by simp; omega
        have hl1 : (l.take (l.length / 2)).length * 32 ≤ 140737488355328 := by simp; omega
        have hl2 : (l.drop (l.length / 2)).length * 32 ≤ 140737488355328 := by simp; omega
        have hl3 : ((srt (l.take (l.length / 2))).length + (srt (l.drop (l.length / 2))).length) * 32 ≤ 140737488355328 := by rw [srt_length, srt_length]; simp; omega
        clear r1 r2 hown hrp
        go_region_with (first
          | (go_at_call 74; refine (merged_any _ _ _ _ _ ha3 hb3 hl3).mono ?_; rintro e w4 ⟨v4, rfl, hown4, hB4⟩)
          | (go_at_call 35; refine (ih _ (l.drop (l.length / 2)) w2 hn2 (R2.out.below hB2') hl2).mono ?_; rintro e w3 ⟨vb, rfl, hown3, hB3⟩; have ha3 := hown2.reads.below hB3; have hb3 := hown3.reads; have hB3' := bt hB2' hB3; obtain ⟨ab, cb, rfl⟩ := owns_slice hown3)
          | (go_at_call 35; refine (ih _ (l.take (l.length / 2)) w1.drew hn1 (R1.out.below (b_drew w1)) hl1).mono ?_; rintro e w2 ⟨va, rfl, hown2, hB2⟩; have hB2' : Below w1.heap.size w1 w2 := (b_drew w1).trans hB2; obtain ⟨aa, ca, rfl⟩ := owns_slice hown2))
        all_goals
          go_wp2
          go_ret
          rw [mrg_srt, List.take_append_drop] at hown4
          have hB5 := bt hB1 (bt hB3' hB4)
          exact ⟨_, rfl, hown4.mono (bt hB1 hB3').size, hB5⟩
end Go.Proofs.Ytdebgkjekcppmaa
