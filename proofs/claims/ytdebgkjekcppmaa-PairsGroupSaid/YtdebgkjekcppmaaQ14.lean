/- Walk of the keys of a row: Keys. -/
import Derived.Test.YtdebgkjekcppmaaQ13
import Derived.Test.YtdebgkjekcppmaaQH
namespace Go.Proofs.Ytdebgkjekcppmaa
open Go.RowKit Oct
attribute [local go_sem] Oper.semAt_some

theorem infoS16 : (Try.prog.info? 9).map (fun i => (i.zero, i.size, i.bytes)) = some (some (.string ByteArray.empty), 1, 16) := by kernel_rfl
theorem hk1_at (x : List PR) (h : 0 < x.length) : x[0].1 = hk1 x := by
  cases x with
  | nil => simp at h
  | cons p l => rfl
/-- what holds between two rounds -/
def KeyI (B s D : Nat) (w : World) (pre : List (List PR)) (U : World) : Prop := BoxRow s (D + 2) 29 9 1 U pre.length (tcells (pre.map hk1)) ∧ Chg (fun k => k = B ∨ k = s ∨ D ≤ k) w U
theorem KeyI.chg {B s D : Nat} {w U U' : World} {pre : List (List PR)} (h1 : s < B) (h2 : B < D) (h : KeyI B s D w pre U) (hc : Chg (fun k => k = B ∨ k = D ∨ k = D + 1) U U') : KeyI B s D w pre U' :=
  ⟨h.1.chg hc (fun k hk => by omega), h.2.trans (hc.mono fun k hk => by omega)⟩
theorem ElP.chg2 {B s D : Nat} {x : List PR} {vs : Array Value} {U U' : World} (h2 : B < D) (h : ElP (fun k => s < k ∧ k < B) x vs U) (hc : Chg (fun k => k = D ∨ k = D + 1) U U') : ElP (fun k => s < k ∧ k < B) x vs U' := by
  obtain ⟨A, C, h1, h2, h3⟩ := h
  exact ⟨A, C, h1, rp_chg h2 hc (fun ad had hx => by have := h3 ad had; omega), h3⟩
theorem KeyI.step {B s D g cap : Nat} {w U U1 W : World} {pre : List (List PR)} {x : List PR} {v : Value} (h1 : s < B) (h2 : B < D) (hbox : U.heap[s]? = some (.cells #[v] 29 (0, 0))) (hw : Chg (fun k => k = B ∨ k = s ∨ D ≤ k) w U) (hD : D + 2 ≤ U.heap.size) (hU : Bel U U1)
    (hB : Below (D + 2) U1 W) (hown : W.ownsRow (D + 2) 9 1 (.slice (some ⟨g, 0, none⟩) (pre.length + 1) cap) (pre.length + 1) (tcells (pre.map hk1) ++ [.string (bs (hk1 x))])) :
    Chg (fun k => ¬ ((k = B ∨ (s < k ∧ k < B)) ∨ k = D ∨ k = D + 1)) U (W.setCell ⟨s, 0, none⟩ (.slice (some ⟨g, 0, none⟩) (pre.length + 1) cap)) ∧ KeyI B s D w (pre ++ [x]) (W.setCell ⟨s, 0, none⟩ (.slice (some ⟨g, 0, none⟩) (pre.length + 1) cap)) := by
  obtain ⟨k1, k2⟩ := BoxRow.stored (base := D + 2) (by omega) hbox ((hU.mono hD).trans hB) hown
  refine ⟨k2.mono fun k hk => by omega, ?_, hw.trans (k2.mono fun k hk => by omega)⟩
  have e : tcells ((pre ++ [x]).map hk1) = tcells (pre.map hk1) ++ [.string (bs (hk1 x))] := by simp [tcells]
  rw [e, List.length_append]
  exact k1

set_option maxRecDepth 100000 in
set_option maxHeartbeats 2000000 in
theorem Keys_any (v : Value) (r : List PR) (w : World) (hr : RP w v r) (hl : r.length * 32 ≤ 140737488355328) :
    Calls Try.prog 38 #[v] w fun e w' => ∃ v', e = .returned v' ∧ w'.ownsRow w.heap.size 9 1 v' (grp (srt r)).length (tcells ((grp (srt r)).map hk1)) ∧ Below w.heap.size w w' := by
  obtain ⟨a, cap, rfl, _, _⟩ := hr.open
  have hsl := srt_length r
  obtain ⟨L, hL⟩ : ∃ L, L = srt r := ⟨_, rfl⟩
  have hLl : L.length ≤ 4398046511104 := by rw [hL]; omega
  clear hsl
  have hgl := grp_length_le L.length L (Nat.le_refl _)
  have hgn := Lib.hid (grp_ne L.length L (Nat.le_refl _))
  have hS := fun w1 (hB : Below w.heap.size w w1) => Sort_any _ _ r w1 (Nat.le_refl _) (hr.below hB) hl
  rw [← hL] at hS ⊢
  have HS := Lib.hid hS
  clear hS hL hr
  refine calls_of_wp_marks Try.func38 rfl ?_
  simp only [Try.ntmps38, List.size_toArray, List.length_cons, List.length_nil, Nat.reduceAdd, Nat.reduceSub, Array.replicate_succ, Array.replicate_zero, List.push_toArray, List.append_toArray, List.nil_append, List.cons_append]
  go_wp2_with fail
  obtain ⟨w1, hw1⟩ : ∃ w1, w1 = w.alloc (.cells #[.slice none 0 0] 29) := ⟨_, rfl⟩
  have hb1 : w1.heap[w.heap.size]? = some (.cells #[.slice none 0 0] 29 (0, 0)) := by rw [hw1]; exact World.alloc_heap_new w _
  have hB1 : Below w.heap.size w w1 := by rw [hw1]; exact b_alloc w _
  have hs1 : w1.heap.size = w.heap.size + 1 := by rw [hw1]; simp
  rw [← hw1]
  clear hw1
  refine (HS.out w1 hB1).mono ?_; rintro e w2 ⟨v1, rfl, hown, hB2⟩
  obtain ⟨a1, c1, rfl⟩ := owns_slice hown
  have hlt : ∀ ad, a1 = some ad → w.heap.size < ad.block ∧ ad.block < w2.heap.size := by
    intro ad had
    rcases hown.2 with ⟨hv, _⟩ | ⟨g, cap', cur, hv, hg, hh, _⟩
    · injection hv with e1 _ _; rw [e1] at had; cases had
    · injection hv with e1 _ _
      rw [e1] at had
      cases had
      exact ⟨by show w.heap.size < g; omega, (Array.getElem?_eq_some_iff.1 hh).1⟩
  have HR := Lib.hid hown.reads
  have HLT := Lib.hid hlt
  have hB12 := bt hB1 hB2
  have hb2 := (hB2.block w.heap.size (by omega)).trans hb1
  have hsz2 : w.heap.size < w2.heap.size := by have := hB2.size; omega
  clear hown hlt hB1 hB2 hb1 hs1
  go_wp2_with fail
  refine (groups_mk a1 L.length c1 w2).mono ?_; rintro e w3 ⟨rfl, hw3⟩
  have hb3 : w3.heap[w2.heap.size]? = some (.cells #[.slice a1 L.length c1] 35 (0, 0)) := by rw [hw3]; exact World.alloc_heap_new w2 _
  have hB3 : Below w2.heap.size w2 w3 := by rw [hw3]; exact b_alloc w2 _
  have hs3 : w3.heap.size = w2.heap.size + 1 := by rw [hw3]; simp
  have hbs := (hB3.block w.heap.size hsz2).trans hb2
  have HR3 := Lib.hid (HR.out.below hB3)
  clear hw3 hb2
  go_wp2_with fail
  refine wp_range (D := w2.heap.size + 1) hs3 (gf := 95) (lb := #[.pointer (some ⟨w2.heap.size, 0, none⟩)]) rfl (enters_of Try.func95 (by kernel_rfl) rfl)
    (X := fun k => k = w2.heap.size) (Y := fun k => k = w2.heap.size ∨ (w.heap.size < k ∧ k < w2.heap.size)) (El := ElP fun k => w.heap.size < k ∧ k < w2.heap.size) (out := grp L) (fun k hk => by omega) (fun k hk => by omega)
    (fun W hW => groups_iter0 2 w2.heap.size L (fun k => w.heap.size < k ∧ k < w2.heap.size) a1 c1 W ((hW.block w2.heap.size (by omega)).trans hb3) (rp_chg (X := fun _ => False) HR3.out (Chg.of_below (hW.mono (by omega))) (fun _ _ h => h)) HLT.out (fun h => Nat.lt_irrefl _ h.2) hLl)
    (fun x vs U h => by obtain ⟨A, C, rfl, _⟩ := h; rfl) (fun x vs U U' h hc => h.chg2 (by omega) hc)
    (KeyI w2.heap.size w.heap.size (w2.heap.size + 1) w3) (fun _ _ _ => False) (fun pre U U' h hc => h.chg hsz2 (by omega) hc) (fun _ _ _ _ h _ => h.elim)
    ⟨⟨_, hbs, World.ownsRow_nil _ _ _ _⟩, Chg.refl _ _⟩ ?round ?done ?stop
  case round =>
    rintro l pre x vs U _ ⟨A, C, rfl, _, _⟩ hpre
    have hlen := hpre.length_le
    rw [List.length_append] at hlen
    have hby : (pre.length + 1) * 16 ≤ 140737488355328 := by simp at hlen; omega
    have hx0 : 0 < x.length := hgn.out x (hpre.subset (by simp))
    gi_wp2
    refine ⟨Below.refl _ _, ?_⟩
    rintro U2 h2 ⟨⟨v, hbox, hown⟩, hchg⟩ ⟨A', C', hv', hx, hA⟩ hc2
    have hv2 : Value.slice A x.length C = .slice A' x.length C' := by simpa using hv'
    injection hv2 with e1 _ e3
    subst e1 e3
    obtain ⟨av, cv, rfl⟩ := owns_slice hown
    obtain ⟨_, _, hvx, _, hcell⟩ := hx.open
    injection hvx with e1 _ _
    subst e1
    obtain ⟨b, off, rfl, hk, _⟩ := hcell 0 hx0
    rw [Nat.zero_mul, Nat.add_zero, hk1_at x hx0] at hk
    have c := cell_of_one hbox
    have f := free_of_one hbox
    have HO := Lib.hid hown
    have HX := Lib.hid hchg
    clear hv' hlen hpre hc2 hcell hown hchg
    have x0 : (0 : Int) < (x.length : Int) := by omega
    gi_wp2
    refine region_tail_in 6 [(0, .exact _ (.slice av pre.length cv)), (4, .exact _ (.string (bs (hk1 x)))), (5, kReads 1 [.string (bs (hk1 x))])] (by kernel_rfl) (by kernel_rfl) (by kernel_rfl) ?_
    simp only [List.take_succ_cons, List.take_zero, List.drop_succ_cons, List.drop_zero]
    (repeat (first | (refine wpG_skip (by kernel_rfl) (fun K hK => ?_); go_big_quiet_skip; refine wpQuiet_nil (hK _ ?_); clear hK K) | (refine wpG_quiet (by rfl) (by rfl) (fun K hK => ?_); go_big_quiet_want; go_big_quiet_op; go_big_quiet_on; refine wpQuiet_nil (hK _ ?_); clear hK K)))
    refine wpG_exact rfl (by kernel_rfl) (fun w' G hB hS hG => ?_) (fun K hK => ?_)
    · have c' := Below.keeps hB c
      go_simp; exact hG _ (Bel.refl _)
    go_simp; refine hK _ ?_; clear hK K; (repeat (first | (refine wpG_skip (by kernel_rfl) (fun K hK => ?_); go_big_quiet_skip; refine wpQuiet_nil (hK _ ?_); clear hK K) | (refine wpG_quiet (by rfl) (by rfl) (fun K hK => ?_); go_big_quiet_want; go_big_quiet_op; go_big_quiet_on; refine wpQuiet_nil (hK _ ?_); clear hK K)))
    refine wpG_exact rfl (by kernel_rfl) (fun w' G hB hS hG => ?_) (fun K hK => ?_)
    · have k' := Below.keeps hB hk
      go_simp; exact hG _ (Bel.refl _)
    go_simp; refine hK _ ?_; clear hK K; (repeat (first | (refine wpG_skip (by kernel_rfl) (fun K hK => ?_); go_big_quiet_skip; refine wpQuiet_nil (hK _ ?_); clear hK K) | (refine wpG_quiet (by rfl) (by rfl) (fun K hK => ?_); go_big_quiet_want; go_big_quiet_op; go_big_quiet_on; refine wpQuiet_nil (hK _ ?_); clear hK K)))
    refine wpG_known (kReads 1 [.string (bs (hk1 x))]) rfl (by kernel_rfl) (fun w' G hB hS hG => ?_) (fun x K hK => ?_)
    · go_simp; exact reads_new hG rfl
    obtain ⟨ad, c⟩ := x; go_simp; refine hK _ ?_; clear hK K; (repeat (first | (refine wpG_skip (by kernel_rfl) (fun K hK => ?_); go_big_quiet_skip; refine wpQuiet_nil (hK _ ?_); clear hK K) | (refine wpG_quiet (by rfl) (by rfl) (fun K hK => ?_); go_big_quiet_want; go_big_quiet_op; go_big_quiet_on; refine wpQuiet_nil (hK _ ?_); clear hK K)))
    intro w' hB hA
    refine appendNIn w' [.string (bs (hk1 x))] 9 rfl _ _ 29 rfl (w2.heap.size + 1 + 2) (.string ByteArray.empty) 1 16 Try.underlying29 infoS16 rfl (by decide) _ _ _ rfl (ownsRow_below HO.out hB) _ 1 rfl (all0 hA) (by decide) rfl (by simp [Value.oneCell']) hby (by decide) (Nat.le_trans h2 hB.size) ?_
    intro g cap W3 hown3 hB3'
    have cs : W3.heap[w.heap.size]? = some (.cells #[.slice av pre.length cv] 29 (0, 0)) := (hB3'.block w.heap.size (by omega)).trans ((hB.block w.heap.size (by omega)).trans hbox)
    have c3 := cell_of_one cs
    have f3 := free_of_one cs
    have H3 := Lib.hid hown3
    clear hown3 cs hA
    gi_wp2
    exact KeyI.step hsz2 (by omega) hbox HX.out h2 hB hB3' H3.out
  case done =>
    rintro W h2 ⟨⟨v, hbox, hown⟩, hchg⟩ hK
    obtain ⟨av, cv, rfl⟩ := owns_slice hown
    have c := cell_of_one hbox
    have f := free_of_one hbox
    have hltW := (Array.getElem?_eq_some_iff.1 hbox).1
    obtain ⟨W4, hW4⟩ : ∃ W4, W4 = (W.setCell ⟨w.heap.size, 0, none⟩ (.slice av (grp L).length cv)) := ⟨_, rfl⟩
    have hc4 : Chg (fun k => k = w2.heap.size ∨ k = w.heap.size ∨ w2.heap.size + 1 ≤ k) w3 W4 := by rw [hW4]; exact hchg.trans (Chg.setCell _ _ _ (.inr (.inl rfl)))
    have ho4 : W4.ownsRow (w2.heap.size + 1 + 2) 9 1 (.slice av (grp L).length cv) (grp L).length (tcells ((grp L).map hk1)) := by rw [hW4]; exact ownsRow_setCell_below hown (by show w.heap.size < _; omega) _
    have hb4 : W4.heap[w.heap.size]? = some (.cells #[.slice av (grp L).length cv] 29 (0, 0)) := by rw [hW4]; exact one_setCell hbox
    have hK4 : W4.heap[w2.heap.size + 1]? = some (.deferred (some [])) := by rw [hW4, Below.heap_setCell _ _ _ _ (by show w2.heap.size + 1 ≠ w.heap.size; omega)]; exact hK
    go_wp2
    rw [← hW4]
    have hp : ∀ X : Nat → Prop, X (w2.heap.size + 1) → Chg X W4 (W4.putObj (w2.heap.size + 1) (.deferred none)) := fun X hx => Chg.putObj _ _ _ hx
    have c4 := cell_of_one ((hp (fun k => k = w2.heap.size + 1) rfl).at hb4 (by omega))
    refine marks_ret (D := w2.heap.size + 1) (v := .slice av (grp L).length cv) rfl hK4 (by simp [results, Try.results38, go_sem, c4]) ⟨_, rfl, owns_mono (ownsRow_chg ho4 (hp (fun k => k = w2.heap.size + 1) rfl) fun k hk => by omega) (by omega), ?_⟩
    exact hB12.trans ((hB3.mono (by omega)).trans ((hc4.trans (hp _ (.inr (.inr (Nat.le_refl _))))).below (fun k hk => by omega) (by omega)))
  case stop => exact fun _ _ _ _ _ h _ => h.elim
end Go.Proofs.Ytdebgkjekcppmaa
