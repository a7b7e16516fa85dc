/- Walks of the groups of a row: Collect, Groups. -/
import Derived.Test.YtdebgkjekcppmaaR1
import Derived.Test.YtdebgkjekcppmaaQ12
import Derived.Test.YtdebgkjekcppmaaQ5
namespace Go.Proofs.Ytdebgkjekcppmaa
open Go.RowKit Oct
attribute [local go_sem] Oper.semAt_some

theorem infoRow : (Try.prog.info? 35).map (fun i => (i.zero, i.size, i.bytes)) = some (some (.slice none 0 0), 1, 24) := by kernel_rfl
/-- cells that are rows of pairs, all below block B -/
def RowsIn16 (B : Nat) (U : World) (cells : List Value) (gs : List (List PR)) : Prop := cells.length = gs.length ∧
  ∀ k (hk : k < gs.length), ∃ A C, cells[k]? = some (.slice A gs[k].length C) ∧ RP U (.slice A gs[k].length C) gs[k] ∧ ∀ ad, A = some ad → ad.block < B
theorem rp_chg {X : Nat → Prop} {w w' : World} {a : Option Addr} {n c : Nat} {l : List PR} (h : RP w (.slice a n c) l) (hc : Chg X w w') (hX : ∀ ad, a = some ad → ¬ X ad.block) : RP w' (.slice a n c) l := by
  by_cases hl : l.length = 0
  · obtain ⟨⟨a', cap, hv, hn, hcc⟩, h2⟩ := h
    refine ⟨⟨a', cap, hv, hn, fun j u hj => ?_⟩, h2⟩
    have : l = [] := List.eq_nil_of_length_eq_zero hl
    subst this
    simp [pcells] at hj
  · refine h.move fun ad had => ?_
    obtain ⟨a', cap', hv, _, hcc⟩ := h.open
    injection hv with e1 _ _
    subst e1
    obtain ⟨b, off, hab, hu, _⟩ := hcc 0 (by omega)
    rw [had] at hab
    cases hab
    exact hc.block b (lt_of_cell hu) (hX _ had)
theorem RowsIn16.chg {B : Nat} {X : Nat → Prop} {U U' : World} {cells : List Value} {gs : List (List PR)} (h : RowsIn16 B U cells gs) (hc : Chg X U U') (hX : ∀ k, X k → B ≤ k) : RowsIn16 B U' cells gs :=
  ⟨h.1, fun k hk => by
    obtain ⟨A, C, h1, h2, h3⟩ := h.2 k hk
    exact ⟨A, C, h1, rp_chg h2 hc fun ad had hx => by have := h3 ad had; have := hX _ hx; omega, h3⟩⟩
theorem RowsIn16.snoc {B : Nat} {U : World} {cells : List Value} {gs : List (List PR)} {x : List PR} {A : Option Addr} {C : Nat} (h : RowsIn16 B U cells gs) (hx : RP U (.slice A x.length C) x) (hA : ∀ ad, A = some ad → ad.block < B) : RowsIn16 B U (cells ++ [.slice A x.length C]) (gs ++ [x]) := by
  refine ⟨by simp [h.1], fun k hk => ?_⟩
  by_cases hk2 : k < gs.length
  · obtain ⟨A', C', h1, h2, h3⟩ := h.2 k hk2
    refine ⟨A', C', ?_, ?_, h3⟩
    · rw [List.getElem?_append_left (by rw [h.1]; exact hk2), List.getElem_append_left hk2]; exact h1
    · rw [List.getElem_append_left hk2]; exact h2
  · obtain rfl : k = gs.length := by simp at hk; omega
    refine ⟨A, C, ?_, ?_, hA⟩
    · rw [List.getElem?_append_right (by rw [h.1]; exact Nat.le_refl _)]; simp [h.1]
    · simpa using hx
theorem RowsIn16.rr {B base : Nat} {U : World} {v : Value} {cells : List Value} {gs : List (List PR)} (hown : U.ownsRow base 35 1 v gs.length cells) (h : RowsIn16 B U cells gs) : RR U v gs := by
  obtain ⟨a, cap, hv, hn, hc⟩ := Reads.owned hown
  subst hv
  have hle : gs.length ≤ cap := by
    rcases hown.2 with ⟨hv, h0⟩ | ⟨g, cap', cur, hv, _, _, hcc, _⟩
    · omega
    · injection hv with _ _ e3; omega
  refine ⟨a, cap, rfl, hle, hn, fun k hk => ?_⟩
  obtain ⟨A, C, h1, h2, _⟩ := h.2 k hk
  obtain ⟨b, off, ha, hu⟩ := hc k _ h1
  exact ⟨b, off, _, ha, hu, h2⟩

/-- what holds between two rounds -/
def ColI (B s : Nat) (w : World) (pre : List (List PR)) (U : World) : Prop := ∃ cells, BoxRow s (s + 3) 43 35 1 U pre.length cells ∧ RowsIn16 B U cells pre ∧ Chg (fun k => k = B ∨ s ≤ k) w U
theorem ColI.chg {B s : Nat} {w U U' : World} {pre : List (List PR)} (hBs : B < s) (h : ColI B s w pre U) (hc : Chg (fun k => k = B ∨ k = s + 1 ∨ k = s + 1 + 1) U U') : ColI B s w pre U' := by
  obtain ⟨cells, h1, h2, h3⟩ := h
  exact ⟨cells, h1.chg hc (fun k hk => by omega), h2.chg hc (fun k hk => by omega), h3.trans (hc.mono fun k hk => by omega)⟩
theorem ElP.chg {B s : Nat} {x : List PR} {vs : Array Value} {U U' : World} (hBs : B < s) (h : ElP (fun k => k < B) x vs U) (hc : Chg (fun k => k = s + 1 ∨ k = s + 1 + 1) U U') : ElP (fun k => k < B) x vs U' := by
  obtain ⟨A, C, h1, h2, h3⟩ := h
  exact ⟨A, C, h1, rp_chg h2 hc (fun ad had hx => by have := h3 ad had; omega), h3⟩
theorem ColI.step {B s g cap : Nat} {w U W : World} {pre : List (List PR)} {x : List PR} {v : Value} {cells : List Value} {A : Option Addr} {C : Nat} (hBs : B < s) (hbox : U.heap[s]? = some (.cells #[v] 43 (0, 0))) (hrows : RowsIn16 B U cells pre) (hw : Chg (fun k => k = B ∨ s ≤ k) w U)
    (hx : RP U (.slice A x.length C) x) (hA : ∀ ad, A = some ad → ad.block < B) (hB : Below (s + 3) U W) (hown : W.ownsRow (s + 3) 35 1 (.slice (some ⟨g, 0, none⟩) (pre.length + 1) cap) (pre.length + 1) (cells ++ [.slice A x.length C])) :
    Chg (fun k => ¬ (k ≤ B ∨ k = s + 1 ∨ k = s + 1 + 1)) U (W.setCell ⟨s, 0, none⟩ (.slice (some ⟨g, 0, none⟩) (pre.length + 1) cap)) ∧ ColI B s w (pre ++ [x]) (W.setCell ⟨s, 0, none⟩ (.slice (some ⟨g, 0, none⟩) (pre.length + 1) cap)) := by
  obtain ⟨h1, h2⟩ := BoxRow.stored (by omega) hbox hB hown
  refine ⟨h2.mono fun k hk => by omega, _, by simpa using h1, (hrows.snoc hx hA).chg h2 fun k hk => by omega, hw.trans (h2.mono fun k hk => by omega)⟩

set_option maxRecDepth 100000 in
set_option maxHeartbeats 2000000 in
theorem AppendSeq_any (B : Nat) (r : List PR) (A0 : Option Addr) (C0 : Nat) (w : World) (hB : w.heap[B]? = some (.cells #[.slice A0 r.length C0] 35 (0, 0))) (hr : RP w (.slice A0 r.length C0) r) (hblk : ∀ ad, A0 = some ad → ad.block < B) (hl : r.length ≤ 4398046511104) :
    Calls Try.prog 94 #[.slice none 0 0, .func (.func 95) #[] #[.pointer (some ⟨B, 0, none⟩)]] w fun e w' => ∃ v cells, e = .returned v ∧ w'.ownsRow (w.heap.size + 3) 35 1 v (grp r).length cells ∧ RowsIn16 B w' cells (grp r) ∧ Chg (fun k => k = B) w w' := by
  have hgl := grp_length_le r.length r (Nat.le_refl _)
  have hBlt := (Array.getElem?_eq_some_iff.1 hB).1
  refine calls_of_wp_marks Try.func94 rfl ?_
  simp only [Try.ntmps94, List.size_toArray, List.length_cons, List.length_nil, Nat.reduceAdd, Nat.reduceSub, Array.replicate_succ, Array.replicate_zero, List.push_toArray, List.append_toArray, List.nil_append, List.cons_append]
  go_wp2
  obtain ⟨W1, hW1⟩ : ∃ W1, W1 = w.alloc (.cells #[.slice none 0 0] 43) := ⟨_, rfl⟩
  have hs1 : W1.heap.size = w.heap.size + 1 := by rw [hW1]; simp
  have hbx : W1.heap[w.heap.size]? = some (.cells #[.slice none 0 0] 43 (0, 0)) := by rw [hW1]; exact World.alloc_heap_new w _
  have hc1 : ∀ X, Chg X w W1 := fun X => by rw [hW1]; exact Chg.alloc X w _
  rw [← hW1]
  clear hW1
  have hB1 := (hc1 (fun _ => False)).at hB (fun h => h)
  have hr1 := rp_chg hr (hc1 (fun _ => False)) (fun _ _ h => h)
  refine wp_range (D := w.heap.size + 1) hs1 (gf := 95) (lb := #[.pointer (some ⟨B, 0, none⟩)]) rfl (enters_of Try.func95 (by kernel_rfl) rfl)
    (X := fun k => k = B) (Y := fun k => k ≤ B) (El := ElP fun k => k < B) (out := grp r) (fun k hk => by omega) (fun k hk => by omega)
    (fun W hW => groups_iter 2 B r A0 C0 W ((hW.block B (by omega)).trans hB1) (rp_chg (X := fun _ => False) hr1 (Chg.of_below (hW.mono (by omega))) (fun _ _ h => h)) hblk hl)
    (fun x vs U h => by obtain ⟨A, C, rfl, _⟩ := h; rfl) (fun x vs U U' h hc => h.chg hBlt hc)
    (ColI B w.heap.size w) (fun _ _ _ => False) (fun pre U U' h hc => h.chg hBlt hc) (fun _ _ _ _ h _ => h.elim)
    ⟨[], ⟨_, hbx, World.ownsRow_nil _ _ _ _⟩, ⟨rfl, fun k hk => by simp at hk⟩, hc1 _⟩ ?round ?done ?stop
  case round =>
    rintro l pre x vs U _ ⟨A, C, rfl, _, _⟩ hpre
    have hlen := hpre.length_le
    rw [List.length_append] at hlen
    have hby : (pre.length + 1) * 24 ≤ 140737488355328 := by simp at hlen; omega
    gi_wp2
    refine ⟨Below.refl _ _, ?_⟩
    rintro U2 h2 ⟨cells, ⟨v, hbox, hown⟩, hrows, hchg⟩ ⟨A', C', hv', hx, hA⟩ hc2
    have hv2 : Value.slice A x.length C = .slice A' x.length C' := by simpa using hv'
    injection hv2 with e1 _ e3
    subst e1 e3
    obtain ⟨av, cv, rfl⟩ := owns_slice hown
    have c := cell_of_one hbox
    have f := free_of_one hbox
    clear hv' hlen hpre hc2
    gi_wp2_with (gi_at_builtin; refine append1In U2 [_] 35 rfl _ _ 43 rfl (w.heap.size + 3) (.slice none 0 0) 1 24 Try.underlying43 infoRow rfl (by decide) _ _ _ rfl hown _ rfl rfl (by simp [Value.oneCell']) hby (by decide) h2 ?_; intro g cap W3 hown3 hB3; have c3 := cell_of_one ((hB3.block w.heap.size (by omega)).trans hbox); have f3 := free_of_one ((hB3.block w.heap.size (by omega)).trans hbox))
    exact ColI.step hBlt hbox hrows hchg hx hA hB3 hown3
  case done =>
    rintro W h2 ⟨cells, ⟨v, hbox, hown⟩, hrows, hchg⟩ hK
    obtain ⟨av, cv, rfl⟩ := owns_slice hown
    have c := cell_of_one hbox
    go_wp2
    have hp : ∀ X : Nat → Prop, X (w.heap.size + 1) → Chg X W (W.putObj (w.heap.size + 1) (.deferred none)) := fun X hx => Chg.putObj _ _ _ hx
    refine marks_ret (D := w.heap.size + 1) rfl hK (results_tmp rfl _ _ _) ⟨_, cells, rfl, ?_, ?_, ?_⟩
    · exact ownsRow_chg hown (hp (fun k => k = w.heap.size + 1) rfl) fun k hk => by omega
    · exact hrows.chg (hp (fun k => k = w.heap.size + 1) rfl) fun k hk => by omega
    · have hc := hchg.trans (hp _ (.inr (by omega)))
      exact ⟨hc.os, hc.tape, hc.output, hc.size, fun k hk hn => hc.block k hk (by omega)⟩
  case stop => exact fun _ _ _ _ _ h _ => h.elim

set_option maxRecDepth 100000 in
theorem groups_mk (a : Option Addr) (n c : Nat) (w : World) : Calls Try.prog 80 #[.slice a n c] w fun e w' => e = .returned (.func (.func 95) #[] #[.pointer (some ⟨w.heap.size, 0, none⟩)]) ∧ w' = w.alloc (.cells #[.slice a n c] 35) := by
  go_enter Try.func80, Try.ntmps80
  go_wp2
  go_ret
  exact ⟨rfl, rfl⟩
set_option maxRecDepth 100000 in
theorem Collect_any (B : Nat) (r : List PR) (A0 : Option Addr) (C0 : Nat) (w : World) (hB : w.heap[B]? = some (.cells #[.slice A0 r.length C0] 35 (0, 0))) (hr : RP w (.slice A0 r.length C0) r) (hblk : ∀ ad, A0 = some ad → ad.block < B) (hl : r.length ≤ 4398046511104) :
    Calls Try.prog 79 #[.func (.func 95) #[] #[.pointer (some ⟨B, 0, none⟩)]] w fun e w' => ∃ a n c cells, e = .returned (.slice a n c) ∧ w'.ownsRow (w.heap.size + 3) 35 1 (.slice a n c) (grp r).length cells ∧ RowsIn16 B w' cells (grp r) ∧ Chg (fun k => k = B) w w' := by
  have H := Lib.hid (AppendSeq_any B r A0 C0 w hB hr hblk hl)
  clear hB hr hblk hl
  go_enter Try.func79, Try.ntmps79
  go_wp2_with fail
  refine H.out.mono ?_; rintro e w1 ⟨v, cells, rfl, hown, hrows, hc⟩
  obtain ⟨a, c, rfl⟩ := owns_slice hown
  have HO := Lib.hid hown
  clear hown
  go_wp2_with fail
  go_ret
  exact ⟨_, _, _, cells, rfl, HO, hrows, hc⟩

theorem bt' {w1 w2 w3 : World} (h : Below w1.heap.size w1 w2) (hc : Chg (fun k => k = w1.heap.size) w2 w3) (hs : w2.heap.size = w1.heap.size + 1) : Below w1.heap.size w1 w3 :=
  h.trans (hc.below (fun k hk => by omega) (by omega))
set_option maxRecDepth 100000 in
set_option maxHeartbeats 1000000 in
theorem Groups_any (v : Value) (r : List PR) (w : World) (hr : RP w v r) (hl : r.length * 32 ≤ 140737488355328) :
    Calls Try.prog 37 #[v] w fun e w' => ∃ v' base cells, e = .returned v' ∧ w'.ownsRow base 35 1 v' (grp (srt r)).length cells ∧ RowsIn16 base w' cells (grp (srt r)) ∧ w.heap.size ≤ base ∧ Below w.heap.size w w' := by
  obtain ⟨a, cap, rfl, _, _⟩ := hr.open
  have hsl := srt_length r
  obtain ⟨L, hL⟩ : ∃ L, L = srt r := ⟨_, rfl⟩
  have hLl : L.length ≤ 4398046511104 := by rw [hL]; omega
  clear hsl
  have hS := Sort_any _ _ r w (Nat.le_refl _) hr hl
  rw [← hL] at hS ⊢
  have HS := Lib.hid hS
  have HL := Lib.hid hL
  clear hS hL
  go_enter Try.func37, Try.ntmps37
  go_wp2_with fail
  refine HS.out.mono ?_; rintro e w1 ⟨v1, rfl, hown, hB1⟩
  obtain ⟨a1, c1, rfl⟩ := owns_slice hown
  have hrow := hown.reads
  have hlt : ∀ ad, a1 = some ad → ad.block < w1.heap.size := by
    intro ad had
    rcases hown.2 with ⟨hv, _⟩ | ⟨g, cap', cur, hv, _, hh, _⟩
    · injection hv with e1 _ _; rw [e1] at had; cases had
    · injection hv with e1 _ _
      rw [e1] at had
      cases had
      exact (Array.getElem?_eq_some_iff.1 hh).1
  have HR := Lib.hid hrow
  have HLT := Lib.hid hlt
  clear hown hrow hlt
  go_wp2_with fail
  refine (groups_mk a1 L.length c1 w1).mono ?_; rintro e w2 ⟨rfl, hw2⟩
  have hb2 : w2.heap[w1.heap.size]? = some (.cells #[.slice a1 L.length c1] 35 (0, 0)) := by rw [hw2]; exact World.alloc_heap_new w1 _
  have hB2 : Below w1.heap.size w1 w2 := by rw [hw2]; exact b_alloc w1 _
  have hs2 : w2.heap.size = w1.heap.size + 1 := by rw [hw2]; simp
  have HC := Lib.hid (Collect_any w1.heap.size L a1 c1 w2 hb2 (HR.out.below hB2) HLT.out hLl)
  have HS2 := Lib.hid hs2
  clear hw2 hb2 hs2
  go_wp2_with fail
  refine HC.out.mono ?_; rintro e w3 ⟨a3, n3, c3, cells, rfl, hown3, hrows, hc3⟩
  have HO := Lib.hid hown3
  clear hown3
  go_wp2_with fail
  go_ret
  refine ⟨_, w1.heap.size, cells, rfl, owns_mono HO.out (by have := HS2.out; omega), hrows, hB1.size, bt hB1 (bt' hB2 hc3 HS2.out)⟩
end Go.Proofs.Ytdebgkjekcppmaa
