/- Walks of package sha: Write. -/
import Derived.Test.YtdebgkjekcppmaaS9
namespace Go.Proofs.Ytdebgkjekcppmaa
open Go.RowKit Oct
attribute [local go_sem] Oper.semAt_some

set_option maxRecDepth 100000 in
set_option maxHeartbeats 1000000 in
theorem Write_nil (l : List UInt8) (w : World) : Calls Try.prog 24 #[.pointer none, .string (bs l)] w fun e w' => e = .returned (.int .i64 1) ∧ Below w.heap.size w w' := by
  go_enter Try.func24, Try.ntmps24
  go_wp2
  go_ret
  exact ⟨rfl, b_alloc _ _⟩

/-- a Hash lies in block p with rest r and count n, whatever its words -/
theorem hash_same {U : World} {p : Nat} {h h' : List UInt32} {r r' : List UInt8} {n n' : Int} (hl : h.length = 8) (hl' : h'.length = 8) (hB : Blk U p 89 (hcells h r n)) (hB' : Blk U p 89 (hcells h' r' n')) : r' = r ∧ n' = n := by
  have a1 := hB.cell (hcells_rest h r n hl)
  have a2 := hB'.cell (hcells_rest h' r' n' hl')
  have b1 := hB.cell (hcells_n h r n hl)
  have b2 := hB'.cell (hcells_n h' r' n' hl')
  rw [a1] at a2
  rw [b1] at b2
  injection a2 with a2
  injection a2 with a2
  injection b2 with b2
  injection b2 with _ b2
  refine ⟨?_, b2.symm⟩
  have := congrArg ByteArray.toList a2
  simpa [bs_toList] using this.symm
/-- the invariant of a range over blocks: D0: the function's own blocks lie from there on; the box in block S holds v -/
def WrI (p D0 S : Nat) (v : Value) (t : TypeId) (h : List UInt32) (N : Int) (w : World) (pre : List (List UInt8)) (U : World) : Prop :=
  (∃ rest, Blk U p 89 (hcells (pre.foldl blockF h) rest N)) ∧ Blk U S t [v] ∧ Chg (fun k => k = p ∨ D0 ≤ k) w U
theorem WrI.x {p D0 S : Nat} {v : Value} {t : TypeId} {h : List UInt32} {N : Int} {w U U' : World} {pre : List (List UInt8)} (hl : h.length = 8) (hS : S ≠ p) (hI : WrI p D0 S v t h N w pre U) (hx : XrP p U U') : WrI p D0 S v t h N w pre U' := by
  obtain ⟨⟨rest, h1⟩, h2, h3⟩ := hI
  exact ⟨hx.2 _ _ _ (foldl_length h pre hl) h1, h2.chg hx.1 hS, h3.trans (hx.1.mono fun k hk => .inl hk)⟩
theorem WrI.d {p D0 S D : Nat} {v : Value} {t : TypeId} {h : List UInt32} {N : Int} {w U U' : World} {pre : List (List UInt8)} (hS : S < D) (hp : p < D) (hD : D0 ≤ D) (hI : WrI p D0 S v t h N w pre U) (hx : Chg (fun k => k = D ∨ k = D + 1) U U') : WrI p D0 S v t h N w pre U' := by
  obtain ⟨⟨rest, h1⟩, h2, h3⟩ := hI
  exact ⟨⟨rest, h1.chg hx (by omega)⟩, h2.chg hx (by omega), h3.trans (hx.mono fun k hk => .inr (by omega))⟩
theorem WrI.step {p D0 S : Nat} {v : Value} {t : TypeId} {h : List UInt32} {N : Int} {w U U' : World} {pre : List (List UInt8)} {rest x : List UInt8} (hS : S ≠ p) (h2 : Blk U S t [v]) (h3 : Chg (fun k => k = p ∨ D0 ≤ k) w U)
    (hB : Blk U' p 89 (hcells (blockF (pre.foldl blockF h) x) rest N)) (hc : Chg (· = p) U U') : WrI p D0 S v t h N w (pre ++ [x]) U' :=
  ⟨⟨rest, by rw [List.foldl_append]; exact hB⟩, h2.chg hc hS, h3.trans (hc.mono fun k hk => .inl hk)⟩
theorem XrP.keep {p D : Nat} (hp : p < D) (U U' : World) (h : XrP p U U') : KeepD D U U' := KeepD.of_chg h.1 fun k hk e => by subst e; omega
theorem YrP.comp {p b D : Nat} (hp : p < D) (hb : b < D) (u v x y : World) (h1 : Chg (fun k => k = D ∨ k = D + 1) u v) (h2 : YrP p b v x) (h3 : Chg (fun k => k = D ∨ k = D + 1) x y) : YrP p b u y :=
  ⟨fun o ho => h3.at (h2.1 o (h1.at ho (by omega))) (by omega), fun h r n hl hB => by
    obtain ⟨h', hl', hB'⟩ := h2.2 h r n hl (hB.chg h1 (by omega))
    exact ⟨h', hl', hB'.chg h3 (by omega)⟩⟩
theorem YrP.of_block {p b : Nat} {h h' : List UInt32} {r : List UInt8} {n : Int} {U U' : World} (hne : b ≠ p) (hl : h.length = 8) (hl' : h'.length = 8) (hB : Blk U p 89 (hcells h r n)) (hB' : Blk U' p 89 (hcells h' r n)) (hc : Chg (· = p) U U') : YrP p b U U' :=
  ⟨fun o ho => hc.at ho hne, fun h2 r2 n2 hl2 hB2 => by
    obtain ⟨rfl, rfl⟩ := hash_same hl hl2 hB hB2
    exact ⟨h', hl', hB'⟩⟩
theorem fin_d {p D : Nat} (hp : p < D) (r : List UInt8) (n : Int) (U U' : World) (h : ∃ h', h'.length = 8 ∧ Blk U p 89 (hcells h' r n)) (hc : Chg (fun k => k = D ∨ k = D + 1) U U') : ∃ h', h'.length = 8 ∧ Blk U' p 89 (hcells h' r n) := by
  obtain ⟨h', hl', hB⟩ := h
  exact ⟨h', hl', hB.chg hc (by omega)⟩
/-- at the end -/
theorem WrI.fin {p D0 S : Nat} {v : Value} {t : TypeId} {h : List UInt32} {N : Int} {w U : World} {l : List UInt8} (hl : h.length = 8) (hI : WrI p D0 S v t h N w (chunks l) U) (hf : ∃ h', h'.length = 8 ∧ Blk U p 89 (hcells h' (tailB l) N)) : Blk U p 89 (hcells (absorb h l) (tailB l) N) := by
  obtain ⟨⟨rest, h1⟩, _, _⟩ := hI
  obtain ⟨h', hl', hB⟩ := hf
  obtain ⟨rfl, _⟩ := hash_same hl' (foldl_length h _ hl) hB h1
  exact h1

set_option maxRecDepth 100000 in
set_option maxHeartbeats 2000000 in
theorem Write_any (p : Nat) (h : List UInt32) (hl : h.length = 8) (r s : List UInt8) (n : Nat) (w : World) (hp : Blk w p 89 (hcells h r n)) (hn : n + s.length ≤ 140737488355328) (hr : r.length + s.length ≤ 140737488355328) :
    Calls Try.prog 24 #[.pointer (some ⟨p, 0, none⟩), .string (bs s)] w fun e w' => e = .returned (.int .i64 0) ∧ Blk w' p 89 (hcells (absorb h (r ++ s)) (tailB (r ++ s)) ((n + s.length : Nat) : Int)) ∧ Chg (· = p) w w' := by
  have c8 := hp.cell (hcells_rest h r n hl)
  have c9 := hp.cell (hcells_n h r n hl)
  have f8 := hp.free (k := 8) (by rw [hcells_length _ _ _ hl]; omega)
  have f9 := hp.free (k := 9) (by rw [hcells_length _ _ _ hl]; omega)
  have hlt := hp.lt
  have HP := Lib.hid hp
  have HL := Lib.hid hl
  clear hp hl
  refine calls_of_wp_marks Try.func24 rfl ?_
  simp only [Try.ntmps24, List.size_toArray, List.length_cons, List.length_nil, Nat.reduceAdd, Nat.reduceSub, Array.replicate_succ, Array.replicate_zero, List.push_toArray, List.append_toArray, List.nil_append, List.cons_append]
  go_wp2_with fail
  obtain ⟨w1, hw1⟩ : ∃ w1, w1 = ((w.setCell ⟨p, 9, none⟩ (.int .u64 (n + s.length))).setCell ⟨p, 8, none⟩ (.string (bs (r ++ s)))).alloc (.cells #[.pointer (some ⟨p, 0, none⟩)] 30) := ⟨_, rfl⟩
  rw [← hw1]
  have hc0 : Chg (· = p) w ((w.setCell ⟨p, 9, none⟩ (.int .u64 (n + s.length))).setCell ⟨p, 8, none⟩ (.string (bs (r ++ s)))) := (Chg.setCell (X := (· = p)) w ⟨p, 9, none⟩ _ rfl).trans (Chg.setCell _ ⟨p, 8, none⟩ _ rfl)
  have hs0 : ((w.setCell ⟨p, 9, none⟩ (.int .u64 (n + s.length))).setCell ⟨p, 8, none⟩ (.string (bs (r ++ s)))).heap.size = w.heap.size := by simp [World.setCell]
  have hc1 : Chg (· = p) w w1 := by
    rw [hw1]
    exact hc0.trans (Chg.alloc _ _ _)
  have hs1 : w1.heap.size = w.heap.size + 1 := by rw [hw1]; simp [World.setCell]
  have hb1 : Blk w1 w.heap.size 30 [.pointer (some ⟨p, 0, none⟩)] := by
    rw [hw1]
    have := Blk.new ((w.setCell ⟨p, 9, none⟩ (.int .u64 (n + s.length))).setCell ⟨p, 8, none⟩ (.string (bs (r ++ s)))) [.pointer (some ⟨p, 0, none⟩)] 30
    rw [hs0] at this
    exact this
  have hp1 : Blk w1 p 89 (hcells h (r ++ s) ((n + s.length : Nat) : Int)) := by
    rw [hw1]
    have h1 := HP.out.set 9 (.int .u64 (n + s.length))
    rw [hcells_set9 _ _ _ _ HL.out] at h1
    have h2 := h1.set 8 (.string (bs (r ++ s)))
    rw [hcells_set8 _ _ _ _ HL.out] at h2
    exact h2.below (b_alloc _ _)
  clear hc0 hs0
  obtain ⟨N, hN⟩ : ∃ N : Int, N = ((n + s.length : Nat) : Int) := ⟨_, rfl⟩
  rw [← hN] at hp1
  have HN := Lib.hid hN
  clear hw1 hN c8 c9 f8 f9 hn
  obtain ⟨w0, hw0⟩ : ∃ w0, w0 = w := ⟨_, rfl⟩
  subst hw0
  refine (blocks_any p w1).mono ?_
  rintro e w2 ⟨b, rfl, hbs, hb2, hB2⟩
  have hb1' := Lib.hid (hb1.below hB2)
  have hp1' := Lib.hid (hp1.below hB2)
  have hc2 := Lib.hid (hc1.trans (Chg.of_below hB2))
  have hs2 := hB2.size
  have hlt2 := hb2.lt
  have HB2 := Lib.hid hb2
  have hbp : b ≠ p := by omega
  clear hb1 hp1 hc1 hb2 hB2
  go_wp2_with fail
  refine wp_rangeG (D := w2.heap.size) rfl (gf := 89) (lb := #[.pointer (some ⟨b, 0, none⟩)]) rfl (enters_of Try.func89 (by kernel_rfl) rfl)
    (Xr := XrP p) (Yr := YrP p b) (Fin := fun U => ∃ h', h'.length = 8 ∧ Blk U p 89 (hcells h' (tailB (r ++ s)) N)) (El := ElS) (out := chunks (r ++ s)) (XrP.keep (by omega)) (YrP.comp (by omega) (by omega)) (fun U U' h hc => fin_d (by omega) _ _ U U' h hc)
    (fun W hW => blocks_iter 2 p b h HL.out (r ++ s) N W (HB2.out.below hW) (hp1'.out.below hW) hbp (by simp; omega))
    (fun x vs U h => by rw [h.1]; rfl) (fun x vs U U' h _ => h)
    (WrI p w0.heap.size w0.heap.size (.pointer (some ⟨p, 0, none⟩)) 30 h N w0) (fun _ _ _ => False) (fun pre U U' h hx => h.x HL.out (by omega) hx) (fun pre U U' h hx => h.d (by omega) (by omega) (by omega) hx) (fun _ _ _ _ h _ => h.elim) (fun _ _ _ _ h _ => h.elim)
    ⟨⟨_, hp1'.out⟩, hb1'.out, hc2.out.mono fun k hk => .inl hk⟩ ?round ?done ?stop
  case round =>
    rintro l pre x vs U _ ⟨rfl, hx64⟩ hpre
    gi_wp2
    refine ⟨Below.refl _ _, ?_⟩
    rintro U2 h2 ⟨⟨rest, hB⟩, hbx, hcw⟩ _ hcU
    have c0 := hbx.cell (k := 0) rfl
    have HBx := Lib.hid hbx
    have HBp := Lib.hid hB
    have HCw := Lib.hid hcw
    clear hbx hB hcw hcU hpre
    gi_wp2
    refine ⟨trivial, CallsIn.inRound _ (callsIn_wide.2 ((block_any p _ (foldl_length h pre HL.out) rest N x (by omega) U2 HBp.out).mono ?_))⟩
    rintro e U3 ⟨rfl, hB3, hC3⟩
    gi_wp2
    refine ⟨KeepD.of_chg hC3 fun k hk e => by subst e; omega, YrP.of_block hbp (foldl_length h pre HL.out) (blockF_length _ _ (foldl_length h pre HL.out)) HBp.out hB3 hC3, WrI.step (by omega) HBx.out HCw.out hB3 hC3⟩
  case done =>
    rintro W h2 hI hF hK
    have hE := Lib.hid (hI.fin HL.out hF)
    have hC := Lib.hid hI.2.2
    clear hI hF
    go_wp2
    refine marks_ret (D := w2.heap.size) rfl hK (results_tmp rfl _ _ _) ⟨rfl, ?_, ?_⟩
    · rw [← HN.out]
      exact hE.out.chg (Chg.putObj (X := fun k => k = w2.heap.size) _ _ _ rfl) (by omega)
    · have hc := hC.out.trans (Chg.putObj (X := fun k => k = p ∨ w0.heap.size ≤ k) W w2.heap.size (.deferred none) (.inr (by omega)))
      exact ⟨hc.os, hc.tape, hc.output, hc.size, fun k hk hn => hc.block k hk (by omega)⟩
  case stop => exact fun _ _ _ _ _ h _ => h.elim
end Go.Proofs.Ytdebgkjekcppmaa
