/- Walks of the laws' helpers: alive. -/
import Derived.Test.YtdebgkjekcppmaaQ5
import Derived.Test.YtdebgkjekcppmaaG1
import Derived.Test.YtdebgkjekcppmaaQ7
namespace Go.Proofs.Ytdebgkjekcppmaa
open Go.RowKit Oct

theorem size_alloc' (w : World) (o : Obj) : (w.alloc o).heap.size = w.heap.size + 1 := by simp
theorem b_drew'' (w : World) (b : Nat) : Below b w w.drew := (Below.refl _ _).drew
theorem size_ad (w : World) (o : Obj) : w.heap.size ≤ (w.alloc o).drew.heap.size := by show w.heap.size ≤ (w.alloc o).heap.size; simp
theorem RR.two (w : World) (l1 l2 : List PR) (e e' : TypeId) :
    RR (((w.alloc (.cells (pcells l1).toArray e)).alloc (.cells (pcells l2).toArray e)).alloc (.cells #[.slice (some ⟨w.heap.size, 0, none⟩) l1.length l1.length, .slice (some ⟨w.heap.size + 1, 0, none⟩) l2.length l2.length] e')) (.slice (some ⟨w.heap.size + 2, 0, none⟩) 2 2) [l1, l2] := by
  refine ⟨_, _, rfl, Nat.le_refl _, (by simp), ?_⟩
  intro k hk
  have hs : ((w.alloc (.cells (pcells l1).toArray e)).alloc (.cells (pcells l2).toArray e)).heap.size = w.heap.size + 2 := by simp
  have r1 := ((RP.new w l1 e).below (b_alloc _ (.cells (pcells l2).toArray e))).below (b_alloc _ (.cells #[.slice (some ⟨w.heap.size, 0, none⟩) l1.length l1.length, .slice (some ⟨w.heap.size + 1, 0, none⟩) l2.length l2.length] e'))
  have r2 := (RP.new (w.alloc (.cells (pcells l1).toArray e)) l2 e).below (b_alloc _ (.cells #[.slice (some ⟨w.heap.size, 0, none⟩) l1.length l1.length, .slice (some ⟨w.heap.size + 1, 0, none⟩) l2.length l2.length] e'))
  rw [size_alloc'] at r2
  match k, hk with
  | 0, _ => exact ⟨_, _, _, rfl, by rw [← hs, World.cell?_alloc_new]; rfl, r1⟩
  | 1, _ => exact ⟨_, _, _, rfl, by rw [← hs, World.cell?_alloc_new]; rfl, r2⟩

theorem c_sort : srt [([98], [49]), ([97], [50]), ([98], [48])] = [([97], [50]), ([98], [49]), ([98], [48])] := by decide
theorem c_merge : srt [[([97], [49]), ([99], [49])], [([97], [48]), ([98], [48])]].flatten = [([97], [49]), ([97], [48]), ([98], [48]), ([99], [49])] := by decide
theorem c_put : putP [([97], [49])] = ([1, 0, 1, 0, 97, 1, 0, 49], 0) := by decide
theorem c_get : getP [1] = none := by decide
theorem c_chk : chk [([97], [50]), ([98], [49]), ([98], [48])] = 0 := by decide
theorem c_chk2 : chk [([98], [49]), ([97], [50])] = 2 := by decide

/-- a slot that holds a row of pairs -/
def kRow (n : Nat) (l : List PR) : Known Bel := ⟨Option Addr × Nat, fun x => .slice x.1 n x.2, fun x => some fun w => RP w (.slice x.1 n x.2) l, fun _ _ h _ _ hφ hB => by cases h; exact RP.below hφ hB⟩
theorem row_new {w' : World} {G : Value → World → Prop} {n : Nat} {l : List PR} {cs : Array Value} {e : TypeId} (hG : ∀ x w'', Bel w' w'' → (∀ φ, (kRow n l).fact x = some φ → φ w'') → G ((kRow n l).val x) w'') (hcs : cs = (pcells l).toArray) (hn : n = l.length) :
    G (.slice (some ⟨w'.heap.size, 0, none⟩) n n) (w'.alloc (.cells cs e)) := by
  subst hcs hn
  exact hG (some ⟨w'.heap.size, 0, none⟩, l.length) _ (b_alloc w' _) (fun φ h => by cases h; exact RP.new w' l e)
theorem same_true (w : World) (va vb : Value) (l : List PR) (hl : l.length ≤ 1000) (h : RP w va l) (h' : RP w vb l) :
    Calls Try.prog 31 #[va, vb] w fun e w' => e = .returned (.bool true) ∧ Below w.heap.size w w' := by
  refine (rSameP_any _ _ l l _ h h' (by omega) (by omega)).mono ?_
  rintro e w' ⟨rfl, hB⟩
  exact ⟨by rw [decide_eq_true rfl], hB⟩
theorem check_is (w : World) (va : Value) (l : List PR) (x : Int) (h0 : RP w va l) (hl : l.length ≤ 1000) (h : chk l = x) :
    Calls Try.prog 36 #[va] w fun e w' => e = .returned (.int .i64 x) ∧ Below w.heap.size w w' := by
  refine (Check_any _ l _ h0 (by omega)).mono ?_
  rintro e w' ⟨rfl, hB⟩
  exact ⟨by rw [h], hB⟩

set_option maxRecDepth 100000 in
set_option maxHeartbeats 1000000 in
theorem alive16 (w : World) : Calls Try.prog 26 #[] w fun e w' => e = .returned (.bool true) ∧ Below w.heap.size w w' := by
  go_enter Try.func26, Try.ntmps26
  go_wp2_with fail
  refine (Sort_any 3 _ [([98], [49]), ([97], [50]), ([98], [48])] _ (by decide) (RP.new w _ _) (by decide)).mono ?_
  rw [c_sort]; rintro e w1 ⟨va, rfl, hownA, hB1⟩
  obtain ⟨aa, ca, rfl⟩ := owns_slice hownA
  have hA := Lib.hid hownA
  clear hownA
  go_wp2_with fail
  refine (Merge_any _ [[([97], [49]), ([99], [49])], [([97], [48]), ([98], [48])]] _ (RR.two w1 _ _ _ _) (by decide) (by decide)).mono ?_
  rw [c_merge]; rintro e w2 ⟨vb, rfl, hownB, hB2⟩
  obtain ⟨ab, cb, rfl⟩ := owns_slice hownB
  have hBB := Lib.hid hownB
  clear hownB
  go_wp2_with fail
  refine (PutP_any _ [([97], [49])] _ (RP.new w2 _ _) (by decide) (by decide)).mono ?_
  rw [c_put, txV_mk]; rintro e w3 ⟨rfl, hB3⟩
  go_wp2_with fail
  refine (GetP_any [1] _ (by decide)).mono ?_
  rw [c_get]; rintro e w4 ⟨rfl, hB4⟩
  have hs1 : Below w.heap.size w w1 := (b_alloc w _).trans (hB1.mono (by simp))
  have hs2 : Below w1.heap.size w1 w2 := ((b_alloc w1 _).trans ((b_alloc _ _).mono (by simp))).trans (((b_alloc _ _).mono (by simp; omega)).trans (hB2.mono (by simp; omega)))
  have hs3 : Below w2.heap.size w2 w3 := (b_alloc w2 _).trans (hB3.mono (by simp))
  have hB24 := bt hs3 hB4
  have ra := Lib.hid (hA.out.reads.below (bt hs2 hB24))
  have rb := Lib.hid (hBB.out.reads.below hB24)
  have hTot := bt hs1 (bt hs2 hB24)
  clear hA hBB hB1 hB2 hB3 hB4 hs1 hs2 hs3 hB24
  obtain ⟨_, _, hv1, _, hcell⟩ := ra.out.open
  injection hv1 with hv1 _ hv3
  subst hv1
  subst hv3
  obtain ⟨g, off, rfl, d1, d2⟩ := hcell 0 (by decide)
  obtain ⟨g', off', hv2, d3, d4⟩ := hcell 1 (by decide)
  cases hv2
  clear hcell
  rw [Nat.zero_mul, Nat.add_zero] at d1 d2
  go_wp2
  refine region_known [(4, kRow 3 [([97], [50]), ([98], [49]), ([98], [48])]), (5, .exact _ (.bool true)), (12, kRow 4 [([97], [49]), ([97], [48]), ([98], [48]), ([99], [49])]), (13, .exact _ (.bool true)), (29, .exact _ (.int .i64 0)), (35, .exact _ (.agg #[.string (bs [98]), .string (bs [49])])), (38, .exact _ (.agg #[.string (bs [97]), .string (bs [50])])), (39, kRow 2 [([98], [49]), ([97], [50])]), (40, .exact _ (.int .i64 2))] (by kernel_rfl) (by kernel_rfl) ?_
  (repeat (first | (refine wpG_skip (by kernel_rfl) (fun K hK => ?_); go_big_quiet_skip; refine wpQuiet_nil (hK _ ?_); clear hK K) | (refine wpG_quiet (by rfl) (by rfl) (fun K hK => ?_); go_big_quiet_want; go_big_quiet_op; go_big_quiet_on; refine wpQuiet_nil (hK _ ?_); clear hK K)))
  refine wpG_known _ rfl (by kernel_rfl) (fun w' G hB hS hG => ?_) (fun ⟨ad, c⟩ K hK => ?_)
  · go_simp; exact row_new hG rfl rfl
  go_simp; refine hK _ ?_; clear hK K; (repeat (first | (refine wpG_skip (by kernel_rfl) (fun K hK => ?_); go_big_quiet_skip; refine wpQuiet_nil (hK _ ?_); clear hK K) | (refine wpG_quiet (by rfl) (by rfl) (fun K hK => ?_); go_big_quiet_want; go_big_quiet_op; go_big_quiet_on; refine wpQuiet_nil (hK _ ?_); clear hK K)))
  refine wpG_exact rfl (by kernel_rfl) (fun w' G hB hS hG => ?_) (fun K hK => ?_)
  · go_simp; exact calls_told hG (same_true _ _ _ _ (by decide) (ra.out.below hB) (at0 hS (by kernel_rfl)))
  go_simp; refine hK _ ?_; clear hK K; (repeat (first | (refine wpG_skip (by kernel_rfl) (fun K hK => ?_); go_big_quiet_skip; refine wpQuiet_nil (hK _ ?_); clear hK K) | (refine wpG_quiet (by rfl) (by rfl) (fun K hK => ?_); go_big_quiet_want; go_big_quiet_op; go_big_quiet_on; refine wpQuiet_nil (hK _ ?_); clear hK K)))
  refine wpG_known _ rfl (by kernel_rfl) (fun w' G hB hS hG => ?_) (fun ⟨ad, c⟩ K hK => ?_)
  · go_simp; exact row_new hG rfl rfl
  go_simp; refine hK _ ?_; clear hK K; (repeat (first | (refine wpG_skip (by kernel_rfl) (fun K hK => ?_); go_big_quiet_skip; refine wpQuiet_nil (hK _ ?_); clear hK K) | (refine wpG_quiet (by rfl) (by rfl) (fun K hK => ?_); go_big_quiet_want; go_big_quiet_op; go_big_quiet_on; refine wpQuiet_nil (hK _ ?_); clear hK K)))
  refine wpG_exact rfl (by kernel_rfl) (fun w' G hB hS hG => ?_) (fun K hK => ?_)
  · go_simp; exact calls_told hG (same_true _ _ _ _ (by decide) (rb.out.below hB) (at0 hS (by kernel_rfl)))
  go_simp; refine hK _ ?_; clear hK K; (repeat (first | (refine wpG_skip (by kernel_rfl) (fun K hK => ?_); go_big_quiet_skip; refine wpQuiet_nil (hK _ ?_); clear hK K) | (refine wpG_quiet (by rfl) (by rfl) (fun K hK => ?_); go_big_quiet_want; go_big_quiet_op; go_big_quiet_on; refine wpQuiet_nil (hK _ ?_); clear hK K)))
  refine wpG_exact rfl (by kernel_rfl) (fun w' G hB hS hG => ?_) (fun K hK => ?_)
  · go_simp; exact calls_told hG (check_is _ _ _ _ (ra.out.below hB) (by decide) c_chk)
  go_simp; refine hK _ ?_; clear hK K; (repeat (first | (refine wpG_skip (by kernel_rfl) (fun K hK => ?_); go_big_quiet_skip; refine wpQuiet_nil (hK _ ?_); clear hK K) | (refine wpG_quiet (by rfl) (by rfl) (fun K hK => ?_); go_big_quiet_want; go_big_quiet_op; go_big_quiet_on; refine wpQuiet_nil (hK _ ?_); clear hK K)))
  refine wpG_exact rfl (by kernel_rfl) (fun w' G hB hS hG => ?_) (fun K hK => ?_)
  · have e3 := Below.keeps hB d3; have e4 := Below.keeps hB d4
    go_simp; exact hG _ (Bel.refl _)
  go_simp; refine hK _ ?_; clear hK K; (repeat (first | (refine wpG_skip (by kernel_rfl) (fun K hK => ?_); go_big_quiet_skip; refine wpQuiet_nil (hK _ ?_); clear hK K) | (refine wpG_quiet (by rfl) (by rfl) (fun K hK => ?_); go_big_quiet_want; go_big_quiet_op; go_big_quiet_on; refine wpQuiet_nil (hK _ ?_); clear hK K)))
  refine wpG_exact rfl (by kernel_rfl) (fun w' G hB hS hG => ?_) (fun K hK => ?_)
  · have e3 := Below.keeps hB d1; have e4 := Below.keeps hB d2
    go_simp; exact hG _ (Bel.refl _)
  go_simp; refine hK _ ?_; clear hK K; (repeat (first | (refine wpG_skip (by kernel_rfl) (fun K hK => ?_); go_big_quiet_skip; refine wpQuiet_nil (hK _ ?_); clear hK K) | (refine wpG_quiet (by rfl) (by rfl) (fun K hK => ?_); go_big_quiet_want; go_big_quiet_op; go_big_quiet_on; refine wpQuiet_nil (hK _ ?_); clear hK K)))
  refine wpG_known _ rfl (by kernel_rfl) (fun w' G hB hS hG => ?_) (fun ⟨ad, c⟩ K hK => ?_)
  · go_simp; exact row_new hG rfl rfl
  go_simp; refine hK _ ?_; clear hK K; (repeat (first | (refine wpG_skip (by kernel_rfl) (fun K hK => ?_); go_big_quiet_skip; refine wpQuiet_nil (hK _ ?_); clear hK K) | (refine wpG_quiet (by rfl) (by rfl) (fun K hK => ?_); go_big_quiet_want; go_big_quiet_op; go_big_quiet_on; refine wpQuiet_nil (hK _ ?_); clear hK K)))
  refine wpG_exact rfl (by kernel_rfl) (fun w' G hB hS hG => ?_) (fun K hK => ?_)
  · go_simp; exact calls_told hG (check_is _ _ _ _ (at0 hS (by kernel_rfl)) (by decide) c_chk2)
  go_simp; refine hK _ ?_; clear hK K; (repeat (first | (refine wpG_skip (by kernel_rfl) (fun K hK => ?_); go_big_quiet_skip; refine wpQuiet_nil (hK _ ?_); clear hK K) | (refine wpG_quiet (by rfl) (by rfl) (fun K hK => ?_); go_big_quiet_want; go_big_quiet_op; go_big_quiet_on; refine wpQuiet_nil (hK _ ?_); clear hK K)))
  intro w' hB hA
  clear hA
  go_wp2
  go_ret
  exact ⟨rfl, bt hTot hB⟩
end Go.Proofs.Ytdebgkjekcppmaa
