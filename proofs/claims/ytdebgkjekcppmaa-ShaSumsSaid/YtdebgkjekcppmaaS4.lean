/- Walk of package sha: block, its first region (three variables made and filled, in any order). -/
import Derived.Test.YtdebgkjekcppmaaS3
import Derived.Test.YtdebgkjekcppmaaG2
namespace Go.Proofs.Ytdebgkjekcppmaa
open Go.RowKit Oct

def sc (d : Bool) (v : Value) : Value := bif d then v else undef
@[go_sem] theorem sc_true (v : Value) : sc true v = v := rfl
@[go_sem] theorem sc_false (v : Value) : sc false v = undef := rfl

/-- what is known of the three blocks on the way -/
def BI (w0 w : World) (t64 t8 : TypeId) (W H : List UInt32) (d7 d8 d9 d10 d11 d12 : Bool) (b4 b5 b6 : Nat) : Prop :=
  Below w0.heap.size w0 w ∧ (d7 = true → w0.heap.size ≤ b4 ∧ Blk w b4 t64 (ucells (bif d10 then W else zrow 64))) ∧ (d8 = true → w0.heap.size ≤ b5 ∧ Blk w b5 t64 (ucells (bif d11 then ktab else zrow 64))) ∧
    (d9 = true → w0.heap.size ≤ b6 ∧ Blk w b6 t8 (ucells (bif d12 then H else zrow 8))) ∧ (d7 = true → d8 = true → b4 ≠ b5) ∧ (d7 = true → d9 = true → b4 ≠ b6) ∧ (d8 = true → d9 = true → b5 ≠ b6) ∧
    (d10 = true → d7 = true) ∧ (d11 = true → d8 = true) ∧ (d12 = true → d9 = true)
section
variable {w0 w : World} {t64 t8 : TypeId} {W H : List UInt32} {d7 d8 d9 d10 d11 d12 : Bool} {b4 b5 b6 : Nat}
theorem BI.below {w' : World} (h : BI w0 w t64 t8 W H d7 d8 d9 d10 d11 d12 b4 b5 b6) (hB : Below w.heap.size w w') : BI w0 w' t64 t8 W H d7 d8 d9 d10 d11 d12 b4 b5 b6 := by
  obtain ⟨h0, h1, h2, h3, h4⟩ := h
  exact ⟨bt h0 hB, fun e => ⟨(h1 e).1, (h1 e).2.below hB⟩, fun e => ⟨(h2 e).1, (h2 e).2.below hB⟩, fun e => ⟨(h3 e).1, (h3 e).2.below hB⟩, h4⟩
theorem ff {d : Bool} (h : d = true → false = true) : d = false := by cases d <;> simp_all
theorem BI.alloc4 (h : BI w0 w t64 t8 W H false d8 d9 d10 d11 d12 b4 b5 b6) : BI w0 (w.alloc (.cells (ucells (zrow 64)).toArray t64)) t64 t8 W H true d8 d9 d10 d11 d12 w.heap.size b5 b6 := by
  have hb := BI.below h (b_alloc w (.cells (ucells (zrow 64)).toArray t64))
  obtain ⟨h0, h1, h2, h3, h4, h5, h6, h7, h8, h9⟩ := h
  obtain rfl := ff h7
  exact ⟨hb.1, fun _ => ⟨h0.size, Blk.new _ _ _⟩, hb.2.2.1, hb.2.2.2.1, fun _ e => Nat.ne_of_gt (h2 e).2.lt, fun _ e => Nat.ne_of_gt (h3 e).2.lt, h6, fun e => (by cases e), h8, h9⟩
theorem BI.alloc5 (h : BI w0 w t64 t8 W H d7 false d9 d10 d11 d12 b4 b5 b6) : BI w0 (w.alloc (.cells (ucells (zrow 64)).toArray t64)) t64 t8 W H d7 true d9 d10 d11 d12 b4 w.heap.size b6 := by
  have hb := BI.below h (b_alloc w (.cells (ucells (zrow 64)).toArray t64))
  obtain ⟨h0, h1, h2, h3, h4, h5, h6, h7, h8, h9⟩ := h
  obtain rfl := ff h8
  exact ⟨hb.1, hb.2.1, fun _ => ⟨h0.size, Blk.new _ _ _⟩, hb.2.2.2.1, fun e _ => Nat.ne_of_lt (h1 e).2.lt, h5, fun _ e => Nat.ne_of_gt (h3 e).2.lt, h7, fun e => (by cases e), h9⟩
theorem BI.alloc6 (h : BI w0 w t64 t8 W H d7 d8 false d10 d11 d12 b4 b5 b6) : BI w0 (w.alloc (.cells (ucells (zrow 8)).toArray t8)) t64 t8 W H d7 d8 true d10 d11 d12 b4 b5 w.heap.size := by
  have hb := BI.below h (b_alloc w (.cells (ucells (zrow 8)).toArray t8))
  obtain ⟨h0, h1, h2, h3, h4, h5, h6, h7, h8, h9⟩ := h
  obtain rfl := ff h9
  exact ⟨hb.1, hb.2.1, hb.2.2.1, fun _ => ⟨h0.size, Blk.new _ _ _⟩, h4, fun e _ => Nat.ne_of_lt (h1 e).2.lt, fun e _ => Nat.ne_of_lt (h2 e).2.lt, h7, h8, fun e => (by cases e)⟩
theorem Blk.other {w : World} {b b' : Nat} {t : TypeId} {cs : List Value} (h : Blk w b t cs) (hne : b' ≠ b) (cs' : Array Value) : Blk (w.setRow b' cs') b t cs := by
  unfold Blk; rw [heap_setRow_ne w b' cs' b (Ne.symm hne)]; exact h
theorem BI.store4 (h : BI w0 w t64 t8 W H true d8 d9 d10 d11 d12 b4 b5 b6) : BI w0 (w.setRow b4 (ucells W).toArray) t64 t8 W H true d8 d9 true d11 d12 b4 b5 b6 := by
  obtain ⟨h0, h1, h2, h3, h4, h5, h6, h7, h8, h9⟩ := h
  exact ⟨below_setRow h0 (h1 rfl).1 _, fun _ => ⟨(h1 rfl).1, (h1 rfl).2.row _⟩, fun e => ⟨(h2 e).1, (h2 e).2.other (h4 rfl e) _⟩, fun e => ⟨(h3 e).1, (h3 e).2.other (h5 rfl e) _⟩, h4, h5, h6, fun _ => rfl, h8, h9⟩
theorem BI.store5 (h : BI w0 w t64 t8 W H d7 true d9 d10 d11 d12 b4 b5 b6) : BI w0 (w.setRow b5 (ucells ktab).toArray) t64 t8 W H d7 true d9 d10 true d12 b4 b5 b6 := by
  obtain ⟨h0, h1, h2, h3, h4, h5, h6, h7, h8, h9⟩ := h
  exact ⟨below_setRow h0 (h2 rfl).1 _, fun e => ⟨(h1 e).1, (h1 e).2.other (Ne.symm (h4 e rfl)) _⟩, fun _ => ⟨(h2 rfl).1, (h2 rfl).2.row _⟩, fun e => ⟨(h3 e).1, (h3 e).2.other (h6 rfl e) _⟩, h4, h5, h6, h7, fun _ => rfl, h9⟩
theorem BI.store6 (h : BI w0 w t64 t8 W H d7 d8 true d10 d11 d12 b4 b5 b6) : BI w0 (w.setRow b6 (ucells H).toArray) t64 t8 W H d7 d8 true d10 d11 true b4 b5 b6 := by
  obtain ⟨h0, h1, h2, h3, h4, h5, h6, h7, h8, h9⟩ := h
  exact ⟨below_setRow h0 (h3 rfl).1 _, fun e => ⟨(h1 e).1, (h1 e).2.other (Ne.symm (h5 e rfl)) _⟩, fun e => ⟨(h2 e).1, (h2 e).2.other (Ne.symm (h6 e rfl)) _⟩, fun _ => ⟨(h3 rfl).1, (h3 rfl).2.row _⟩, h4, h5, h6, h7, h8, fun _ => rfl⟩
end
def BInv (w0 : World) (p : Nat) (l : List UInt8) (h : List UInt32) (listed : Array Bool) (a : Act) (w : World) : Prop :=
  ∃ d0 d1 d2 d3 d4 d5 d6 d7 d8 d9 d10 d11 d12 : Bool, ∃ b4 b5 b6 : Nat, listed = #[d0, d1, d2, d3, d4, d5, d6, d7, d8, d9, d10, d11, d12] ∧
    a = { tmps := List.toArray ((.pointer (some ⟨p, 0, none⟩)) :: (.string (bs l)) :: undef :: undef :: (sc d7 (.pointer (some ⟨b4, 0, none⟩))) :: (sc d8 (.pointer (some ⟨b5, 0, none⟩))) :: (sc d9 (.pointer (some ⟨b6, 0, none⟩))) :: undef :: undef :: undef :: undef :: undef :: undef :: undef :: undef :: undef :: undef :: undef :: (sc d0 (.string (bs l))) :: (sc d1 (.agg (ucells (wl l 64)).toArray)) :: (sc d2 (.agg (ucells ktab).toArray)) :: (sc d3 (.pointer (some ⟨p, 0, none⟩))) :: (sc d4 (.pointer (some ⟨p, 0, none⟩))) :: (sc d5 (.pointer (some ⟨p, 0, none⟩))) :: (sc d6 (.agg (ucells h).toArray)) :: undef :: undef :: undef :: undef :: undef :: undef :: undef :: undef :: undef :: undef :: undef :: undef :: undef :: undef :: undef :: undef :: undef :: undef :: undef :: undef :: undef :: undef :: undef :: undef :: undef :: undef :: undef :: undef :: undef :: undef :: undef :: undef :: undef :: undef :: undef :: undef :: undef :: undef :: undef :: undef :: undef :: undef :: undef :: undef :: undef :: undef :: undef :: undef :: undef :: undef :: undef :: undef :: undef :: undef :: undef :: undef :: undef :: undef :: undef :: undef :: undef :: undef :: undef :: undef :: undef :: undef :: undef :: undef :: undef :: undef :: undef :: undef :: undef :: undef :: undef :: undef :: undef :: undef :: undef :: undef :: undef :: undef :: undef :: undef :: undef :: undef :: undef :: undef :: undef :: undef :: undef :: undef :: undef :: undef :: undef :: []), defers := [] } ∧ Hid (BI w0 w 121 86 (wl l 64) h d7 d8 d9 d10 d11 d12 b4 b5 b6)

set_option maxRecDepth 100000 in
set_option maxHeartbeats 8000000 in
theorem block_any (p : Nat) (h : List UInt32) (hl : h.length = 8) (rest : List UInt8) (n : Int) (l : List UInt8) (h64 : 64 ≤ l.length) (w : World) (hB : Blk w p 89 (hcells h rest n)) :
    Calls Try.prog 62 #[.pointer (some ⟨p, 0, none⟩), .string (bs l)] w fun e w' => e = .returned (.tuple #[]) ∧ Blk w' p 89 (hcells (blockF h l) rest n) ∧ Chg (· = p) w w' := by
  have hz1 := (zero_of_info (P := Try.prog) (t := 121) (v := .agg (ucells (zrow 64)).toArray) (n := 64) (by kernel_rfl)).1
  have hz2 := (zero_of_info (P := Try.prog) (t := 86) (v := .agg (ucells (zrow 8)).toArray) (n := 8) (by kernel_rfl)).1
  have HB := Lib.hid hB
  have H64 := Lib.hid h64
  have HL := Lib.hid hl
  have H8 := Lib.hid (show (Try.prog.info? 86).map (·.size) = some (ucells h).length by rw [ucells_length, hl]; kernel_rfl)
  have I64 := Lib.hid (show (Try.prog.info? 121).map (·.size) = some (ucells (wl l 64)).length by rw [ucells_length, wl_length]; kernel_rfl)
  have IK := Lib.hid (show (Try.prog.info? 121).map (·.size) = some (ucells ktab).length by kernel_rfl)
  clear hB
  go_enter Try.func62, Try.ntmps62
  go_wp2
  refine region_inv (BInv w p l h) (by kernel_rfl) (by kernel_rfl) ⟨false, false, false, false, false, false, false, false, false, false, false, false, false, 0, 0, 0, rfl, rfl, ?_⟩ ?_ ?_
  · exact ⟨b_drew w, fun e => (by cases e), fun e => (by cases e), fun e => (by cases e), fun e => (by cases e), fun e => (by cases e), fun e => (by cases e), fun e => (by cases e), fun e => (by cases e), fun e => (by cases e)⟩
  · intro listed a wx hI hs hall
    obtain ⟨d0, d1, d2, d3, d4, d5, d6, d7, d8, d9, d10, d11, d12, b4, b5, b6, rfl, rfl, hBI⟩ := hI
    have e0 : d0 = true := by simpa using hall 0 (by decide)
    have e1 : d1 = true := by simpa using hall 1 (by decide)
    have e2 : d2 = true := by simpa using hall 2 (by decide)
    have e3 : d3 = true := by simpa using hall 3 (by decide)
    have e4 : d4 = true := by simpa using hall 4 (by decide)
    have e5 : d5 = true := by simpa using hall 5 (by decide)
    have e6 : d6 = true := by simpa using hall 6 (by decide)
    have e7 : d7 = true := by simpa using hall 7 (by decide)
    have e8 : d8 = true := by simpa using hall 8 (by decide)
    have e9 : d9 = true := by simpa using hall 9 (by decide)
    have e10 : d10 = true := by simpa using hall 10 (by decide)
    have e11 : d11 = true := by simpa using hall 11 (by decide)
    have e12 : d12 = true := by simpa using hall 12 (by decide)
    simp only [e0, e1, e2, e3, e4, e5, e6, e7, e8, e9, e10, e11, e12, sc_true] at hBI ⊢
    clear e0 e1 e2 e3 e4 e5 e6 e7 e8 e9 e10 e11 e12 hall hs
    obtain ⟨hw, h4, h5, h6, n45, n46, n56, -⟩ := hBI.out
    have B4 : Hid (Blk wx b4 121 (ucells (wl l 64))) := (h4 rfl).2
    have B5 : Hid (Blk wx b5 121 (ucells ktab)) := (h5 rfl).2
    have B6 : Hid (Blk wx b6 86 (ucells h)) := (h6 rfl).2
    have BP := Lib.hid (HB.out.below hw)
    have N46 : Hid (b4 ≠ b6) := n46 rfl rfl
    have N56 : Hid (b5 ≠ b6) := n56 rfl rfl
    have NP : Hid (p ≠ b6) := (by have := HB.out.lt; have := (h6 rfl).1; show p ≠ b6; omega)
    have HW := Lib.hid hw
    have HG6 := Lib.hid (h6 rfl).1
    clear hw h4 h5 h6 n45 n46 n56 hBI hz1 hz2 d0 d1 d2 d3 d4 d5 d6 d7 d8 d9 d10 d11 d12
    go_wp2
    go_loopw [25] (fun t ux => ∃ k : Nat, k ≤ 64 ∧ t = .int .i64 k ∧ Hid (Blk ux b6 86 (ucells (rounds (wl l 64) h k))) ∧ Hid (Chg (· = b6) wx ux)) (fun t _ => 64 - (intOf t).toNat)
    case atStart => exact ⟨0, by omega, rfl, B6, Chg.refl _ _⟩
    case round =>
      obtain ⟨k, hk, rfl, HB6, HC6⟩ := hrel
      by_cases hk64 : k < 64
      · have k1 : (k : Int) < 64 := by omega
        have k0 : (0 : Int) ≤ (k : Int) := by omega
        have hst : rounds (wl l 64) h (k + 1) = step (ktab.getD k 0) ((wl l 64).getD k 0) (rounds (wl l 64) h k) := rfl
        obtain ⟨v0, v1, v2, v3, v4, v5, v6, v7, hv⟩ := eight _ (rounds_length (wl l 64) h HL.out k)
        rw [hv] at HB6 hst
        have c0 := HB6.out.cell (k := 0) rfl
        have c1 := HB6.out.cell (k := 1) rfl
        have c2 := HB6.out.cell (k := 2) rfl
        have c3 := HB6.out.cell (k := 3) rfl
        have c4 := HB6.out.cell (k := 4) rfl
        have c5 := HB6.out.cell (k := 5) rfl
        have c6 := HB6.out.cell (k := 6) rfl
        have c7 := HB6.out.cell (k := 7) rfl
        have cw := (B4.out.chg HC6.out N46.out).cell (u_at (wl l 64) k 64 (wl_length l 64) hk64)
        have ck := (B5.out.chg HC6.out N56.out).cell (u_at ktab k 64 rfl hk64)
        generalize (wl l 64).getD k 0 = ww at *
        generalize ktab.getD k 0 = kk at *
        have HST := Lib.hid hst
        clear hst hv
        go_wp2
        go_quiet (fail)
        go_wp2
        refine region_known [(1, .exact Bel (.int .u32 (U v7))), (3, .exact Bel (.int .u32 (U (rotr v4 6)))), (5, .exact Bel (.int .u32 (U (rotr v4 11)))), (8, .exact Bel (.int .u32 (U (rotr v4 25)))), (22, .exact Bel (.int .u32 (U kk))), (26, .exact Bel (.int .u32 (U ww)))] (by kernel_rfl) (by kernel_rfl) ?_
        (repeat (first | (refine wpG_skip (by kernel_rfl) (fun K hK => ?_); go_big_quiet_skip; refine wpQuiet_nil (hK _ ?_); clear hK K) | (refine wpG_quiet (by rfl) (by rfl) (fun K hK => ?_); go_big_quiet_want; go_big_quiet_op; go_big_quiet_on; refine wpQuiet_nil (hK _ ?_); clear hK K)))
        refine wpG_exact rfl (by kernel_rfl) (fun w' G hB hS hG => ?_) (fun K hK => ?_)
        · have cc := Below.keeps (bt (Below.drewN' wr nq) hB) c7
          go_simp
          exact hG _ (Bel.refl _)
        go_simp; refine hK _ ?_; clear hK K; (repeat (first | (refine wpG_skip (by kernel_rfl) (fun K hK => ?_); go_big_quiet_skip; refine wpQuiet_nil (hK _ ?_); clear hK K) | (refine wpG_quiet (by rfl) (by rfl) (fun K hK => ?_); go_big_quiet_want; go_big_quiet_op; go_big_quiet_on; refine wpQuiet_nil (hK _ ?_); clear hK K)))
        refine wpG_exact rfl (by kernel_rfl) (fun w' G hB hS hG => ?_) (fun K hK => ?_)
        · go_simp
          exact calls_told hG (rot_any v4 6 _ (by omega) (by omega))
        go_simp; refine hK _ ?_; clear hK K; (repeat (first | (refine wpG_skip (by kernel_rfl) (fun K hK => ?_); go_big_quiet_skip; refine wpQuiet_nil (hK _ ?_); clear hK K) | (refine wpG_quiet (by rfl) (by rfl) (fun K hK => ?_); go_big_quiet_want; go_big_quiet_op; go_big_quiet_on; refine wpQuiet_nil (hK _ ?_); clear hK K)))
        refine wpG_exact rfl (by kernel_rfl) (fun w' G hB hS hG => ?_) (fun K hK => ?_)
        · go_simp
          exact calls_told hG (rot_any v4 11 _ (by omega) (by omega))
        go_simp; refine hK _ ?_; clear hK K; (repeat (first | (refine wpG_skip (by kernel_rfl) (fun K hK => ?_); go_big_quiet_skip; refine wpQuiet_nil (hK _ ?_); clear hK K) | (refine wpG_quiet (by rfl) (by rfl) (fun K hK => ?_); go_big_quiet_want; go_big_quiet_op; go_big_quiet_on; refine wpQuiet_nil (hK _ ?_); clear hK K)))
        refine wpG_exact rfl (by kernel_rfl) (fun w' G hB hS hG => ?_) (fun K hK => ?_)
        · go_simp
          exact calls_told hG (rot_any v4 25 _ (by omega) (by omega))
        go_simp; refine hK _ ?_; clear hK K; (repeat (first | (refine wpG_skip (by kernel_rfl) (fun K hK => ?_); go_big_quiet_skip; refine wpQuiet_nil (hK _ ?_); clear hK K) | (refine wpG_quiet (by rfl) (by rfl) (fun K hK => ?_); go_big_quiet_want; go_big_quiet_op; go_big_quiet_on; refine wpQuiet_nil (hK _ ?_); clear hK K)))
        refine wpG_exact rfl (by kernel_rfl) (fun w' G hB hS hG => ?_) (fun K hK => ?_)
        · have cc := Below.keeps (bt (Below.drewN' wr nq) hB) ck
          go_simp
          exact hG _ (Bel.refl _)
        go_simp; refine hK _ ?_; clear hK K; (repeat (first | (refine wpG_skip (by kernel_rfl) (fun K hK => ?_); go_big_quiet_skip; refine wpQuiet_nil (hK _ ?_); clear hK K) | (refine wpG_quiet (by rfl) (by rfl) (fun K hK => ?_); go_big_quiet_want; go_big_quiet_op; go_big_quiet_on; refine wpQuiet_nil (hK _ ?_); clear hK K)))
        refine wpG_exact rfl (by kernel_rfl) (fun w' G hB hS hG => ?_) (fun K hK => ?_)
        · have cc := Below.keeps (bt (Below.drewN' wr nq) hB) cw
          go_simp
          exact hG _ (Bel.refl _)
        go_simp; refine hK _ ?_; clear hK K; (repeat (first | (refine wpG_skip (by kernel_rfl) (fun K hK => ?_); go_big_quiet_skip; refine wpQuiet_nil (hK _ ?_); clear hK K) | (refine wpG_quiet (by rfl) (by rfl) (fun K hK => ?_); go_big_quiet_want; go_big_quiet_op; go_big_quiet_on; refine wpQuiet_nil (hK _ ?_); clear hK K)))
        simp only [U_not]
        (try simp only [U_byte, U_shl24, U_shl16, U_shl8, U_shr3, U_shr10, U_or, U_xor, U_and, U_add, U_add', U_add3, U_add4, U_add5])
        have ht1 : v7 + (rotr v4 6 ^^^ rotr v4 11 ^^^ rotr v4 25) + (v4 &&& v5 ^^^ ~~~v4 &&& v6) + kk + ww = tmp1 v4 v5 v6 v7 kk ww := rfl
        rw [ht1]
        clear ht1
        (intro w' hB hA; simp only [Facts.all_some, Facts.all_none, and_true] at hA)
        have hBx := Lib.hid (bt (Below.drewN' wr nq) hB)
        clear hB c0 c1 c2 c4 c5 c6 c7 cw ck hA
        go_wp2_with fail
        refine (rot_any v0 2 _ (by omega) (by omega)).mono ?_
        rintro e w2 ⟨rfl, hB2⟩
        go_wp2_with fail
        refine (rot_any v0 13 _ (by omega) (by omega)).mono ?_
        rintro e w3 ⟨rfl, hB3⟩
        go_wp2_with fail
        refine (rot_any v0 22 _ (by omega) (by omega)).mono ?_
        rintro e w4 ⟨rfl, hB4⟩
        have hB0 := bt (bt (bt hBx.out hB2) hB3) hB4
        replace c3 := Below.keeps hB0 c3
        have B6' := Lib.hid (HB6.out.below hB0)
        have HC6' := Lib.hid (HC6.out.trans (Chg.of_below hB0))
        clear hB0 hBx hB2 hB3 hB4
        obtain ⟨NL, hNL⟩ : ∃ NL : List UInt32, NL = [tmp1 v4 v5 v6 v7 kk ww + tmp2 v0 v1 v2, v0, v1, v2, v3 + tmp1 v4 v5 v6 v7 kk ww, v4, v5, v6] := ⟨_, rfl⟩
        have I8 := Lib.hid (show (Try.prog.info? 86).map (·.size) = some (ucells NL).length by rw [hNL]; kernel_rfl)
        have L8 := Lib.hid (show (ucells [v0, v1, v2, v3, v4, v5, v6, v7]).length = (ucells NL).length by rw [hNL]; rfl)
        have HST' := Lib.hid (show rounds (wl l 64) h (k + 1) = NL by rw [HST.out, hNL]; rfl)
        have HNL := Lib.hid hNL
        clear hNL
        go_wp2_with first | (refine blk_build (ucells NL) rfl _ _ rfl (by rw [HNL.out]; kernel_rfl) ?_; refine blk_store b6 (ucells [v0, v1, v2, v3, v4, v5, v6, v7]) (ucells NL) B6'.out rfl 86 (.tmp 6) (.tmp 101) rfl rfl rfl I8.out L8.out (ucells_one _) ?_)
        refine ⟨⟨k + 1, by omega, by go_num, ?_, HC6'.out.trans (chg_setRow _ _ _ rfl)⟩, by simp [intOf]; omega⟩
        rw [HST'.out]
        exact B6'.out.row _
      · have hk : k = 64 := by omega
        subst hk
        have HI8 := Lib.hid (show (Try.prog.info? 86).map (·.size) = some (ucells (rounds (wl l 64) h 64)).length by rw [ucells_length, rounds_length _ _ HL.out]; kernel_rfl)
        have HBP : Hid (Blk wr p 89 (hcells h rest n)) := BP.out.chg HC6.out NP.out
        have HVL := Lib.hid (rounds_length (wl l 64) h HL.out 64)
        obtain ⟨V, hV⟩ : ∃ V, V = rounds (wl l 64) h 64 := ⟨_, rfl⟩
        rw [← hV] at HB6 HI8 HVL
        have HV := Lib.hid hV
        clear hV
        go_wp2_with (refine blk_load b6 (ucells V) HB6.out (.array 8 85) rfl _ _ rfl rfl (by kernel_rfl) rfl HI8.out ?_)
        go_loopw [104] (fun t ux => ∃ k : Nat, k ≤ 8 ∧ t = .int .i64 k ∧ Hid (Blk ux p 89 (hcells (added h V k) rest n)) ∧ Hid (Chg (· = p) wr ux)) (fun t _ => 8 - (intOf t).toNat)
        case atStart => exact ⟨0, by omega, rfl, (by rw [added_zero]; exact HBP), Chg.refl _ _⟩
        case round =>
          obtain ⟨k, hk, rfl, HBp, HCp⟩ := hrel
          by_cases hk8 : k < 8
          · have k1 : (k : Int) < 8 := by omega
            have k0 : (0 : Int) ≤ (k : Int) := by omega
            obtain ⟨ha1, ha2⟩ := added_step h V HL.out HVL.out k hk8
            have cp := HBp.out.cell (hcells_at (added h V k) rest n k (added_length h V HL.out HVL.out k hk) hk8)
            have fp := HBp.out.free (k := k) (by rw [hcells_length _ _ _ (added_length h V HL.out HVL.out k hk)]; omega)
            have hix := index8 V HVL.out k hk8
            rw [ha1] at cp
            generalize h.getD k 0 = hh at *
            generalize V.getD k 0 = vk at *
            have HA := Lib.hid ha2
            clear ha2 ha1
            go_wp2
            refine region_tail 11 [(2, .exact Bel (.pointer (some ⟨p, 0, none⟩))), (5, .exact Bel (.int .u32 (U hh))), (8, .exact Bel (.pointer (some ⟨p, 0, none⟩)))] (by kernel_rfl) (by kernel_rfl) ?_
            simp only [List.take_succ_cons, List.take_zero, List.drop_succ_cons, List.drop_zero]
            (repeat (first | (refine wpG_skip (by kernel_rfl) (fun K hK => ?_); go_big_quiet_skip; refine wpQuiet_nil (hK _ ?_); clear hK K) | (refine wpG_quiet (by rfl) (by rfl) (fun K hK => ?_); go_big_quiet_want; go_big_quiet_op; go_big_quiet_on; refine wpQuiet_nil (hK _ ?_); clear hK K)))
            refine wpG_exact rfl (by kernel_rfl) (fun w' G hB hS hG => ?_) (fun K hK => ?_)
            · go_simp
              exact hG _ (Bel.refl _)
            go_simp; refine hK _ ?_; clear hK K; (repeat (first | (refine wpG_skip (by kernel_rfl) (fun K hK => ?_); go_big_quiet_skip; refine wpQuiet_nil (hK _ ?_); clear hK K) | (refine wpG_quiet (by rfl) (by rfl) (fun K hK => ?_); go_big_quiet_want; go_big_quiet_op; go_big_quiet_on; refine wpQuiet_nil (hK _ ?_); clear hK K)))
            refine wpG_exact rfl (by kernel_rfl) (fun w' G hB hS hG => ?_) (fun K hK => ?_)
            · have cc := Below.keeps hB cp
              go_simp
              exact hG _ (Bel.refl _)
            go_simp; refine hK _ ?_; clear hK K; (repeat (first | (refine wpG_skip (by kernel_rfl) (fun K hK => ?_); go_big_quiet_skip; refine wpQuiet_nil (hK _ ?_); clear hK K) | (refine wpG_quiet (by rfl) (by rfl) (fun K hK => ?_); go_big_quiet_want; go_big_quiet_op; go_big_quiet_on; refine wpQuiet_nil (hK _ ?_); clear hK K)))
            refine wpG_exact rfl (by kernel_rfl) (fun w' G hB hS hG => ?_) (fun K hK => ?_)
            · go_simp
              exact hG _ (Bel.refl _)
            go_simp; refine hK _ ?_; clear hK K; (repeat (first | (refine wpG_skip (by kernel_rfl) (fun K hK => ?_); go_big_quiet_skip; refine wpQuiet_nil (hK _ ?_); clear hK K) | (refine wpG_quiet (by rfl) (by rfl) (fun K hK => ?_); go_big_quiet_want; go_big_quiet_op; go_big_quiet_on; refine wpQuiet_nil (hK _ ?_); clear hK K)))
            (try simp only [U_byte, U_shl24, U_shl16, U_shl8, U_shr3, U_shr10, U_or, U_xor, U_and, U_add, U_add', U_add3, U_add4, U_add5])
            (intro w' hB hA; simp only [Facts.all_some, Facts.all_none, and_true] at hA)
            have B' := HBp.out.below hB
            replace cp := B'.cell (hcells_at (added h V k) rest n k (added_length h V HL.out HVL.out k hk) hk8)
            replace fp := B'.free (k := k) (by rw [hcells_length _ _ _ (added_length h V HL.out HVL.out k hk)]; omega)
            have HS := Lib.hid (B'.set k (.int .u32 (U (hh + vk))))
            have HCn := Lib.hid (HCp.out.trans (Chg.of_below hB))
            clear B' hB hA hix
            go_wp2
            refine ⟨⟨k + 1, by omega, by go_num, ?_, HCn.out.trans (Chg.setCell _ _ _ rfl)⟩, by simp [intOf]; omega⟩
            have := HS.out
            rw [hcells_set _ _ _ _ _ (added_length h V HL.out HVL.out k hk) hk8, HA.out] at this
            exact this
          · have hk : k = 8 := by omega
            subst hk
            have HF : Hid (Blk wr p 89 (hcells (blockF h l) rest n)) := (by have := HBp.out; rw [added_all h V HL.out HVL.out, HV.out] at this; exact this)
            go_wp2
            refine bodyPost_end (results_none rfl _ _ _) rfl ?_
            exact ⟨rfl, HF.out, (Chg.of_below (HW.out.trans (HC6.out.below (fun k e => e ▸ HG6.out) HW.out.size))).trans HCp.out⟩
  refine ⟨fun listed a wx hI hd hdep => ?_, fun listed a wx hI hd hdep => ?_, fun listed a wx hI hd hdep => ?_, fun listed a wx hI hd hdep => ?_, fun listed a wx hI hd hdep => ?_, fun listed a wx hI hd hdep => ?_, fun listed a wx hI hd hdep => ?_, fun listed a wx hI hd hdep => ?_, fun listed a wx hI hd hdep => ?_, fun listed a wx hI hd hdep => ?_, fun listed a wx hI hd hdep => ?_, fun listed a wx hI hd hdep => ?_, fun listed a wx hI hd hdep => ?_, trivial⟩
  · obtain ⟨d0, d1, d2, d3, d4, d5, d6, d7, d8, d9, d10, d11, d12, b4, b5, b6, rfl, rfl, hBI⟩ := hI
    obtain rfl : d0 = false := by simpa using hd
    rw [if_pos (by rfl)]
    unfold Oper.wp
    go_simp
    exact ⟨true, d1, d2, d3, d4, d5, d6, d7, d8, d9, d10, d11, d12, b4, b5, b6, rfl, rfl, hBI⟩
  · obtain ⟨d0, d1, d2, d3, d4, d5, d6, d7, d8, d9, d10, d11, d12, b4, b5, b6, rfl, rfl, hBI⟩ := hI
    obtain rfl : d1 = false := by simpa using hd
    simp [Region.binds] at hdep
    have e0 : d0 = true := by simp [hdep]
    clear hdep
    simp only [e0] at hBI ⊢
    rw [if_pos (by rfl)]
    unfold Oper.wp
    go_simp
    refine (words_any l wx H64.out).mono ?_
    rintro e w2 ⟨rfl, hB2⟩
    exact ⟨true, true, d2, d3, d4, d5, d6, d7, d8, d9, d10, d11, d12, b4, b5, b6, rfl, rfl, hBI.out.below hB2⟩
  · obtain ⟨d0, d1, d2, d3, d4, d5, d6, d7, d8, d9, d10, d11, d12, b4, b5, b6, rfl, rfl, hBI⟩ := hI
    obtain rfl : d2 = false := by simpa using hd
    simp [Region.binds] at hdep
    have e1 : d1 = true := by simp [hdep]
    clear hdep
    simp only [e1] at hBI ⊢
    rw [if_pos (by rfl)]
    unfold Oper.wp
    go_simp
    refine (table_any wx).mono ?_
    rintro e w2 ⟨rfl, hB2⟩
    exact ⟨d0, true, true, d3, d4, d5, d6, d7, d8, d9, d10, d11, d12, b4, b5, b6, rfl, rfl, hBI.out.below hB2⟩
  · obtain ⟨d0, d1, d2, d3, d4, d5, d6, d7, d8, d9, d10, d11, d12, b4, b5, b6, rfl, rfl, hBI⟩ := hI
    obtain rfl : d3 = false := by simpa using hd
    rw [if_pos (by rfl)]
    unfold Oper.wp
    go_simp
    exact ⟨d0, d1, d2, true, d4, d5, d6, d7, d8, d9, d10, d11, d12, b4, b5, b6, rfl, rfl, hBI⟩
  · obtain ⟨d0, d1, d2, d3, d4, d5, d6, d7, d8, d9, d10, d11, d12, b4, b5, b6, rfl, rfl, hBI⟩ := hI
    obtain rfl : d4 = false := by simpa using hd
    simp [Region.binds] at hdep
    have e3 : d3 = true := by simp [hdep]
    clear hdep
    simp only [e3] at hBI ⊢
    rw [if_pos (by rfl)]
    unfold Oper.wp
    go_simp
    exact ⟨d0, d1, d2, true, true, d5, d6, d7, d8, d9, d10, d11, d12, b4, b5, b6, rfl, rfl, hBI⟩
  · obtain ⟨d0, d1, d2, d3, d4, d5, d6, d7, d8, d9, d10, d11, d12, b4, b5, b6, rfl, rfl, hBI⟩ := hI
    obtain rfl : d5 = false := by simpa using hd
    simp [Region.binds] at hdep
    have e4 : d4 = true := by simp [hdep]
    clear hdep
    simp only [e4] at hBI ⊢
    rw [if_pos (by rfl)]
    unfold Oper.wp
    go_simp
    exact ⟨d0, d1, d2, d3, true, true, d6, d7, d8, d9, d10, d11, d12, b4, b5, b6, rfl, rfl, hBI⟩
  · obtain ⟨d0, d1, d2, d3, d4, d5, d6, d7, d8, d9, d10, d11, d12, b4, b5, b6, rfl, rfl, hBI⟩ := hI
    obtain rfl : d6 = false := by simpa using hd
    simp [Region.binds] at hdep
    have e5 : d5 = true := by simp [hdep]
    clear hdep
    simp only [e5] at hBI ⊢
    rw [if_pos (by rfl)]
    have hr : wx.rangeAt p 0 (ucells h) := fun j v hv => by
      have hj : j < 8 := by have := (List.getElem?_eq_some_iff.1 hv).1; rwa [ucells_length, HL.out] at this
      rw [Nat.zero_add]
      refine (HB.out.below hBI.out.1).cell ?_
      rw [hcells, List.getElem?_append_left (by rw [ucells_length, HL.out]; exact hj)]
      exact hv
    refine wp_load_mid 86 _ rfl p 0 rfl (ucells h) (.array 8 85) hr (by kernel_rfl) rfl H8.out ?_
    exact ⟨d0, d1, d2, d3, d4, true, true, d7, d8, d9, d10, d11, d12, b4, b5, b6, rfl, rfl, hBI⟩
  · obtain ⟨d0, d1, d2, d3, d4, d5, d6, d7, d8, d9, d10, d11, d12, b4, b5, b6, rfl, rfl, hBI⟩ := hI
    obtain rfl : d7 = false := by simpa using hd
    rw [if_pos (by rfl)]
    unfold Oper.wp
    go_simp
    exact ⟨d0, d1, d2, d3, d4, d5, d6, true, d8, d9, d10, d11, d12, wx.heap.size, b5, b6, rfl, rfl, hBI.out.alloc4⟩
  · obtain ⟨d0, d1, d2, d3, d4, d5, d6, d7, d8, d9, d10, d11, d12, b4, b5, b6, rfl, rfl, hBI⟩ := hI
    obtain rfl : d8 = false := by simpa using hd
    rw [if_pos (by rfl)]
    unfold Oper.wp
    go_simp
    exact ⟨d0, d1, d2, d3, d4, d5, d6, d7, true, d9, d10, d11, d12, b4, wx.heap.size, b6, rfl, rfl, hBI.out.alloc5⟩
  · obtain ⟨d0, d1, d2, d3, d4, d5, d6, d7, d8, d9, d10, d11, d12, b4, b5, b6, rfl, rfl, hBI⟩ := hI
    obtain rfl : d9 = false := by simpa using hd
    rw [if_pos (by rfl)]
    unfold Oper.wp
    go_simp
    exact ⟨d0, d1, d2, d3, d4, d5, d6, d7, d8, true, d10, d11, d12, b4, b5, wx.heap.size, rfl, rfl, hBI.out.alloc6⟩
  · obtain ⟨d0, d1, d2, d3, d4, d5, d6, d7, d8, d9, d10, d11, d12, b4, b5, b6, rfl, rfl, hBI⟩ := hI
    obtain rfl : d10 = false := by simpa using hd
    simp [Region.binds] at hdep
    have e7 : d7 = true := by simp [hdep]
    have e1 : d1 = true := by simp [hdep]
    have e2 : d2 = true := by simp [hdep]
    have e0 : d0 = true := by simp [hdep]
    have e8 : d8 = true := by simp [hdep]
    have e9 : d9 = true := by simp [hdep]
    clear hdep
    simp only [e7, e1, e2, e0, e8, e9] at hBI ⊢
    rw [if_pos (by rfl)]
    have hz4 : Blk wx b4 121 (ucells (zrow 64)) := (hBI.out.2.1 rfl).2
    have hs4 : (ucells (zrow 64)).toArray.size = (ucells (wl l 64)).toArray.size := by rw [List.size_toArray, List.size_toArray, ucells_length, ucells_length, wl_length]; rfl
    have hi4 : (Try.prog.info? 121).map (·.size) = some (ucells (wl l 64)).toArray.size := by rw [List.size_toArray]; exact I64.out
    generalize hWL : wl l 64 = WL at *
    refine wp_store_row 121 (.tmp 4) (.tmp 19) rfl b4 (ucells WL).toArray rfl rfl 121 _ hz4 hi4 hs4 (ucells_one _) ?_
    subst hWL
    exact ⟨true, true, true, d3, d4, d5, d6, true, true, true, true, d11, d12, b4, b5, b6, rfl, rfl, hBI.out.store4⟩
  · obtain ⟨d0, d1, d2, d3, d4, d5, d6, d7, d8, d9, d10, d11, d12, b4, b5, b6, rfl, rfl, hBI⟩ := hI
    obtain rfl : d11 = false := by simpa using hd
    simp [Region.binds] at hdep
    have e8 : d8 = true := by simp [hdep]
    have e2 : d2 = true := by simp [hdep]
    have e10 : d10 = true := by simp [hdep]
    have e0 : d0 = true := by simp [hdep]
    have e1 : d1 = true := by simp [hdep]
    have e7 : d7 = true := by simp [hdep]
    have e9 : d9 = true := by simp [hdep]
    clear hdep
    simp only [e8, e2, e10, e0, e1, e7, e9] at hBI ⊢
    rw [if_pos (by rfl)]
    refine wp_store_row 121 _ _ rfl b5 (ucells ktab).toArray rfl rfl 121 _ (hBI.out.2.2.1 rfl).2 (by rw [List.size_toArray]; exact IK.out) rfl (ucells_one _) ?_
    exact ⟨true, true, true, d3, d4, d5, d6, true, true, true, true, true, d12, b4, b5, b6, rfl, rfl, hBI.out.store5⟩
  · obtain ⟨d0, d1, d2, d3, d4, d5, d6, d7, d8, d9, d10, d11, d12, b4, b5, b6, rfl, rfl, hBI⟩ := hI
    obtain rfl : d12 = false := by simpa using hd
    simp [Region.binds] at hdep
    have e0 : d0 = true := by simp [hdep]
    have e1 : d1 = true := by simp [hdep]
    have e2 : d2 = true := by simp [hdep]
    have e3 : d3 = true := by simp [hdep]
    have e4 : d4 = true := by simp [hdep]
    have e5 : d5 = true := by simp [hdep]
    have e6 : d6 = true := by simp [hdep]
    have e7 : d7 = true := by simp [hdep]
    have e8 : d8 = true := by simp [hdep]
    have e9 : d9 = true := by simp [hdep]
    have e10 : d10 = true := by simp [hdep]
    have e11 : d11 = true := by simp [hdep]
    clear hdep
    simp only [e0, e1, e2, e3, e4, e5, e6, e7, e8, e9, e10, e11] at hBI ⊢
    rw [if_pos (by rfl)]
    refine wp_store_row 86 _ _ rfl b6 (ucells h).toArray rfl rfl 86 _ (hBI.out.2.2.2.1 rfl).2 (by rw [List.size_toArray]; exact H8.out) (by rw [List.size_toArray, List.size_toArray, ucells_length, ucells_length, HL.out]; rfl) (ucells_one _) ?_
    exact ⟨true, true, true, true, true, true, true, true, true, true, true, true, true, b4, b5, b6, rfl, rfl, hBI.out.store6⟩
end Go.Proofs.Ytdebgkjekcppmaa
