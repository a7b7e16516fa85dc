/- Walks of the groups of a sorted row: the iterator. -/
import Derived.Test.YtdebgkjekcppmaaR0
import Derived.Test.YtdebgkjekcppmaaQ4
import Derived.Test.YtdebgkjekcppmaaQG
import Derived.Deep.DeepCutAuto
import Derived.OwnWalkIn
import Derived.TacticsInMore
import Derived.LoopNIn
import Derived.LoopIn
namespace Go.Proofs.Ytdebgkjekcppmaa
open Go.RowKit Oct
attribute [local go_sem] Oper.semAt_some

theorem add_block (a : Addr) (i : Nat) : (a.add i).block = a.block := by unfold Addr.add; split <;> rfl
theorem RP.move {w w' : World} {a : Option Addr} {n c : Nat} {l : List PR} (h : RP w (.slice a n c) l) (hk : ∀ ad, a = some ad → w'.heap[ad.block]? = w.heap[ad.block]?) : RP w' (.slice a n c) l := by
  obtain ⟨⟨a', cap, hv, hn, hc⟩, h2⟩ := h
  injection hv with e1 e2 e3
  subst e1 e3
  refine ⟨⟨a, c, by rw [e2], hn, fun j u hj => ?_⟩, h2⟩
  obtain ⟨b, off, ha, hu⟩ := hc j u hj
  have e : w'.cell? ⟨b, off + j, none⟩ = w.cell? ⟨b, off + j, none⟩ := World.cell?_of_block (w := w) (a := ⟨b, off + j, none⟩) (hk ⟨b, off, none⟩ ha)
  exact ⟨b, off, ha, e.trans hu⟩
theorem RP.cutRunB {w : World} {a : Option Addr} {cap : Nat} {l : List PR} (h : RP w (.slice a l.length cap) l) (k : Nat) (hk : k ≤ l.length) :
    ∃ A C, (∀ wx, (Instr.slice 35 (.slice a l.length cap) (some (.int .i64 (k : Int))) none none).run Try.prog wx = .ok (.slice A (l.length - k) C) wx) ∧ RP w (.slice A (l.length - k) C) (l.drop k) ∧ (∀ ad, A = some ad → ∃ ad0, a = some ad0 ∧ ad.block = ad0.block) := by
  refine ⟨_, _, fun wx => ?_, h.cut k hk, ?_⟩
  · rw [run_slice_l wx 35 a l.length cap (by kernel_rfl) .i64 k (by omega) (by omega)]
    have he : (sizeOf (Try.prog.elem 35)).run Try.prog wx = .ok 2 wx := by kernel_rfl
    rw [he]
    simp [Result.andThen, sliced]
  · intro ad hA
    split at hA
    · exact ⟨ad, hA, rfl⟩
    · obtain ⟨ad0, h1, h2⟩ := Option.map_eq_some_iff.1 hA
      exact ⟨ad0, h1, by rw [← h2, add_block]⟩
/-- s[:k:k], run -/
theorem RP.fullRun {w : World} {a : Option Addr} {cap : Nat} {l : List PR} (h : RP w (.slice a l.length cap) l) (k : Nat) (h1 : 1 ≤ k) (hk : k ≤ l.length) :
    ∃ A, (∀ wx, (Instr.slice 35 (.slice a l.length cap) none (some (.int .i64 (k : Int))) (some (.int .i64 (k : Int)))).run Try.prog wx = .ok (.slice A k k) wx) ∧ RP w (.slice A k k) (l.take k) ∧ (∀ ad, A = some ad → ∃ ad0, a = some ad0 ∧ ad.block = ad0.block) := by
  have hx := RP.head h k hk
  obtain ⟨_, a', cap', hv, hle⟩ := id h
  injection hv with _ _ h3
  subst h3
  refine ⟨a.map (·.add (0 * 2)), fun wx => ?_, ?_, fun ad hA => by obtain ⟨ad0, h1, h2⟩ := Option.map_eq_some_iff.1 hA; exact ⟨ad0, h1, by rw [← h2, add_block]⟩⟩
  · rw [run_slice_hm wx 35 a l.length cap (by kernel_rfl) .i64 .i64 k k (by omega) (by omega) (by omega)]
    have he : (sizeOf (Try.prog.elem 35)).run Try.prog wx = .ok 2 wx := by kernel_rfl
    rw [he]
    simp [Result.andThen, sliced, show k ≠ 0 by omega]
  · have hlen : (l.take k).length = k := by simp; omega
    unfold sliced at hx
    rw [if_neg (by omega)] at hx
    obtain ⟨⟨a1, c1, hv1, hn1, hc1⟩, _⟩ := hx
    injection hv1 with e1 e2 e3
    refine ⟨⟨_, k, by rw [hlen], ?_, ?_⟩, _, k, by rw [hlen], by rw [hlen]; exact Nat.le_refl _⟩
    · intro hnone
      rw [e1] at hnone
      have := hn1 hnone
      omega
    · rw [e1]; exact hc1

/-- what an iterator over groups hands out -/
def ElP (Yr : Nat → Prop) (x : List PR) (vs : Array Value) (U : World) : Prop := ∃ A C, vs = #[.slice A x.length C] ∧ RP U (.slice A x.length C) x ∧ ∀ ad, A = some ad → Yr ad.block
/-- a slice's length, in a cell -/
def mlen : Option Value → Nat
  | some (.slice _ n _) => n
  | _ => 0

theorem one_in (q : List PR) : Hid (∀ j (hj : j < 1) (h : j < q.length), q[j].1 = q[0].1) := by
  intro j hj h
  obtain rfl : j = 0 := by omega
  rfl
theorem grp_rel {B k n : Nat} {q r : List PR} {dn : List (List PR)} {Yr : Nat → Prop} {J : List (List PR) → World → Prop} {W6 W7 : World} {Ac : Option Addr} {Cc : Nat} (hc : Chg (fun k => ¬ (k = B ∨ Yr k)) W6 W7)
    (hB : W6.heap[B]? = some (.cells #[.slice Ac (q.length - k) Cc] 35 (0, 0))) (hR : RP W6 (.slice Ac (q.length - k) Cc) (q.drop k)) (hb : ∀ ad, Ac = some ad → Yr ad.block) (hG : grp r = (dn ++ [q.take k]) ++ grp (q.drop k)) (hJ : J (dn ++ [q.take k]) W7) (hq : q.length ≤ n) (hk : k ≤ q.length) :
    ∃ (q : List PR) (A : Option Addr) (C : Nat) (dn : List (List PR)), q.length ≤ n ∧ Hid (W7.heap[B]? = some (.cells #[.slice A q.length C] 35 (0, 0))) ∧ Hid (RP W7 (.slice A q.length C) q) ∧ Hid (∀ ad, A = some ad → Yr ad.block) ∧ Hid (grp r = dn ++ grp q) ∧ Hid (J dn W7) := by
  have hl : (q.drop k).length = q.length - k := by simp
  refine ⟨q.drop k, Ac, Cc, dn ++ [q.take k], by omega, ?_, ?_, hb, hG, hJ⟩
  · rw [hl]; exact hc.at hB fun h => h (.inl rfl)
  · rw [hl]
    by_cases h0 : (q.drop k).length = 0
    · obtain ⟨⟨a', cap, hv, hn, hcc⟩, h2⟩ := hR
      refine ⟨⟨a', cap, hv, hn, fun j u hj => ?_⟩, h2⟩
      have : q.drop k = [] := List.eq_nil_of_length_eq_zero h0
      rw [this] at hj
      simp [pcells] at hj
    · refine hR.move fun ad had => ?_
      rw [← hl] at hR
      obtain ⟨a', cap', hv, _, hcc⟩ := hR.open
      injection hv with e1 _ _
      subst e1
      obtain ⟨b, off, hab, hu, _⟩ := hcc 0 (by omega)
      rw [had] at hab
      cases hab
      exact hc.block b (lt_of_cell hu) fun h => h (.inr (hb _ had))
theorem grp_left {B m : Nat} {Yr : Nat → Prop} {W6 W7 : World} {Ac : Option Addr} {Cc : Nat} (hc : Chg (fun k => ¬ (k = B ∨ Yr k)) W6 W7) (hB : W6.heap[B]? = some (.cells #[.slice Ac m Cc] 35 (0, 0))) : mlen (W7.cell? ⟨B, 0, none⟩) = m := by
  rw [cell_of_one (hc.at hB fun h => h (.inl rfl))]; rfl
theorem take_len {α : Type} {q : List α} {k : Nat} (h : k ≤ q.length) : (q.take k).length = k := by simp [Nat.min_eq_left h]
theorem grp_at6 {B k nq : Nat} {q r : List PR} {dn : List (List PR)} {Yr : Nat → Prop} {W0 wr : World} {A Ac Af : Option Addr} {C Cc : Nat} (hB : W0.heap[B]? = some (.cells #[.slice A q.length C] 35 (0, 0))) (hbel : Below W0.heap.size W0 wr)
    (hRF : RP W0 (.slice Af k k) (q.take k)) (hRC : RP W0 (.slice Ac (q.length - k) Cc) (q.drop k)) (hbF : ∀ ad, Af = some ad → Yr ad.block) (hbC : ∀ ad, Ac = some ad → Yr ad.block) (hYB : ¬ Yr B) (hG : grp r = dn ++ grp q) (hk : k = head1 q) (h0 : 0 < q.length) :
    ((wr.drewN nq).setCell ⟨B, 0, none⟩ (.slice Ac (q.length - k) Cc)).heap[B]? = some (.cells #[.slice Ac (q.length - k) Cc] 35 (0, 0)) ∧ Chg (fun k => k = B) W0 ((wr.drewN nq).setCell ⟨B, 0, none⟩ (.slice Ac (q.length - k) Cc)) ∧
      RP ((wr.drewN nq).setCell ⟨B, 0, none⟩ (.slice Ac (q.length - k) Cc)) (.slice Af k k) (q.take k) ∧ RP ((wr.drewN nq).setCell ⟨B, 0, none⟩ (.slice Ac (q.length - k) Cc)) (.slice Ac (q.length - k) Cc) (q.drop k) ∧
      (dn ++ [q.take k] <+: grp r) ∧ grp r = (dn ++ [q.take k]) ++ grp (q.drop k) := by
  have hlt := (Array.getElem?_eq_some_iff.1 hB).1
  have hc : Chg (fun k => k = B) W0 ((wr.drewN nq).setCell ⟨B, 0, none⟩ (.slice Ac (q.length - k) Cc)) :=
    (Chg.of_below (bt hbel (Below.drewN' wr nq))).trans (Chg.setCell _ _ _ rfl)
  have hg : grp r = (dn ++ [q.take k]) ++ grp (q.drop k) := by rw [hG, grp_step q h0, ← hk]; simp
  have mv : ∀ {a : Option Addr} {n c : Nat} {l : List PR}, RP W0 (.slice a n c) l → (∀ ad, a = some ad → Yr ad.block) → RP ((wr.drewN nq).setCell ⟨B, 0, none⟩ (.slice Ac (q.length - k) Cc)) (.slice a n c) l := by
    intro a n c l h hb
    by_cases hl : l.length = 0
    · obtain ⟨⟨a', cap, hv, hn, hcc⟩, h2⟩ := h
      refine ⟨⟨a', cap, hv, hn, fun j u hj => ?_⟩, h2⟩
      have : l = [] := List.eq_nil_of_length_eq_zero hl
      subst this
      simp [pcells] at hj
    · refine h.move fun ad had => ?_
      obtain ⟨a', cap', hv, _, hcc⟩ := h.open
      injection hv with e1 _ _
      subst e1
      obtain ⟨b, off, hab, hu, _⟩ := hcc 0 (by omega)
      rw [had] at hab
      cases hab
      exact hc.block b (lt_of_cell hu) fun e => hYB (by rw [← e]; exact hb _ had)
  exact ⟨one_setCell (v := .slice A q.length C) ((hbel.block B hlt).trans hB), hc, mv hRF hbF, mv hRC hbC, ⟨_, hg.symm⟩, hg⟩

set_option maxRecDepth 100000 in
set_option maxHeartbeats 2000000 in
theorem groups_iter0 (n B : Nat) (r : List PR) (Yr : Nat → Prop) (A0 : Option Addr) (C0 : Nat) (W : World) (hB : W.heap[B]? = some (.cells #[.slice A0 r.length C0] 35 (0, 0))) (hr : RP W (.slice A0 r.length C0) r) (hblk : ∀ ad, A0 = some ad → Yr ad.block) (hYB : ¬ Yr B) (hl : r.length ≤ 4398046511104) :
    IterC Fence.wide n Try.prog 95 #[.pointer (some ⟨B, 0, none⟩)] (fun k => k = B) (fun k => k = B ∨ Yr k) (ElP Yr) (grp r) W := by
  intro l J Jx hJ hJx hY hJ0
  refine callsIn_wide.2 ?_
  have HJ := Lib.hid hJ
  have HJx := Lib.hid hJx
  have HY := Lib.hid hY
  have HB := Lib.hid hB
  have HBlk := Lib.hid hblk
  clear hJ hJx hY hB hblk
  go_enter Try.func95, Try.ntmps95
  go_wp2
  go_loopw [3] (fun _ wr => ∃ (q : List PR) (A : Option Addr) (C : Nat) (dn : List (List PR)), q.length ≤ 4398046511104 ∧ Hid (wr.heap[B]? = some (.cells #[.slice A q.length C] 35 (0, 0))) ∧ Hid (RP wr (.slice A q.length C) q) ∧ Hid (∀ ad, A = some ad → Yr ad.block) ∧ Hid (grp r = dn ++ grp q) ∧ Hid (J dn wr)) (fun _ wr => mlen (wr.cell? ⟨B, 0, none⟩))
  case atStart => exact ⟨r, A0, C0, [], hl, HB, hr, HBlk, rfl, hJ0⟩
  case round =>
    clear hr hJ0 HB HBlk
    obtain ⟨q, A, C, dn, hql, hB, hR, hblk, hG, hJd⟩ := hrel
    have c1 := cell_of_one hB.out
    have f1 := free_of_one hB.out
    by_cases h0 : 0 < q.length
    · have m0 : (0 : Int) < (q.length : Int) := by omega
      obtain ⟨_, _, hv, _, hcell⟩ := hR.out.open
      injection hv with e1 _ e3
      subst e1 e3
      obtain ⟨b, off, hA, d0, _⟩ := hcell 0 h0
      rw [Nat.zero_mul, Nat.add_zero] at d0
      subst hA
      have HC := Lib.hid hcell
      clear hcell
      obtain ⟨W0, hW0⟩ : ∃ W0, W0 = wr := ⟨_, rfl⟩
      subst hW0
      go_wp2
      go_loopw [3] (fun kk wx => ∃ k : Nat, 1 ≤ k ∧ k ≤ q.length ∧ kk = .int .i64 k ∧ Hid (∀ j (hj : j < k) (h : j < q.length), q[j].1 = q[0].1) ∧ Hid (Below W0.heap.size W0 wx)) (fun kk _ => q.length - (intOf kk).toNat)
      case atStart => exact ⟨1, by omega, by omega, rfl, one_in q, Below.refl _ _⟩
      case round =>
        obtain ⟨k, hk1, hk2, rfl, hin, hbel⟩ := hrel
        have c2 := Below.keeps hbel.out c1
        have d2 := Below.keeps hbel.out d0
        have ki0 : (0 : Int) ≤ (k : Int) := by omega
        by_cases hkq : k < q.length
        · have ki1 : (k : Int) < (q.length : Int) := by omega
          obtain ⟨_, _, e1, dk, _⟩ := HC.out k hkq
          cases e1
          replace dk := Below.keeps hbel.out dk
          by_cases he : q[k].1 = q[0].1
          · have he2 : (q[k].1 == q[0].1) = true := by simpa using he
            have HE := Lib.hid he
            clear he
            go_wp2
            go_quiet (fail)
            go_wp2
            go_roundw
            case rel =>
              refine ⟨k + 1, by omega, by omega, by go_num, ?_, bt hbel.out (Below.drewN' _ _)⟩
              intro j hj h
              by_cases hjk : j = k
              · subst hjk; exact HE.out
              · exact hin.out j (by omega) h
            case measure => simp [intOf]; omega
          · have he2 : (q[k].1 == q[0].1) = false := by simpa using he
            have hhead : k = head1 q := head1_eq q h0 k hk1 hk2 (fun j hj => hin.out j hj (by omega)) (fun _ => he)
            clear he
            (obtain ⟨Af, hrunF, hRF, hblkF⟩ := RP.fullRun hR.out k (by omega) (by omega); obtain ⟨Ac, Cc, hrunC, hRC, hblkC⟩ := RP.cutRunB hR.out k (by omega); have f2 : wr.frozen? ⟨B, 0, none⟩ = false := (hbel.out.frozen (p := ⟨B, 0, none⟩) (lt_of_cell c1)).trans f1; have H6 := fun nq => Lib.hid (grp_at6 (nq := nq) hB.out hbel.out hRF hRC (fun ad h => by obtain ⟨ad0, e1, e2⟩ := hblkF ad h; rw [e2]; exact hblk.out _ e1) (fun ad h => by obtain ⟨ad0, e1, e2⟩ := hblkC ad h; rw [e2]; exact hblk.out _ e1) hYB hG.out hhead h0); have HBF := Lib.hid (show ∀ ad, Af = some ad → Yr ad.block from fun ad h => by obtain ⟨ad0, e1, e2⟩ := hblkF ad h; rw [e2]; exact hblk.out _ e1); have HBC := Lib.hid (show ∀ ad, Ac = some ad → Yr ad.block from fun ad h => by obtain ⟨ad0, e1, e2⟩ := hblkC ad h; rw [e2]; exact hblk.out _ e1); have hk0 : (0 : Int) < (k : Int) := (by omega); have HH := Lib.hid hhead; clear hhead hRF hRC hblkF hblkC)
            go_wp2
            go_quiet (fail)
            go_upto_region 6 with (fail)
            (obtain ⟨W6, hW6⟩ : ∃ W6, W6 = ((wr.drewN nq).setCell ⟨B, 0, none⟩ (.slice Ac (q.length - k) Cc)) := ⟨_, rfl⟩; have h6 := (H6 nq).out; rw [← hW6] at h6 ⊢; clear hW6 H6; obtain ⟨hB6, hc6, hRF6, hRC6, hp6, hG6⟩ := h6; have hJ6 := HJ.out _ _ _ hJd.out hc6; obtain ⟨fn, tm, asg, bod, hy, hRd⟩ := HY.out dn (q.take k) #[.slice Af k k] W6 hJ6 ⟨Af, k, by rw [take_len hk2], by rw [take_len hk2]; exact hRF6, HBF.out⟩ hp6; have HP6 := Lib.hid hRC6; have HG6 := Lib.hid hG6; have HQ6 := Lib.hid hp6; have HB6 := Lib.hid hB6; clear hRC6 hG6 hp6 hB6 hJ6 hc6 hRF6)
            (refine (wpIn_wide (n := n)).1 ?_; gi_wp2; refine ⟨fun h => (by cases h), ?_⟩; refine hRd.mono ?_; rintro e W7 (⟨rfl, hJ7, hc7⟩ | ⟨rfl, hJx7⟩); (gi_wp2; go_wp2; go_roundw; (case rel => exact grp_rel hc7 HB6.out HP6.out HBC.out HG6.out hJ7 hql hk2); (case measure => rw [grp_left hc7 HB6.out, c1]; show q.length - k < q.length; omega)); (gi_wp2; go_wp2; refine bodyPost_ret (results_none rfl _ _ _) rfl ?_; exact ⟨⟨_, rfl⟩, .inr ⟨_, HQ6.out, hJx7⟩⟩))
        · have hhead : k = head1 q := head1_eq q h0 k hk1 hk2 (fun j hj => hin.out j hj (by omega)) (fun h => absurd h hkq)
          (obtain ⟨Af, hrunF, hRF, hblkF⟩ := RP.fullRun hR.out k (by omega) (by omega); obtain ⟨Ac, Cc, hrunC, hRC, hblkC⟩ := RP.cutRunB hR.out k (by omega); have f2 : wr.frozen? ⟨B, 0, none⟩ = false := (hbel.out.frozen (p := ⟨B, 0, none⟩) (lt_of_cell c1)).trans f1; have H6 := fun nq => Lib.hid (grp_at6 (nq := nq) hB.out hbel.out hRF hRC (fun ad h => by obtain ⟨ad0, e1, e2⟩ := hblkF ad h; rw [e2]; exact hblk.out _ e1) (fun ad h => by obtain ⟨ad0, e1, e2⟩ := hblkC ad h; rw [e2]; exact hblk.out _ e1) hYB hG.out hhead h0); have HBF := Lib.hid (show ∀ ad, Af = some ad → Yr ad.block from fun ad h => by obtain ⟨ad0, e1, e2⟩ := hblkF ad h; rw [e2]; exact hblk.out _ e1); have HBC := Lib.hid (show ∀ ad, Ac = some ad → Yr ad.block from fun ad h => by obtain ⟨ad0, e1, e2⟩ := hblkC ad h; rw [e2]; exact hblk.out _ e1); have hk0 : (0 : Int) < (k : Int) := (by omega); have HH := Lib.hid hhead; clear hhead hRF hRC hblkF hblkC)
          go_wp2
          go_quiet (fail)
          go_upto_region 6 with (fail)
          (obtain ⟨W6, hW6⟩ : ∃ W6, W6 = ((wr.drewN nq).setCell ⟨B, 0, none⟩ (.slice Ac (q.length - k) Cc)) := ⟨_, rfl⟩; have h6 := (H6 nq).out; rw [← hW6] at h6 ⊢; clear hW6 H6; obtain ⟨hB6, hc6, hRF6, hRC6, hp6, hG6⟩ := h6; have hJ6 := HJ.out _ _ _ hJd.out hc6; obtain ⟨fn, tm, asg, bod, hy, hRd⟩ := HY.out dn (q.take k) #[.slice Af k k] W6 hJ6 ⟨Af, k, by rw [take_len hk2], by rw [take_len hk2]; exact hRF6, HBF.out⟩ hp6; have HP6 := Lib.hid hRC6; have HG6 := Lib.hid hG6; have HQ6 := Lib.hid hp6; have HB6 := Lib.hid hB6; clear hRC6 hG6 hp6 hB6 hJ6 hc6 hRF6)
          (refine (wpIn_wide (n := n)).1 ?_; gi_wp2; refine ⟨fun h => (by cases h), ?_⟩; refine hRd.mono ?_; rintro e W7 (⟨rfl, hJ7, hc7⟩ | ⟨rfl, hJx7⟩); (gi_wp2; go_wp2; go_roundw; (case rel => exact grp_rel hc7 HB6.out HP6.out HBC.out HG6.out hJ7 hql hk2); (case measure => rw [grp_left hc7 HB6.out, c1]; show q.length - k < q.length; omega)); (gi_wp2; go_wp2; refine bodyPost_ret (results_none rfl _ _ _) rfl ?_; exact ⟨⟨_, rfl⟩, .inr ⟨_, HQ6.out, hJx7⟩⟩))
    · obtain rfl : q = [] := List.eq_nil_of_length_eq_zero (by omega)
      have hfin : grp r = dn := by have := hG.out; rw [grp_nil, List.append_nil] at this; exact this
      have HF := Lib.hid hfin
      clear hfin
      have c2 : wr.cell? ⟨B, 0, none⟩ = some (.slice A 0 C) := c1
      clear c1
      go_wp2
      go_end0
      exact ⟨⟨_, rfl⟩, .inl (by rw [HF.out]; exact hJd.out)⟩

theorem groups_iter (n B : Nat) (r : List PR) (A0 : Option Addr) (C0 : Nat) (W : World) (hB : W.heap[B]? = some (.cells #[.slice A0 r.length C0] 35 (0, 0))) (hr : RP W (.slice A0 r.length C0) r) (hblk : ∀ ad, A0 = some ad → ad.block < B) (hl : r.length ≤ 4398046511104) :
    IterC Fence.wide n Try.prog 95 #[.pointer (some ⟨B, 0, none⟩)] (fun k => k = B) (fun k => k ≤ B) (ElP fun k => k < B) (grp r) W := by
  have h := groups_iter0 n B r (fun k => k < B) A0 C0 W hB hr hblk (Nat.lt_irrefl B) hl
  have e : (fun k => k = B ∨ k < B) = fun k => k ≤ B := by funext k; simp only [eq_iff_iff]; omega
  rwa [e] at h
end Go.Proofs.Ytdebgkjekcppmaa
