/- Walks over rows of rows of pairs; the law PairsMerge. -/
import Derived.Test.YtdebgkjekcppmaaQ10
import Derived.Test.YtdebgkjekcppmaaO2
namespace Go.Proofs.Ytdebgkjekcppmaa
open Go.RowKit Oct

/-- rows of two rows -/
theorem RR.pair {w : World} {v1 v2 : Value} {l1 l2 : List PR} (e : TypeId) (h1 : RP w v1 l1) (h2 : RP w v2 l2) : RR (w.alloc (.cells #[v1, v2] e)) (.slice (some ⟨w.heap.size, 0, none⟩) 2 2) [l1, l2] := by
  refine ⟨_, _, rfl, Nat.le_refl _, (by simp), ?_⟩
  intro k hk
  have r1 := h1.below (b_alloc w (.cells #[v1, v2] e))
  have r2 := h2.below (b_alloc w (.cells #[v1, v2] e))
  match k, hk with
  | 0, _ => exact ⟨_, _, _, rfl, by rw [World.cell?_alloc_new]; rfl, r1⟩
  | 1, _ => exact ⟨_, _, _, rfl, by rw [World.cell?_alloc_new]; rfl, r2⟩
theorem RR.sub {w : World} {a : Option Addr} {cap : Nat} {l : List (List PR)} (h : RR w (.slice a l.length cap) l) (lo hi : Nat) (h1 : lo ≤ hi) (h2 : hi ≤ l.length) :
    RR w (sliced a lo hi cap 1) ((l.drop lo).take (hi - lo)) := by
  have hlen : ((l.drop lo).take (hi - lo)).length = hi - lo := by simp; omega
  obtain ⟨a', cap', hv, hle, hn, hc⟩ := h
  injection hv with e1 _ e3
  subst e1 e3
  unfold sliced
  refine ⟨_, _, by rw [hlen], by rw [hlen]; omega, ?_, ?_⟩
  · intro ha
    rw [hlen]
    by_cases e : cap = lo
    · omega
    · rw [if_neg e] at ha
      have : a = none := by simpa using ha
      have := hn this
      omega
  · intro k hk
    rw [hlen] at hk
    obtain ⟨b, off, u, rfl, hu, hr⟩ := hc (lo + k) (by omega)
    rw [if_neg (by omega)]
    refine ⟨b, off + lo, u, ?_, ?_, ?_⟩
    · rw [Option.map_some, Addr.add_lit, Nat.mul_one]
    · rw [← hu, Nat.add_assoc]
    · have : ((l.drop lo).take (hi - lo))[k]'(by rw [hlen]; exact hk) = l[lo + k]'(by omega) := by simp
      rw [this]; exact hr
theorem RR.cutRun {w : World} {a : Option Addr} {cap : Nat} {l : List (List PR)} (h : RR w (.slice a l.length cap) l) (k : Nat) (c : Int) (hc : c = (k : Int)) (hk : k ≤ l.length) :
    ∃ A C, (∀ wx, (Instr.slice 43 (.slice a l.length cap) (some (.int .i64 c)) none none).run Try.prog wx = .ok (.slice A (l.length - k) C) wx) ∧ RR w (.slice A (l.length - k) C) (l.drop k) := by
  subst hc
  have hx := h.sub k l.length hk (Nat.le_refl _)
  rw [List.take_of_length_le (by simp)] at hx
  obtain ⟨_, _, hv, hle, _⟩ := id h
  injection hv with _ _ h3
  subst h3
  refine ⟨_, _, fun wx => ?_, hx⟩
  rw [run_slice_l wx 43 a l.length cap (by kernel_rfl) .i64 k (by omega) (by omega)]
  have he : (sizeOf (Try.prog.elem 43)).run Try.prog wx = .ok 1 wx := by kernel_rfl
  rw [he]
  simp [Result.andThen, sliced]
theorem RR.headRun {w : World} {a : Option Addr} {cap : Nat} {l : List (List PR)} (h : RR w (.slice a l.length cap) l) (k : Nat) (c : Int) (hc : c = (k : Int)) (hk : k ≤ l.length) :
    ∃ A C, (∀ wx, (Instr.slice 43 (.slice a l.length cap) none (some (.int .i64 c)) none).run Try.prog wx = .ok (.slice A k C) wx) ∧ RR w (.slice A k C) (l.take k) := by
  subst hc
  have hx := h.sub 0 k (by omega) hk
  rw [List.drop_zero, Nat.sub_zero] at hx
  obtain ⟨_, _, hv, hle, _⟩ := id h
  injection hv with _ _ h3
  subst h3
  refine ⟨if cap = 0 then a else a.map (·.add (0 * 1)), cap - 0, fun wx => ?_, by simpa [sliced] using hx⟩
  rw [run_slice_h wx 43 a l.length cap (by kernel_rfl) .i64 k (by omega) (by omega)]
  have he : (sizeOf (Try.prog.elem 43)).run Try.prog wx = .ok 1 wx := by kernel_rfl
  rw [he]
  simp [Result.andThen, sliced]

set_option maxRecDepth 100000 in
set_option maxHeartbeats 1000000 in
theorem rows16_any (v : Value) (rows : List (List PR)) (w : World) (hr : RR w v rows) (hn : rows.length ≤ 100) (hl : rows.flatten.length * 32 ≤ 140737488355328) :
    Calls Try.prog 32 #[v] w fun e w' => ∃ v', e = .returned v' ∧ OP w' w.heap.size v' rows.flatten ∧ Below w.heap.size w w' := by
  obtain ⟨a, cap, rfl, _, _, hc⟩ := hr
  go_enter Try.func32, Try.ntmps32
  go_wp2
  go_loopw [3, 4] (fun out i wr => ∃ (k : Nat) (o : List PR), k ≤ rows.length ∧ i = .int .i64 k ∧ OP wr w.heap.size out o ∧ Hid (o = (rows.take k).flatten) ∧ o.length ≤ rows.flatten.length ∧ Below w.heap.size w wr) (fun _ i _ => rows.length - (intOf i).toNat)
  case atStart => exact ⟨0, [], by omega, rfl, OP.nil _ _, rfl, by simp, Below.refl _ _⟩
  case round =>
    obtain ⟨k, o, hk, rfl, hown, hH, hol, hB⟩ := hrel
    obtain ⟨ao, co, rfl⟩ := owns_slice hown
    have hO := Lib.hid hown
    clear hown
    by_cases h0 : k < rows.length
    · obtain ⟨b, off, u, rfl, hu, hru⟩ := hc k h0
      obtain ⟨ar, cr, rfl, _, _⟩ := hru.open
      replace hu := Below.keeps hB hu
      have kk0 : (0 : Int) ≤ (k : Int) := by omega
      have kk1 : (k : Int) < (rows.length : Int) := by omega
      have hru2 := hru.below hB
      have hf := flat_take rows k h0
      have hfl := flat_le rows (k + 1)
      rw [hf, ← hH.out, List.length_append] at hfl
      have HF := Lib.hid hf
      clear hc hf
      go_wp2_with (at_builtin; refine appendP wr rfl _ _ 35 rfl Try.underlying35 w.heap.size _ o rfl hO.out _ _ rfl hru2 (by omega) hB.size ?_; intro v' w1 hown1 hB1)
      go_roundw
      case rel => exact ⟨k + 1, o ++ rows[k], by omega, by go_num, hown1, by show _ = _; rw [HF.out, hH.out], by rw [List.length_append]; exact hfl, hB.trans hB1⟩
      case measure => simp [intOf]; omega
    · obtain rfl : k = rows.length := by omega
      go_wp2
      go_ret
      exact ⟨_, rfl, by have := hO.out; rw [hH.out, List.take_length] at this; rw [hH.out, List.take_length]; exact this, hB⟩

theorem srt_app (a b : List PR) : srt (srt a ++ b) = srt (a ++ b) := by rw [← mrg_srt, srt_srt, mrg_srt]
theorem srt_app' (a b : List PR) : srt (a ++ srt b) = srt (a ++ b) := by rw [← mrg_srt, srt_srt, mrg_srt]
@[go_sem] theorem kRow_val (n : Nat) (l : List PR) (a : Option Addr) (c : Nat) : (kRow n l).val (a, c) = .slice a n c := rfl
theorem kRow_calls {w : World} {l : List PR} {f : FuncId} {args : Array Value} {G : Value → World → Prop} {n : Nat} (hn : n = l.length) (hG : ∀ x w'', Bel w w'' → (∀ φ, (kRow n l).fact x = some φ → φ w'') → G ((kRow n l).val x) w'')
    (h : Calls Try.prog f args w fun e w' => ∃ v', e = .returned v' ∧ OP w' w.heap.size v' l ∧ Below w.heap.size w w') : Calls Try.prog f args w fun e w'' => ∃ u, e = .returned u ∧ G u w'' := by
  subst hn
  refine h.mono ?_
  rintro e w' ⟨v', rfl, ho, hB⟩
  obtain ⟨a, c, rfl⟩ := owns_slice ho
  exact ⟨_, rfl, hG (a, c) w' hB (fun φ h => by cases h; exact ho.reads)⟩
/-- a slot that holds a row of rows -/
def kRows (n : Nat) (l : List (List PR)) : Known Bel := ⟨Option Addr × Nat, fun x => .slice x.1 n x.2, fun x => some fun w => RR w (.slice x.1 n x.2) l, fun _ _ h _ _ hφ hB => by cases h; exact RR.below hφ hB⟩
@[go_sem] theorem kRows_val (n : Nat) (l : List (List PR)) (a : Option Addr) (c : Nat) : (kRows n l).val (a, c) = .slice a n c := rfl
theorem pair_new {w' : World} {G : Value → World → Prop} {l1 l2 : List PR} {v1 v2 : Value} {e : TypeId} (hG : ∀ x w'', Bel w' w'' → (∀ φ, (kRows 2 [l1, l2]).fact x = some φ → φ w'') → G ((kRows 2 [l1, l2]).val x) w'') (h1 : RP w' v1 l1) (h2 : RP w' v2 l2) :
    G (.slice (some ⟨w'.heap.size, 0, none⟩) 2 2) (w'.alloc (.cells #[v1, v2] e)) :=
  hG (some ⟨w'.heap.size, 0, none⟩, 2) _ (b_alloc w' _) (fun φ h => by cases h; exact RR.pair e h1 h2)
theorem flat2 (a b : List PR) : [a, b].flatten = a ++ b := by simp
theorem same_is (w : World) (va vb : Value) (l l' : List PR) (hl : l.length ≤ 100000000) (e : l = l') (h : RP w va l) (h' : RP w vb l') :
    Calls Try.prog 34 #[va, vb] w fun e w' => e = .returned (.bool true) ∧ Below w.heap.size w w' := by
  subst e
  refine (SameP_any _ _ l l _ h h' (by omega) (by omega)).mono ?_
  rintro e w' ⟨rfl, hB⟩
  exact ⟨by rw [decide_eq_true rfl], hB⟩
theorem merge2 (w : World) (v : Value) (l1 l2 q : List PR) (hq : srt (l1 ++ l2) = q) (h : RR w v [l1, l2]) (hl : (l1.length + l2.length) * 32 ≤ 140737488355328) :
    Calls Try.prog 33 #[v] w fun e w' => ∃ v', e = .returned v' ∧ OP w' w.heap.size v' q ∧ Below w.heap.size w w' := by
  subst hq
  have := Merge_any v [l1, l2] w h (by simp) (by rw [flat2, List.length_append]; exact hl)
  rwa [flat2] at this
theorem check_big (w : World) (va : Value) (l : List PR) (x : Int) (h0 : RP w va l) (hl : l.length ≤ 100000000) (h : chk l = x) :
    Calls Try.prog 36 #[va] w fun e w' => e = .returned (.int .i64 x) ∧ Below w.heap.size w w' := by
  refine (Check_any _ l _ h0 (by omega)).mono ?_
  rintro e w' ⟨rfl, hB⟩
  exact ⟨by rw [h], hB⟩
theorem chk_srt (l : List PR) : chk (srt l) = 0 := by rw [chk, srt_sorted]; rfl

set_option maxRecDepth 100000 in
set_option maxHeartbeats 4000000 in
theorem PairsMerge_any (v : Value) (rows : List (List PR)) (at_ : Int) (w : World) (hr : RR w v rows) (hl : rows.length ≤ 5864062014805) (hf : rows.flatten.length ≤ 1048576) (hm : ∀ p ∈ rows.flatten, p.1.length ≤ 140737488355328 ∧ p.2.length ≤ 140737488355328)
    (ha0 : 0 ≤ at_) (ha1 : at_ ≤ 255) :
    Calls Try.prog 8 #[v, .int .u8 at_] w fun e w' => e = .returned (.bool true) ∧ Below w.heap.size w w' := by
  obtain ⟨a, cap, rfl, hcap, _, hc⟩ := id hr
  have HR := Lib.hid hr
  have HC := Lib.hid hc
  clear hr hc
  by_cases h20 : 20 < rows.length
  · go_enter Try.func8, Try.ntmps8
    go_wp2_with (go_at_call 26; refine (alive16 _).mono ?_; rintro e w1 ⟨rfl, hB1⟩)
    go_ret
    exact ⟨rfl, hB1⟩
  · have hk0 : ∃ k : Nat, at_ % ((rows.length : Int) + 1) = (k : Int) ∧ k ≤ rows.length := by
      have h1 := Int.emod_nonneg at_ (show (rows.length : Int) + 1 ≠ 0 by omega)
      have h2 := Int.emod_lt_of_pos at_ (show (0 : Int) < (rows.length : Int) + 1 by omega)
      exact ⟨(at_ % ((rows.length : Int) + 1)).toNat, by omega, by omega⟩
    obtain ⟨k, hk, hkl⟩ := hk0
    cases hL : long16 rows.flatten
    · have HL := Lib.hid hL; clear hL
      go_enter Try.func8, Try.ntmps8
      go_wp2_with fail
      refine (rows16_any _ rows _ HR.out (by omega) (by omega)).mono ?_; rintro e w1 ⟨v1, rfl, hr1, hB1⟩
      go_wp2_with fail
      refine (Long16_any _ _ _ hr1.reads (by omega) hm).mono ?_; rw [HL.out]; rintro e w2 ⟨rfl, hB2⟩
      have hB02 := bt hB1 hB2
      have HR2 := Lib.hid (HR.out.below hB02)
      clear hr1 hB1 hB2
      go_wp2_with fail
      refine (Merge_any _ rows _ HR2.out (by omega) (by omega)).mono ?_; rintro e w3 ⟨vall, rfl, hall, hB3⟩
      obtain ⟨L, hLD⟩ : ∃ L, Hid (L = srt rows.flatten) := ⟨_, rfl⟩
      rw [← hLD.out] at hall
      obtain ⟨Fl, hFD⟩ : ∃ Fl, Hid (Fl = rows.flatten) := ⟨_, rfl⟩
      have hLl : L.length = Fl.length := by rw [hLD.out, srt_length, hFD.out]
      have hFl : Fl.length ≤ 1048576 := by rw [hFD.out]; exact hf
      have hLe : L.length ≤ 1048576 := by omega
      have tlen : (L.length == Fl.length) = true := by rw [beq_iff_eq]; omega
      have tlen3 : ((L.length : Int) == (Fl.length : Int)) = true := by rw [beq_iff_eq]; omega
      have tlen2 : decide (L.length = Fl.length) = true := by rw [decide_eq_true_iff]; omega
      clear hLl
      obtain ⟨aA, cA, rfl⟩ := owns_slice hall
      have HA := Lib.hid hall.reads
      clear hall
      have hB03 := bt hB02 hB3
      clear hB02 hB3 HR2
      go_wp2_with fail
      go_loopw [7, 8] (fun st i wr => ∃ (m : Nat) (o : List PR), m ≤ rows.length ∧ i = .int .i64 m ∧ RP wr st o ∧ o.length ≤ 1048576 ∧ Hid (o = srt (rows.take m).flatten) ∧ Below w3.heap.size w3 wr) (fun _ i _ => rows.length - (intOf i).toNat)
      case atStart => exact ⟨0, [], by omega, rfl, RP.nil _, by simp, rfl, Below.refl _ _⟩
      case round =>
        obtain ⟨m, o, hm1, rfl, hrp, hol, hH, hB⟩ := hrel
        obtain ⟨ast, cst, rfl, _, hcx⟩ := hrp.open
        clear hcx
        by_cases h0 : m < rows.length
        · obtain ⟨b, off, u, rfl, hu, hru⟩ := HC.out m h0
          obtain ⟨ar, cr, rfl, _, hcx⟩ := hru.open
          clear hcx
          replace hu := Below.keeps (bt hB03 hB) hu
          have HU := Lib.hid (hru.below (bt hB03 hB))
          have HP := Lib.hid hrp
          have kk0 : (0 : Int) ≤ (m : Int) := by omega
          have kk1 : (m : Int) < (rows.length : Int) := by omega
          have hsum : (o.length + rows[m].length) * 32 ≤ 140737488355328 ∧ (srt (rows.take (m + 1)).flatten).length ≤ 1048576 := by
            have hft := flat_take rows m h0
            have hfl := flat_le rows (m + 1)
            rw [srt_length]
            rw [hft, List.length_append] at hfl ⊢
            exact ⟨by omega, by omega⟩
          have hq : srt (o ++ rows[m]) = srt (rows.take (m + 1)).flatten := by rw [hH.out, srt_app, flat_take rows m h0]
          have HQ := Lib.hid hq
          have HS := Lib.hid hsum
          clear hrp hru hq hsum
          go_wp2_with fail
          refine (merge2 _ _ o rows[m] _ HQ.out (RR.pair _ HP.out HU.out) HS.out.1).mono ?_; rintro e w5 ⟨v5, rfl, hr5, hB5⟩
          have hB6 := bt hB (bt (b_alloc wr _) hB5)
          clear hB5
          go_wp2_with fail
          go_roundw
          case rel => exact ⟨m + 1, _, by omega, by go_num, hr5.reads, HS.out.2, rfl, hB6⟩
          case measure => simp [intOf]; omega
        · obtain rfl : m = rows.length := by omega
          have HS := Lib.hid (show L = o by rw [hH.out, List.take_length, hLD.out])
          have HP := Lib.hid hrp
          clear hrp hH hm1 h0
          obtain ⟨w5, hw5⟩ : ∃ w5, w5 = wr := ⟨_, rfl⟩
          subst hw5
          have hB05 := bt hB03 hB
          have HA5 := Lib.hid (HA.out.below hB)
          clear HA hB hB03
          go_wp2_with fail
          go_loopw [9, 10] (fun st i wr => ∃ (m : Nat) (x : Int) (q : List PR), m ≤ rows.length ∧ x = (m : Int) - 1 ∧ i = .int .i64 x ∧ RP wr st q ∧ q.length ≤ 1048576 ∧ Hid (q = srt (rows.drop m).flatten) ∧ Below w5.heap.size w5 wr) (fun _ i _ => (intOf i + 1).toNat)
          case atStart => exact ⟨rows.length, _, [], by omega, rfl, rfl, RP.nil _, by simp, by show _ = _; rw [List.drop_length]; rfl, Below.refl _ _⟩
          case round =>
            obtain ⟨m, x, q, hm1, hx, rfl, hrq, hql, hH, hB⟩ := hrel
            obtain ⟨aq, cq, rfl, _, hcx⟩ := hrq.open
            clear hcx
            by_cases h0 : 0 < m
            · obtain ⟨m', rfl⟩ : ∃ m', m = m' + 1 := ⟨m - 1, by omega⟩
              obtain rfl : x = (m' : Int) := by omega
              obtain ⟨b, off, u, rfl, hu, hru⟩ := HC.out m' (by omega)
              obtain ⟨ar, cr, rfl, _, hcx⟩ := hru.open
              clear hcx hx
              replace hu := Below.keeps (bt hB05 hB) hu
              have HU := Lib.hid (hru.below (bt hB05 hB))
              have HQ := Lib.hid hrq
              have kk0 : (0 : Int) ≤ (m' : Int) := by omega
              have kk1 : (m' : Int) < (rows.length : Int) := by omega
              have hsum : (rows[m'].length + q.length) * 32 ≤ 140737488355328 ∧ (srt (rows.drop m').flatten).length ≤ 1048576 := by
                have hd : rows.drop m' = rows[m'] :: rows.drop (m' + 1) := List.drop_eq_getElem_cons (by omega)
                have h2 : (rows.take m').flatten.length + (rows.drop m').flatten.length = rows.flatten.length := by
                  rw [← List.length_append, ← List.flatten_append, List.take_append_drop]
                rw [srt_length]
                rw [hd, List.flatten_cons, List.length_append] at h2 ⊢
                exact ⟨by omega, by omega⟩
              have hq : srt (rows[m'] ++ q) = srt (rows.drop m').flatten := by
                rw [hH.out, srt_app', List.drop_eq_getElem_cons (show m' < rows.length by omega), List.flatten_cons]
              have HQ2 := Lib.hid hq
              have HS2 := Lib.hid hsum
              clear hrq hru hq hsum
              go_wp2_with fail
              refine (merge2 _ _ rows[m'] q _ HQ2.out (RR.pair _ HU.out HQ.out) HS2.out.1).mono ?_; rintro e w6 ⟨v6, rfl, hr6, hB6⟩
              have hB7 := bt hB (bt (b_alloc wr _) hB6)
              clear hB6
              go_wp2_with fail
              go_roundw
              case rel => exact ⟨m', _, _, by omega, rfl, by go_num, hr6.reads, HS2.out.2, rfl, hB7⟩
              case measure => first | (simp [intOf]; done) | (simp [intOf]; omega)
            · obtain rfl : m = 0 := by omega
              obtain rfl : x = -1 := by omega
              have HS2 := Lib.hid (show L = q by rw [hH.out, List.drop_zero, hLD.out])
              have HQ := Lib.hid hrq
              clear hrq hH hm1 h0 hx
              have hB0r := bt hB05 hB
              have HA6 := Lib.hid (HA5.out.below hB)
              have HP6 := Lib.hid (HP.out.below hB)
              clear HA5 HP hB hB05
              have hR6 := HR.out.below hB0r
              obtain ⟨A1, C1, hrun1, hr1⟩ := RR.headRun hR6 k (k : Int) rfl hkl
              obtain ⟨A2, C2, hrun2, hr2⟩ := RR.cutRun hR6 k (k : Int) rfl hkl
              obtain ⟨L1, hL1⟩ : ∃ L1, Hid (L1 = srt (rows.take k).flatten) := ⟨_, rfl⟩
              obtain ⟨L2, hL2⟩ : ∃ L2, Hid (L2 = srt (rows.drop k).flatten) := ⟨_, rfl⟩
              have hsum : (rows.take k).flatten.length + (rows.drop k).flatten.length = rows.flatten.length := by
                rw [← List.length_append, ← List.flatten_append, List.take_append_drop]
              have h12 : (L1.length + L2.length) * 32 ≤ 140737488355328 := by rw [hL1.out, hL2.out, srt_length, srt_length]; omega
              have hq12 : srt (L1 ++ L2) = L := by
                rw [hL1.out, hL2.out, srt_app, srt_app', ← List.flatten_append, List.take_append_drop, hLD.out]
              have hqF : srt Fl = L := by rw [hFD.out, hLD.out]
              have H1 := Lib.hid hr1
              have H2 := Lib.hid hr2
              have HX := Lib.hid (show (rows.take k).length ≤ 140737488355328 ∧ (rows.drop k).length ≤ 140737488355328 ∧ (rows.take k).flatten.length * 32 ≤ 140737488355328 ∧ (rows.drop k).flatten.length * 32 ≤ 140737488355328 ∧ srt (L1 ++ L2) = L ∧ srt Fl = L ∧ (L1.length + L2.length) * 32 ≤ 140737488355328 by
                refine ⟨?_, ?_, ?_, ?_, hq12, hqF, h12⟩
                · simp only [List.length_take]; omega
                · simp only [List.length_drop]; omega
                · omega
                · omega)
              have H6 := Lib.hid hR6
              clear hr1 hr2 hsum h12 hq12 hqF hR6
              go_wp2_with fail
              refine region_known [(2, .exact _ (.bool true)), (6, .exact _ (.bool true)), (13, kRow L1.length L1), (17, kRow L2.length L2), (18, kRows 2 [L1, L2]), (19, kRow L.length L), (20, .exact _ (.bool true)), (25, kRow Fl.length Fl), (26, kRow L.length L), (27, .exact _ (.bool true)), (31, .exact _ (.int .i64 0)), (38, kRow Fl.length Fl), (43, .exact _ (.bool true))] (by kernel_rfl) (by kernel_rfl) ?_
              (repeat (first | (refine wpG_skip (by kernel_rfl) (fun K hK => ?_); go_big_quiet_skip; refine wpQuiet_nil (hK _ ?_); clear hK K) | (refine wpG_quiet (by rfl) (by rfl) (fun K hK => ?_); go_big_quiet_want; go_big_quiet_op; go_big_quiet_on; refine wpQuiet_nil (hK _ ?_); clear hK K)))
              refine wpG_exact rfl (by kernel_rfl) (fun w' G hB hS hG => ?_) (fun K hK => ?_)
              · go_simp; exact calls_told hG (same_is _ _ _ L o (by omega) HS.out (HA6.out.below hB) (HP6.out.below hB))
              go_simp; refine hK _ ?_; clear hK K; (repeat (first | (refine wpG_skip (by kernel_rfl) (fun K hK => ?_); go_big_quiet_skip; refine wpQuiet_nil (hK _ ?_); clear hK K) | (refine wpG_quiet (by rfl) (by rfl) (fun K hK => ?_); go_big_quiet_want; go_big_quiet_op; go_big_quiet_on; refine wpQuiet_nil (hK _ ?_); clear hK K)))
              refine wpG_exact rfl (by kernel_rfl) (fun w' G hB hS hG => ?_) (fun K hK => ?_)
              · go_simp; exact calls_told hG (same_is _ _ _ L q (by omega) HS2.out (HA6.out.below hB) (HQ.out.below hB))
              go_simp; refine hK _ ?_; clear hK K; (repeat (first | (refine wpG_skip (by kernel_rfl) (fun K hK => ?_); go_big_quiet_skip; refine wpQuiet_nil (hK _ ?_); clear hK K) | (refine wpG_quiet (by rfl) (by rfl) (fun K hK => ?_); go_big_quiet_want; go_big_quiet_op; go_big_quiet_on; refine wpQuiet_nil (hK _ ?_); clear hK K)))
              refine wpG_known (kRow L1.length L1) rfl (by kernel_rfl) (fun w' G hB hS hG => ?_) (fun x K hK => ?_)
              · go_simp
                have hM := Merge_any _ _ w' (H1.out.below hB) HX.out.1 HX.out.2.2.1
                rw [← hL1.out] at hM
                exact kRow_calls rfl hG hM
              obtain ⟨ad, c⟩ := x; go_simp; refine hK _ ?_; clear hK K; (repeat (first | (refine wpG_skip (by kernel_rfl) (fun K hK => ?_); go_big_quiet_skip; refine wpQuiet_nil (hK _ ?_); clear hK K) | (refine wpG_quiet (by rfl) (by rfl) (fun K hK => ?_); go_big_quiet_want; go_big_quiet_op; go_big_quiet_on; refine wpQuiet_nil (hK _ ?_); clear hK K)))
              refine wpG_known (kRow L2.length L2) rfl (by kernel_rfl) (fun w' G hB hS hG => ?_) (fun x K hK => ?_)
              · go_simp
                have hM := Merge_any _ _ w' (H2.out.below hB) HX.out.2.1 HX.out.2.2.2.1
                rw [← hL2.out] at hM
                exact kRow_calls rfl hG hM
              obtain ⟨ad, c⟩ := x; go_simp; refine hK _ ?_; clear hK K; (repeat (first | (refine wpG_skip (by kernel_rfl) (fun K hK => ?_); go_big_quiet_skip; refine wpQuiet_nil (hK _ ?_); clear hK K) | (refine wpG_quiet (by rfl) (by rfl) (fun K hK => ?_); go_big_quiet_want; go_big_quiet_op; go_big_quiet_on; refine wpQuiet_nil (hK _ ?_); clear hK K)))
              refine wpG_known (kRows 2 [L1, L2]) rfl (by kernel_rfl) (fun w' G hB hS hG => ?_) (fun x K hK => ?_)
              · go_simp; exact pair_new hG (at1 hS (by kernel_rfl)) (at0 hS (by kernel_rfl))
              obtain ⟨ad, c⟩ := x; go_simp; refine hK _ ?_; clear hK K; (repeat (first | (refine wpG_skip (by kernel_rfl) (fun K hK => ?_); go_big_quiet_skip; refine wpQuiet_nil (hK _ ?_); clear hK K) | (refine wpG_quiet (by rfl) (by rfl) (fun K hK => ?_); go_big_quiet_want; go_big_quiet_op; go_big_quiet_on; refine wpQuiet_nil (hK _ ?_); clear hK K)))
              refine wpG_known (kRow L.length L) rfl (by kernel_rfl) (fun w' G hB hS hG => ?_) (fun x K hK => ?_)
              · go_simp; exact kRow_calls rfl hG (merge2 _ _ L1 L2 L HX.out.2.2.2.2.1 (at0 hS (by kernel_rfl)) HX.out.2.2.2.2.2.2)
              obtain ⟨ad, c⟩ := x; go_simp; refine hK _ ?_; clear hK K; (repeat (first | (refine wpG_skip (by kernel_rfl) (fun K hK => ?_); go_big_quiet_skip; refine wpQuiet_nil (hK _ ?_); clear hK K) | (refine wpG_quiet (by rfl) (by rfl) (fun K hK => ?_); go_big_quiet_want; go_big_quiet_op; go_big_quiet_on; refine wpQuiet_nil (hK _ ?_); clear hK K)))
              refine wpG_exact rfl (by kernel_rfl) (fun w' G hB hS hG => ?_) (fun K hK => ?_)
              · go_simp; exact calls_told hG (same_is _ _ _ L L (by omega) rfl (HA6.out.below hB) (at0 hS (by kernel_rfl)))
              go_simp; refine hK _ ?_; clear hK K; (repeat (first | (refine wpG_skip (by kernel_rfl) (fun K hK => ?_); go_big_quiet_skip; refine wpQuiet_nil (hK _ ?_); clear hK K) | (refine wpG_quiet (by rfl) (by rfl) (fun K hK => ?_); go_big_quiet_want; go_big_quiet_op; go_big_quiet_on; refine wpQuiet_nil (hK _ ?_); clear hK K)))
              refine wpG_known (kRow Fl.length Fl) rfl (by kernel_rfl) (fun w' G hB hS hG => ?_) (fun x K hK => ?_)
              · go_simp
                have hM := rows16_any _ _ w' (H6.out.below hB) (by omega) (by omega)
                rw [← hFD.out] at hM
                exact kRow_calls rfl hG hM
              obtain ⟨ad, c⟩ := x; go_simp; refine hK _ ?_; clear hK K; (repeat (first | (refine wpG_skip (by kernel_rfl) (fun K hK => ?_); go_big_quiet_skip; refine wpQuiet_nil (hK _ ?_); clear hK K) | (refine wpG_quiet (by rfl) (by rfl) (fun K hK => ?_); go_big_quiet_want; go_big_quiet_op; go_big_quiet_on; refine wpQuiet_nil (hK _ ?_); clear hK K)))
              refine wpG_known (kRow L.length L) rfl (by kernel_rfl) (fun w' G hB hS hG => ?_) (fun x K hK => ?_)
              · go_simp
                have hM := Sort_any _ _ Fl w' (Nat.le_refl _) (at0 hS (by kernel_rfl)) (by omega)
                rw [HX.out.2.2.2.2.2.1] at hM
                exact kRow_calls rfl hG hM
              obtain ⟨ad, c⟩ := x; go_simp; refine hK _ ?_; clear hK K; (repeat (first | (refine wpG_skip (by kernel_rfl) (fun K hK => ?_); go_big_quiet_skip; refine wpQuiet_nil (hK _ ?_); clear hK K) | (refine wpG_quiet (by rfl) (by rfl) (fun K hK => ?_); go_big_quiet_want; go_big_quiet_op; go_big_quiet_on; refine wpQuiet_nil (hK _ ?_); clear hK K)))
              refine wpG_exact rfl (by kernel_rfl) (fun w' G hB hS hG => ?_) (fun K hK => ?_)
              · go_simp; exact calls_told hG (same_is _ _ _ L L (by omega) rfl (HA6.out.below hB) (at0 hS (by kernel_rfl)))
              go_simp; refine hK _ ?_; clear hK K; (repeat (first | (refine wpG_skip (by kernel_rfl) (fun K hK => ?_); go_big_quiet_skip; refine wpQuiet_nil (hK _ ?_); clear hK K) | (refine wpG_quiet (by rfl) (by rfl) (fun K hK => ?_); go_big_quiet_want; go_big_quiet_op; go_big_quiet_on; refine wpQuiet_nil (hK _ ?_); clear hK K)))
              refine wpG_exact rfl (by kernel_rfl) (fun w' G hB hS hG => ?_) (fun K hK => ?_)
              · go_simp; exact calls_told hG (check_big _ _ L 0 (HA6.out.below hB) (by omega) (by rw [hLD.out]; exact chk_srt _))
              go_simp; refine hK _ ?_; clear hK K; (repeat (first | (refine wpG_skip (by kernel_rfl) (fun K hK => ?_); go_big_quiet_skip; refine wpQuiet_nil (hK _ ?_); clear hK K) | (refine wpG_quiet (by rfl) (by rfl) (fun K hK => ?_); go_big_quiet_want; go_big_quiet_op; go_big_quiet_on; refine wpQuiet_nil (hK _ ?_); clear hK K)))
              refine wpG_known (kRow Fl.length Fl) rfl (by kernel_rfl) (fun w' G hB hS hG => ?_) (fun x K hK => ?_)
              · go_simp
                have hM := rows16_any _ _ w' (H6.out.below hB) (by omega) (by omega)
                rw [← hFD.out] at hM
                exact kRow_calls rfl hG hM
              obtain ⟨ad, c⟩ := x; go_simp; refine hK _ ?_; clear hK K; (repeat (first | (refine wpG_skip (by kernel_rfl) (fun K hK => ?_); go_big_quiet_skip; refine wpQuiet_nil (hK _ ?_); clear hK K) | (refine wpG_quiet (by rfl) (by rfl) (fun K hK => ?_); go_big_quiet_want; go_big_quiet_op; go_big_quiet_on; refine wpQuiet_nil (hK _ ?_); clear hK K)))
              refine wpG_exact rfl (by kernel_rfl) (fun w' G hB hS hG => ?_) (fun K hK => ?_)
              · go_simp; exact calls_told hG (alive16 _)
              go_simp; refine hK _ ?_; clear hK K; (repeat (first | (refine wpG_skip (by kernel_rfl) (fun K hK => ?_); go_big_quiet_skip; refine wpQuiet_nil (hK _ ?_); clear hK K) | (refine wpG_quiet (by rfl) (by rfl) (fun K hK => ?_); go_big_quiet_want; go_big_quiet_op; go_big_quiet_on; refine wpQuiet_nil (hK _ ?_); clear hK K)))
              intro w' hB hA
              clear hA
              go_wp2
              go_ret
              exact ⟨rfl, bt hB0r hB⟩
    · have HL := Lib.hid hL; clear hL
      go_enter Try.func8, Try.ntmps8
      go_wp2_with fail
      refine (rows16_any _ rows _ HR.out (by omega) (by omega)).mono ?_; rintro e w1 ⟨v1, rfl, hr1, hB1⟩
      go_wp2_with fail
      refine (Long16_any _ _ _ hr1.reads (by omega) hm).mono ?_; rw [HL.out]; rintro e w2 ⟨rfl, hB2⟩
      go_wp2_with (go_at_call 26; refine (alive16 _).mono ?_; rintro e w3 ⟨rfl, hB3⟩)
      go_ret
      exact ⟨rfl, bt hB1 (bt hB2 hB3)⟩

theorem len_bulk (l : List PR) : l.length ≤ bulkP l := by
  induction l with
  | nil => simp [bulkP]
  | cons p l ih => simp only [bulkP, List.map_cons, List.sum_cons, List.length_cons] at ih ⊢; omega
theorem flat_bulk (rows : List (List PR)) : rows.flatten.length ≤ bulkR rows := by
  induction rows with
  | nil => simp [bulkR]
  | cons l rows ih =>
    have := len_bulk l
    simp only [bulkR, List.map_cons, List.sum_cons, List.flatten_cons, List.length_append] at ih ⊢
    omega
theorem PairsMerge_upto (v : Value) (rows : List (List PR)) (at_ : Int) (w : World) (hr : RR w v rows) (hl : rows.length ≤ 5864062014805) (hm : ∀ l ∈ rows, l.length ≤ 4398046511104 ∧ ∀ p ∈ l, p.1.length ≤ 140737488355328 ∧ p.2.length ≤ 140737488355328) (hu : bulkR rows ≤ 1048576)
    (ha : (Lit.int .u8 at_).wf = true) :
    Calls Try.prog 8 #[v, .int .u8 at_] w fun e w' => e = .returned (.bool true) ∧ Below w.heap.size w w' := by
  have hx : 0 ≤ at_ ∧ at_ ≤ 255 := by simpa [Lit.wf, IntKind.min, IntKind.max, IntKind.signed, IntKind.bits] using ha
  refine PairsMerge_any v rows at_ w hr hl (Nat.le_trans (flat_bulk rows) hu) ?_ hx.1 hx.2
  intro p hp
  obtain ⟨l, h1, h2⟩ := List.mem_flatten.1 hp
  exact (hm l h1).2 p h2
end Go.Proofs.Ytdebgkjekcppmaa
