/- Lemmas for TreeTells, part 9: walks of the functions that it reaches, and the plain laws behind them. -/
import Derived.Test.YtahmacnmphjhgaaTreeTellsK8
set_option linter.unusedSimpArgs false
set_option linter.unusedVariables false
namespace Go.Proofs.Ytahmacnmphjhgaa
open Go.RowKit Oct
attribute [local irreducible] wpG

set_option maxRecDepth 100000 in
set_option maxHeartbeats 8000000 in
theorem rBuild_any (v : Value) (l : List (List UInt8)) (w : World) (hr : recS.Row w v l) (hl : l.length ≤ 4096) (hall : allIds l = true) :
    Calls Try.prog 35 #[v] w fun e w' => (∃ u, e = .returned (.agg #[u, .int .i64 (l.length : Int)]) ∧ NR w' u (buildF l)) ∧ Below w.heap.size w w' := by
  obtain ⟨a, cap, rfl, _⟩ := hr.2
  have HR := Lib.hid hr
  have HALL := Lib.hid hall
  clear hr hall
  go_enter Try.func35, Try.ntmps35
  go_upto_region 2 with fail
  obtain ⟨T, hT⟩ : ∃ T, T = w.heap.size + 1 := ⟨_, rfl⟩
  obtain ⟨U, hU⟩ : ∃ U, U = (w.alloc (.cells #[.slice none 0 0, .int .i64 0] 44)).alloc (.cells #[.slice none 0 0, .int .i64 (l.length : Int)] 44) := ⟨_, rfl⟩
  have h2 := two_new w (.cells #[.slice none 0 0, .int .i64 0] 44) (.cells #[.slice none 0 0, .int .i64 (l.length : Int)] 44)
  rw [← hU, ← hT] at h2
  obtain ⟨hres, hbt, hbu⟩ := h2
  rw [← hT, ← hU]
  have hus : U.heap.size = w.heap.size + 2 := by rw [hU]; simp
  obtain ⟨base, hb⟩ : ∃ base, base = U.heap.size := ⟨_, rfl⟩
  have hTb : T < base := by omega
  have hsr : SR T base (l.length : Int) U (.slice none 0 0) (.slice none 0 0) (leaves (l.take 0)) (rangeI 0) := ⟨hbt, ⟨[], Rec.Own.nil _ _, rfl, fun i h => absurd h (by simp)⟩, Rec.Own.nil _ _, fun b h => by simp [Value.ownBlock] at h⟩
  have HRES := Lib.hid hres
  have HSR := Lib.hid hsr
  have HBU := Lib.hid hbu
  have HT := Lib.hid hT
  have HB := Lib.hid hb
  have HUS := Lib.hid hus
  have HTB := Lib.hid hTb
  clear hU hT hb hres hbt hbu hsr hus hTb
  go_wp2
  go_loopw [4, 5] (fun tl ti wr => ∃ k : Nat, ∃ nv al cl, tl = .slice al k cl ∧ ti = .int .i64 (k : Int) ∧ k ≤ l.length ∧ Hid (SR T base (l.length : Int) wr nv (.slice al k cl) (leaves (l.take k)) (rangeI k)) ∧ Hid (Chg (fun k => k = T ∨ base ≤ k) U wr)) (fun _ ti _ => l.length - (intOf ti).toNat)
  case atStart => exact ⟨0, _, none, 0, rfl, rfl, Nat.zero_le _, HSR.out, Chg.refl _ _⟩
  case round =>
    obtain ⟨k, nv, al, cl, rfl, rfl, hk, HS, HC⟩ := hrel
    by_cases h0 : k < l.length
    · obtain ⟨an, cn, _, _, rfl, he⟩ := HS.out.nl.slice
      clear he
      have hbw : Below w.heap.size w wr := HBU.out.trans (HC.out.below (fun k hk => by have := HT.out; have := HB.out; have := HUS.out; omega) (by have := HUS.out; omega))
      have HBW := Lib.hid hbw
      clear hbw
      have hlen : (leaves (l.take k)).length = k := by rw [leaves_len]; simp; omega
      obtain ⟨c1, c2, f1, f2⟩ := two_cells HS.out.bt
      obtain ⟨_, _, hv', _, hc⟩ := recS_open (HR.out.below HBW.out)
      injection hv' with e1 _ e3
      subst e1 e3
      obtain ⟨b, off, rfl, ck⟩ := hc k h0
      have k0 : (0 : Int) ≤ (k : Int) := by omega
      have k1 : (k : Int) < (l.length : Int) := by omega
      obtain ⟨x, hx⟩ : ∃ x, x = l[k] := ⟨_, rfl⟩
      have hnx : leaves (l.take (k + 1)) = leaves (l.take k) ++ [(x, [])] := by rw [hx]; exact leaves_succ h0
      rw [← hx] at ck
      obtain ⟨N, hN⟩ : ∃ N, N = leaves (l.take k) := ⟨_, rfl⟩
      rw [← hN] at hlen hnx HS c1
      have HLEN := Lib.hid hlen
      have HNX := Lib.hid hnx
      have H0 := Lib.hid h0
      clear hc hx hlen hnx hN h0
      go_wp2
      refine region_tail 8 [(1, .exact _ (.slice an N.length cn)), (5, .exact _ (.string (bs x))), (7, kReads 1 [.string (bs x), .slice none 0 0])] (by kernel_rfl) (by kernel_rfl) ?_
      simp only [List.take_succ_cons, List.take_zero, List.drop_succ_cons, List.drop_zero]
      (repeat (first | (refine wpG_skip (by kernel_rfl) (fun K hK => ?_); go_big_quiet_skip; refine wpQuiet_nil (hK _ ?_); clear hK K) | (refine wpG_quiet (by rfl) (by rfl) (fun K hK => ?_); go_big_quiet_want; go_big_quiet_op; go_big_quiet_on; refine wpQuiet_nil (hK _ ?_); clear hK K)))
      refine wpG_exact rfl (by kernel_rfl) (fun w' G hB hS hG => ?_) (fun K hK => ?_)
      · have c' := Below.keeps hB c1
        go_simp; exact hG _ (Bel.refl _)
      go_simp; refine hK _ ?_; clear hK K; (repeat (first | (refine wpG_skip (by kernel_rfl) (fun K hK => ?_); go_big_quiet_skip; refine wpQuiet_nil (hK _ ?_); clear hK K) | (refine wpG_quiet (by rfl) (by rfl) (fun K hK => ?_); go_big_quiet_want; go_big_quiet_op; go_big_quiet_on; refine wpQuiet_nil (hK _ ?_); clear hK K)))
      refine wpG_exact rfl (by kernel_rfl) (fun w' G hB hS hG => ?_) (fun K hK => ?_)
      · have c' := Below.keeps hB ck
        go_simp; exact hG _ (Bel.refl _)
      go_simp; refine hK _ ?_; clear hK K; (repeat (first | (refine wpG_skip (by kernel_rfl) (fun K hK => ?_); go_big_quiet_skip; refine wpQuiet_nil (hK _ ?_); clear hK K) | (refine wpG_quiet (by rfl) (by rfl) (fun K hK => ?_); go_big_quiet_want; go_big_quiet_op; go_big_quiet_on; refine wpQuiet_nil (hK _ ?_); clear hK K)))
      refine wpG_known (kReads 1 [.string (bs x), .slice none 0 0]) rfl (by kernel_rfl) (fun w' G hB hS hG => ?_) (fun x K hK => ?_)
      · go_simp; exact reads_new hG rfl
      obtain ⟨ad, c⟩ := x; go_simp; refine hK _ ?_; clear hK K; (repeat (first | (refine wpG_skip (by kernel_rfl) (fun K hK => ?_); go_big_quiet_skip; refine wpQuiet_nil (hK _ ?_); clear hK K) | (refine wpG_quiet (by rfl) (by rfl) (fun K hK => ?_); go_big_quiet_want; go_big_quiet_op; go_big_quiet_on; refine wpQuiet_nil (hK _ ?_); clear hK K)))
      refine wpG_nilYK ?_
      intro w' hB hA
      have hrd := all0 hA
      have HRD := Lib.hid (show Reads w' (.slice ad 1 c) 1 (recN.cell (x, (none, 0, 0))) from hrd)
      have hs' := HS.out.below hB
      have HC' := Lib.hid (HC.out.trans (Chg.of_below hB))
      have hbase : base ≤ w'.heap.size := by have h1 := HC.out.size; have h2 := hB.size; have := HB.out; omega
      have HBASE := Lib.hid hbase
      obtain ⟨raw, r1, r2, r3⟩ := hs'.nl.raw
      have HS' := Lib.hid hs'
      have R1 := Lib.hid r1
      have R2 := Lib.hid r2
      have R3 := Lib.hid r3
      clear hB hA hrd hs' hbase r1 r2 r3 c1 c2 f1 f2 ck
      rw [← R2.out]
      refine recN.append1R w' (x, (none, 0, 0)) rfl _ _ 42 rfl Try.underlying42 base _ raw (by rw [R2.out]; exact R1.out) rfl _ rfl HRD.out (by show _ * 40 ≤ _; have := R2.out; have := HLEN.out; omega) HBASE.out ?_
      intro g gc w3 hown3 hc3 hg3
      rw [R2.out] at hown3 hc3 hg3 ⊢
      have hp := HS'.out.push HTB.out R2.out R3.out (x := (x, (none, 0, 0))) (y := (x, [])) ⟨rfl, Rec.Row.nil _, fun b h => by simp [Value.ownBlock] at h⟩ hc3 hg3 hown3
      obtain ⟨c1, c2, f1, f2⟩ := two_cells (hc3.at HS'.out.bt (fun e => by have := (HS'.out.nl.blk.1 _ e).1; have := HTB.out; omega))
      have hc5 := HC'.out.trans (hc3.mono (X' := fun k => k = T ∨ base ≤ k) fun k hk => .inr (HS'.out.nl.blk.1 _ hk).1)
      have HP0 := Lib.hid hp
      have HC5 := Lib.hid hc5
      clear hown3 hc3 hg3 hp hc5
      go_upto_region 7 with fail
      obtain ⟨U3, hU3⟩ : ∃ U3, U3 = w3.setCell ⟨T, 0, none⟩ (.slice (some ⟨g, 0, none⟩) (N.length + 1) gc) := ⟨_, rfl⟩
      rw [← hU3]
      have hp := HP0.out
      rw [← hU3] at hp
      have hc5 : Chg (fun k => k = T ∨ base ≤ k) U U3 := HC5.out.trans (by rw [hU3]; exact Chg.setCell _ _ _ (.inl rfl))
      have HP := Lib.hid hp
      have hb4 : base ≤ U3.heap.size := by rw [HB.out]; exact hc5.size
      have HB4 := Lib.hid hb4
      have HC6 := Lib.hid hc5
      clear hU3 HP0 HC5 c1 c2 f1 f2 hp hb4 hc5
      go_wp2_with (at_builtin; go_must (refine recI.append1C _ (k : Int) rfl _ _ 49 rfl Try.underlying49 base _ (rangeI k) HP.out.nl.lev rfl 1 rfl _ rfl _ rfl (byI (by rw [rangeI_len]; omega)) HB4.out ?_); intro g2 cap2 w4 hown4 hc4 hg4; rw [rangeI_len] at hown4 ⊢; have HO4 := Lib.hid hown4; have HC4 := Lib.hid hc4; have HG4 := Lib.hid hg4; clear hown4 hc4 hg4)
      have hl4 := HP.out.lev HTB.out (level' := rangeI (k + 1)) HC4.out HG4.out (by rw [rangeI_succ, List.length_append, rangeI_len]; exact HO4.out)
      rw [rangeI_len, ← HNX.out] at hl4
      exact ⟨⟨k + 1, _, _, _, rfl, by go_num, by omega, hl4, HC6.out.trans (HC4.out.mono fun j hj => .inr (HP.out.nl.blk.2 _ hj).1)⟩, by simp [intOf]; omega⟩
    · obtain rfl : k = l.length := by omega
      have hs := HS.out
      rw [List.take_length] at hs
      have HS2 := Lib.hid hs
      obtain ⟨W1, hW1⟩ : ∃ W, W = wr := ⟨_, rfl⟩
      subst hW1
      clear hs
      go_wp2
      go_loopw [4] (fun tl wr => ∃ m : Nat, ∃ nv al cl nodes level, tl = .slice al level.length cl ∧ Hid (SR T base (l.length : Int) wr nv (.slice al level.length cl) nodes level) ∧ Hid (OkL nodes level) ∧ level.length ≤ m ∧ Hid (levels m nodes level = buildF l) ∧ Hid (nodes.length + level.length ≤ 2 * l.length) ∧ Hid (Chg (fun k => k = T ∨ base ≤ k) U wr)) (fun tl _ => slenY tl)
      case atStart => exact ⟨l.length, nv, al, cl, leaves l, rangeI l.length, by rw [rangeI_len], by rw [rangeI_len]; exact HS2.out, OkL.start l HALL.out, by rw [rangeI_len]; exact Nat.le_refl _, rfl, by unfold Hid; rw [leaves_len, rangeI_len]; omega, HC.out⟩
      case round =>
        obtain ⟨m, nv, al, cl, nodes, level, rfl, HS, HOK, hm, HLV, HSUM, HC⟩ := hrel
        by_cases hn : 1 < level.length
        · have n1 : (1 : Int) < (level.length : Int) := by omega
          have hl8 : level.length ≤ 8192 := by have := HSUM.out; omega
          have hn8 : nodes.length ≤ 8192 := by have := HSUM.out; omega
          obtain ⟨an, cn, _, _, rfl, he⟩ := HS.out.nl.slice
          have HN := Lib.hid hn
          have HM := Lib.hid hm
          obtain ⟨W0, hW0⟩ : ∃ W, W = wr := ⟨_, rfl⟩
          subst hW0
          clear hn he hm
          go_wp2
          go_loopw [6, 7] (fun tv ti wx => ∃ j : Nat, ∃ av cv, tv = .slice av j cv ∧ ti = .int .i64 (j : Int) ∧ j ≤ level.length ∧ Hid (recS.Own wx W0.heap.size (.slice av j cv) (idsOf nodes (level.take j))) ∧ Hid (Below W0.heap.size W0 wx)) (fun _ ti _ => level.length - (intOf ti).toNat)
          case atStart => exact ⟨0, none, 0, rfl, rfl, Nat.zero_le _, Rec.Own.nil _ _, Below.refl _ _⟩
          case round =>
            obtain ⟨j, av, cv, rfl, rfl, hj, HOW, HBx⟩ := hrel
            by_cases hjl : j < level.length
            · have hsx := HS.out.below HBx.out
              obtain ⟨_, _, hv', _, hcl⟩ := recI_open hsx.nl.lev.row
              injection hv' with e2 _ e3
              subst e2 e3
              obtain ⟨b2, off2, rfl, cj⟩ := hcl j hjl
              have hkq := HOK.out.lev level[j] (List.getElem_mem hjl)
              obtain ⟨q, hq⟩ : ∃ q : Nat, (q : Int) = level[j] := ⟨level[j].toNat, by omega⟩
              rw [← hq] at cj hkq
              have hqn : q < nodes.length := by omega
              have hnx : idsOf nodes (level.take (j + 1)) = idsOf nodes (level.take j) ++ [nodes[q].1] := by
                rw [idsOf_take hjl, ← hq]
                simp [List.getD, hqn]
              obtain ⟨_, _, hv2, _, hcn⟩ := NR_open hsx.nl.nr
              injection hv2 with e4 _ e5
              subst e4 e5
              obtain ⟨nb, noff, ak, nk, ck, rfl, cn1, _, _⟩ := hcn q hqn
              obtain ⟨c1, c2, _, _⟩ := two_cells hsx.bt
              have hol : (idsOf nodes (level.take j)).length = j := by rw [idsOf_length, List.length_take]; omega
              obtain ⟨N0, hN0⟩ : ∃ N0, N0 = nodes[q].1 := ⟨_, rfl⟩
              rw [← hN0] at hnx cn1
              have HNX := Lib.hid hnx
              have HOL := Lib.hid hol
              have j0 : (0 : Int) ≤ (j : Int) := by omega
              have j1 : (j : Int) < (level.length : Int) := by omega
              have j2 : (0 : Int) ≤ (q : Int) := by omega
              have j3 : (q : Int) < (nodes.length : Int) := by omega
              have j4 : (level.length : Int) ≤ 8192 := by omega
              clear hcl hcn hnx hq hN0 hol hsx hkq
              go_wp2
              refine region_tail 11 [(2, .exact _ (.slice (some ⟨nb, noff, none⟩) nodes.length cn)), (6, .exact _ (.int .i64 (q : Int))), (9, .exact _ (.string (bs N0))), (10, kReads 1 [.string (bs N0)])] (by kernel_rfl) (by kernel_rfl) ?_
              simp only [List.take_succ_cons, List.take_zero, List.drop_succ_cons, List.drop_zero]
              (repeat (first | (refine wpG_skip (by kernel_rfl) (fun K hK => ?_); go_big_quiet_skip; refine wpQuiet_nil (hK _ ?_); clear hK K) | (refine wpG_quiet (by rfl) (by rfl) (fun K hK => ?_); go_big_quiet_want; go_big_quiet_op; go_big_quiet_on; refine wpQuiet_nil (hK _ ?_); clear hK K)))
              refine wpG_exact rfl (by kernel_rfl) (fun w' G hB hS hG => ?_) (fun K hK => ?_)
              · have c' := Below.keeps hB c1
                go_simp; exact hG _ (Bel.refl _)
              go_simp; refine hK _ ?_; clear hK K; (repeat (first | (refine wpG_skip (by kernel_rfl) (fun K hK => ?_); go_big_quiet_skip; refine wpQuiet_nil (hK _ ?_); clear hK K) | (refine wpG_quiet (by rfl) (by rfl) (fun K hK => ?_); go_big_quiet_want; go_big_quiet_op; go_big_quiet_on; refine wpQuiet_nil (hK _ ?_); clear hK K)))
              refine wpG_exact rfl (by kernel_rfl) (fun w' G hB hS hG => ?_) (fun K hK => ?_)
              · have c' := Below.keeps hB cj
                go_simp; exact hG _ (Bel.refl _)
              go_simp; refine hK _ ?_; clear hK K; (repeat (first | (refine wpG_skip (by kernel_rfl) (fun K hK => ?_); go_big_quiet_skip; refine wpQuiet_nil (hK _ ?_); clear hK K) | (refine wpG_quiet (by rfl) (by rfl) (fun K hK => ?_); go_big_quiet_want; go_big_quiet_op; go_big_quiet_on; refine wpQuiet_nil (hK _ ?_); clear hK K)))
              refine wpG_exact rfl (by kernel_rfl) (fun w' G hB hS hG => ?_) (fun K hK => ?_)
              · have c' := Below.keeps hB cn1
                go_simp; exact hG _ (Bel.refl _)
              go_simp; refine hK _ ?_; clear hK K; (repeat (first | (refine wpG_skip (by kernel_rfl) (fun K hK => ?_); go_big_quiet_skip; refine wpQuiet_nil (hK _ ?_); clear hK K) | (refine wpG_quiet (by rfl) (by rfl) (fun K hK => ?_); go_big_quiet_want; go_big_quiet_op; go_big_quiet_on; refine wpQuiet_nil (hK _ ?_); clear hK K)))
              refine wpG_known (kReads 1 [.string (bs N0)]) rfl (by kernel_rfl) (fun w' G hB hS hG => ?_) (fun x K hK => ?_)
              · go_simp; exact reads_new hG rfl
              obtain ⟨ad, c⟩ := x; go_simp; refine hK _ ?_; clear hK K; (repeat (first | (refine wpG_skip (by kernel_rfl) (fun K hK => ?_); go_big_quiet_skip; refine wpQuiet_nil (hK _ ?_); clear hK K) | (refine wpG_quiet (by rfl) (by rfl) (fun K hK => ?_); go_big_quiet_want; go_big_quiet_op; go_big_quiet_on; refine wpQuiet_nil (hK _ ?_); clear hK K)))
              refine wpG_nilYK ?_
              intro w' hB hA
              have hrd := all0 hA
              have HRD := Lib.hid (show Reads w' (.slice ad 1 c) 1 (recS.cell N0) from hrd)
              have HOW' := Lib.hid (HOW.out.below hB)
              have HB' := Lib.hid (bt HBx.out hB)
              clear hB hA hrd c1 c2 cj cn1
              refine recS.append1R w' N0 rfl _ _ 40 rfl Try.underlying40 W0.heap.size _ (idsOf nodes (level.take j)) HOW'.out rfl _ rfl HRD.out (by rw [HOL.out]; show _ * 16 ≤ _; omega) HB'.out.size ?_
              intro g gc w3 hown3 hc3 hg3
              rw [HOL.out] at hown3 ⊢
              have hb3 := HB'.out.trans (hc3.below (fun k hk => (HOW'.out.lt k hk).1) HB'.out.size)
              have HO3 := Lib.hid hown3
              have HB3 := Lib.hid hb3
              clear hown3 hc3 hg3 hb3
              go_wp2
              go_roundw
              case rel => exact ⟨j + 1, _, _, rfl, by go_num, by omega, by rw [HNX.out]; exact HO3.out, HB3.out⟩
              case measure => simp [intOf]; omega
            · obtain rfl : j = level.length := by omega
              have how := HOW.out
              rw [List.take_length] at how
              obtain ⟨ids, hids⟩ : ∃ ids, ids = idsOf nodes level := ⟨_, rfl⟩
              have hil : ids.length = level.length := by rw [hids]; exact idsOf_length _ _
              have hia : allIds ids = true := by rw [hids]; exact HOK.out.all
              have hg8 := groups23_count ids
              rw [← hids] at how
              have HIL := Lib.hid hil
              have HIA := Lib.hid hia
              have HIDS := Lib.hid hids
              have HOWN := Lib.hid how
              have HSX := Lib.hid (HS.out.below HBx.out)
              have i8 : ids.length ≤ 8192 := by omega
              clear hil hia hids how
              go_wp2_with fail
              refine (rGroups23_any _ ids _ HOWN.out.row (by omega) HIA.out).mono ?_
              rintro e w5 ⟨⟨ug, rfl, hown⟩, hB5⟩
              obtain ⟨ag, cg, rfl⟩ := owns_slice hown
              obtain ⟨G, hG⟩ : ∃ G, G = groups23 ids := ⟨_, rfl⟩
              rw [← hG] at hown hg8 ⊢
              have hs5 := HSX.out.below hB5
              have hnb := HSX.out.nl.blk
              obtain ⟨D, hD⟩ : ∃ D, D = w5.heap.size := ⟨_, rfl⟩
              have hlrow := hs5.nl.lev.row
              have hirow := HOWN.out.row.below hB5
              have hgrow := hown.row
              have nT : ∀ b, base ≤ b → b ≠ T := fun b hb e => by have := HTB.out; omega
              have hW0 := HBx.out.size
              have hw5 := hB5.size
              have hbase0 : base ≤ W0.heap.size := by rw [HB.out]; exact HC.out.size
              have hlb : ∀ b, (Value.slice al level.length cl).ownBlock = some b → ¬ (b = T ∨ (Value.slice an nodes.length cn).ownBlock = some b ∨ D ≤ b) := fun b hb => by
                have h1 := HS.out.nl.blk.2 b hb
                have h2 := HS.out.nl.ap b
                rintro (e | e | e)
                · exact nT b h1.1 e
                · exact h2 e hb
                · omega
              have hib : ∀ b, (Value.slice av level.length cv).ownBlock = some b → ¬ (b = T ∨ (Value.slice an nodes.length cn).ownBlock = some b ∨ D ≤ b) := fun b hb => by
                have h1 := HOWN.out.lt b hb
                rintro (e | e | e)
                · exact nT b (by omega) e
                · have := (HS.out.nl.blk.1 b e).2; omega
                · omega
              have hgb : ∀ b, (Value.slice ag G.length cg).ownBlock = some b → ¬ (b = T ∨ (Value.slice an nodes.length cn).ownBlock = some b ∨ D ≤ b) := fun b hb => by
                have h1 := hown.lt b hb
                rintro (e | e | e)
                · exact nT b (by omega) e
                · have := (HS.out.nl.blk.1 b e).2; omega
                · omega
              have hrj : RJ T base D (l.length : Int) (.slice an nodes.length cn) w5 w5 (.slice an nodes.length cn) (.slice none 0 0) (nodes, []) := ⟨⟨hs5.bt, hs5.nl.cut⟩, .inl rfl, fun b h => by simp [Value.ownBlock] at h, Chg.refl _ _⟩
              have hcw : Chg (fun k => k = T ∨ base ≤ k) U w5 := (HC.out.trans (Chg.of_below HBx.out)).trans (Chg.of_below hB5)
              have HLR := Lib.hid hlrow
              have HIR := Lib.hid hirow
              have HGR := Lib.hid hgrow
              have HLB := Lib.hid hlb
              have HIB := Lib.hid hib
              have HGB := Lib.hid hgb
              have HRJ := Lib.hid hrj
              have HCW := Lib.hid hcw
              have HG := Lib.hid hG
              have HD := Lib.hid hD
              have hg9 : G.length ≤ 8192 := by omega
              have HBD := Lib.hid (show base ≤ D by omega)
              clear hown hB5 hs5 hnb hD hlrow hirow hgrow nT hW0 hw5 hbase0 hlb hib hgb hrj hcw hG hg8
              go_wp2
              go_loopw [9, 10] (fun tx ti wx => ∃ i : Nat, ∃ nv ax cx, ∃ X : List Nd × List Int, tx = .slice ax X.2.length cx ∧ ti = .int .i64 (i : Int) ∧ i ≤ G.length ∧ Hid (X = (G.take i).foldl (stepB ids level) (nodes, [])) ∧ Hid (RJ T base D (l.length : Int) (.slice an nodes.length cn) w5 wx nv (.slice ax X.2.length cx) X)) (fun _ ti _ => G.length - (intOf ti).toNat)
              case atStart => exact ⟨0, _, none, 0, (nodes, []), rfl, rfl, Nat.zero_le _, rfl, HRJ.out⟩
              case round =>
                obtain ⟨i, nv, ax, cx, X, rfl, rfl, hi, HX, HJ⟩ := hrel
                by_cases hig : i < G.length
                · obtain ⟨f, tt, hgi⟩ : ∃ f tt, G[i] = (f, tt) := ⟨_, _, rfl⟩
                  have hpre : G.take (i + 1) = G.take i ++ [(f, tt)] := by rw [List.take_succ_eq_append_getElem hig, hgi]
                  have hfp := fold_pre HOK.out (pre := G.take i) (f := f) (t := tt) (by rw [← HIDS.out, ← HG.out, ← hpre]; exact List.take_prefix _ _)
                  rw [← HIDS.out, ← HX.out] at hfp
                  obtain ⟨hft, htl, hoks⟩ := hfp
                  have hnew : ∀ Y, Y = stepB ids level X (f, tt) → Y = (G.take (i + 1)).foldl (stepB ids level) (nodes, []) := fun Y hY => by rw [hpre, List.foldl_append, ← HX.out, hY]; rfl
                  obtain ⟨an2, cn2, _, _, rfl, he⟩ := HJ.out.sr.nl.slice
                  have hgr := HGR.out.chg HJ.out.ch HGB.out
                  obtain ⟨_, _, hvg, _, hcg⟩ := recSp_open hgr
                  injection hvg with e1 _ e3
                  subst e1 e3
                  obtain ⟨bg, offg, rfl, y1, y2⟩ := hcg i hig
                  rw [hgi] at y1 y2
                  have HNEW := Lib.hid hnew
                  have HOKS := Lib.hid hoks
                  have i0 : (f : Int) < (tt : Int) := by omega
                  have i1 : (tt : Int) ≤ 8192 := by omega
                  have i2 : (0 : Int) ≤ (f : Int) := by omega
                  have i3 : (0 : Int) ≤ (i : Int) := by omega
                  have i4 : (i : Int) < (G.length : Int) := by omega
                  obtain ⟨Wr, hWr⟩ : ∃ W, W = wr := ⟨_, rfl⟩
                  subst hWr
                  clear hgi hpre hnew hoks he hgr hcg
                  go_wp2
                  refine region_known [(4, .exact _ (.int .i64 (tt : Int))), (9, .exact _ (.int .i64 (f : Int)))] (by kernel_rfl) (by kernel_rfl) ?_
                  (repeat (first | (refine wpG_skip (by kernel_rfl) (fun K hK => ?_); go_big_quiet_skip; refine wpQuiet_nil (hK _ ?_); clear hK K) | (refine wpG_quiet (by rfl) (by rfl) (fun K hK => ?_); go_big_quiet_want; go_big_quiet_op; go_big_quiet_on; refine wpQuiet_nil (hK _ ?_); clear hK K)))
                  refine wpG_exact rfl (by kernel_rfl) (fun w' G hB hS hG => ?_) (fun K hK => ?_)
                  · have c' := Below.keeps hB y2
                    go_simp; exact hG _ (Bel.refl _)
                  go_simp; refine hK _ ?_; clear hK K; (repeat (first | (refine wpG_skip (by kernel_rfl) (fun K hK => ?_); go_big_quiet_skip; refine wpQuiet_nil (hK _ ?_); clear hK K) | (refine wpG_quiet (by rfl) (by rfl) (fun K hK => ?_); go_big_quiet_want; go_big_quiet_op; go_big_quiet_on; refine wpQuiet_nil (hK _ ?_); clear hK K)))
                  refine wpG_exact rfl (by kernel_rfl) (fun w' G hB hS hG => ?_) (fun K hK => ?_)
                  · have c' := Below.keeps hB y1
                    go_simp; exact hG _ (Bel.refl _)
                  go_simp; refine hK _ ?_; clear hK K; (repeat (first | (refine wpG_skip (by kernel_rfl) (fun K hK => ?_); go_big_quiet_skip; refine wpQuiet_nil (hK _ ?_); clear hK K) | (refine wpG_quiet (by rfl) (by rfl) (fun K hK => ?_); go_big_quiet_want; go_big_quiet_op; go_big_quiet_on; refine wpQuiet_nil (hK _ ?_); clear hK K)))
                  refine wpG_nilYK ?_
                  intro w8 hB8 hA8
                  have z1 := Below.keeps hB8 y1
                  have z2 := Below.keeps hB8 y2
                  have hD8 : D ≤ w8.heap.size := by have h1 := HJ.out.ch.size; have h2 := hB8.size; have := HD.out; omega
                  have HJ8 := Lib.hid (HJ.out.below hB8)
                  have HLR8 := Lib.hid ((HLR.out.chg HJ.out.ch HLB.out).below hB8)
                  have HIR8 := Lib.hid ((HIR.out.chg HJ.out.ch HIB.out).below hB8)
                  have HD8 := Lib.hid hD8
                  have hbs8 : base ≤ w8.heap.size := by have := HBD.out; omega
                  have HBS8 := Lib.hid hbs8
                  clear hB8 hA8 y1 y2 hD8 hbs8
                  by_cases h1 : tt - f = 1
                  · have q1 : ((tt : Int) - (f : Int) == 1) = true := by rw [beq_iff_eq]; omega
                    have hfl : f < level.length := by omega
                    obtain ⟨_, _, hv', _, hcl⟩ := recI_open HLR8.out
                    injection hv' with e1 _ e3
                    subst e1 e3
                    obtain ⟨bl, ofl, rfl, cf⟩ := hcl f hfl
                    obtain ⟨z, hz⟩ : ∃ z, z = level[f] := ⟨_, rfl⟩
                    rw [← hz] at cf
                    have j1 : (f : Int) < (level.length : Int) := by omega
                    have hst : (X.1, X.2 ++ [z]) = stepB ids level X (f, tt) := by rw [hz]; exact stepB_one h1 hfl
                    have HST := Lib.hid hst
                    clear hcl hz hst
                    have hx2 : X.2.length ≤ 8192 := by have := HOKS.out.len; rw [this, List.length_take]; omega
                    have HX2 := Lib.hid hx2
                    clear hx2
                    go_wp2_with (at_builtin; go_must (refine recI.append1C _ z rfl _ _ 49 rfl Try.underlying49 base _ X.2 HJ8.out.sr.nl.lev rfl 1 rfl _ rfl _ rfl (byI (by have := HX2.out; omega)) HBS8.out ?_); intro g gc w9 hown9 hc9 hg9; have HO9 := Lib.hid hown9; have HC9 := Lib.hid hc9; have HG9 := Lib.hid hg9; clear hown9 hc9 hg9)
                    have hj9 := HJ8.out.lev HTB.out HD8.out (level' := X.2 ++ [z]) HC9.out HG9.out (by rw [List.length_append]; exact HO9.out)
                    exact ⟨⟨i + 1, _, _, _, (X.1, X.2 ++ [z]), by rw [List.length_append]; rfl, by go_num, by omega, HNEW.out _ HST.out, hj9⟩, by simp [intOf]; omega⟩
                  · have q1 : ((tt : Int) - (f : Int) == 1) = false := by rw [beq_eq_false_iff_ne]; omega
                    have q2 : ¬ ((tt : Int) - (f : Int) = 1) := by omega
                    have hst : (X.1 ++ [(joinF ((ids.drop f).take (tt - f)), (level.drop f).take (tt - f))], X.2 ++ [(X.1.length : Int)]) = stepB ids level X (f, tt) := stepB_more h1
                    obtain ⟨A1, C1, hrun1, hsub1⟩ := Rec.Row.subRun (a := av) (cap := cv) (l := ids) (by rw [HIL.out]; exact HIR8.out) 40 Try.underlying40 (by intro wx; kernel_rfl) f tt (by omega) (by rw [HIL.out]; omega)
                    obtain ⟨A2, C2, hrun2, hsub2⟩ := Rec.Row.subRun HLR8.out 49 Try.underlying49 (by intro wx; kernel_rfl) f tt (by omega) (by omega)
                    rw [HIL.out] at hrun1
                    have hl1 : ((ids.drop f).take (tt - f)).length = tt - f := by have := HIL.out; simp; omega
                    have hl2 : ((level.drop f).take (tt - f)).length = tt - f := by simp; omega
                    have hm32 : ∀ s ∈ (ids.drop f).take (tt - f), s.length ≤ 32 := fun s hs => by
                      have h1 := List.mem_of_mem_drop (List.mem_of_mem_take hs)
                      have := List.all_eq_true.1 HIA.out s h1
                      have : s.length = 32 := by simpa [isId] using this
                      omega
                    obtain ⟨S1, hS1⟩ : ∃ S1, S1 = (ids.drop f).take (tt - f) := ⟨_, rfl⟩
                    obtain ⟨S2, hS2⟩ : ∃ S2, S2 = (level.drop f).take (tt - f) := ⟨_, rfl⟩
                    rw [← hS1] at hsub1 hl1 hm32 hst
                    rw [← hS2] at hsub2 hl2 hst
                    rw [← hl1] at hrun1 hsub1
                    rw [← hl2] at hrun2 hsub2
                    have HL1 := Lib.hid hl1
                    have HL2 := Lib.hid hl2
                    have HM32 := Lib.hid hm32
                    have HSB1 := Lib.hid hsub1
                    have HSB2 := Lib.hid hsub2
                    have HST := Lib.hid hst
                    have hx2 : X.2.length ≤ 8192 := by have := HOKS.out.len; rw [this, List.length_take]; omega
                    have hx1 : X.1.length ≤ 20000 := by have := HOKS.out.sum; omega
                    have HX2 := Lib.hid hx2
                    have HX1 := Lib.hid hx1
                    have j1 : (tt : Int) ≤ (level.length : Int) := by omega
                    have j2 : (f : Int) ≤ (tt : Int) := by omega
                    clear hl1 hl2 hm32 hsub1 hsub2 hS1 hS2 hst hx1 hx2
                    go_upto_region 21 with fail
                    refine region_tail 12 [(5, .exact _ (.int .i64 (f : Int))), (10, .exact _ (.int .i64 (tt : Int)))] (by kernel_rfl) (by kernel_rfl) ?_
                    simp only [List.take_succ_cons, List.take_zero, List.drop_succ_cons, List.drop_zero]
                    (repeat (first | (refine wpG_skip (by kernel_rfl) (fun K hK => ?_); go_big_quiet_skip; refine wpQuiet_nil (hK _ ?_); clear hK K) | (refine wpG_quiet (by rfl) (by rfl) (fun K hK => ?_); go_big_quiet_want; go_big_quiet_op; go_big_quiet_on; refine wpQuiet_nil (hK _ ?_); clear hK K)))
                    refine wpG_exact rfl (by kernel_rfl) (fun w' G hB hS hG => ?_) (fun K hK => ?_)
                    · have c' := Below.keeps hB z1
                      go_simp; exact hG _ (Bel.refl _)
                    go_simp; refine hK _ ?_; clear hK K; (repeat (first | (refine wpG_skip (by kernel_rfl) (fun K hK => ?_); go_big_quiet_skip; refine wpQuiet_nil (hK _ ?_); clear hK K) | (refine wpG_quiet (by rfl) (by rfl) (fun K hK => ?_); go_big_quiet_want; go_big_quiet_op; go_big_quiet_on; refine wpQuiet_nil (hK _ ?_); clear hK K)))
                    refine wpG_exact rfl (by kernel_rfl) (fun w' G hB hS hG => ?_) (fun K hK => ?_)
                    · have c' := Below.keeps hB z2
                      go_simp; exact hG _ (Bel.refl _)
                    go_simp; refine hK _ ?_; clear hK K; (repeat (first | (refine wpG_skip (by kernel_rfl) (fun K hK => ?_); go_big_quiet_skip; refine wpQuiet_nil (hK _ ?_); clear hK K) | (refine wpG_quiet (by rfl) (by rfl) (fun K hK => ?_); go_big_quiet_want; go_big_quiet_op; go_big_quiet_on; refine wpQuiet_nil (hK _ ?_); clear hK K)))
                    refine wpG_nilYK ?_
                    intro w9 hB9 hA9
                    have HJ9 := Lib.hid (HJ8.out.below hB9)
                    have HSB1' := Lib.hid (HSB1.out.below hB9)
                    have z3 := Below.keeps hB9 z1
                    have z4 := Below.keeps hB9 z2
                    have hbs9 : base ≤ w9.heap.size := Nat.le_trans HBS8.out hB9.size
                    have hd9 : D ≤ w9.heap.size := Nat.le_trans HD8.out hB9.size
                    have HBS9 := Lib.hid hbs9
                    have HD9 := Lib.hid hd9
                    refine recI.append w9 rfl _ _ 49 rfl Try.underlying49 w9.heap.size (.slice none 0 0) [] (Rec.Own.nil _ _) rfl _ S2 (HSB2.out.below hB9) rfl (by have := HL2.out; show (0 + _) * 8 ≤ _; omega) (Nat.le_refl _) ?_
                    intro vk wa hkids hBa
                    rw [List.nil_append] at hkids
                    obtain ⟨ak, ck, rfl⟩ := owns_slice hkids
                    have HK := Lib.hid hkids
                    have HJa := Lib.hid (HJ9.out.below hBa)
                    have HSBa := Lib.hid (HSB1'.out.below hBa)
                    have z5 := Below.keeps hBa z3
                    have z6 := Below.keeps hBa z4
                    have HBA := Lib.hid hBa
                    obtain ⟨c1, c2, f1, f2⟩ := two_cells HJa.out.sr.bt
                    obtain ⟨J, hJ⟩ : ∃ J, J = joinF S1 := ⟨_, rfl⟩
                    have HJJ := Lib.hid hJ
                    clear hB9 hA9 hbs9 hd9 hkids hBa z1 z2 z3 z4 hrun2 HSB1 HSB2 HSB1' HLR8 HIR8 hJ
                    go_upto_region 22 with fail
                    refine region_tail 18 [(1, .exact _ (.slice an2 X.1.length cn2)), (7, .exact _ (.int .i64 (f : Int))), (12, .exact _ (.int .i64 (tt : Int))), (14, .exact _ (.string (bs J))), (17, kReads 1 [.string (bs J), .slice ak S2.length ck])] (by kernel_rfl) (by kernel_rfl) ?_
                    simp only [List.take_succ_cons, List.take_zero, List.drop_succ_cons, List.drop_zero]
                    (repeat (first | (refine wpG_skip (by kernel_rfl) (fun K hK => ?_); go_big_quiet_skip; refine wpQuiet_nil (hK _ ?_); clear hK K) | (refine wpG_quiet (by rfl) (by rfl) (fun K hK => ?_); go_big_quiet_want; go_big_quiet_op; go_big_quiet_on; refine wpQuiet_nil (hK _ ?_); clear hK K)))
                    refine wpG_exact rfl (by kernel_rfl) (fun w' G hB hS hG => ?_) (fun K hK => ?_)
                    · have c' := Below.keeps hB c1
                      go_simp; exact hG _ (Bel.refl _)
                    go_simp; refine hK _ ?_; clear hK K; (repeat (first | (refine wpG_skip (by kernel_rfl) (fun K hK => ?_); go_big_quiet_skip; refine wpQuiet_nil (hK _ ?_); clear hK K) | (refine wpG_quiet (by rfl) (by rfl) (fun K hK => ?_); go_big_quiet_want; go_big_quiet_op; go_big_quiet_on; refine wpQuiet_nil (hK _ ?_); clear hK K)))
                    refine wpG_exact rfl (by kernel_rfl) (fun w' G hB hS hG => ?_) (fun K hK => ?_)
                    · have c' := Below.keeps hB z5
                      go_simp; exact hG _ (Bel.refl _)
                    go_simp; refine hK _ ?_; clear hK K; (repeat (first | (refine wpG_skip (by kernel_rfl) (fun K hK => ?_); go_big_quiet_skip; refine wpQuiet_nil (hK _ ?_); clear hK K) | (refine wpG_quiet (by rfl) (by rfl) (fun K hK => ?_); go_big_quiet_want; go_big_quiet_op; go_big_quiet_on; refine wpQuiet_nil (hK _ ?_); clear hK K)))
                    refine wpG_exact rfl (by kernel_rfl) (fun w' G hB hS hG => ?_) (fun K hK => ?_)
                    · have c' := Below.keeps hB z6
                      go_simp; exact hG _ (Bel.refl _)
                    go_simp; refine hK _ ?_; clear hK K; (repeat (first | (refine wpG_skip (by kernel_rfl) (fun K hK => ?_); go_big_quiet_skip; refine wpQuiet_nil (hK _ ?_); clear hK K) | (refine wpG_quiet (by rfl) (by rfl) (fun K hK => ?_); go_big_quiet_want; go_big_quiet_op; go_big_quiet_on; refine wpQuiet_nil (hK _ ?_); clear hK K)))
                    refine wpG_exact rfl (by kernel_rfl) (fun w' G hB hS hG => ?_) (fun K hK => ?_)
                    · have hid := rId_any _ S1 w' (HSBa.out.below hB) (by have := HL1.out; omega) HM32.out
                      rw [← HJJ.out] at hid
                      go_simp
                      exact calls_told hG hid
                    go_simp; refine hK _ ?_; clear hK K; (repeat (first | (refine wpG_skip (by kernel_rfl) (fun K hK => ?_); go_big_quiet_skip; refine wpQuiet_nil (hK _ ?_); clear hK K) | (refine wpG_quiet (by rfl) (by rfl) (fun K hK => ?_); go_big_quiet_want; go_big_quiet_op; go_big_quiet_on; refine wpQuiet_nil (hK _ ?_); clear hK K)))
                    refine wpG_known (kReads 1 [.string (bs J), .slice ak S2.length ck]) rfl (by kernel_rfl) (fun w' G hB hS hG => ?_) (fun x K hK => ?_)
                    · go_simp; exact reads_new hG rfl
                    obtain ⟨ad, c⟩ := x; go_simp; refine hK _ ?_; clear hK K; (repeat (first | (refine wpG_skip (by kernel_rfl) (fun K hK => ?_); go_big_quiet_skip; refine wpQuiet_nil (hK _ ?_); clear hK K) | (refine wpG_quiet (by rfl) (by rfl) (fun K hK => ?_); go_big_quiet_want; go_big_quiet_op; go_big_quiet_on; refine wpQuiet_nil (hK _ ?_); clear hK K)))
                    refine wpG_nilYK ?_
                    intro w' hB hA
                    have hrd := all0 hA
                    have HRD := Lib.hid (show Reads w' (.slice ad 1 c) 1 (recN.cell (J, (ak, S2.length, ck))) from hrd)
                    have hj' := HJa.out.below hB
                    obtain ⟨raw, r1, r2, r3⟩ := hj'.sr.nl.raw
                    have hkr : KR w' (fun k => base ≤ k) (.slice an2 X.1.length cn2) (.slice ax X.2.length cx) (J, (ak, S2.length, ck)) (J, S2) := by
                      refine ⟨rfl, HK.out.row.below hB, fun b hb => ?_⟩
                      have h1 := HK.out.lt b hb
                      have h2 := HJ9.out.sr.nl.blk
                      have h3 := HBS9.out
                      have h4 := hB.size
                      refine ⟨by omega, by omega, fun e => ?_, fun e => ?_⟩
                      · have := (h2.1 b e).2; omega
                      · have := (h2.2 b e).2; omega
                    have HJ' := Lib.hid hj'
                    have R1 := Lib.hid r1
                    have R2 := Lib.hid r2
                    have R3 := Lib.hid r3
                    have HKR := Lib.hid hkr
                    have hbw : base ≤ w'.heap.size := Nat.le_trans (Nat.le_trans HBS9.out HBA.out.size) hB.size
                    have hdw : D ≤ w'.heap.size := Nat.le_trans (Nat.le_trans HD9.out HBA.out.size) hB.size
                    have HBW := Lib.hid hbw
                    have HDW := Lib.hid hdw
                    clear hB hA hrd hj' r1 r2 r3 hkr hbw hdw c1 c2 f1 f2 z5 z6 hrun1
                    rw [← R2.out]
                    refine recN.append1R w' (J, (ak, S2.length, ck)) rfl _ _ 42 rfl Try.underlying42 base _ raw (by rw [R2.out]; exact R1.out) rfl _ rfl HRD.out (by show _ * 40 ≤ _; have := R2.out; have := HX1.out; omega) HBW.out ?_
                    intro g gc w3 hown3 hc3 hg3
                    rw [R2.out] at hown3 hc3 hg3 ⊢
                    have hp := HJ'.out.push HTB.out HDW.out R2.out R3.out HKR.out hc3 hg3 hown3
                    obtain ⟨c1, c2, f1, f2⟩ := two_cells (hc3.at HJ'.out.sr.bt (fun e => by have := (HJ'.out.sr.nl.blk.1 _ e).1; have := HTB.out; omega))
                    have hs3 : w'.heap.size ≤ w3.heap.size := hc3.size
                    have HP0 := Lib.hid hp
                    clear hown3 hc3 hg3 hp
                    go_upto_region 23 with fail
                    obtain ⟨U3, hU3⟩ : ∃ U3, U3 = w3.setCell ⟨T, 0, none⟩ (.slice (some ⟨g, 0, none⟩) (X.1.length + 1) gc) := ⟨_, rfl⟩
                    rw [← hU3]
                    have hp := HP0.out
                    rw [← hU3] at hp
                    have hus3 : U3.heap.size = w3.heap.size := by rw [hU3, size_setC]
                    have HP := Lib.hid hp
                    have HB3 := Lib.hid (show base ≤ U3.heap.size by have := HBW.out; omega)
                    have HD3 := Lib.hid (show D ≤ U3.heap.size by have := HDW.out; omega)
                    clear c1 c2 f1 f2
                    obtain ⟨c1, c2, f1, f2⟩ := two_cells hp.sr.bt
                    clear hU3 HP0 hp hus3 hs3
                    obtain ⟨n1', hn1'⟩ : ∃ n1', n1' = X.1.length := ⟨_, rfl⟩
                    rw [← hn1'] at c1
                    have HN1 := Lib.hid hn1'
                    have hn2 : n1' ≤ 20000 := by have := HX1.out; omega
                    clear hn1'
                    go_wp2_with (at_builtin; go_must (refine recI.append1C _ (n1' : Int) rfl _ _ 49 rfl Try.underlying49 base _ X.2 HP.out.sr.nl.lev rfl 1 rfl _ rfl _ rfl (byI (by have := HX2.out; omega)) HB3.out ?_); intro g5 gc5 w6 hown6 hc6 hg6; have HO6 := Lib.hid hown6; have HC6 := Lib.hid hc6; have HG6 := Lib.hid hg6; clear hown6 hc6 hg6)
                    have hj6 := HP.out.lev HTB.out HD3.out (level' := X.2 ++ [(X.1.length : Int)]) HC6.out HG6.out (by rw [List.length_append, ← HN1.out]; exact HO6.out)
                    exact ⟨⟨i + 1, _, _, _, (X.1 ++ [(J, S2)], X.2 ++ [(X.1.length : Int)]), by rw [List.length_append]; rfl, by go_num, by omega, HNEW.out _ (by rw [HJJ.out]; exact HST.out), hj6⟩, by simp [intOf]; omega⟩
                · obtain rfl : i = G.length := by omega
                  have hfull : X = lvl nodes level := by rw [HX.out, List.take_length, HG.out, HIDS.out]; rfl
                  have hok := lvl_ok HOK.out
                  have hless := lvl_less HOK.out HN.out
                  have hlv2 := levels_on HN.out HM.out (nodes := nodes)
                  rw [HLV.out] at hlv2
                  rw [← hfull] at hok hless hlv2
                  have hcc := HCW.out.trans (HJ.out.ch.mono (X' := fun k => k = T ∨ base ≤ k) fun k hk => by
                    rcases hk with h | h | h
                    · exact .inl h
                    · exact .inr (HS.out.nl.blk.1 k h).1
                    · exact .inr (Nat.le_trans HBD.out h))
                  have HOKX := Lib.hid hok
                  have HLESS := Lib.hid hless
                  have HLV2 := Lib.hid hlv2
                  have HCC := Lib.hid hcc
                  clear hfull hok hless hlv2 hcc
                  go_wp2
                  refine ⟨⟨m - 1, nv, ax, cx, X.1, X.2, rfl, HJ.out.sr, ⟨HOKX.out.ids, HOKX.out.lev⟩, ?_, HLV2.out.symm, ?_, HCC.out⟩, HLESS.out⟩
                  · have := HLESS.out; have := HM.out; omega
                  · show X.1.length + X.2.length ≤ 2 * l.length
                    have h1 := HOKX.out.sum; have h3 := HSUM.out; omega
        · have n1 : ¬ (1 : Int) < (level.length : Int) := by omega
          have hlv := HLV.out
          rw [levels_end hn] at hlv
          have HLV2 := Lib.hid hlv
          have hrw := HC.out.at HRES.out (fun e => by have := HT.out; have := HB.out; have := HUS.out; omega)
          obtain ⟨c1, c2, f1, f2⟩ := two_cells hrw
          obtain ⟨c3, c4, f3, f4⟩ := two_cells HS.out.bt
          have HRW := Lib.hid hrw
          obtain ⟨an, cn, _, _, rfl, he⟩ := HS.out.nl.slice
          clear hn hlv hrw he
          go_wp2_with fail
          refine bodyPost_ret (results_cell_row rfl _ _ w.heap.size 44 _ (0, 0) _ rfl (two_set HRW.out) Try.underlying44 rfl (by kernel_rfl)) rfl ?_
          have hch := two_chg wr w.heap.size (.slice an nodes.length cn) (.int .i64 (l.length : Int))
          have hnl := HS.out.nl.chg hch (HS.out.nl.avoid (hK := by have := HB.out; have := HUS.out; omega) (by have := HB.out; have := HUS.out; omega))
          refine ⟨⟨_, rfl, by rw [← HLV2.out]; exact hnl.nr⟩, ?_⟩
          exact (HBU.out.trans (HC.out.below (fun k hk => by have := HT.out; have := HB.out; have := HUS.out; omega) (by have := HUS.out; omega))).trans (hch.below (fun k hk => by omega) (by have h1 := HC.out.size; have := HUS.out; omega))
end Go.Proofs.Ytahmacnmphjhgaa
namespace Go.Proofs.Ytahmacnmphjhgaa
open Go.RowKit Oct

def sd (d : Bool) (v u : Value) : Value := bif d then v else u
@[go_sem] theorem sd_true (v u : Value) : sd true v u = v := rfl
@[go_sem] theorem sd_false (v u : Value) : sd false v u = u := rfl
/-- a node's copy in block b: still empty, or filled -/
def ndCells (d : Bool) (n : Array Value) : Array Value := bif d then n else #[.string ByteArray.empty, .slice none 0 0]
@[go_sem] theorem ndCells_true (n : Array Value) : ndCells true n = n := rfl
@[go_sem] theorem ndCells_false (n : Array Value) : ndCells false n = #[.string ByteArray.empty, .slice none 0 0] := rfl
/-- what is known of two copies on the way -/
def SB23 (w0 w : World) (n1 n2 : Array Value) (d10 d11 d12 d13 : Bool) (b6 b7 : Nat) : Prop :=
  Below w0.heap.size w0 w ∧ (d10 = true → w0.heap.size ≤ b6 ∧ w.heap[b6]? = some (.cells (ndCells d12 n1) 51 (0, 0))) ∧ (d11 = true → w0.heap.size ≤ b7 ∧ w.heap[b7]? = some (.cells (ndCells d13 n2) 51 (0, 0))) ∧
    (d10 = true → d11 = true → b6 ≠ b7) ∧ (d12 = true → d10 = true) ∧ (d13 = true → d11 = true)
section
variable {w0 w : World} {n1 n2 : Array Value} {d10 d11 d12 d13 : Bool} {b6 b7 : Nat}
theorem ffb {d : Bool} (h : d = true → false = true) : d = false := by cases d <;> simp_all
theorem SB23.alloc6 (h : SB23 w0 w n1 n2 false d11 d12 d13 b6 b7) : SB23 w0 (w.alloc (.cells #[.string ByteArray.empty, .slice none 0 0] 51)) n1 n2 true d11 d12 d13 w.heap.size b7 := by
  obtain ⟨h0, h1, h2, h3, h4, h5⟩ := h
  obtain rfl := ffb h4
  exact ⟨bt h0 (b_alloc _ _), fun _ => ⟨h0.size, World.alloc_heap_new w _⟩, fun e => ⟨(h2 e).1, by rw [Below.heap_alloc _ _ _ (Array.getElem?_eq_some_iff.1 (h2 e).2).1]; exact (h2 e).2⟩, fun _ e => Nat.ne_of_gt (Array.getElem?_eq_some_iff.1 (h2 e).2).1, fun e => (by cases e), h5⟩
theorem SB23.alloc7 (h : SB23 w0 w n1 n2 d10 false d12 d13 b6 b7) : SB23 w0 (w.alloc (.cells #[.string ByteArray.empty, .slice none 0 0] 51)) n1 n2 d10 true d12 d13 b6 w.heap.size := by
  obtain ⟨h0, h1, h2, h3, h4, h5⟩ := h
  obtain rfl := ffb h5
  exact ⟨bt h0 (b_alloc _ _), fun e => ⟨(h1 e).1, by rw [Below.heap_alloc _ _ _ (Array.getElem?_eq_some_iff.1 (h1 e).2).1]; exact (h1 e).2⟩, fun _ => ⟨h0.size, World.alloc_heap_new w _⟩, fun e _ => Nat.ne_of_lt (Array.getElem?_eq_some_iff.1 (h1 e).2).1, h4, fun e => (by cases e)⟩
theorem SB23.store6 {x y : Value} (h : SB23 w0 w #[x, y] n2 true d11 false d13 b6 b7) : SB23 w0 ((w.setCell ⟨b6, 0, none⟩ x).setCell ⟨b6, 1, none⟩ y) #[x, y] n2 true d11 true d13 b6 b7 := by
  obtain ⟨h0, h1, h2, h3, h4, h5⟩ := h
  have hc := two_chg w b6 x y
  exact ⟨h0.trans (hc.below (fun k hk => by have := (h1 rfl).1; omega) h0.size), fun _ => ⟨(h1 rfl).1, two_set (h1 rfl).2⟩, fun e => ⟨(h2 e).1, hc.at (h2 e).2 (fun e2 => h3 rfl e e2.symm)⟩, h3, fun _ => rfl, h5⟩
theorem SB23.store7 {x y : Value} (h : SB23 w0 w n1 #[x, y] d10 true d12 false b6 b7) : SB23 w0 ((w.setCell ⟨b7, 0, none⟩ x).setCell ⟨b7, 1, none⟩ y) n1 #[x, y] d10 true d12 true b6 b7 := by
  obtain ⟨h0, h1, h2, h3, h4, h5⟩ := h
  have hc := two_chg w b7 x y
  exact ⟨h0.trans (hc.below (fun k hk => by have := (h2 rfl).1; omega) h0.size), fun e => ⟨(h1 e).1, hc.at (h1 e).2 (fun e2 => h3 e rfl e2)⟩, fun _ => ⟨(h2 rfl).1, two_set (h2 rfl).2⟩, h3, h4, fun _ => rfl⟩
end
theorem nd_at {l : List Nd} {k : Nat} (h : k < l.length) : kidsOf l k = l[k].2 := by unfold kidsOf; rw [List.getD, List.getElem?_eq_getElem h]; rfl
set_option maxRecDepth 100000 in
set_option maxHeartbeats 8000000 in
theorem rSame23_any (va vb : Value) (n0 m0 : Int) (a b : List Nd) (w : World) (ha : NR w va a) (hb : NR w vb b) (hla : a.length ≤ 1000000) (hlb : b.length ≤ 1000000) (hka : ∀ x ∈ a, x.2.length ≤ 140737488355328) (hkb : ∀ x ∈ b, x.2.length ≤ 140737488355328) :
    Calls Try.prog 28 #[.agg #[va, .int .i64 n0], .agg #[vb, .int .i64 m0]] w fun e w' => e = .returned (.bool (decide (a = b ∧ n0 = m0))) ∧ Below w.heap.size w w' := by
  obtain ⟨aa, ca, rfl, _, hca⟩ := NR_open ha
  obtain ⟨ab, cb, rfl, _, hcb⟩ := NR_open hb
  have HCA := Lib.hid hca
  have HCB := Lib.hid hcb
  have HKA := Lib.hid hka
  have HKB := Lib.hid hkb
  obtain ⟨k1, k2, k3⟩ := two_new w (.cells #[.slice aa a.length ca, .int .i64 n0] 44) (.cells #[.slice ab b.length cb, .int .i64 m0] 44)
  obtain ⟨W1, hW1⟩ : ∃ W1, W1 = (w.alloc (.cells #[.slice aa a.length ca, .int .i64 n0] 44)).alloc (.cells #[.slice ab b.length cb, .int .i64 m0] 44) := ⟨_, rfl⟩
  rw [← hW1] at k1 k2 k3
  have K1 := Lib.hid k1
  have K2 := Lib.hid k2
  have K3 := Lib.hid k3
  clear hca hcb ha hb hka hkb k1 k2 k3
  by_cases hl : a.length = b.length
  · have t1 : ((a.length : Int) != (b.length : Int)) = false := by rw [bne_eq_false_iff_eq]; omega
    have hL := Lib.hid hl
    clear hl
    by_cases hn : n0 = m0
    · have t2 : (n0 != m0) = false := by rw [bne_eq_false_iff_eq]; exact hn
      have HN := Lib.hid hn
      clear hn
      go_enter Try.func28, Try.ntmps28
      go_wp2_with fail
      rw [← hW1]
      clear hW1
      go_loopw [5] (fun i wr => ∃ k : Nat, k ≤ a.length ∧ i = .int .i64 k ∧ Hid (∀ j (h : j < a.length) (h' : j < b.length), j < k → a[j] = b[j]) ∧ Hid (Below W1.heap.size W1 wr)) (fun i _ => a.length - (intOf i).toNat)
      case atStart => exact ⟨0, by omega, rfl, by intro j _ _ h; omega, Below.refl _ _⟩
      case round =>
        obtain ⟨k, hk, rfl, hH, hB⟩ := hrel
        have K1' := Lib.hid ((hB.out.block w.heap.size (Array.getElem?_eq_some_iff.1 K1.out).1).trans K1.out)
        have K2' := Lib.hid ((hB.out.block (w.heap.size + 1) (Array.getElem?_eq_some_iff.1 K2.out).1).trans K2.out)
        obtain ⟨c1, c2, _, _⟩ := two_cells K1'.out
        obtain ⟨c3, c4, _, _⟩ := two_cells K2'.out
        by_cases h0 : k < a.length
        · have h0b : k < b.length := by have := hL.out; omega
          obtain ⟨b1, o1, ak1, nk1, ck1, rfl, hc1, hc2, hr1⟩ := HCA.out k h0
          obtain ⟨b2, o2, ak2, nk2, ck2, rfl, hc3, hc4, hr2⟩ := HCB.out k h0b
          have g1 := Below.keeps hB.out (Below.keeps K3.out hc1)
          have g2 := Below.keeps hB.out (Below.keeps K3.out hc2)
          have g3 := Below.keeps hB.out (Below.keeps K3.out hc3)
          have g4 := Below.keeps hB.out (Below.keeps K3.out hc4)
          have kk0 : (0 : Int) ≤ (k : Int) := by omega
          have kk1 : (k : Int) < (a.length : Int) := by omega
          have kk2 : (k : Int) < (b.length : Int) := by omega
          have kk3 : (a.length : Int) ≤ 1000000 := by omega
          have HR1 := Lib.hid hr1
          have HR2 := Lib.hid hr2
          clear hc1 hc2 hc3 hc4 hr1 hr2
          go_wp2_with fail
          have hI0 : ∃ I : Array Bool → Act → World → Prop, I = (fun listed ax wx => ∃ d0 d1 d2 d3 d4 d5 d6 d7 d8 d9 d10 d11 d12 d13 : Bool, ∃ x6 x7 : Nat, listed = #[d0, d1, d2, d3, d4, d5, d6, d7, d8, d9, d10, d11, d12, d13] ∧ ax = { tmps := List.toArray ((.agg #[.slice (some ⟨b1, o1, none⟩) a.length ca, .int .i64 n0]) :: (.agg #[.slice (some ⟨b2, o2, none⟩) b.length cb, .int .i64 m0]) :: (.pointer (some ⟨w.heap.size, 0, none⟩)) :: (.pointer (some ⟨w.heap.size + 1, 0, none⟩)) :: u4 :: (.int .i64 (k : Int)) :: (sd d10 (.pointer (some ⟨x6, 0, none⟩)) u6) :: (sd d11 (.pointer (some ⟨x7, 0, none⟩)) u7) :: u8 :: (.pointer (some ⟨w.heap.size, 0, none⟩)) :: (.slice (some ⟨b1, o1, none⟩) a.length ca) :: (.int .i64 (a.length : Int)) :: (.pointer (some ⟨w.heap.size + 1, 0, none⟩)) :: (.slice (some ⟨b2, o2, none⟩) b.length cb) :: (.int .i64 (b.length : Int)) :: (.bool false) :: (.bool false) :: (.pointer (some ⟨w.heap.size, 1, none⟩)) :: (.int .i64 n0) :: (.pointer (some ⟨w.heap.size + 1, 1, none⟩)) :: (.int .i64 m0) :: (.bool false) :: (.bool false) :: (.int .i64 (k : Int)) :: (.pointer (some ⟨w.heap.size, 0, none⟩)) :: (.slice (some ⟨b1, o1, none⟩) a.length ca) :: (.int .i64 (a.length : Int)) :: (.bool true) :: u28 :: u29 :: (sd d0 (.pointer (some ⟨w.heap.size, 0, none⟩)) u30) :: (sd d1 (.slice (some ⟨b1, o1, none⟩) a.length ca) u31) :: (sd d2 (.int .i64 (k : Int)) u32) :: (sd d3 (.pointer (some ⟨b1, o1 + k * 2, none⟩)) u33) :: (sd d4 (.agg #[.string (bs a[k].1), .slice ak1 nk1 ck1]) u34) :: (sd d5 (.pointer (some ⟨w.heap.size + 1, 0, none⟩)) u35) :: (sd d6 (.slice (some ⟨b2, o2, none⟩) b.length cb) u36) :: (sd d7 (.int .i64 (k : Int)) u37) :: (sd d8 (.pointer (some ⟨b2, o2 + k * 2, none⟩)) u38) :: (sd d9 (.agg #[.string (bs b[k].1), .slice ak2 nk2 ck2]) u39) :: u40 :: u41 :: u42 :: u43 :: u44 :: u45 :: u46 :: u47 :: u48 :: u49 :: u50 :: u51 :: u52 :: u53 :: u54 :: u55 :: u56 :: u57 :: u58 :: u59 :: u60 :: u61 :: u62 :: u63 :: u64 :: u65 :: u66 :: u67 :: u68 :: u69 :: u70 :: u71 :: []), defers := [] } ∧ Hid (SB23 wr wx #[.string (bs a[k].1), .slice ak1 nk1 ck1] #[.string (bs b[k].1), .slice ak2 nk2 ck2] d10 d11 d12 d13 x6 x7)) := ⟨_, rfl⟩
          obtain ⟨INV, hINV⟩ := hI0
          have HINV := Lib.hid hINV
          clear hINV
          refine region_inv INV (by kernel_rfl) (by kernel_rfl) (by rw [HINV.out]; exact ⟨false, false, false, false, false, false, false, false, false, false, false, false, false, false, 0, 0, rfl, rfl, ⟨b_drew wr, fun e => (by cases e), fun e => (by cases e), fun e => (by cases e), fun e => (by cases e), fun e => (by cases e)⟩⟩) ?_ ?_
          · intro listed ax wx hI hs hall
            rw [HINV.out] at hI
            clear HINV
            obtain ⟨d0, d1, d2, d3, d4, d5, d6, d7, d8, d9, d10, d11, d12, d13, x6, x7, rfl, rfl, hBI⟩ := hI
            have e0 : d0 = true := by simpa using hall 0 (by decide)
            have e1 : d1 = true := by simpa using hall 1 (by decide)
            have e2 : d2 = true := by simpa using hall 2 (by decide)
            have e3 : d3 = true := by simpa using hall 3 (by decide)
            have e4 : d4 = true := by simpa using hall 4 (by decide)
            have e5 : d5 = true := by simpa using hall 5 (by decide)
            have e6 : d6 = true := by simpa using hall 6 (by decide)
            have e7 : d7 = true := by simpa using hall 7 (by decide)
            have e8 : d8 = true := by simpa using hall 8 (by decide)
            have e9 : d9 = true := by simpa using hall 9 (by decide)
            have e10 : d10 = true := by simpa using hall 10 (by decide)
            have e11 : d11 = true := by simpa using hall 11 (by decide)
            have e12 : d12 = true := by simpa using hall 12 (by decide)
            have e13 : d13 = true := by simpa using hall 13 (by decide)
            simp only [e0, e1, e2, e3, e4, e5, e6, e7, e8, e9, e10, e11, e12, e13, sd_true] at hBI ⊢
            clear e0 e1 e2 e3 e4 e5 e6 e7 e8 e9 e10 e11 e12 e13 hall hs
            clear d0 d1 d2 d3 d4 d5 d6 d7 d8 d9 d10 d11 d12 d13
            obtain ⟨hw, h6, h7, n67, -⟩ := hBI.out
            have B6 := Lib.hid (h6 rfl).2
            have B7 := Lib.hid (h7 rfl).2
            have HW := Lib.hid (bt hB.out hw)
            have HKL1 := HKA.out a[k] (List.getElem_mem h0)
            have HKL2 := HKB.out b[k] (List.getElem_mem h0b)
            obtain ⟨p, hp⟩ : ∃ p, p = a[k] := ⟨_, rfl⟩
            obtain ⟨q, hq⟩ : ∃ q, q = b[k] := ⟨_, rfl⟩
            rw [← hp] at HR1 B6 HKL1 ⊢
            rw [← hq] at HR2 B7 HKL2 ⊢
            have HP := Lib.hid hp
            have HQ := Lib.hid hq
            have hwx : Below w.heap.size w wx := bt K3.out HW.out
            obtain ⟨_, _, hv1, _, hk1⟩ := recI_open (HR1.out.below hwx)
            injection hv1 with f1 f2 f3
            subst f1 f2 f3
            obtain ⟨_, _, hv2, _, hk2⟩ := recI_open (HR2.out.below hwx)
            injection hv2 with f1 f2 f3
            subst f1 f2 f3
            have HK1 := Lib.hid hk1
            have HK2 := Lib.hid hk2
            simp only [ndCells_true] at B6 B7
            obtain ⟨y1, y2, _, _⟩ := two_cells B6.out
            obtain ⟨y3, y4, _, _⟩ := two_cells B7.out
            have l1 : (p.2.length : Int) ≤ 140737488355328 := by omega
            clear hw h6 h7 n67 hBI hk1 hk2 hp hq g1 g2 g3 g4 c1 c2 c3 c4
            by_cases e1 : p.1 = q.1
            · have r1 : (p.1 != q.1) = false := by simp [e1]
              have r1' : (p.1 == q.1) = true := by simp [e1]
              have E1 := Lib.hid e1
              clear e1
              by_cases e2 : p.2.length = q.2.length
              · have r2 : ((p.2.length : Int) != (q.2.length : Int)) = false := by rw [bne_eq_false_iff_eq]; omega
                have E2 := Lib.hid e2
                clear e2
                go_wp2
                go_loopw [8] (fun vj wy => ∃ j : Nat, j ≤ p.2.length ∧ vj = .int .i64 (j : Int) ∧ Hid (∀ i (h : i < p.2.length) (h' : i < q.2.length), i < j → p.2[i] = q.2[i]) ∧ Hid (Below wx.heap.size wx wy)) (fun vj _ => p.2.length - (intOf vj).toNat)
                case atStart => exact ⟨0, by omega, rfl, by intro i _ _ h; omega, Below.refl _ _⟩
                case round =>
                  obtain ⟨j, hj, rfl, hHj, hBy⟩ := hrel
                  have z1 := Below.keeps hBy.out y1
                  have z2 := Below.keeps hBy.out y2
                  have z3 := Below.keeps hBy.out y3
                  have z4 := Below.keeps hBy.out y4
                  by_cases hj0 : j < p.2.length
                  · have hj1 : j < q.2.length := by have := E2.out; omega
                    obtain ⟨kb1, ko1, rfl, x1⟩ := HK1.out j hj0
                    obtain ⟨kb2, ko2, rfl, x2⟩ := HK2.out j hj1
                    have v1 := Below.keeps hBy.out x1
                    have v2 := Below.keeps hBy.out x2
                    have m0 : (0 : Int) ≤ (j : Int) := by omega
                    have m1 : (j : Int) < (p.2.length : Int) := by omega
                    have m2 : (j : Int) < (q.2.length : Int) := by omega
                    clear x1 x2
                    by_cases hx : p.2[j] = q.2[j]
                    · have s1 : (p.2[j] != q.2[j]) = false := by simp [hx]
                      have HX := Lib.hid hx
                      clear hx
                      go_wp2
                      go_quiet (fail)
                      go_wp2
                      go_roundw
                      case rel =>
                        refine ⟨j + 1, by omega, by go_num, ?_, bt hBy.out (Below.drewN' _ _)⟩
                        intro i h h' hi
                        by_cases hji : i = j
                        · subst hji; exact HX.out
                        · exact hHj.out i h h' (by omega)
                      case measure => simp [intOf]; omega
                    · have s1 : (p.2[j] != q.2[j]) = true := by simp [hx]
                      have HX := Lib.hid hx
                      clear hx
                      go_wp2
                      go_quiet (fail)
                      go_wp2
                      go_ret
                      refine ⟨?_, bt hwx (bt hBy.out (Below.drewN' _ _))⟩
                      have hne : a ≠ b := nds_ne k h0 h0b (fun e => ints_ne j hj0 hj1 HX.out (by rw [HP.out, HQ.out, e]))
                      rw [decide_eq_false (fun e => hne e.1)]
                      rfl
                  · obtain rfl : j = p.2.length := by omega
                    have hpq : a[k] = b[k] := by
                      rw [← HP.out, ← HQ.out]
                      exact Prod.ext E1.out (ints_eq E2.out fun i h h' => hHj.out i h h' h)
                    have HPQ := Lib.hid hpq
                    clear hpq
                    go_wp2
                    go_roundw
                    case rel =>
                      refine ⟨k + 1, by omega, by go_num, ?_, bt HW.out hBy.out⟩
                      intro i h h' hi
                      by_cases hji : i = k
                      · subst hji; exact HPQ.out
                      · exact hH.out i h h' (by omega)
                    case measure => simp [intOf]; omega
              · have r2 : ((p.2.length : Int) != (q.2.length : Int)) = true := by rw [bne_iff_ne]; omega
                have hne : a ≠ b := nds_ne k h0 h0b (fun e => e2 (by rw [HP.out, HQ.out, e]))
                have HNE := Lib.hid hne
                clear e2 hne
                go_wp2
                go_ret
                refine ⟨?_, hwx⟩
                rw [decide_eq_false (fun e => HNE.out e.1)]
                rfl
            · have r1 : (p.1 != q.1) = true := by simp [e1]
              have r1' : (p.1 == q.1) = false := by simp [e1]
              have hne : a ≠ b := nds_ne k h0 h0b (fun e => e1 (by rw [HP.out, HQ.out, e]))
              have HNE := Lib.hid hne
              clear e1 hne
              go_wp2
              go_ret
              refine ⟨?_, hwx⟩
              rw [decide_eq_false (fun e => HNE.out e.1)]
              rfl
          refine ⟨fun listed ax wx hI hd hdep => ?_, fun listed ax wx hI hd hdep => ?_, fun listed ax wx hI hd hdep => ?_, fun listed ax wx hI hd hdep => ?_, fun listed ax wx hI hd hdep => ?_, fun listed ax wx hI hd hdep => ?_, fun listed ax wx hI hd hdep => ?_, fun listed ax wx hI hd hdep => ?_, fun listed ax wx hI hd hdep => ?_, fun listed ax wx hI hd hdep => ?_, fun listed ax wx hI hd hdep => ?_, fun listed ax wx hI hd hdep => ?_, fun listed ax wx hI hd hdep => ?_, fun listed ax wx hI hd hdep => ?_, True.intro⟩
          · rw [HINV.out] at hI
            obtain ⟨d0, d1, d2, d3, d4, d5, d6, d7, d8, d9, d10, d11, d12, d13, x6, x7, rfl, rfl, hBI⟩ := hI
            obtain rfl : d0 = false := by simpa using hd
            rw [if_pos (by rfl)]
            unfold Oper.wp
            clear hd hdep
            go_simp
            rw [HINV.out]
            exact ⟨true, d1, d2, d3, d4, d5, d6, d7, d8, d9, d10, d11, d12, d13, x6, x7, rfl, rfl, hBI⟩
          · rw [HINV.out] at hI
            obtain ⟨d0, d1, d2, d3, d4, d5, d6, d7, d8, d9, d10, d11, d12, d13, x6, x7, rfl, rfl, hBI⟩ := hI
            obtain rfl : d1 = false := by simpa using hd
            simp [Region.binds] at hdep
            have e0 : d0 = true := by simp [hdep]
            clear hdep
            simp only [e0] at hBI ⊢
            rw [if_pos (by rfl)]
            unfold Oper.wp
            clear hd
            have y0 := Below.keeps hBI.out.1 c1
            go_simp
            rw [HINV.out]
            exact ⟨true, true, d2, d3, d4, d5, d6, d7, d8, d9, d10, d11, d12, d13, x6, x7, rfl, rfl, hBI⟩
          · rw [HINV.out] at hI
            obtain ⟨d0, d1, d2, d3, d4, d5, d6, d7, d8, d9, d10, d11, d12, d13, x6, x7, rfl, rfl, hBI⟩ := hI
            obtain rfl : d2 = false := by simpa using hd
            rw [if_pos (by rfl)]
            unfold Oper.wp
            clear hd hdep
            go_simp
            rw [HINV.out]
            exact ⟨d0, d1, true, d3, d4, d5, d6, d7, d8, d9, d10, d11, d12, d13, x6, x7, rfl, rfl, hBI⟩
          · rw [HINV.out] at hI
            obtain ⟨d0, d1, d2, d3, d4, d5, d6, d7, d8, d9, d10, d11, d12, d13, x6, x7, rfl, rfl, hBI⟩ := hI
            obtain rfl : d3 = false := by simpa using hd
            simp [Region.binds] at hdep
            have e1 : d1 = true := by simp [hdep]
            have e2 : d2 = true := by simp [hdep]
            clear hdep
            simp only [e1, e2] at hBI ⊢
            rw [if_pos (by rfl)]
            unfold Oper.wp
            clear hd
            go_simp
            rw [HINV.out]
            exact ⟨d0, true, true, true, d4, d5, d6, d7, d8, d9, d10, d11, d12, d13, x6, x7, rfl, rfl, hBI⟩
          · rw [HINV.out] at hI
            obtain ⟨d0, d1, d2, d3, d4, d5, d6, d7, d8, d9, d10, d11, d12, d13, x6, x7, rfl, rfl, hBI⟩ := hI
            obtain rfl : d4 = false := by simpa using hd
            simp [Region.binds] at hdep
            have e3 : d3 = true := by simp [hdep]
            clear hdep
            simp only [e3] at hBI ⊢
            rw [if_pos (by rfl)]
            unfold Oper.wp
            clear hd
            have y0 := Below.keeps hBI.out.1 g1
            have y1 := Below.keeps hBI.out.1 g2
            go_simp
            rw [HINV.out]
            exact ⟨d0, d1, d2, true, true, d5, d6, d7, d8, d9, d10, d11, d12, d13, x6, x7, rfl, rfl, hBI⟩
          · rw [HINV.out] at hI
            obtain ⟨d0, d1, d2, d3, d4, d5, d6, d7, d8, d9, d10, d11, d12, d13, x6, x7, rfl, rfl, hBI⟩ := hI
            obtain rfl : d5 = false := by simpa using hd
            rw [if_pos (by rfl)]
            unfold Oper.wp
            clear hd hdep
            go_simp
            rw [HINV.out]
            exact ⟨d0, d1, d2, d3, d4, true, d6, d7, d8, d9, d10, d11, d12, d13, x6, x7, rfl, rfl, hBI⟩
          · rw [HINV.out] at hI
            obtain ⟨d0, d1, d2, d3, d4, d5, d6, d7, d8, d9, d10, d11, d12, d13, x6, x7, rfl, rfl, hBI⟩ := hI
            obtain rfl : d6 = false := by simpa using hd
            simp [Region.binds] at hdep
            have e5 : d5 = true := by simp [hdep]
            clear hdep
            simp only [e5] at hBI ⊢
            rw [if_pos (by rfl)]
            unfold Oper.wp
            clear hd
            have y0 := Below.keeps hBI.out.1 c3
            go_simp
            rw [HINV.out]
            exact ⟨d0, d1, d2, d3, d4, true, true, d7, d8, d9, d10, d11, d12, d13, x6, x7, rfl, rfl, hBI⟩
          · rw [HINV.out] at hI
            obtain ⟨d0, d1, d2, d3, d4, d5, d6, d7, d8, d9, d10, d11, d12, d13, x6, x7, rfl, rfl, hBI⟩ := hI
            obtain rfl : d7 = false := by simpa using hd
            rw [if_pos (by rfl)]
            unfold Oper.wp
            clear hd hdep
            go_simp
            rw [HINV.out]
            exact ⟨d0, d1, d2, d3, d4, d5, d6, true, d8, d9, d10, d11, d12, d13, x6, x7, rfl, rfl, hBI⟩
          · rw [HINV.out] at hI
            obtain ⟨d0, d1, d2, d3, d4, d5, d6, d7, d8, d9, d10, d11, d12, d13, x6, x7, rfl, rfl, hBI⟩ := hI
            obtain rfl : d8 = false := by simpa using hd
            simp [Region.binds] at hdep
            have e6 : d6 = true := by simp [hdep]
            have e7 : d7 = true := by simp [hdep]
            clear hdep
            simp only [e6, e7] at hBI ⊢
            rw [if_pos (by rfl)]
            unfold Oper.wp
            clear hd
            go_simp
            rw [HINV.out]
            exact ⟨d0, d1, d2, d3, d4, d5, true, true, true, d9, d10, d11, d12, d13, x6, x7, rfl, rfl, hBI⟩
          · rw [HINV.out] at hI
            obtain ⟨d0, d1, d2, d3, d4, d5, d6, d7, d8, d9, d10, d11, d12, d13, x6, x7, rfl, rfl, hBI⟩ := hI
            obtain rfl : d9 = false := by simpa using hd
            simp [Region.binds] at hdep
            have e8 : d8 = true := by simp [hdep]
            clear hdep
            simp only [e8] at hBI ⊢
            rw [if_pos (by rfl)]
            unfold Oper.wp
            clear hd
            have y0 := Below.keeps hBI.out.1 g3
            have y1 := Below.keeps hBI.out.1 g4
            go_simp
            rw [HINV.out]
            exact ⟨d0, d1, d2, d3, d4, d5, d6, d7, true, true, d10, d11, d12, d13, x6, x7, rfl, rfl, hBI⟩
          · rw [HINV.out] at hI
            obtain ⟨d0, d1, d2, d3, d4, d5, d6, d7, d8, d9, d10, d11, d12, d13, x6, x7, rfl, rfl, hBI⟩ := hI
            obtain rfl : d10 = false := by simpa using hd
            rw [if_pos (by rfl)]
            unfold Oper.wp
            clear hd hdep
            go_simp
            rw [HINV.out]
            exact ⟨d0, d1, d2, d3, d4, d5, d6, d7, d8, d9, true, d11, d12, d13, wx.heap.size, x7, rfl, rfl, hBI.out.alloc6⟩
          · rw [HINV.out] at hI
            obtain ⟨d0, d1, d2, d3, d4, d5, d6, d7, d8, d9, d10, d11, d12, d13, x6, x7, rfl, rfl, hBI⟩ := hI
            obtain rfl : d11 = false := by simpa using hd
            rw [if_pos (by rfl)]
            unfold Oper.wp
            clear hd hdep
            go_simp
            rw [HINV.out]
            exact ⟨d0, d1, d2, d3, d4, d5, d6, d7, d8, d9, d10, true, d12, d13, x6, wx.heap.size, rfl, rfl, hBI.out.alloc7⟩
          · rw [HINV.out] at hI
            obtain ⟨d0, d1, d2, d3, d4, d5, d6, d7, d8, d9, d10, d11, d12, d13, x6, x7, rfl, rfl, hBI⟩ := hI
            obtain rfl : d12 = false := by simpa using hd
            simp [Region.binds] at hdep
            have e0 : d0 = true := by simp [hdep]
            have e1 : d1 = true := by simp [hdep]
            have e2 : d2 = true := by simp [hdep]
            have e3 : d3 = true := by simp [hdep]
            have e4 : d4 = true := by simp [hdep]
            have e10 : d10 = true := by simp [hdep]
            have e11 : d11 = true := by simp [hdep]
            clear hdep
            simp only [e0, e1, e2, e3, e4, e10, e11] at hBI ⊢
            rw [if_pos (by rfl)]
            unfold Oper.wp
            clear hd
            obtain ⟨y0, y1, y2, y3⟩ := two_cells (hBI.out.2.1 rfl).2
            go_simp
            rw [HINV.out]
            exact ⟨true, true, true, true, true, d5, d6, d7, d8, d9, true, true, true, d13, x6, x7, rfl, rfl, hBI.out.store6⟩
          · rw [HINV.out] at hI
            obtain ⟨d0, d1, d2, d3, d4, d5, d6, d7, d8, d9, d10, d11, d12, d13, x6, x7, rfl, rfl, hBI⟩ := hI
            obtain rfl : d13 = false := by simpa using hd
            simp [Region.binds] at hdep
            have e0 : d0 = true := by simp [hdep]
            have e1 : d1 = true := by simp [hdep]
            have e2 : d2 = true := by simp [hdep]
            have e3 : d3 = true := by simp [hdep]
            have e4 : d4 = true := by simp [hdep]
            have e5 : d5 = true := by simp [hdep]
            have e6 : d6 = true := by simp [hdep]
            have e7 : d7 = true := by simp [hdep]
            have e8 : d8 = true := by simp [hdep]
            have e9 : d9 = true := by simp [hdep]
            have e10 : d10 = true := by simp [hdep]
            have e11 : d11 = true := by simp [hdep]
            have e12 : d12 = true := by simp [hdep]
            clear hdep
            simp only [e0, e1, e2, e3, e4, e5, e6, e7, e8, e9, e10, e11, e12] at hBI ⊢
            rw [if_pos (by rfl)]
            unfold Oper.wp
            clear hd
            obtain ⟨y0, y1, y2, y3⟩ := two_cells (hBI.out.2.2.1 rfl).2
            go_simp
            rw [HINV.out]
            exact ⟨true, true, true, true, true, true, true, true, true, true, true, true, true, true, x6, x7, rfl, rfl, hBI.out.store7⟩
        · obtain rfl : k = a.length := by omega
          have HF := Lib.hid (nds_eq hL.out fun j h h' => hH.out j h h' h)
          go_wp2_with fail
          go_ret
          exact ⟨by rw [decide_eq_true ⟨HF.out, HN.out⟩]; rfl, bt K3.out hB.out⟩
    · have t2 : (n0 != m0) = true := by rw [bne_iff_ne]; exact hn
      have HN := Lib.hid hn
      clear hn
      go_enter Try.func28, Try.ntmps28
      go_wp2_with fail
      rw [← hW1]
      go_ret
      exact ⟨by rw [decide_eq_false (fun e => HN.out e.2)]; rfl, K3.out⟩
  · have t1 : ((a.length : Int) != (b.length : Int)) = true := by rw [bne_iff_ne]; omega
    have hL := Lib.hid hl
    clear hl
    go_enter Try.func28, Try.ntmps28
    go_wp2_with fail
    rw [← hW1]
    go_ret
    exact ⟨by rw [decide_eq_false (fun e => hL.out (by rw [e.1]))]; rfl, K3.out⟩
end Go.Proofs.Ytahmacnmphjhgaa
namespace Go.Proofs.Ytahmacnmphjhgaa
open Go.RowKit Oct

set_option maxRecDepth 100000 in
set_option maxHeartbeats 1000000 in
theorem rIds_any (v : Value) (l : List (List UInt8)) (w : World) (hr : recS.Row w v l) (hl : l.length ≤ 140737488355328) (hm : ∀ s ∈ l, s.length ≤ 140737488355328) :
    Calls Try.prog 32 #[v] w fun e w' => e = .returned (.bool (allIds l)) ∧ w = w' := by
  obtain ⟨a, cap, rfl, _, hc⟩ := recS_open hr
  have HC := Lib.hid hc
  have HM := Lib.hid hm
  clear hc hr hm
  go_enter Try.func32, Try.ntmps32
  go_wp2
  go_loop [3] (fun t => ∃ i : Nat, i ≤ l.length ∧ t = .int .i64 (i : Int) ∧ Hid (∀ j (hj : j < l.length), j < i → isId l[j] = true)) (fun t => l.length - (intOf t).toNat)
  case atStart => exact ⟨0, by omega, rfl, fun j _ h => absurd h (by omega)⟩
  case round =>
    obtain ⟨i, hi, rfl, hH⟩ := hrel
    by_cases h0 : i < l.length
    · obtain ⟨b, off, rfl, c1⟩ := HC.out i h0
      have kk0 : (0 : Int) ≤ (i : Int) := by omega
      have kk1 : (i : Int) < (l.length : Int) := by omega
      cases hid : isId l[i] with
      | false =>
        have HI := Lib.hid hid
        have q : ((l[i].length : Int) != 32) = true := by unfold isId at hid; rw [beq_eq_false_iff_ne] at hid; rw [bne_iff_ne]; omega
        clear hid
        go_wp2
        go_ret
        exact ⟨by rw [allIds_false i h0 HI.out]; rfl, rfl⟩
      | true =>
        have HI := Lib.hid hid
        have q : ((l[i].length : Int) != 32) = false := by unfold isId at hid; rw [beq_iff_eq] at hid; rw [bne_eq_false_iff_eq]; omega
        clear hid
        go_wp2
        go_round
        case rel =>
          refine ⟨i + 1, by omega, by go_num, ?_⟩
          intro j hj hji
          by_cases e : j = i
          · subst e; exact HI.out
          · exact hH.out j hj (by omega)
        case measure => simp [intOf]; omega
    · have HF := Lib.hid (allIds_true fun k hk => hH.out k hk (by omega))
      obtain rfl : i = l.length := by omega
      go_wp2
      go_ret
      exact ⟨by rw [HF.out]; rfl, rfl⟩
end Go.Proofs.Ytahmacnmphjhgaa
namespace Go.Proofs.Ytahmacnmphjhgaa
open Go.RowKit Oct
attribute [local irreducible] wpG

/-- a tree that a call made -/
def kTree (l : List (List UInt8)) (n0 : Int) : Known Bel :=
  ⟨Option Addr × Nat, fun x => .agg #[.slice x.1 (buildF l).length x.2, .int .i64 n0], fun x => some fun w => NR w (.slice x.1 (buildF l).length x.2) (buildF l), fun _ _ h _ _ hφ hB => by cases h; exact hφ.below hB⟩
@[go_sem] theorem kTree_val (l : List (List UInt8)) (n0 : Int) (a : Option Addr) (c : Nat) : (kTree l n0).val (a, c) = .agg #[.slice a (buildF l).length c, .int .i64 n0] := rfl

set_option maxRecDepth 100000 in
set_option maxHeartbeats 4000000 in
theorem rMay_any (nv : Value) (n0 : Int) (nodes : List Nd) (w : World) (hn : NR w nv nodes) (hl : nodes.length ≤ 1000000) (hks : ∀ x ∈ nodes, x.2.length ≤ 140737488355328) (his : ∀ x ∈ nodes, x.1.length ≤ 140737488355328) :
    Calls Try.prog 64 #[.agg #[nv, .int .i64 n0]] w fun e w' => e = .returned (.bool (checkF nodes n0)) ∧ Below w.heap.size w w' := by
  obtain ⟨a, cap, rfl, _, _⟩ := NR_open hn
  have HN := Lib.hid hn
  have HKS := Lib.hid hks
  have HIS := Lib.hid his
  clear hn hks his
  by_cases h0 : n0 < 0
  · have HF := Lib.hid (show checkF nodes n0 = false by unfold checkF; rw [decide_eq_false (by omega : ¬ 0 ≤ n0)]; rfl)
    go_enter Try.func64, Try.ntmps64
    go_wp2_with fail
    go_ret
    exact ⟨by rw [HF.out]; rfl, b_alloc _ _⟩
  · have h0' : (0 : Int) ≤ n0 := by omega
    by_cases h1 : (nodes.length : Int) < n0
    · have HF := Lib.hid (show checkF nodes n0 = false by unfold checkF; rw [decide_eq_false (by omega : ¬ n0 ≤ (nodes.length : Int))]; simp)
      go_enter Try.func64, Try.ntmps64
      go_wp2_with fail
      go_ret
      exact ⟨by rw [HF.out]; rfl, b_alloc _ _⟩
    · by_cases h2 : (4096 : Int) < n0
      · have HF := Lib.hid (show checkF nodes n0 = false by unfold checkF; rw [decide_eq_false (by omega : ¬ n0 ≤ 4096)]; simp)
        go_enter Try.func64, Try.ntmps64
        go_wp2_with fail
        go_ret
        exact ⟨by rw [HF.out]; rfl, b_alloc _ _⟩
      · obtain ⟨n, rfl⟩ : ∃ n : Nat, n0 = (n : Int) := ⟨n0.toNat, by omega⟩
        have hnl : n ≤ nodes.length := by omega
        have hn4 : n ≤ 4096 := by omega
        have hn : ¬ (n : Int) < 0 := by omega
        clear h0
        go_enter Try.func64, Try.ntmps64
        go_wp2_with fail
        obtain ⟨W1, hW1⟩ : ∃ W1, W1 = w.alloc (.cells #[.slice a nodes.length cap, .int .i64 (n : Int)] 44) := ⟨_, rfl⟩
        have hb1 : Below w.heap.size w W1 := by rw [hW1]; exact b_alloc _ _
        have ht1 : W1.heap[w.heap.size]? = some (.cells #[.slice a nodes.length cap, .int .i64 (n : Int)] 44 (0, 0)) := by rw [hW1]; exact World.alloc_heap_new w _
        have HB1 := Lib.hid hb1
        obtain ⟨p1, p2, _, _⟩ := two_cells ht1
        rw [← hW1]
        clear hW1 hb1 ht1
        have j9 : (nodes.length : Int) ≤ 1000000 := by omega
        go_loopw [3, 4] (fun v3 v4 wr => ∃ k : Nat, ∃ av cv, v3 = .slice av k cv ∧ v4 = .int .i64 (k : Int) ∧ k ≤ n ∧ Hid (recS.Own wr W1.heap.size (.slice av k cv) (leafIds nodes k)) ∧ Hid (Below W1.heap.size W1 wr)) (fun _ v4 _ => n - (intOf v4).toNat)
        case atStart => exact ⟨0, none, 0, rfl, rfl, Nat.zero_le _, Rec.Own.nil _ _, Below.refl _ _⟩
        case round =>
          obtain ⟨k, av, cv, rfl, rfl, hk, HO, HB⟩ := hrel
          have r1 := Below.keeps HB.out p1
          have r2 := Below.keeps HB.out p2
          by_cases hkn : k < n
          · have hkl : k < nodes.length := by omega
            obtain ⟨_, _, b, off, ak, nk, ck, hv, rfl, d1, _, _⟩ := ((HN.out.below HB1.out).below HB.out).at hkl
            injection hv with e1 _ e3
            subst e1 e3
            have HSN := Lib.hid (leafIds_succ hkl)
            have HLN := Lib.hid (leafIds_len (nodes := nodes) (k := k) (by omega))
            have k0 : (0 : Int) ≤ (k : Int) := by omega
            have k1 : (k : Int) < (n : Int) := by omega
            have k2 : (k : Int) < (nodes.length : Int) := by omega
            have k3 : (n : Int) ≤ 4096 := by omega
            obtain ⟨x, hx⟩ : ∃ x, x = nodes[k].1 := ⟨_, rfl⟩
            rw [← hx] at d1 HSN
            clear hx
            go_wp2_with (at_builtin; go_must (refine recS.append1C _ x rfl _ _ 40 rfl Try.underlying40 W1.heap.size _ (leafIds nodes k) HO.out rfl 1 rfl _ rfl _ rfl (by rw [HLN.out]; show (k + 1) * 16 ≤ _; omega) HB.out.size ?_); intro g cap2 w3 hown3 hc3 hg3; rw [HLN.out] at hown3 ⊢; have HO3 := Lib.hid hown3; have hb3 : Below W1.heap.size W1 w3 := HB.out.trans (hc3.below (fun j hj => (HO.out.lt j hj).1) HB.out.size); have HB3 := Lib.hid hb3; clear hown3 hc3 hg3 hb3)
            exact ⟨⟨k + 1, _, _, rfl, by go_num, by omega, by rw [HSN.out]; exact HO3.out, HB3.out⟩, by simp [intOf]; omega⟩
          · obtain rfl : k = n := by omega
            have hln := leafIds_len (nodes := nodes) (k := k) hnl
            obtain ⟨ids, hids⟩ : ∃ ids, ids = leafIds nodes k := ⟨_, rfl⟩
            rw [← hids] at hln HO
            have hmem : ∀ s ∈ ids, s.length ≤ 140737488355328 := fun s hs => by
              rw [hids] at hs
              simp only [leafIds, List.mem_map] at hs
              obtain ⟨x, hx, rfl⟩ := hs
              exact HIS.out x (List.mem_of_mem_take hx)
            have hck : checkF nodes (k : Int) = (allIds ids && decide (buildF ids = nodes)) := by
              unfold checkF
              rw [Int.toNat_natCast, ← hids, decide_eq_true (by omega : (0 : Int) ≤ (k : Int)), decide_eq_true (by omega : (k : Int) ≤ (nodes.length : Int)), decide_eq_true (by omega : (k : Int) ≤ 4096)]
              simp
            have HLN := Lib.hid hln
            have HMEM := Lib.hid hmem
            have HCK := Lib.hid hck
            have HWr := Lib.hid (bt HB1.out HB.out)
            clear hln hmem hids hck
            cases hq : allIds ids with
            | false =>
              rw [hq] at HCK
              have HQ := Lib.hid hq
              clear hq
              go_wp2
              refine region_known [(1, .exact _ (.bool false))] (by kernel_rfl) (by kernel_rfl) ?_
              (repeat (first | (refine wpG_skip (by kernel_rfl) (fun K hK => ?_); go_big_quiet_skip; refine wpQuiet_nil (hK _ ?_); clear hK K) | (refine wpG_quiet (by rfl) (by rfl) (fun K hK => ?_); go_big_quiet_want; go_big_quiet_op; go_big_quiet_on; refine wpQuiet_nil (hK _ ?_); clear hK K)))
              refine wpG_exact rfl (by kernel_rfl) (fun w' G hB hS hG => ?_) (fun K hK => ?_)
              · have hc := rIds_any _ ids w' (HO.out.row.below hB) (by have := HLN.out; omega) HMEM.out
                rw [HQ.out] at hc
                go_simp
                refine calls_told hG (hc.mono ?_)
                rintro e w'' ⟨rfl, rfl⟩
                exact ⟨rfl, Below.refl _ _⟩
              go_simp; refine hK _ ?_; clear hK K; (repeat (first | (refine wpG_skip (by kernel_rfl) (fun K hK => ?_); go_big_quiet_skip; refine wpQuiet_nil (hK _ ?_); clear hK K) | (refine wpG_quiet (by rfl) (by rfl) (fun K hK => ?_); go_big_quiet_want; go_big_quiet_op; go_big_quiet_on; refine wpQuiet_nil (hK _ ?_); clear hK K)))
              refine wpG_nilYK ?_
              intro w' hB hA
              go_wp2
              go_ret
              exact ⟨by rw [HCK.out]; rfl, bt HWr.out hB⟩
            | true =>
              rw [hq] at HCK
              have HQ := Lib.hid hq
              have hsz := buildF_sizes hq
              have HSZ := Lib.hid hsz
              obtain ⟨r, hr⟩ : ∃ r, r = decide (buildF ids = nodes ∧ ((ids.length : Int)) = (k : Int)) := ⟨_, rfl⟩
              have hck : checkF nodes (k : Int) = r := by
                rw [HCK.out, hr, HLN.out]; simp
              have HR := Lib.hid hr
              have HCK2 := Lib.hid hck
              clear hq hsz hr hck
              go_wp2
              refine region_known [(1, .exact _ (.bool true)), (4, kTree ids (ids.length : Int)), (5, .exact _ (.agg #[.slice a nodes.length cap, .int .i64 (k : Int)])), (6, .exact _ (.bool r))] (by kernel_rfl) (by kernel_rfl) ?_
              (repeat (first | (refine wpG_skip (by kernel_rfl) (fun K hK => ?_); go_big_quiet_skip; refine wpQuiet_nil (hK _ ?_); clear hK K) | (refine wpG_quiet (by rfl) (by rfl) (fun K hK => ?_); go_big_quiet_want; go_big_quiet_op; go_big_quiet_on; refine wpQuiet_nil (hK _ ?_); clear hK K)))
              refine wpG_exact rfl (by kernel_rfl) (fun w' G hB hS hG => ?_) (fun K hK => ?_)
              · have hc := rIds_any _ ids w' (HO.out.row.below hB) (by have := HLN.out; omega) HMEM.out
                rw [HQ.out] at hc
                go_simp
                refine calls_told hG (hc.mono ?_)
                rintro e w'' ⟨rfl, rfl⟩
                exact ⟨rfl, Below.refl _ _⟩
              go_simp; refine hK _ ?_; clear hK K; (repeat (first | (refine wpG_skip (by kernel_rfl) (fun K hK => ?_); go_big_quiet_skip; refine wpQuiet_nil (hK _ ?_); clear hK K) | (refine wpG_quiet (by rfl) (by rfl) (fun K hK => ?_); go_big_quiet_want; go_big_quiet_op; go_big_quiet_on; refine wpQuiet_nil (hK _ ?_); clear hK K)))
              refine wpG_known (kTree ids (ids.length : Int)) rfl (by kernel_rfl) (fun w' G hB hS hG => ?_) (fun x K hK => ?_)
              · have hb := rBuild_any _ ids w' (HO.out.row.below hB) (by have := HLN.out; omega) HQ.out
                go_simp
                refine hb.mono ?_
                rintro e w'' ⟨⟨u, rfl, hnr⟩, hB''⟩
                obtain ⟨a5, c5, rfl, _, _⟩ := NR_open hnr
                exact ⟨_, rfl, hG (a5, c5) w'' hB'' (fun φ h => by cases h; exact hnr)⟩
              obtain ⟨a5, c5⟩ := x
              go_simp; refine hK _ ?_; clear hK K; (repeat (first | (refine wpG_skip (by kernel_rfl) (fun K hK => ?_); go_big_quiet_skip; refine wpQuiet_nil (hK _ ?_); clear hK K) | (refine wpG_quiet (by rfl) (by rfl) (fun K hK => ?_); go_big_quiet_want; go_big_quiet_op; go_big_quiet_on; refine wpQuiet_nil (hK _ ?_); clear hK K)))
              refine wpG_exact rfl (by kernel_rfl) (fun w' G hB hS hG => ?_) (fun K hK => ?_)
              · have y1 := Below.keeps hB r1
                have y2 := Below.keeps hB r2
                clear hS
                go_simp; exact hG _ (Bel.refl _)
              go_simp; refine hK _ ?_; clear hK K; (repeat (first | (refine wpG_skip (by kernel_rfl) (fun K hK => ?_); go_big_quiet_skip; refine wpQuiet_nil (hK _ ?_); clear hK K) | (refine wpG_quiet (by rfl) (by rfl) (fun K hK => ?_); go_big_quiet_want; go_big_quiet_op; go_big_quiet_on; refine wpQuiet_nil (hK _ ?_); clear hK K)))
              refine wpG_exact rfl (by kernel_rfl) (fun w' G hB hS hG => ?_) (fun K hK => ?_)
              · have hnr : NR w' (.slice a5 (buildF ids).length c5) (buildF ids) := at0 hS (by kernel_rfl)
                have hc := rSame23_any _ (.slice a nodes.length cap) (ids.length : Int) (k : Int) (buildF ids) nodes w' hnr ((HN.out.below HWr.out).below hB) (by have := HSZ.out.2.1; have := HLN.out; omega) hl (fun x hx => by have := HSZ.out.2.2.2 x hx; omega) HKS.out
                rw [← HR.out] at hc
                clear hS hnr
                go_simp
                exact calls_told hG hc
              go_simp; refine hK _ ?_; clear hK K; (repeat (first | (refine wpG_skip (by kernel_rfl) (fun K hK => ?_); go_big_quiet_skip; refine wpQuiet_nil (hK _ ?_); clear hK K) | (refine wpG_quiet (by rfl) (by rfl) (fun K hK => ?_); go_big_quiet_want; go_big_quiet_op; go_big_quiet_on; refine wpQuiet_nil (hK _ ?_); clear hK K)))
              refine wpG_nilYK ?_
              intro w' hB hA
              go_wp2
              go_ret
              exact ⟨by rw [HCK2.out]; rfl, bt HWr.out hB⟩
end Go.Proofs.Ytahmacnmphjhgaa
