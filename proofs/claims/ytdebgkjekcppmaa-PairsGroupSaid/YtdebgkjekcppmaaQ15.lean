/- Walk of the law PairsGroup. -/
import Derived.Test.YtdebgkjekcppmaaQ11
import Derived.Test.YtdebgkjekcppmaaQ14
namespace Go.Proofs.Ytdebgkjekcppmaa
open Go.RowKit Oct

set_option maxRecDepth 100000 in
set_option maxHeartbeats 1000000 in
theorem rowsOf_any (v : Value) (rows : List (List PR)) (w : World) (hr : RR w v rows) (hn : rows.length ≤ 140737488355328) (hl : rows.flatten.length * 32 ≤ 140737488355328) :
    Calls Try.prog 39 #[v] w fun e w' => ∃ v', e = .returned v' ∧ OP w' w.heap.size v' rows.flatten ∧ Below w.heap.size w w' := by
  obtain ⟨a, cap, rfl, _, _, hc⟩ := hr
  go_enter Try.func39, Try.ntmps39
  go_wp2
  go_loopw [3, 4] (fun out i wr => ∃ (k : Nat) (o : List PR), k ≤ rows.length ∧ i = .int .i64 k ∧ OP wr w.heap.size out o ∧ Hid (o = (rows.take k).flatten) ∧ o.length ≤ rows.flatten.length ∧ Below w.heap.size w wr) (fun _ i _ => rows.length - (intOf i).toNat)
  case atStart => exact ⟨0, [], by omega, rfl, OP.nil _ _, rfl, by simp, Below.refl _ _⟩
  case round =>
    obtain ⟨k, o, hk, rfl, hown, hH, hol, hB⟩ := hrel
    obtain ⟨ao, co, rfl⟩ := owns_slice hown
    have hO := Lib.hid hown
    clear hown
    by_cases h0 : k < rows.length
    · obtain ⟨b, off, u, rfl, hu, hru⟩ := hc k h0
      obtain ⟨ar, cr, rfl, _, _⟩ := hru.open
      replace hu := Below.keeps hB hu
      have kk0 : (0 : Int) ≤ (k : Int) := by omega
      have kk1 : (k : Int) < (rows.length : Int) := by omega
      have hru2 := hru.below hB
      have hf := flat_take rows k h0
      have hfl := flat_le rows (k + 1)
      rw [hf, ← hH.out, List.length_append] at hfl
      have HF := Lib.hid hf
      clear hc hf
      go_wp2_with (at_builtin; refine appendP wr rfl _ _ 35 rfl Try.underlying35 w.heap.size _ o rfl hO.out _ _ rfl hru2 (by omega) hB.size ?_; intro v' w1 hown1 hB1)
      go_roundw
      case rel => exact ⟨k + 1, o ++ rows[k], by omega, by go_num, hown1, by show _ = _; rw [HF.out, hH.out], by rw [List.length_append]; exact hfl, hB.trans hB1⟩
      case measure => simp [intOf]; omega
    · obtain rfl : k = rows.length := by omega
      go_wp2
      go_ret
      exact ⟨_, rfl, by have := hO.out; rw [hH.out, List.take_length] at this; rw [hH.out, List.take_length]; exact this, hB⟩

theorem get_eq {g l : List PR} {x n : Nat} (hg : g = l) (hx : x = n) (h : x < g.length) : g[x] = l[n]'(by subst hg hx; exact h) := by subst hg hx; rfl
set_option maxRecDepth 100000 in
set_option maxHeartbeats 4000000 in
theorem PairsGroup_any (v : Value) (r : List PR) (w : World) (hr : RP w v r) (hl : r.length ≤ 4398046511104) (hm : ∀ p ∈ r, p.1.length ≤ 140737488355328 ∧ p.2.length ≤ 140737488355328) :
    Calls Try.prog 10 #[v] w fun e w' => e = .returned (.bool true) ∧ Below w.heap.size w w' := by
  obtain ⟨a, cap, rfl, _, hx⟩ := hr.open
  have HR := Lib.hid hr
  clear hr hx
  cases hL : long16 r
  · obtain ⟨h1, _⟩ := long16_le r hL
    have HL := Lib.hid hL; clear hL
    obtain ⟨G, hG⟩ : ∃ G, G = grp (srt r) := ⟨_, rfl⟩
    have hsl := srt_length r
    have hflat : G.flatten = srt r := by rw [hG]; exact grp_flat _ _ (Nat.le_refl _)
    have hGl : G.length ≤ r.length := by rw [hG, ← hsl]; exact grp_length_le _ _ (Nat.le_refl _)
    have hGs := grp_spec _ (srt r) (Nat.le_refl _) (srt_sorted r)
    have hGn := grp_ne _ (srt r) (Nat.le_refl _)
    rw [← hG] at hGs hGn
    have hgr := fun w1 hB => Groups_any (.slice a r.length cap) r w1 (HR.out.below hB) (by omega)
    have hke := fun w1 hB => Keys_any (.slice a r.length cap) r w1 (HR.out.below hB) (by omega)
    rw [← hG] at hgr hke
    have HGS := Lib.hid hGs
    have HGN := Lib.hid hGn
    have HGR := Lib.hid hgr
    have HKE := Lib.hid hke
    have HF := Lib.hid hflat
    have HSL := Lib.hid hsl
    clear hGs hGn hgr hke hG hflat hsl
    go_enter Try.func10, Try.ntmps10
    go_wp2_with fail
    refine (Long16_any _ r _ HR.out (by omega) hm).mono ?_; rw [HL.out]; rintro e w0 ⟨rfl, hB0⟩
    go_wp2_with fail
    refine (HGR.out w0 hB0).mono ?_; rintro e w1 ⟨vg, base, cells, rfl, hown1, hrows, _, hB1⟩
    have hRR := hrows.rr hown1
    obtain ⟨ag, cg, rfl⟩ := owns_slice hown1
    clear hown1 hrows
    go_wp2_with fail
    refine (HKE.out w1 (bt hB0 hB1)).mono ?_; rintro e w2 ⟨vk, rfl, hown2, hB2⟩
    have hrk := Reads.owned hown2
    obtain ⟨ak, ck, rfl⟩ := owns_slice hown2
    have hRR2 := Lib.hid (hRR.below hB2)
    have HRK := Lib.hid hrk
    have hB02 := bt hB0 (bt hB1 hB2)
    clear hown2 hrk hRR hB0 hB1 hB2
    go_wp2_with fail
    refine (rowsOf_any _ G _ hRR2.out (by omega) (by rw [HF.out, HSL.out]; omega)).mono ?_; rw [HF.out]; rintro e w3 ⟨v3, rfl, hown3, hB3⟩
    go_wp2_with fail
    refine (Sort_any _ _ r _ (Nat.le_refl _) (HR.out.below (bt hB02 hB3)) (by omega)).mono ?_; rintro e w4 ⟨v4, rfl, hown4, hB4⟩
    go_wp2_with fail
    refine (same_is _ _ _ (srt r) (srt r) (by rw [HSL.out]; omega) rfl (hown3.reads.below hB4) hown4.reads).mono ?_; rintro e w5 ⟨rfl, hB5⟩
    have hB25 := bt hB3 (bt hB4 hB5)
    have hRR5 := hRR2.out.below hB25
    have hRK5 := HRK.out.below hB25
    have hR5 := HR.out.below (bt hB02 hB25)
    have hB05 := bt hB02 hB25
    clear hown3 hown4 hB3 hB4 hB5 hRR2 HRK hB02 hB25
    obtain ⟨ag', cg', hv1, _, _, hcg⟩ := hRR5
    injection hv1 with e1 _ e3
    subst e1 e3
    obtain ⟨ak', ck', hv1, _, hck⟩ := hRK5
    injection hv1 with e1 _ e3
    subst e1 e3
    obtain ⟨al', cl', hv1, _, hcl⟩ := hR5.open
    injection hv1 with e1 _ e3
    subst e1 e3
    have HCG := Lib.hid hcg
    have HCK := Lib.hid hck
    have HCL := Lib.hid hcl
    clear hcg hck hcl hR5
    go_wp2_with fail
    go_loopw [5] (fun i wr => ∃ k : Nat, k ≤ G.length ∧ i = .int .i64 k ∧ Hid (Below w5.heap.size w5 wr)) (fun i _ => G.length - (intOf i).toNat)
    case atStart => exact ⟨0, by omega, rfl, Below.refl _ _⟩
    case round =>
      obtain ⟨k, hk, rfl, hB⟩ := hrel
      by_cases h0 : k < G.length
      · obtain ⟨bg, og, u, rfl, cG, hrG⟩ := HCG.out k h0
        obtain ⟨Au, Cu, rfl, _, hcx⟩ := hrG.open
        obtain ⟨bk, ok, rfl, cK⟩ := HCK.out k (.string (bs (hk1 G[k]))) (by simp [tcells, h0])
        have hpos := HGN.out G[k] (List.getElem_mem h0)
        obtain ⟨bA, oA, rfl, c0, _⟩ := hcx 0 hpos
        rw [Nat.zero_mul, Nat.add_zero, hk1_at G[k] hpos] at c0
        have hGk : G[k] = ofKey (hk1 G[k]) r := by rw [← ofKey_srt]; exact (HGS.out.1 G[k] (List.getElem_mem h0)).1
        have HGk := Lib.hid hGk
        have HX := Lib.hid hcx
        clear hcx hGk hrG
        obtain ⟨W0, hW0⟩ : ∃ W0, W0 = wr := ⟨_, rfl⟩
        subst hW0
        have cG' := Below.keeps hB.out cG
        have cK' := Below.keeps hB.out cK
        have c0' := Below.keeps hB.out c0
        have kk0 : (0 : Int) ≤ (k : Int) := by omega
        have kk1 : (k : Int) < (G.length : Int) := by omega
        have pp : (0 : Int) < (G[k].length : Int) := by omega
        have pz : ((G[k].length : Int) == 0) = false := by rw [beq_eq_false_iff_ne]; omega
        clear cG cK c0
        by_cases hk0 : 0 < k
        · obtain ⟨_, _, e1, cP⟩ := HCK.out (k - 1) (.string (bs (hk1 G[k - 1]))) (by simp [tcells, show k - 1 < G.length by omega])
          cases e1
          replace cP := Below.keeps hB.out cP
          have hlt : lt (hk1 G[k - 1]) (hk1 G[k]) = true := by
            have := HGS.out.2 (k - 1) (by omega)
            simp only [show k - 1 + 1 = k by omega] at this
            exact this
          have hnlt : Op.bytesLess (hk1 G[k]) (hk1 G[k - 1]) = false := lt_asymm' hlt
          have hneq : (hk1 G[k] == hk1 G[k - 1]) = false := by rw [beq_eq_false_iff_ne]; exact (lt_ne hlt).symm
          have kp : (0 : Int) < (k : Int) := by omega
          clear hlt
          go_wp2
          go_quiet (fail)
          go_wp2
          go_loopw [6, 7] (fun n j wx => ∃ jn x : Nat, jn ≤ r.length ∧ j = .int .i64 jn ∧ n = .int .i64 x ∧ x ≤ jn ∧ Hid (x = (ofKey (hk1 G[k]) (r.take jn)).length) ∧ Hid (Below W0.heap.size W0 wx)) (fun _ j _ => r.length - (intOf j).toNat)
          case atStart => exact ⟨0, 0, by omega, rfl, rfl, by omega, rfl, Below.drewN' _ _⟩
          case round =>
            obtain ⟨jn, x, hj, rfl, rfl, hxj, hxe, hbx⟩ := hrel
            have cG2 := Below.keeps hbx.out cG'
            have cK2 := Below.keeps hbx.out cK'
            by_cases hjr : jn < r.length
            · obtain ⟨bl, ol, rfl, cl1, cl2⟩ := HCL.out jn hjr
              replace cl1 := Below.keeps (bt hB.out hbx.out) cl1
              replace cl2 := Below.keeps (bt hB.out hbx.out) cl2
              have j0 : (0 : Int) ≤ (jn : Int) := by omega
              have j1 : (jn : Int) < (r.length : Int) := by omega
              by_cases hkey : r[jn].1 = hk1 G[k]
              · obtain ⟨hn, hat⟩ := ofKey_at (hk1 G[k]) r jn hjr hkey
                have hx1 : x < G[k].length := by rw [HGk.out, hxe.out]; exact hn
                have hGx : G[k][x] = r[jn] := by rw [← hat]; exact get_eq HGk.out hxe.out hx1
                obtain ⟨_, _, e2, cx1, cx2⟩ := HX.out x hx1
                cases e2
                rw [hGx] at cx1 cx2
                replace cx1 := Below.keeps (bt hB.out hbx.out) cx1
                replace cx2 := Below.keeps (bt hB.out hbx.out) cx2
                have x1 : (x : Int) < (G[k].length : Int) := by omega
                have x0 : (0 : Int) ≤ (x : Int) := by omega
                have he : (r[jn].1 == hk1 G[k]) = true := by simpa using hkey
                have HT := Lib.hid (ofKey_take (hk1 G[k]) r jn hjr)
                have HK := Lib.hid hkey
                clear hn hat hGx hkey
                go_wp2
                go_quiet (fail)
                go_wp2
                go_quiet (fail)
                go_wp2
                go_roundw
                case rel => exact ⟨jn + 1, x + 1, by omega, by go_num, by go_num, by omega, (by show _ = _; rw [HT.out, if_pos HK.out, List.length_append, ← hxe.out]; rfl), bt hbx.out (Below.drewN' _ _)⟩
                case measure => simp [intOf]; omega
              · have he : (r[jn].1 == hk1 G[k]) = false := by simpa using hkey
                have HT := Lib.hid (ofKey_take (hk1 G[k]) r jn hjr)
                have HK := Lib.hid hkey
                clear hkey
                go_wp2
                go_quiet (fail)
                go_wp2
                go_roundw
                case rel => exact ⟨jn + 1, x, by omega, by go_num, rfl, by omega, (by show _ = _; rw [HT.out, if_neg HK.out, List.append_nil, ← hxe.out]), bt hbx.out (Below.drewN' _ _)⟩
                case measure => simp [intOf]; omega
            · have hjl : jn = r.length := by omega
              have hxl : x = G[k].length := by rw [hxe.out, hjl, List.take_length, ← HGk.out]
              have tx1 : ((x : Int) != (G[k].length : Int)) = false := by rw [bne_eq_false_iff_eq]; omega
              have tx2 : (x != G[k].length) = false := by rw [bne_eq_false_iff_eq]; exact hxl
              have HXL := Lib.hid hxl
              have HJL := Lib.hid hjl
              clear hxl hjl
              go_wp2
              go_roundw
              case rel => exact ⟨k + 1, by omega, by go_num, bt hB.out hbx.out⟩
              case measure => simp [intOf]; omega
        · go_wp2
          go_quiet (fail)
          go_wp2
          go_loopw [6, 7] (fun n j wx => ∃ jn x : Nat, jn ≤ r.length ∧ j = .int .i64 jn ∧ n = .int .i64 x ∧ x ≤ jn ∧ Hid (x = (ofKey (hk1 G[k]) (r.take jn)).length) ∧ Hid (Below W0.heap.size W0 wx)) (fun _ j _ => r.length - (intOf j).toNat)
          case atStart => exact ⟨0, 0, by omega, rfl, rfl, by omega, rfl, Below.drewN' _ _⟩
          case round =>
            obtain ⟨jn, x, hj, rfl, rfl, hxj, hxe, hbx⟩ := hrel
            have cG2 := Below.keeps hbx.out cG'
            have cK2 := Below.keeps hbx.out cK'
            by_cases hjr : jn < r.length
            · obtain ⟨bl, ol, rfl, cl1, cl2⟩ := HCL.out jn hjr
              replace cl1 := Below.keeps (bt hB.out hbx.out) cl1
              replace cl2 := Below.keeps (bt hB.out hbx.out) cl2
              have j0 : (0 : Int) ≤ (jn : Int) := by omega
              have j1 : (jn : Int) < (r.length : Int) := by omega
              by_cases hkey : r[jn].1 = hk1 G[k]
              · obtain ⟨hn, hat⟩ := ofKey_at (hk1 G[k]) r jn hjr hkey
                have hx1 : x < G[k].length := by rw [HGk.out, hxe.out]; exact hn
                have hGx : G[k][x] = r[jn] := by rw [← hat]; exact get_eq HGk.out hxe.out hx1
                obtain ⟨_, _, e2, cx1, cx2⟩ := HX.out x hx1
                cases e2
                rw [hGx] at cx1 cx2
                replace cx1 := Below.keeps (bt hB.out hbx.out) cx1
                replace cx2 := Below.keeps (bt hB.out hbx.out) cx2
                have x1 : (x : Int) < (G[k].length : Int) := by omega
                have x0 : (0 : Int) ≤ (x : Int) := by omega
                have he : (r[jn].1 == hk1 G[k]) = true := by simpa using hkey
                have HT := Lib.hid (ofKey_take (hk1 G[k]) r jn hjr)
                have HK := Lib.hid hkey
                clear hn hat hGx hkey
                go_wp2
                go_quiet (fail)
                go_wp2
                go_quiet (fail)
                go_wp2
                go_roundw
                case rel => exact ⟨jn + 1, x + 1, by omega, by go_num, by go_num, by omega, (by show _ = _; rw [HT.out, if_pos HK.out, List.length_append, ← hxe.out]; rfl), bt hbx.out (Below.drewN' _ _)⟩
                case measure => simp [intOf]; omega
              · have he : (r[jn].1 == hk1 G[k]) = false := by simpa using hkey
                have HT := Lib.hid (ofKey_take (hk1 G[k]) r jn hjr)
                have HK := Lib.hid hkey
                clear hkey
                go_wp2
                go_quiet (fail)
                go_wp2
                go_roundw
                case rel => exact ⟨jn + 1, x, by omega, by go_num, rfl, by omega, (by show _ = _; rw [HT.out, if_neg HK.out, List.append_nil, ← hxe.out]), bt hbx.out (Below.drewN' _ _)⟩
                case measure => simp [intOf]; omega
            · have hjl : jn = r.length := by omega
              have hxl : x = G[k].length := by rw [hxe.out, hjl, List.take_length, ← HGk.out]
              have tx1 : ((x : Int) != (G[k].length : Int)) = false := by rw [bne_eq_false_iff_eq]; omega
              have tx2 : (x != G[k].length) = false := by rw [bne_eq_false_iff_eq]; exact hxl
              have HXL := Lib.hid hxl
              have HJL := Lib.hid hjl
              clear hxl hjl
              go_wp2
              go_roundw
              case rel => exact ⟨k + 1, by omega, by go_num, bt hB.out hbx.out⟩
              case measure => simp [intOf]; omega
      · obtain rfl : k = G.length := by omega
        go_wp2_with fail
        refine (alive16 _).mono ?_; rintro e w6 ⟨rfl, hB6⟩
        go_wp2_with fail
        go_ret
        exact ⟨rfl, bt hB05 (bt hB.out hB6)⟩
  · have HL := Lib.hid hL; clear hL
    go_enter Try.func10, Try.ntmps10
    go_wp2_with fail
    refine (Long16_any _ r _ HR.out (by omega) hm).mono ?_; rw [HL.out]; rintro e w1 ⟨rfl, hB0⟩
    go_wp2_with (go_at_call 26; refine (alive16 _).mono ?_; rintro e w1 ⟨rfl, hB1⟩)
    go_ret
    exact ⟨rfl, bt hB0 hB1⟩
end Go.Proofs.Ytdebgkjekcppmaa
