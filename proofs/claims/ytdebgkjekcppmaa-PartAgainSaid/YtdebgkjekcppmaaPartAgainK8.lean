/- Lemmas for PartAgain, part 8: walks of the functions that it reaches, and the plain laws behind them. -/
import Derived.ProofKit
import Derived.OpenShut
import Derived.ShutString
import Derived.ChangeOld
import Derived.SizedLaws
import Derived.SliceStrings
import Derived.Test.YtdebgkjekcppmaaRows
import Derived.Deep.Slices
import Derived.ChangeSame
import Derived.Test.YtdebgkjekcppmaaPartAgainK7
set_option linter.unusedSimpArgs false
set_option linter.unusedVariables false
namespace Go.Proofs.Ytdebgkjekcppmaa
open Go.RowKit Oct

theorem RR.at_ {w : World} {D m : Nat} {X : List (List PR)} (h : RR w (.slice (some ⟨D, 0, none⟩) m m) X) (i : Nat) (hi : i < X.length) :
    ∃ a c, w.cell? ⟨D, i, none⟩ = some (.slice a (X[i]'hi).length c) ∧ RP w (.slice a (X[i]'hi).length c) (X[i]'hi) := by
  obtain ⟨a', c', hv', _, _, hc'⟩ := h
  obtain ⟨b1, o1, u, ha', du, hru⟩ := hc' i hi
  injection hv' with e1 _ _
  rw [← e1] at ha'
  cases ha'
  rw [Nat.zero_add] at du
  obtain ⟨au, cu, rfl, _, _⟩ := hru.open
  exact ⟨au, cu, du, hru⟩
theorem region_rel2 {id : Nat} {Q : Exit → Act → World → Prop} {a : Act} {w : World} {l : List Oper} (xs ys : List PR) (L : List (Nat × Known (Rel2 w.heap.size xs ys))) (hm : Try.prog.follows .mixedOrders = true) (hB : splitB l.toArray l.length = true)
    (h : wpG Try.prog l.toArray (Bel w) (Rel2 w.heap.size xs ys) (knownAt L) (fun S a' => ∀ w', Bel w w' → S.all w' → Q .normal a' w') 0 l Facts.none a) : (Code.region id l.toArray true).wp Try.prog Q a w :=
  wp_region_grown (knownAt L) l.length hm hB (fun _ _ h k => h.trans k.1) (b_drew w) (by rw [List.take_length, List.drop_length]; exact h)

theorem wpG_nil {P : Program} {ops : Array Oper} {C : World → Prop} {R : World → World → Prop} {F : Nat → Option (Known R)} {Q : Facts → Act → Prop} {k : Nat} {S : Facts} {a : Act} (h : Q S a) : wpG P ops C R F Q k [] S a := h
attribute [local irreducible] wpG

set_option maxRecDepth 100000 in
set_option maxHeartbeats 8000000 in
theorem PartAgain_any (v1 : Value) (a : List PR) (v2 : Value) (b : List PR) (n : Int) (w : World) (hr1 : RP w v1 a) (hl1 : a.length ≤ 4398046511104) (hm1 : ∀ p ∈ a, p.1.length ≤ 140737488355328 ∧ p.2.length ≤ 140737488355328)
    (hr2 : RP w v2 b) (hl2 : b.length ≤ 4398046511104) (hm2 : ∀ p ∈ b, p.1.length ≤ 140737488355328 ∧ p.2.length ≤ 140737488355328) (_hn : (Lit.int .i64 n).wf = true) :
    Calls Try.prog 13 #[v1, v2, .int .i64 n] w fun e w' => e = .returned (.bool true) ∧ Below w.heap.size w w' := by
  obtain ⟨a1, cap1, rfl, _, _⟩ := hr1.open
  obtain ⟨a2, cap2, rfl, _, _⟩ := hr2.open
  have HR1 := Lib.hid hr1
  have HR2 := Lib.hid hr2
  have HM1 := Lib.hid hm1
  have HM2 := Lib.hid hm2
  clear hr1 hr2 hm1 hm2
  cases hlg : large17 a with
  | true =>
    have HLG := Lib.hid hlg
    clear hlg
    go_enter Try.func13, Try.ntmps13
    go_wp2_with fail
    refine (large17_any _ a w HR1.out (by omega) HM1.out).mono ?_
    rw [HLG.out]
    rintro e w1 ⟨rfl, hB1⟩
    have HB1 := Lib.hid hB1
    clear hB1
    go_wp2_with fail
    refine (alive17 _).mono ?_
    rintro e w2 ⟨rfl, hB2⟩
    have HB2 := Lib.hid (bt HB1.out hB2)
    clear hB2
    go_wp2_with fail
    go_ret
    exact ⟨rfl, HB2.out⟩
  | false =>
    obtain ⟨hl40, hkl⟩ := large17_le a hlg
    have HLG := Lib.hid hlg
    have HKA := Lib.hid (show ∀ p ∈ a, p.1.length ≤ 70368744177664 from fun p hp => Nat.le_trans (hkl p hp) (by decide))
    clear hlg hkl
    cases hlg2 : large17 b with
    | true =>
      have HLG2 := Lib.hid hlg2
      clear hlg2
      go_enter Try.func13, Try.ntmps13
      go_wp2_with fail
      refine (large17_any _ a w HR1.out (by omega) HM1.out).mono ?_
      rw [HLG.out]
      rintro e w1 ⟨rfl, hB1⟩
      have HB1 := Lib.hid hB1
      clear hB1
      go_wp2_with fail
      refine (large17_any _ b w1 (HR2.out.below HB1.out) (by omega) HM2.out).mono ?_
      rw [HLG2.out]
      rintro e w2 ⟨rfl, hB2⟩
      have HB2 := Lib.hid (bt HB1.out hB2)
      clear hB2
      go_wp2_with fail
      refine (alive17 _).mono ?_
      rintro e w3 ⟨rfl, hB3⟩
      have HB3 := Lib.hid (bt HB2.out hB3)
      clear hB3
      go_wp2_with fail
      go_ret
      exact ⟨rfl, HB3.out⟩
    | false =>
      obtain ⟨hl402, hkl2⟩ := large17_le b hlg2
      have HLG2 := Lib.hid hlg2
      have HKB := Lib.hid (show ∀ p ∈ b, p.1.length ≤ 70368744177664 from fun p hp => Nat.le_trans (hkl2 p hp) (by decide))
      have HKC := Lib.hid (show ∀ p ∈ a ++ b, p.1.length ≤ 70368744177664 from fun p hp => by
        rcases List.mem_append.1 hp with h | h
        · exact HKA.out p h
        · exact HKB.out p h)
      have HLC := Lib.hid (show (a ++ b).length ≤ 80 by rw [List.length_append]; omega)
      clear hlg2 hkl2
      cases hmb : mayB n with
      | false =>
        have HS := Lib.hid (show ∀ q b e w', SplitRes q n b e w' → e = .returned (.tuple #[.slice none 0 0, .int .i64 2]) from fun q b e w' h => by unfold SplitRes at h; rw [hmb] at h; exact h)
        have HC := Lib.hid (show ∀ q b e w', CountRes q n b e w' → e = .returned (.tuple #[.slice none 0 0, .int .i64 2]) from fun q b e w' h => by unfold CountRes at h; rw [hmb] at h; exact h)
        clear hmb
        go_enter Try.func13, Try.ntmps13
        go_wp2_with fail
        refine (large17_any _ a w HR1.out (by omega) HM1.out).mono ?_
        rw [HLG.out]
        rintro e w1 ⟨rfl, hB1⟩
        have HB1 := Lib.hid hB1
        clear hB1
        go_wp2_with fail
        refine (large17_any _ b w1 (HR2.out.below HB1.out) (by omega) HM2.out).mono ?_
        rw [HLG2.out]
        rintro e w2 ⟨rfl, hB2⟩
        have HB2 := Lib.hid (bt HB1.out hB2)
        have HR12 := Lib.hid (HR1.out.below HB2.out)
        have HR22 := Lib.hid (HR2.out.below HB2.out)
        clear hB2
        go_wp2_with fail
        refine (Split_any _ a n w2 HR12.out (by omega) HKA.out).mono ?_
        rintro e w3 ⟨hres, hB3⟩
        obtain rfl := HS.out _ _ _ _ hres
        have HR23 := Lib.hid (HR22.out.below hB3)
        have HR13 := Lib.hid (HR12.out.below hB3)
        have HB3 := Lib.hid (bt HB2.out hB3)
        clear hres hB3
        go_wp2_with fail
        refine (Split_any _ b n w3 HR23.out (by omega) HKB.out).mono ?_
        rintro e w4 ⟨hres, hB4⟩
        obtain rfl := HS.out _ _ _ _ hres
        have HR14 := Lib.hid (HR13.out.below hB4)
        have HR24 := Lib.hid (HR23.out.below hB4)
        have HB4 := Lib.hid (bt HB3.out hB4)
        clear hres hB4
        go_wp2_with (at_builtin; go_must (refine appendP w4 rfl _ _ 35 rfl Try.underlying35 w4.heap.size _ [] rfl (OP.nil _ _) _ a rfl HR14.out (by simp; omega) (Nat.le_refl _) ?_))
        intro v5 w5 hown5 hB5
        obtain ⟨a5, c5, rfl⟩ := owns_slice hown5
        have HO5 := Lib.hid (show OP w5 w4.heap.size _ a from hown5)
        have HB45 := Lib.hid hB5
        have hs5 := hB5.size
        have HR25 := Lib.hid (HR24.out.below hB5)
        clear hown5 hB5
        go_wp2_with (at_builtin; go_must (refine appendP w5 rfl _ _ 35 rfl Try.underlying35 w4.heap.size _ a rfl HO5.out _ b rfl HR25.out (by omega) hs5 ?_))
        intro v6 w6 hown6 hB6
        obtain ⟨a6, c6, rfl⟩ := owns_slice hown6
        have HB46 := Lib.hid (HB45.out.trans hB6)
        have HO6 := Lib.hid (show RP w6 _ (a ++ b) from hown6.reads)
        have HB6 := Lib.hid (bt HB4.out HB46.out)
        have HR16 := Lib.hid (HR14.out.below HB46.out)
        clear hown6 hB6
        obtain ⟨q6, hq6⟩ : ∃ q6, q6 = (a ++ b).length := ⟨_, rfl⟩
        have HO6' := HO6.out
        rw [← hq6] at HO6' ⊢
        replace HO6 := Lib.hid HO6'
        clear HO6' hq6
        go_wp2_with fail
        refine (Split_any _ (a ++ b) n w6 HO6.out (Nat.le_trans HLC.out (by decide)) HKC.out).mono ?_
        rintro e w7 ⟨hres, hB7⟩
        obtain rfl := HS.out _ _ _ _ hres
        have HR17 := Lib.hid (HR16.out.below hB7)
        have HB7 := Lib.hid (bt HB6.out hB7)
        clear hres hB7
        go_wp2_with fail
        refine (Count_any _ a n w7 HR17.out (by omega) HKA.out).mono ?_
        rintro e w8 ⟨hres, hB8⟩
        obtain rfl := HC.out _ _ _ _ hres
        have HB8 := Lib.hid (bt HB7.out hB8)
        clear hres hB8
        go_wp2_with fail
        refine (alive17 _).mono ?_
        rintro e w9 ⟨rfl, hB9⟩
        have HB9 := Lib.hid (bt HB8.out hB9)
        clear hB9
        go_wp2_with fail
        go_ret
        exact ⟨rfl, HB9.out⟩
      | true =>
        obtain ⟨m, rfl, h1, h2⟩ := mayB_nat hmb
        have HS := Lib.hid (show ∀ q b e w', SplitRes q (m : Int) b e w' → ∃ D, e = .returned (.tuple #[.slice (some ⟨D, 0, none⟩) m m, .int .i64 0]) ∧ b ≤ D ∧ OR w' D D (splitP q m) from fun q b e w' h => by unfold SplitRes at h; rw [hmb, Int.toNat_natCast] at h; exact h)
        have HC := Lib.hid (show ∀ q b e w', CountRes q (m : Int) b e w' → ∃ D, e = .returned (.tuple #[.slice (some ⟨D, 0, none⟩) m m, .int .i64 0]) ∧ b ≤ D ∧ Blk w' D 3 (lencells (splitP q m)) from fun q b e w' h => by unfold CountRes at h; rw [hmb, Int.toNat_natCast] at h; exact h)
        obtain ⟨X, hX⟩ : ∃ X, X = splitP a m := ⟨_, rfl⟩
        obtain ⟨Y, hY⟩ : ∃ Y, Y = splitP b m := ⟨_, rfl⟩
        obtain ⟨Z, hZ⟩ : ∃ Z, Z = splitP (a ++ b) m := ⟨_, rfl⟩
        have HXL := Lib.hid (show X.length = m by rw [hX, splitP_length])
        have HYL := Lib.hid (show Y.length = m by rw [hY, splitP_length])
        have HZL := Lib.hid (show Z.length = m by rw [hZ, splitP_length])
        have HXE := Lib.hid hX
        have HYE := Lib.hid hY
        have HZE := Lib.hid hZ
        have HZA := Lib.hid (show ∀ i (hx : i < X.length) (hy : i < Y.length) (hz : i < Z.length), Z[i]'hz = X[i]'hx ++ Y[i]'hy by
          subst hX hY hZ
          intro i hx _ _
          exact split_append a b m i (by rw [splitP_length] at hx; exact hx))
        have HXA := Lib.hid (show ∀ i (hx : i < X.length), splitP (X[i]'hx) m = (List.range m).map fun j => if j = i then X[i]'hx else [] by
          subst hX
          intro i hx
          exact split_again a m i (by rw [splitP_length] at hx; exact hx))
        have HXK := Lib.hid (show ∀ r ∈ X, r.length ≤ 40 ∧ ∀ p ∈ r, p.1.length ≤ 70368744177664 by
          subst hX
          intro r hr
          simp only [splitP, List.mem_map] at hr
          obtain ⟨i, _, rfl⟩ := hr
          exact ⟨Nat.le_trans (List.length_filter_le _ _) hl40, fun p hp => HKA.out p (List.mem_filter.1 hp).1⟩)
        have HYK := Lib.hid (show ∀ r ∈ Y, r.length ≤ 40 by
          subst hY
          intro r hr
          simp only [splitP, List.mem_map] at hr
          obtain ⟨i, _, rfl⟩ := hr
          exact Nat.le_trans (List.length_filter_le _ _) hl402)
        clear hmb hX hY hZ
        go_enter Try.func13, Try.ntmps13
        go_wp2_with fail
        refine (large17_any _ a w HR1.out (by omega) HM1.out).mono ?_
        rw [HLG.out]
        rintro e w1 ⟨rfl, hB1⟩
        have HB1 := Lib.hid hB1
        clear hB1
        go_wp2_with fail
        refine (large17_any _ b w1 (HR2.out.below HB1.out) (by omega) HM2.out).mono ?_
        rw [HLG2.out]
        rintro e w2 ⟨rfl, hB2⟩
        have HB2 := Lib.hid (bt HB1.out hB2)
        have HR12 := Lib.hid (HR1.out.below HB2.out)
        have HR22 := Lib.hid (HR2.out.below HB2.out)
        clear hB2
        go_wp2_with fail
        refine (Split_any _ a m w2 HR12.out (by omega) HKA.out).mono ?_
        rintro e w3 ⟨hres, hB3⟩
        obtain ⟨DX, rfl, _, hor⟩ := HS.out _ _ _ _ hres
        have hrr := hor.rr
        rw [← HXE.out, HXL.out] at hrr
        have HX3 := Lib.hid hrr
        have HR23 := Lib.hid (HR22.out.below hB3)
        have HR13 := Lib.hid (HR12.out.below hB3)
        have HB3 := Lib.hid (bt HB2.out hB3)
        clear hres hB3 hor hrr
        go_wp2_with fail
        refine (Split_any _ b m w3 HR23.out (by omega) HKB.out).mono ?_
        rintro e w4 ⟨hres, hB4⟩
        obtain ⟨DY, rfl, _, hor⟩ := HS.out _ _ _ _ hres
        have hrr := hor.rr
        rw [← HYE.out, HYL.out] at hrr
        have HY4 := Lib.hid hrr
        have HX4 := Lib.hid (HX3.out.below hB4)
        have HR14 := Lib.hid (HR13.out.below hB4)
        have HR24 := Lib.hid (HR23.out.below hB4)
        have HB4 := Lib.hid (bt HB3.out hB4)
        clear hres hB4 hor hrr
        go_wp2_with (at_builtin; go_must (refine appendP w4 rfl _ _ 35 rfl Try.underlying35 w4.heap.size _ [] rfl (OP.nil _ _) _ a rfl HR14.out (by simp; omega) (Nat.le_refl _) ?_))
        intro v5 w5 hown5 hB5
        obtain ⟨a5, c5, rfl⟩ := owns_slice hown5
        have HO5 := Lib.hid (show OP w5 w4.heap.size _ a from hown5)
        have HB45 := Lib.hid hB5
        have hs5 := hB5.size
        have HR25 := Lib.hid (HR24.out.below hB5)
        clear hown5 hB5
        go_wp2_with (at_builtin; go_must (refine appendP w5 rfl _ _ 35 rfl Try.underlying35 w4.heap.size _ a rfl HO5.out _ b rfl HR25.out (by omega) hs5 ?_))
        intro v6 w6 hown6 hB6
        obtain ⟨a6, c6, rfl⟩ := owns_slice hown6
        have HB46 := Lib.hid (HB45.out.trans hB6)
        have HO6 := Lib.hid (show RP w6 _ (a ++ b) from hown6.reads)
        have HB6 := Lib.hid (bt HB4.out HB46.out)
        have HR16 := Lib.hid (HR14.out.below HB46.out)
        clear hown6 hB6
        obtain ⟨q6, hq6⟩ : ∃ q6, q6 = (a ++ b).length := ⟨_, rfl⟩
        have HO6' := HO6.out
        rw [← hq6] at HO6' ⊢
        replace HO6 := Lib.hid HO6'
        clear HO6' hq6
        go_wp2_with fail
        refine (Split_any _ (a ++ b) m w6 HO6.out (Nat.le_trans HLC.out (by decide)) HKC.out).mono ?_
        rintro e w7 ⟨hres, hB7⟩
        obtain ⟨DZ, rfl, _, hor⟩ := HS.out _ _ _ _ hres
        have hrr := hor.rr
        rw [← HZE.out, HZL.out] at hrr
        have HZ7 := Lib.hid hrr
        have HX7 := Lib.hid ((HX4.out.below HB46.out).below hB7)
        have HY7 := Lib.hid ((HY4.out.below HB46.out).below hB7)
        have HR17 := Lib.hid (HR16.out.below hB7)
        have HB7 := Lib.hid (bt HB6.out hB7)
        clear hres hB7 hor hrr
        go_wp2_with fail
        refine (Count_any _ a m w7 HR17.out (by omega) HKA.out).mono ?_
        rintro e w8 ⟨hres, hB8⟩
        obtain ⟨DN, rfl, _, hblk⟩ := HC.out _ _ _ _ hres
        rw [← HXE.out] at hblk
        have HN8 := Lib.hid hblk
        have HX8 := Lib.hid (HX7.out.below hB8)
        have HY8 := Lib.hid (HY7.out.below hB8)
        have HZ8 := Lib.hid (HZ7.out.below hB8)
        have HB8 := Lib.hid (bt HB7.out hB8)
        clear hres hB8 hblk
        go_wp2
        go_loopw [15] (fun t wx => ∃ i : Nat, i ≤ m ∧ t = .int .i64 (i : Int) ∧ Hid (Below w8.heap.size w8 wx)) (fun t _ => m - (intOf t).toNat)
        case atStart => exact ⟨0, by omega, rfl, b_refl _⟩
        case round =>
          obtain ⟨i, hi, rfl, HB⟩ := hrel
          by_cases him : i < m
          · have i0 : (0 : Int) ≤ (i : Int) := by omega
            have i1 : (i : Int) < (m : Int) := by omega
            have hxi : i < X.length := by rw [HXL.out]; exact him
            have hyi : i < Y.length := by rw [HYL.out]; exact him
            have hzi : i < Z.length := by rw [HZL.out]; exact him
            obtain ⟨ax, cx, dx, rx⟩ := (HX8.out.below HB.out).at_ i hxi
            obtain ⟨ay, cy, dy, ry⟩ := (HY8.out.below HB.out).at_ i hyi
            obtain ⟨az, cz, dz, rz⟩ := (HZ8.out.below HB.out).at_ i hzi
            have dn := (HN8.out.below HB.out).cell (k := i) (v := .int .i64 (((X[i]'hxi).length : Nat) : Int)) (by simp [lencells, hxi])
            have HZi := Lib.hid (HZA.out i hxi hyi hzi)
            have HAi := Lib.hid (HXA.out i hxi)
            have HKi := Lib.hid (HXK.out _ (List.getElem_mem hxi))
            have HKy := Lib.hid (HYK.out _ (List.getElem_mem hyi))
            obtain ⟨x, hx⟩ : ∃ x, x = X[i]'hxi := ⟨_, rfl⟩
            obtain ⟨y, hy⟩ : ∃ y, y = Y[i]'hyi := ⟨_, rfl⟩
            obtain ⟨z, hz⟩ : ∃ z, z = Z[i]'hzi := ⟨_, rfl⟩
            rw [← hx] at dx rx dn HZi HAi HKi
            rw [← hy] at dy ry HZi HKy
            rw [← hz] at dz rz HZi
            have HBW := Lib.hid (bt HB8.out HB.out)
            have HRX := Lib.hid rx
            have HRY := Lib.hid ry
            have HRZ := Lib.hid rz
            have HDX := Lib.hid dx
            have HDY := Lib.hid dy
            have HDZ := Lib.hid dz
            have HDN := Lib.hid dn
            clear hx hy hz rx ry rz dy dz dn
            obtain ⟨Wr, hWr⟩ : ∃ Wr, Wr = wr := ⟨_, rfl⟩
            subst hWr
            go_wp2_with fail
            refine (Split_any _ x m Wr HRX.out (Nat.le_trans HKi.out.1 (by decide)) HKi.out.2).mono ?_
            rintro e w9 ⟨hres, hB9⟩
            obtain ⟨DA, rfl, _, hor⟩ := HS.out _ _ _ _ hres
            have hrr := hor.rr
            rw [splitP_length, HAi.out] at hrr
            have HA9 := Lib.hid hrr
            have HRX9 := Lib.hid (HRX.out.below hB9)
            have HRY9 := Lib.hid (HRY.out.below hB9)
            have HRZ9 := Lib.hid (HRZ.out.below hB9)
            have HDX9 := Lib.hid (Below.keeps hB9 HDX.out)
            have HDY9 := Lib.hid (Below.keeps hB9 HDY.out)
            have HDZ9 := Lib.hid (Below.keeps hB9 HDZ.out)
            have HDN9 := Lib.hid (Below.keeps hB9 HDN.out)
            have HG9 := Lib.hid hB9
            clear hres hB9 hor hrr dx HDX HDY HDZ HDN
            have HSZ := Lib.hid (show decide (z = x ++ y) = true by rw [HZi.out]; exact decide_eq_true rfl)
            have HLX := Lib.hid (show (x.length + y.length) * 32 ≤ 140737488355328 by have := HKi.out.1; have := HKy.out; omega)
            have HLX2 := Lib.hid (show x.length ≤ 40 from HKi.out.1)
            have HLY2 := Lib.hid HKy.out
            have hq15 : (((x.length : Nat) : Int) != ((x.length : Nat) : Int)) = false := by rw [bne_eq_false_iff_eq]
            go_wp2
            refine region_rel2 x y [(12, .exact _ (.slice az z.length cz)), (16, .exact _ (.slice ax x.length cx)), (17, kOwn w9.heap.size x y false), (21, .exact _ (.slice ay y.length cy)), (22, kOwn w9.heap.size x y true), (23, .exact _ (.bool true)), (30, .exact _ (.int .i64 ((x.length : Nat) : Int))), (34, .exact _ (.slice ax x.length cx))] (by kernel_rfl) (by kernel_rfl) ?_
            (repeat (first | (refine wpG_skip (by kernel_rfl) (fun K hK => ?_); go_big_quiet_skip; refine wpQuiet_nil (hK _ ?_); clear hK K) | (refine wpG_quiet (by rfl) (by rfl) (fun K hK => ?_); go_big_quiet_want; go_big_quiet_op; go_big_quiet_on; refine wpQuiet_nil (hK _ ?_); clear hK K)))
            refine wpG_exact rfl (by kernel_rfl) (fun w' G hB hS hG => ?_) (fun K hK => ?_)
            · have cc := Below.keeps hB HDZ9.out
              go_simp
              exact hG _ (Rel2.refl _ _ _ _)
            go_simp; refine hK _ ?_; clear hK K; (repeat (first | (refine wpG_skip (by kernel_rfl) (fun K hK => ?_); go_big_quiet_skip; refine wpQuiet_nil (hK _ ?_); clear hK K) | (refine wpG_quiet (by rfl) (by rfl) (fun K hK => ?_); go_big_quiet_want; go_big_quiet_op; go_big_quiet_on; refine wpQuiet_nil (hK _ ?_); clear hK K)))
            refine wpG_exact rfl (by kernel_rfl) (fun w' G hB hS hG => ?_) (fun K hK => ?_)
            · have cc := Below.keeps hB HDX9.out
              go_simp
              exact hG _ (Rel2.refl _ _ _ _)
            go_simp; refine hK _ ?_; clear hK K; (repeat (first | (refine wpG_skip (by kernel_rfl) (fun K hK => ?_); go_big_quiet_skip; refine wpQuiet_nil (hK _ ?_); clear hK K) | (refine wpG_quiet (by rfl) (by rfl) (fun K hK => ?_); go_big_quiet_want; go_big_quiet_op; go_big_quiet_on; refine wpQuiet_nil (hK _ ?_); clear hK K)))
            refine wpG_known (kOwn w9.heap.size x y false) rfl (by kernel_rfl) (fun w' G hB hS hG => ?_) (fun x K hK => ?_)
            · have hb : w9.heap.size ≤ w'.heap.size := hB.size
              refine grow_append _ _ 35 rfl Try.underlying35 w'.heap.size (.slice none 0 0) [] (OP.nil _ _) rfl _ x (HRX9.out.below hB) rfl (by have := HLX.out; simp; omega) (Nat.le_refl _) ?_
              intro A C w'' ho hrel
              exact hG (A, C) _ (Rel2.of_bel hb hrel.1) (fun φ h => by cases h; exact OP.mono ho hb)
            obtain ⟨ad, c⟩ := x; go_simp; refine hK _ ?_; clear hK K; (repeat (first | (refine wpG_skip (by kernel_rfl) (fun K hK => ?_); go_big_quiet_skip; refine wpQuiet_nil (hK _ ?_); clear hK K) | (refine wpG_quiet (by rfl) (by rfl) (fun K hK => ?_); go_big_quiet_want; go_big_quiet_op; go_big_quiet_on; refine wpQuiet_nil (hK _ ?_); clear hK K)))
            refine wpG_exact rfl (by kernel_rfl) (fun w' G hB hS hG => ?_) (fun K hK => ?_)
            · have cc := Below.keeps hB HDY9.out
              go_simp
              exact hG _ (Rel2.refl _ _ _ _)
            go_simp; refine hK _ ?_; clear hK K; (repeat (first | (refine wpG_skip (by kernel_rfl) (fun K hK => ?_); go_big_quiet_skip; refine wpQuiet_nil (hK _ ?_); clear hK K) | (refine wpG_quiet (by rfl) (by rfl) (fun K hK => ?_); go_big_quiet_want; go_big_quiet_op; go_big_quiet_on; refine wpQuiet_nil (hK _ ?_); clear hK K)))
            refine wpG_known (kOwn w9.heap.size x y true) rfl (by kernel_rfl) (fun w' G hB hS hG => ?_) (fun x K hK => ?_)
            · have hb : w9.heap.size ≤ w'.heap.size := hB.size
              refine grow_append _ _ 35 rfl Try.underlying35 w9.heap.size _ x (at0 hS (by kernel_rfl)) rfl _ y (HRY9.out.below hB) rfl HLX.out hb ?_
              intro A C w'' ho hrel
              exact hG (A, C) _ hrel (fun φ h => by cases h; exact ho)
            obtain ⟨ad, c⟩ := x; go_simp; refine hK _ ?_; clear hK K; (repeat (first | (refine wpG_skip (by kernel_rfl) (fun K hK => ?_); go_big_quiet_skip; refine wpQuiet_nil (hK _ ?_); clear hK K) | (refine wpG_quiet (by rfl) (by rfl) (fun K hK => ?_); go_big_quiet_want; go_big_quiet_op; go_big_quiet_on; refine wpQuiet_nil (hK _ ?_); clear hK K)))
            refine wpG_exact rfl (by kernel_rfl) (fun w' G hB hS hG => ?_) (fun K hK => ?_)
            · have hb : w9.heap.size ≤ w'.heap.size := hB.size
              have ho := at0 hS (by kernel_rfl)
              go_simp
              exact (SameP_any _ _ z (x ++ y) w' (HRZ9.out.below hB) (OP.reads ho) (by rw [HZi.out, List.length_append]; have := HLX2.out; have := HLY2.out; omega) (by rw [List.length_append]; have := HLX2.out; have := HLY2.out; omega)).mono fun _ _ ⟨he, hbb⟩ => ⟨_, by rw [he, HSZ.out], hG _ (Rel2.of_bel hb hbb)⟩
            go_simp; refine hK _ ?_; clear hK K; (repeat (first | (refine wpG_skip (by kernel_rfl) (fun K hK => ?_); go_big_quiet_skip; refine wpQuiet_nil (hK _ ?_); clear hK K) | (refine wpG_quiet (by rfl) (by rfl) (fun K hK => ?_); go_big_quiet_want; go_big_quiet_op; go_big_quiet_on; refine wpQuiet_nil (hK _ ?_); clear hK K)))
            refine wpG_exact rfl (by kernel_rfl) (fun w' G hB hS hG => ?_) (fun K hK => ?_)
            · have cc := Below.keeps hB HDN9.out
              go_simp
              exact hG _ (Rel2.refl _ _ _ _)
            go_simp; refine hK _ ?_; clear hK K; (repeat (first | (refine wpG_skip (by kernel_rfl) (fun K hK => ?_); go_big_quiet_skip; refine wpQuiet_nil (hK _ ?_); clear hK K) | (refine wpG_quiet (by rfl) (by rfl) (fun K hK => ?_); go_big_quiet_want; go_big_quiet_op; go_big_quiet_on; refine wpQuiet_nil (hK _ ?_); clear hK K)))
            refine wpG_exact rfl (by kernel_rfl) (fun w' G hB hS hG => ?_) (fun K hK => ?_)
            · have cc := Below.keeps hB HDX9.out
              go_simp
              exact hG _ (Rel2.refl _ _ _ _)
            go_simp; refine hK _ ?_; clear hK K; (repeat (first | (refine wpG_skip (by kernel_rfl) (fun K hK => ?_); go_big_quiet_skip; refine wpQuiet_nil (hK _ ?_); clear hK K) | (refine wpG_quiet (by rfl) (by rfl) (fun K hK => ?_); go_big_quiet_want; go_big_quiet_op; go_big_quiet_on; refine wpQuiet_nil (hK _ ?_); clear hK K)))
            refine wpG_nil ?_
            intro w10 hB10 hA10
            have HG10 := Lib.hid (bt HG9.out hB10)
            have HRX10 := Lib.hid (HRX9.out.below hB10)
            have HA10 := Lib.hid (HA9.out.below hB10)
            have HDX10 := Lib.hid (Below.keeps hB10 HDX9.out)
            clear hB10 hA10
            go_wp2
            go_loopw [18] (fun t wx => ∃ k : Nat, k ≤ m ∧ t = .int .i64 (k : Int) ∧ Hid (Below w10.heap.size w10 wx)) (fun t _ => m - (intOf t).toNat)
            case atStart => exact ⟨0, by omega, rfl, b_refl _⟩
            case round =>
              obtain ⟨k, hk, rfl, HJ⟩ := hrel
              by_cases hkm : k < m
              · have k0 : (0 : Int) ≤ (k : Int) := by omega
                have k1 : (k : Int) < (m : Int) := by omega
                have hkl : k < ((List.range m).map fun j => if j = i then x else []).length := by simp only [List.length_map, List.length_range]; exact hkm
                obtain ⟨ak, ck, dk, rk⟩ := (HA10.out.below HJ.out).at_ k hkl
                rw [List.getElem_map, List.getElem_range] at dk rk
                have HDXw := Lib.hid (Below.keeps HJ.out HDX10.out)
                have HRXw := Lib.hid (HRX10.out.below HJ.out)
                clear hkl
                by_cases hki : k = i
                · have c1 : ((k : Int) != (i : Int)) = false := by rw [bne_eq_false_iff_eq]; omega
                  have c2 : ((k : Int) == (i : Int)) = true := by rw [beq_iff_eq]; omega
                  rw [if_pos hki] at dk rk
                  have HDK := Lib.hid dk
                  have HRK := Lib.hid rk
                  have hXX := Lib.hid (show decide (x = x) = true from decide_eq_true rfl)
                  clear dk rk hki
                  go_wp2
                  refine region_known [(2, .exact Bel (.bool false)), (14, .exact Bel (.bool true)), (19, .exact Bel (.slice ak x.length ck)), (23, .exact Bel (.slice ax x.length cx)), (24, .exact Bel (.bool true))] (by kernel_rfl) (by kernel_rfl) ?_
                  (repeat (first | (refine wpG_skip (by kernel_rfl) (fun K hK => ?_); go_big_quiet_skip; refine wpQuiet_nil (hK _ ?_); clear hK K) | (refine wpG_quiet (by rfl) (by rfl) (fun K hK => ?_); go_big_quiet_want; go_big_quiet_op; go_big_quiet_on; refine wpQuiet_nil (hK _ ?_); clear hK K)))
                  refine wpG_exact rfl (by kernel_rfl) (fun w' G hB hS hG => ?_) (fun K hK => ?_)
                  · go_simp
                    first
                      | exact hG _ (Bel.refl _)
                      | (simp only [c1]; exact hG _ (Bel.refl _))
                  go_simp; refine hK _ ?_; clear hK K; (repeat (first | (refine wpG_skip (by kernel_rfl) (fun K hK => ?_); go_big_quiet_skip; refine wpQuiet_nil (hK _ ?_); clear hK K) | (refine wpG_quiet (by rfl) (by rfl) (fun K hK => ?_); go_big_quiet_want; go_big_quiet_op; go_big_quiet_on; refine wpQuiet_nil (hK _ ?_); clear hK K)))
                  refine wpG_exact rfl (by kernel_rfl) (fun w' G hB hS hG => ?_) (fun K hK => ?_)
                  · go_simp
                    first
                      | exact hG _ (Bel.refl _)
                      | (simp only [c2]; exact hG _ (Bel.refl _))
                  go_simp; refine hK _ ?_; clear hK K; (repeat (first | (refine wpG_skip (by kernel_rfl) (fun K hK => ?_); go_big_quiet_skip; refine wpQuiet_nil (hK _ ?_); clear hK K) | (refine wpG_quiet (by rfl) (by rfl) (fun K hK => ?_); go_big_quiet_want; go_big_quiet_op; go_big_quiet_on; refine wpQuiet_nil (hK _ ?_); clear hK K)))
                  refine wpG_exact rfl (by kernel_rfl) (fun w' G hB hS hG => ?_) (fun K hK => ?_)
                  · have cc := Below.keeps hB HDK.out
                    go_simp
                    exact hG _ (Bel.refl _)
                  go_simp; refine hK _ ?_; clear hK K; (repeat (first | (refine wpG_skip (by kernel_rfl) (fun K hK => ?_); go_big_quiet_skip; refine wpQuiet_nil (hK _ ?_); clear hK K) | (refine wpG_quiet (by rfl) (by rfl) (fun K hK => ?_); go_big_quiet_want; go_big_quiet_op; go_big_quiet_on; refine wpQuiet_nil (hK _ ?_); clear hK K)))
                  refine wpG_exact rfl (by kernel_rfl) (fun w' G hB hS hG => ?_) (fun K hK => ?_)
                  · have cc := Below.keeps hB HDXw.out
                    go_simp
                    exact hG _ (Bel.refl _)
                  go_simp; refine hK _ ?_; clear hK K; (repeat (first | (refine wpG_skip (by kernel_rfl) (fun K hK => ?_); go_big_quiet_skip; refine wpQuiet_nil (hK _ ?_); clear hK K) | (refine wpG_quiet (by rfl) (by rfl) (fun K hK => ?_); go_big_quiet_want; go_big_quiet_op; go_big_quiet_on; refine wpQuiet_nil (hK _ ?_); clear hK K)))
                  refine wpG_exact rfl (by kernel_rfl) (fun w' G hB hS hG => ?_) (fun K hK => ?_)
                  · go_simp
                    exact (SameP_any _ _ x x w' (HRK.out.below hB) (HRXw.out.below hB) (Nat.le_trans HLX2.out (by decide)) (Nat.le_trans HLX2.out (by decide))).mono fun _ _ ⟨he, hbb⟩ => ⟨_, by rw [he, decide_eq_true rfl], hG _ hbb⟩
                  go_simp; refine hK _ ?_; clear hK K; (repeat (first | (refine wpG_skip (by kernel_rfl) (fun K hK => ?_); go_big_quiet_skip; refine wpQuiet_nil (hK _ ?_); clear hK K) | (refine wpG_quiet (by rfl) (by rfl) (fun K hK => ?_); go_big_quiet_want; go_big_quiet_op; go_big_quiet_on; refine wpQuiet_nil (hK _ ?_); clear hK K)))
                  refine wpG_nil ?_
                  intro w' hB hA
                  have HJ2 := Lib.hid (bt HJ.out hB)
                  clear hB hA
                  go_wp2
                  refine ⟨?_, by simp [intOf]; omega⟩
                  first
                    | exact ⟨k + 1, by omega, by go_num, HJ2.out⟩
                    | ((repeat apply Exists.intro); exact ⟨⟨k + 1, by omega, by go_num, HJ2.out⟩, rfl⟩)
                · have c1 : ((k : Int) != (i : Int)) = true := by rw [bne_iff_ne]; omega
                  have c2 : ((k : Int) == (i : Int)) = false := by rw [beq_eq_false_iff_ne]; omega
                  rw [if_neg hki] at dk rk
                  have HDK := Lib.hid dk
                  clear dk rk hki
                  go_wp2
                  refine region_known [(2, .exact Bel (.bool true)), (7, .exact Bel (.slice ak 0 ck)), (14, .exact Bel (.bool false))] (by kernel_rfl) (by kernel_rfl) ?_
                  (repeat (first | (refine wpG_skip (by kernel_rfl) (fun K hK => ?_); go_big_quiet_skip; refine wpQuiet_nil (hK _ ?_); clear hK K) | (refine wpG_quiet (by rfl) (by rfl) (fun K hK => ?_); go_big_quiet_want; go_big_quiet_op; go_big_quiet_on; refine wpQuiet_nil (hK _ ?_); clear hK K)))
                  refine wpG_exact rfl (by kernel_rfl) (fun w' G hB hS hG => ?_) (fun K hK => ?_)
                  · go_simp
                    first
                      | exact hG _ (Bel.refl _)
                      | (simp only [c1]; exact hG _ (Bel.refl _))
                  go_simp; refine hK _ ?_; clear hK K; (repeat (first | (refine wpG_skip (by kernel_rfl) (fun K hK => ?_); go_big_quiet_skip; refine wpQuiet_nil (hK _ ?_); clear hK K) | (refine wpG_quiet (by rfl) (by rfl) (fun K hK => ?_); go_big_quiet_want; go_big_quiet_op; go_big_quiet_on; refine wpQuiet_nil (hK _ ?_); clear hK K)))
                  refine wpG_exact rfl (by kernel_rfl) (fun w' G hB hS hG => ?_) (fun K hK => ?_)
                  · have cc := Below.keeps hB HDK.out
                    rw [List.length_nil] at cc
                    go_simp
                    exact hG _ (Bel.refl _)
                  go_simp; refine hK _ ?_; clear hK K; (repeat (first | (refine wpG_skip (by kernel_rfl) (fun K hK => ?_); go_big_quiet_skip; refine wpQuiet_nil (hK _ ?_); clear hK K) | (refine wpG_quiet (by rfl) (by rfl) (fun K hK => ?_); go_big_quiet_want; go_big_quiet_op; go_big_quiet_on; refine wpQuiet_nil (hK _ ?_); clear hK K)))
                  refine wpG_exact rfl (by kernel_rfl) (fun w' G hB hS hG => ?_) (fun K hK => ?_)
                  · go_simp
                    first
                      | exact hG _ (Bel.refl _)
                      | (simp only [c2]; exact hG _ (Bel.refl _))
                  go_simp; refine hK _ ?_; clear hK K; (repeat (first | (refine wpG_skip (by kernel_rfl) (fun K hK => ?_); go_big_quiet_skip; refine wpQuiet_nil (hK _ ?_); clear hK K) | (refine wpG_quiet (by rfl) (by rfl) (fun K hK => ?_); go_big_quiet_want; go_big_quiet_op; go_big_quiet_on; refine wpQuiet_nil (hK _ ?_); clear hK K)))
                  refine wpG_nil ?_
                  intro w' hB hA
                  have HJ2 := Lib.hid (bt HJ.out hB)
                  clear hB hA
                  go_wp2
                  refine ⟨?_, by simp [intOf]; omega⟩
                  first
                    | exact ⟨k + 1, by omega, by go_num, HJ2.out⟩
                    | ((repeat apply Exists.intro); exact ⟨⟨k + 1, by omega, by go_num, HJ2.out⟩, rfl⟩)
              · obtain rfl : k = m := by omega
                have HZZ := Lib.hid (bt HB.out (bt HG10.out HJ.out))
                go_wp2
                refine ⟨?_, by simp [intOf]; omega⟩
                first
                  | exact ⟨i + 1, by omega, by go_num, HZZ.out⟩
                  | ((repeat apply Exists.intro); exact ⟨⟨i + 1, by omega, by go_num, HZZ.out⟩, rfl⟩)
          · obtain rfl : i = m := by omega
            have HBw := Lib.hid (bt HB8.out HB.out)
            go_wp2_with fail
            refine (alive17 _).mono ?_
            rintro e w17 ⟨rfl, hB17⟩
            have HB17 := Lib.hid (bt HBw.out hB17)
            clear hB17
            go_wp2_with fail
            go_ret
            exact ⟨rfl, HB17.out⟩
end Go.Proofs.Ytdebgkjekcppmaa
namespace Go.Proofs.Ytdebgkjekcppmaa
open Go.ChangeShapes Go.WideShapes Go.ChangeAt Go.RowKit Oct
open Go.ChangeMaps (open_string shut_string)

theorem u64_nat {a : Int} (h : (Lit.int .u64 a).wf = true) : ∃ n : Nat, a = (n : Int) ∧ n < 18446744073709551616 := by
  have h2 : 0 ≤ a ∧ a < 18446744073709551616 := by
    have := bounds_u64 h; omega
  exact ⟨a.toNat, by omega, by omega⟩

section
variable {P : Program} {H : Type} {enc : TypeId × Value → H} {W : World} {base : Nat}
theorem open_str {t j : Nat} {v : Value} {d : DataW H} {ps : List MemPlace} {ts : List TypeId} {ds : List (DataW H)} (ht : P.underlying t = some .string) (hv : Value.okWide P W .any base t v)
    (h : DataW.Trod enc P W 0 (fun _ => true) true t v d ps) (hsz : (DataW.weightsEach P ts ds).all (· ≤ reachBytes) = true) (hj : ts[j]? = some t) (hd : ds[j]? = some d) :
    ∃ l : List UInt8, v = .string (bs l) ∧ l.length ≤ 140737488355328 := by
  obtain ⟨s, rfl, rfl, _, _⟩ := open_string ht hv h
  refine ⟨s.data.toList, by rw [bs_of], ?_⟩
  have := sized_string hsz hj hd
  have h2 := reachBytes_lt
  omega

theorem weights_strs (e : TypeId) : ∀ (ss : List ByteArray) (s : ByteArray), s ∈ ss → s.data.toList.length ∈ DataW.weightsAll (H := H) P e (strs ss)
  | [], _, h => by simp at h
  | x :: ss, s, h => by
    have hx : strs (H := H) (x :: ss) = DataW.lit (.string x.data.toList) :: strs ss := rfl
    rw [hx, DataW.weightsAll]
    rcases List.mem_cons.1 h with rfl | h
    · simp [DataW.weights]
    · exact List.mem_append.2 (.inr (weights_strs e ss s h))
theorem add_cell {w : World} {a : Addr} {i : Nat} {u : Value} (h : w.cell? (a.add i) = some u) : a.add i = ⟨a.block, a.off + i, none⟩ := by
  unfold Addr.add at h ⊢
  split
  · rename_i hi
    rw [if_pos hi] at h
    subst hi
    cases a with
    | mk b o sp =>
      cases sp with
      | none => rfl
      | some x => exfalso; revert h; simp only [World.cell?]; split <;> simp
  · rfl
theorem open_texts {t e j : Nat} {v : Value} {d : DataW H} {ps : List MemPlace} {ts : List TypeId} {ds : List (DataW H)} (ht : P.underlying t = some (.slice e)) (he : P.underlying e = some .string) (hc : P.cellsOf e = 1) (hby : P.bytesOf e = 16)
    (hv : Value.okWide P W .any base t v) (h : DataW.Trod enc P W 0 (fun _ => true) true t v d ps) (hsz : (DataW.weightsEach P ts ds).all (· ≤ reachBytes) = true) (hj : ts[j]? = some t) (hd : ds[j]? = some d) :
    ∃ r : List (List UInt8), Reads W v r.length (tcells r) ∧ r.length ≤ 140737488355328 ∧ ∀ l ∈ r, l.length ≤ 140737488355328 := by
  have h47 := reachBytes_lt
  obtain ⟨a0, len, cap, rfl⟩ := okWide_slice ht hv
  obtain ⟨fuel, hf⟩ := h
  rcases open_strings ht he hc hf with ⟨hcs, hx⟩ | ⟨a, len', cap', ss, hcs, _, hl, hm, hz, hx, hcell, hws⟩
  · simp [Value.cells] at hcs
    obtain ⟨rfl, rfl, rfl⟩ := hcs
    exact ⟨[], Reads.nil _, by simp, by simp⟩
  · simp [Value.cells] at hcs
    obtain ⟨rfl, rfl, rfl⟩ := hcs
    simp at hz
    simp only [Prod.mk.injEq] at hx
    have hd2 := hx.1
    subst hd2
    have s1 := sized_slice hsz hj hd ht
    rw [hby] at s1
    simp only [strs, List.length_map, List.length_take, List.length_drop] at s1
    have hlen : (ss.take len).length = len := by simp; omega
    refine ⟨(ss.take len).map fun s => s.data.toList, ?_, ?_, ?_⟩
    · refine ⟨some a, cap, by rw [List.length_map, hlen], by simp, fun i u hu => ?_⟩
      have hi : i < len := by
        rcases Nat.lt_or_ge i len with h | h
        · exact h
        · rw [List.getElem?_eq_none (by simp [tcells]; omega)] at hu; simp at hu
      have hcl := hcell i (by omega)
      have e1 := add_cell hcl
      have e2 : a = ⟨a.block, a.off, none⟩ := by
        have h0 := add_cell (hcell 0 (by omega))
        simpa [Addr.add] using h0
      rw [e1] at hcl
      refine ⟨a.block, a.off, by rw [← e2], ?_⟩
      rw [hcl, ← hu]
      have hss : i < ss.length := by omega
      simp [tcells, List.getElem?_take, hi, hss, bs_of, List.getD]
    · simp; omega
    · intro l hl
      obtain ⟨s, hs, rfl⟩ := List.mem_map.1 hl
      have hin : s.data.toList.length ∈ DataW.weightsEach P ts ds := by
        refine DataW.weights_mem_each hj hd _ ?_
        simp only [DataW.weights, ht]
        exact List.mem_cons.2 (.inr (List.mem_append.2 (.inl (weights_strs e _ s hs))))
      have := List.all_eq_true.1 hsz _ hin
      simp at this
      simp
      omega
end
end Go.Proofs.Ytdebgkjekcppmaa
namespace Go.Proofs.Ytdebgkjekcppmaa
open Go.ChangeShapes Go.WideShapes Go.ChangeAt Go.RowKit Oct
open Go.ChangeMaps (open_string shut_string)

section
variable {P : Program} {H : Type} {enc : TypeId × Value → H} {W : World} {α β γ : Type}

/-- whatever the cells of a type read as, they hold an x; its measure is at most the datum's bulk -/
def Opens (enc : TypeId × Value → H) (P : Program) (W : World) (t : TypeId) (mu : α → Nat) (He : List Value → α → Prop) : Prop :=
  ∀ n cs d ps, DataW.trod enc P W 0 (fun _ => true) true n t cs = some (d, ps) → (∀ x ∈ d.weights P t, x ≤ reachBytes) → ∃ x, He cs x ∧ mu x ≤ Rows.uptoBulk d
theorem bulk_range (D : Nat → DataW H) (f : Nat → α) (mu : α → Nat) : ∀ n, (∀ i, i < n → mu (f i) ≤ Rows.uptoBulk (D i)) → (((List.range n).map f).map mu).sum ≤ Rows.uptoBulkAll ((List.range n).map D)
  | 0, _ => by simp
  | n + 1, h => by
    have ih := bulk_range D f mu n (fun i hi => h i (by omega))
    have app : ∀ (l r : List (DataW H)), Rows.uptoBulkAll (l ++ r) = Rows.uptoBulkAll l + Rows.uptoBulkAll r := by
      intro l r
      induction l with
      | nil => simp [Rows.uptoBulkAll]
      | cons x l ih => simp only [List.cons_append, Rows.uptoBulkAll, ih]; omega
    have := h n (by omega)
    simp only [List.range_succ, List.map_append, List.sum_append, app, List.map_cons, List.map_nil, List.sum_cons, List.sum_nil, Rows.uptoBulkAll]
    omega

theorem Opens.imp {t : TypeId} {mu : α → Nat} {He He' : List Value → α → Prop} (h : Opens enc P W t mu He) (hi : ∀ cs x, He cs x → He' cs x) : Opens enc P W t mu He' := by
  intro n cs d ps hd hw
  obtain ⟨x, hx, hb⟩ := h n cs d ps hd hw
  exact ⟨x, hi _ _ hx, hb⟩
/-- v is a row of elements of 'size' cells -/
def SliceOf (W : World) (size : Nat) (He : List Value → α → Prop) (v : Value) (xs : List α) : Prop :=
  ∃ a cap, v = .slice a xs.length cap ∧ xs.length ≤ cap ∧ (a = none → xs.length = 0 ∧ cap = 0) ∧
    ∀ k (h : k < xs.length), ∃ b off cs, a = some ⟨b, off, none⟩ ∧ cs.length = size ∧ (∀ j u, cs[j]? = some u → W.cell? ⟨b, off + k * size + j, none⟩ = some u) ∧ He cs xs[k]

theorem weights_all_mem (e : TypeId) : ∀ (ds : List (DataW H)) (d : DataW H), d ∈ ds → ∀ x ∈ d.weights P e, x ∈ DataW.weightsAll P e ds
  | [], _, h => by simp at h
  | d0 :: ds, d, h => by
    intro x hx
    rw [DataW.weightsAll]
    rcases List.mem_cons.1 h with rfl | h
    · exact List.mem_append.2 (.inl hx)
    · exact List.mem_append.2 (.inr (weights_all_mem e ds d h x hx))

theorem opens_str {t : TypeId} (ht : P.underlying t = some .string) : Opens enc P W t (fun l : List UInt8 => l.length + 1) fun cs (l : List UInt8) => cs = [.string (bs l)] ∧ l.length ≤ 140737488355328 := by
  intro n cs d ps h hw
  obtain ⟨s, rfl, hx, _⟩ := DataW.trod_string ht h
  simp only [Prod.mk.injEq] at hx
  obtain ⟨rfl, rfl⟩ := hx
  have := hw s.data.toList.length (by simp [DataW.weights])
  have h2 := reachBytes_lt
  exact ⟨s.data.toList, ⟨by rw [bs_of], by omega⟩, by simp [Rows.uptoBulk]⟩
theorem opens_int {t : TypeId} {k : IntKind} (ht : P.underlying t = some (.int k)) : Opens enc P W t (fun _ => 1) fun cs (a : Int) => cs = [.int k a] ∧ (Lit.int k a).wf = true := by
  intro n cs d ps h hw
  obtain ⟨a, rfl, hx, hwf⟩ := DataW.trod_int ht h
  simp only [Prod.mk.injEq] at hx
  obtain ⟨rfl, rfl⟩ := hx
  exact ⟨a, ⟨rfl, hwf⟩, by simp [Rows.uptoBulk]⟩
theorem opens_struct2 {t : TypeId} {f0 f1 : Field} {c0 c1 : Nat} {m0 : α → Nat} {m1 : β → Nat} {H0 : List Value → α → Prop} {H1 : List Value → β → Prop} (ht : P.underlying t = some (.struct #[f0, f1])) (hc : P.cellsOf t = c0 + c1)
    (hc0 : P.cellsOf f0.type = c0) (hc1 : P.cellsOf f1.type = c1) (o0 : f0.offset = 0) (o1 : f1.offset = c0)
    (h0 : Opens enc P W f0.type m0 H0) (h1 : Opens enc P W f1.type m1 H1) : Opens enc P W t (fun p => m0 p.1 + m1 p.2 + 1) fun cs (p : α × β) => ∃ cs0 cs1, cs = cs0 ++ cs1 ∧ cs0.length = c0 ∧ cs1.length = c1 ∧ H0 cs0 p.1 ∧ H1 cs1 p.2 := by
  intro n cs d ps h hw
  obtain ⟨y0, y1, m, hx, hl, e0, e1⟩ := trod_struct2 ht h
  simp only [Prod.mk.injEq] at hx
  obtain ⟨rfl, rfl⟩ := hx
  have hw' : ∀ x, x ∈ y0.1.weights P f0.type ∨ x ∈ y1.1.weights P f1.type → x ≤ reachBytes := by
    intro x hx
    refine hw x ?_
    simp only [DataW.weights, ht, DataW.weightsEach, List.map_cons, List.mem_append]
    rcases hx with hx | hx
    · exact .inl hx
    · exact .inr (.inl hx)
  obtain ⟨x0, k0, b0⟩ := h0 _ _ _ _ e0 (fun x hx => hw' x (.inl hx))
  obtain ⟨x1, k1, b1⟩ := h1 _ _ _ _ e1 (fun x hx => hw' x (.inr hx))
  rw [o0, hc0, List.drop_zero] at k0
  rw [o1, hc1] at k1
  refine ⟨(x0, x1), ⟨cs.take c0, (cs.drop c0).take c1, ?_, ?_, ?_, k0, k1⟩, by simp only [Rows.uptoBulk, Rows.uptoBulkAll]; omega⟩
  · have : (cs.drop c0).take c1 = cs.drop c0 := List.take_of_length_le (by simp; omega)
    rw [this, List.take_append_drop]
  · simp; omega
  · simp; omega
theorem opens_slice {t e : TypeId} {size : Nat} {mu : α → Nat} {He : List Value → α → Prop} (ht : P.underlying t = some (.slice e)) (hc : P.cellsOf e = size) (hpos : 0 < size) (he : Opens enc P W e mu He) :
    Opens enc P W t (fun xs => (xs.map mu).sum + 1) fun cs (xs : List α) => ∃ v, cs = [v] ∧ SliceOf W size He v xs ∧ xs.length * P.bytesOf e ≤ reachBytes := by
  intro n cs d ps h hw
  rcases Deep.open_slice ht h with ⟨rfl, hx⟩ | ⟨a, len, cap, m, n', D, Pl, rfl, _, hl, hm, hmm, hx, hcell⟩
  · simp only [Prod.mk.injEq] at hx
    obtain ⟨rfl, _⟩ := hx
    exact ⟨[], ⟨_, rfl, ⟨none, 0, rfl, Nat.le_refl _, fun _ => ⟨rfl, rfl⟩, fun k hk => by simp at hk⟩, by simp⟩, by simp [Rows.uptoBulk]⟩
  · simp only [Prod.mk.injEq] at hx
    obtain ⟨rfl, _⟩ := hx
    simp only [if_true] at hmm
    subst hmm
    have hin : ∀ i, i < len → ∀ x ∈ (D i).weights P e, x ≤ reachBytes := by
      intro i hi x hx
      refine hw x ?_
      simp only [DataW.weights, ht]
      exact List.mem_cons.2 (.inr (List.mem_append.2 (.inl (weights_all_mem e _ (D i) (List.mem_map.2 ⟨i, by simpa using hi, rfl⟩) x hx))))
    have each : ∀ i, i < len → ∃ x : α, (∃ cs', W.cells? 0 (a.add (i * size)) size = some cs' ∧ He cs' x) ∧ mu x ≤ Rows.uptoBulk (D i) := by
      intro i hi
      obtain ⟨cs', h1, h2⟩ := hcell i (by omega)
      rw [hc] at h1
      obtain ⟨x, hx, hb⟩ := he _ _ _ _ h2 (hin i hi)
      exact ⟨x, ⟨cs', h1, hx⟩, hb⟩
    have hlen := hw ((len + (m - len)) * P.bytesOf e) (by simp [DataW.weights, ht])
    have hlb : len * P.bytesOf e ≤ (len + (m - len)) * P.bytesOf e := Nat.mul_le_mul_right _ (by omega)
    by_cases h0 : len = 0
    · subst h0
      exact ⟨[], ⟨_, rfl, ⟨some a, m, rfl, Nat.zero_le _, by simp, fun k hk => by simp at hk⟩, by simp⟩, by simp [Rows.uptoBulk]⟩
    obtain ⟨x0, _⟩ := each 0 (by omega)
    haveI : Inhabited α := ⟨x0⟩
    obtain ⟨f, hf⟩ := Deep.choose_lt each
    have haddr : a = ⟨a.block, a.off, none⟩ := by
      obtain ⟨⟨cs', h1, _⟩, _⟩ := hf 0 (by omega)
      obtain ⟨_, hl', hcs⟩ := World.cells?_some h1
      have h2 := hcs 0 (by omega)
      rw [Nat.zero_mul] at h2
      have h3 : ∃ u, cs'[0]? = some u := ⟨cs'[0]'(by omega), List.getElem?_eq_getElem _⟩
      obtain ⟨u, hu⟩ := h3
      rw [hu] at h2
      have := add_cell (a := a.add 0) (i := 0) h2
      simpa [Addr.add] using this
    have hbulk := bulk_range D f mu len (fun i hi => (hf i hi).2)
    refine ⟨(List.range len).map f, ⟨_, rfl, ⟨some a, m, by simp, by simpa using hl, by simp, ?_⟩, ?_⟩, by simp only [Rows.uptoBulk]; omega⟩
    · intro k hk
      have hk' : k < len := by simpa using hk
      obtain ⟨⟨cs', h1, hHe⟩, _⟩ := hf k hk'
      obtain ⟨_, hl', hcs⟩ := World.cells?_some h1
      refine ⟨a.block, a.off, cs', by rw [← haddr], hl', ?_, by simpa using hHe⟩
      intro j u hj
      have hjl : j < size := by
        rcases Nat.lt_or_ge j size with h | h
        · exact h
        · rw [List.getElem?_eq_none (by omega)] at hj; cases hj
      have h2 := hcs j hjl
      rw [haddr, hj, Addr.add_lit, Addr.add_lit] at h2
      rw [← h2]
    · simp only [List.length_map, List.length_range]; omega

theorem open_any {t j : Nat} {v : Value} {d : DataW H} {ps : List MemPlace} {ts : List TypeId} {ds : List (DataW H)} {mu : α → Nat} {He : List Value → α → Prop} (ho : Opens enc P W t mu He)
    (h : DataW.Trod enc P W 0 (fun _ => true) true t v d ps) (hsz : (DataW.weightsEach P ts ds).all (· ≤ reachBytes) = true) (hj : ts[j]? = some t) (hd : ds[j]? = some d) : ∃ x, He v.cells.toList x ∧ mu x ≤ Rows.uptoBulk d := by
  obtain ⟨fuel, hf⟩ := h
  refine ho _ _ _ _ hf fun x hx => ?_
  simpa using List.all_eq_true.1 hsz x (DataW.weights_mem_each hj hd x hx)
theorem cells_slice {base : Nat} {t e : TypeId} {v v' : Value} (ht : P.underlying t = some (.slice e)) (hv : Value.okWide P W .any base t v) (h : v.cells.toList = [v']) : v = v' := by
  obtain ⟨a0, len, cap, rfl⟩ := okWide_slice ht hv
  simpa [Value.cells] using h
end
end Go.Proofs.Ytdebgkjekcppmaa
namespace Go.Proofs.Ytdebgkjekcppmaa
open Go.ChangeShapes Go.WideShapes Go.ChangeAt Go.RowKit Oct

section
variable {H : Type} {enc : TypeId × Value → H} {W : World}
/-- a pair's cells, opened -/
def PairAt (cs : List Value) (p : PR) : Prop := cs = [.string (bs p.1), .string (bs p.2)] ∧ p.1.length ≤ 140737488355328 ∧ p.2.length ≤ 140737488355328
theorem opens_pair : Opens enc Try.prog W 52 (fun p => p.1.length + 1 + (p.2.length + 1) + 1) PairAt := by
  refine Opens.imp (opens_struct2 (c0 := 1) (c1 := 1) Try.underlying52 (by kernel_rfl) (by kernel_rfl) (by kernel_rfl) rfl rfl (opens_str Try.underlying9) (opens_str Try.underlying9)) ?_
  rintro cs p ⟨cs0, cs1, rfl, _, _, ⟨rfl, h0⟩, rfl, h1⟩
  exact ⟨rfl, h0, h1⟩
theorem rp_of {v : Value} {xs : List PR} (h : SliceOf W 2 PairAt v xs) : RP W v xs ∧ ∀ p ∈ xs, p.1.length ≤ 140737488355328 ∧ p.2.length ≤ 140737488355328 := by
  obtain ⟨a, cap, rfl, hle, hn, hc⟩ := h
  refine ⟨⟨⟨a, cap, rfl, hn, ?_⟩, a, cap, rfl, hle⟩, ?_⟩
  · intro j u hj
    have hjl : j < xs.length * 2 := by
      rcases Nat.lt_or_ge j (xs.length * 2) with h | h
      · exact h
      · rw [List.getElem?_eq_none (by rw [pcells_length]; exact h)] at hj; cases hj
    have hk : j / 2 < xs.length := by omega
    obtain ⟨b, off, cs, ha, _, hcell, hcs, _⟩ := hc (j / 2) hk
    subst hcs
    refine ⟨b, off, ha, ?_⟩
    rcases Nat.mod_two_eq_zero_or_one j with hm | hm
    · have e : j = j / 2 * 2 := by omega
      rw [e, pcells_key xs _ hk] at hj
      have := hcell 0 _ rfl
      rw [e, ← hj]
      exact this
    · have e : j = j / 2 * 2 + 1 := by omega
      rw [e, pcells_val xs _ hk] at hj
      have := hcell 1 _ rfl
      rw [e, ← hj, ← Nat.add_assoc]
      exact this
  · intro p hp
    obtain ⟨k, hk, rfl⟩ := List.getElem_of_mem hp
    obtain ⟨_, _, _, _, _, _, _, h⟩ := hc k hk
    exact h
/-- a row of pairs -/
def RowAt (W : World) (cs : List Value) (l : List PR) : Prop := ∃ v, cs = [v] ∧ RP W v l ∧ l.length ≤ 4398046511104 ∧ ∀ p ∈ l, p.1.length ≤ 140737488355328 ∧ p.2.length ≤ 140737488355328
/-- how many values and letters a row has -/
def bulkP (l : List PR) : Nat := (l.map fun p : PR => p.1.length + 1 + (p.2.length + 1) + 1).sum + 1
theorem opens_pairs : Opens enc Try.prog W 35 bulkP (RowAt W) := by
  refine Opens.imp (opens_slice (size := 2) Try.underlying35 (by kernel_rfl) (by decide) opens_pair) ?_
  rintro cs l ⟨v, rfl, hs, hb⟩
  have hby : Try.prog.bytesOf 52 = 32 := by kernel_rfl
  rw [hby] at hb
  have h2 := reachBytes_lt
  obtain ⟨h1, h3⟩ := rp_of hs
  exact ⟨v, rfl, h1, by omega, h3⟩
set_option maxRecDepth 100000 in
theorem open_pairs {base j : Nat} {v : Value} {d : DataW H} {ps : List MemPlace} {ts : List TypeId} {ds : List (DataW H)}
    (hv : Value.okWide Try.prog W .any base 35 v) (h : DataW.Trod enc Try.prog W 0 (fun _ => true) true 35 v d ps) (hsz : (DataW.weightsEach Try.prog ts ds).all (· ≤ reachBytes) = true) (hj : ts[j]? = some 35) (hd : ds[j]? = some d) :
    ∃ l : List PR, RP W v l ∧ l.length ≤ 4398046511104 ∧ ∀ p ∈ l, p.1.length ≤ 140737488355328 ∧ p.2.length ≤ 140737488355328 := by
  obtain ⟨l, ⟨v', hcs, h1, h2, h3⟩, _⟩ := open_any opens_pairs h hsz hj hd
  obtain rfl := cells_slice Try.underlying35 hv hcs
  exact ⟨l, h1, h2, h3⟩
/-- a row of rows -/
def RowsAt (W : World) (cs : List Value) (rows : List (List PR)) : Prop := ∃ v, cs = [v] ∧ RR W v rows ∧ rows.length ≤ 5864062014805 ∧ ∀ l ∈ rows, l.length ≤ 4398046511104 ∧ ∀ p ∈ l, p.1.length ≤ 140737488355328 ∧ p.2.length ≤ 140737488355328
def bulkR (rows : List (List PR)) : Nat := (rows.map bulkP).sum + 1
theorem opens_rows : Opens enc Try.prog W 43 bulkR (RowsAt W) := by
  refine Opens.imp (opens_slice (size := 1) Try.underlying43 (by kernel_rfl) (by decide) opens_pairs) ?_
  rintro cs rows ⟨v, rfl, ⟨a, cap, rfl, hle, hn, hc⟩, hb⟩
  have hby : Try.prog.bytesOf 35 = 24 := by kernel_rfl
  rw [hby] at hb
  have h2 := reachBytes_lt
  refine ⟨_, rfl, ⟨a, cap, rfl, hle, hn, ?_⟩, by omega, ?_⟩
  · intro k hk
    obtain ⟨b, off, cs, ha, _, hcell, v, rfl, h1, _⟩ := hc k hk
    refine ⟨b, off, v, ha, ?_, h1⟩
    have := hcell 0 _ rfl
    simpa using this
  · intro l hl
    obtain ⟨k, hk, rfl⟩ := List.getElem_of_mem hl
    obtain ⟨_, _, _, _, _, _, _, _, _, h3, h4⟩ := hc k hk
    exact ⟨h3, h4⟩
set_option maxRecDepth 100000 in
theorem open_rows {base j : Nat} {v : Value} {d : DataW H} {ps : List MemPlace} {ts : List TypeId} {ds : List (DataW H)}
    (hv : Value.okWide Try.prog W .any base 43 v) (h : DataW.Trod enc Try.prog W 0 (fun _ => true) true 43 v d ps) (hsz : (DataW.weightsEach Try.prog ts ds).all (· ≤ reachBytes) = true) (hj : ts[j]? = some 43) (hd : ds[j]? = some d) :
    ∃ rows : List (List PR), RR W v rows ∧ rows.length ≤ 5864062014805 ∧ (∀ l ∈ rows, l.length ≤ 4398046511104 ∧ ∀ p ∈ l, p.1.length ≤ 140737488355328 ∧ p.2.length ≤ 140737488355328) ∧ bulkR rows ≤ Rows.uptoBulk d := by
  obtain ⟨rows, ⟨v', hcs, h1, h2, h3⟩, h4⟩ := open_any opens_rows h hsz hj hd
  obtain rfl := cells_slice Try.underlying43 hv hcs
  exact ⟨rows, h1, h2, h3, h4⟩
end
end Go.Proofs.Ytdebgkjekcppmaa
