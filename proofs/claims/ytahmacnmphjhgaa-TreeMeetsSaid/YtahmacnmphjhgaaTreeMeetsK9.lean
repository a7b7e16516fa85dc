/- Lemmas for TreeMeets, part 9: walks of the functions that it reaches, and the plain laws behind them. -/
import Derived.ProofKit
import Derived.OpenShut
import Derived.ShutString
import Derived.ChangeOld
import Derived.SizedLaws
import Derived.SliceStrings
import Derived.Test.YtahmacnmphjhgaaRows
import Derived.Deep.Slices
import Derived.ChangeSame
import Derived.Test.YtahmacnmphjhgaaTreeMeetsK8
set_option linter.unusedSimpArgs false
set_option linter.unusedVariables false
namespace Go.Proofs.Ytahmacnmphjhgaa
open Go.RowKit Oct

theorem idsF_app (a b : List (List UInt8)) : idsF (a ++ b) = idsF a ++ idsF b := by simp [idsF]
theorem g23_good {w w' : World} {l : List (List UInt8)} {e : Ending} (h : g23R w w' l e) (hid : allIds l = true) : ∃ v, e = .returned (.tuple #[v, .int .i64 0]) ∧ recSp.Own w' w.heap.size v (groups23 l) := by
  unfold g23R at h; rwa [if_pos hid] at h
theorem Met.first2 {GA GB : List (Nat × Nat)} {a b c : List (List UInt8)} {i k : Nat} (hA : GA = groups23 (idsF (a ++ c))) (hB : GB = groups23 (idsF (b ++ c))) (hi : i < GA.length) (hk : k < GB.length) (x : Nat) (h1 : GA[i].2 = a.length + x) (h2 : GB[k].2 = b.length + x) : Met GA GB (idsF c) a.length b.length (i + 1) (k + 1) := by
  rw [idsF_app] at hA hB
  subst hA hB
  have := Met.first (A := idsF a) (B := idsF b) (E := idsF c) hi hk x (by rw [idsF_len]; exact h1) (by rw [idsF_len]; exact h2)
  rwa [idsF_len, idsF_len] at this
theorem groups23_le (l : List (List UInt8)) : (groups23 l).length ≤ l.length := spansF_le l _ 0 0

set_option maxRecDepth 100000 in
set_option maxHeartbeats 8000000 in
theorem TreeMeets_any (v1 : Value) (a : List (List UInt8)) (v2 : Value) (b : List (List UInt8)) (v3 : Value) (c : List (List UInt8)) (w : World) (hr1 : recS.Row w v1 a) (hl1 : a.length ≤ 140737488355328) (hm1 : ∀ s ∈ a, s.length ≤ 140737488355328)
    (hr2 : recS.Row w v2 b) (hl2 : b.length ≤ 140737488355328) (hm2 : ∀ s ∈ b, s.length ≤ 140737488355328) (hr3 : recS.Row w v3 c) (hl3 : c.length ≤ 140737488355328) (hm3 : ∀ s ∈ c, s.length ≤ 140737488355328) :
    Calls Try.prog 7 #[v1, v2, v3] w fun e w' => e = .returned (.bool true) ∧ Below w.heap.size w w' := by
  obtain ⟨a1, c1, rfl, _⟩ := hr1.2
  obtain ⟨a2, c2, rfl, _⟩ := hr2.2
  obtain ⟨a3, c3, rfl, _⟩ := hr3.2
  have HL1 := Lib.hid (long23_any _ a w hr1 hl1 hm1)
  have HL2 := Lib.hid (long23_any _ b w hr2 hl2 hm2)
  have HL3 := Lib.hid (long23_any _ c w hr3 hl3 hm3)
  have HR1 := Lib.hid hr1
  have HR2 := Lib.hid hr2
  have HR3 := Lib.hid hr3
  clear hr1 hr2 hr3 hm1 hm2 hm3
  cases h1 : long23 a with
  | true =>
    rw [h1] at HL1
    clear h1
    go_enter Try.func7, Try.ntmps7
    go_wp2_with fail
    refine HL1.out.mono ?_
    rintro e w1 ⟨rfl, rfl⟩
    go_wp2_with fail
    refine (alive23 _).mono ?_
    rintro e w1 ⟨rfl, hB1⟩
    go_wp2_with fail
    go_ret
    exact ⟨rfl, hB1⟩
  | false =>
    cases h2 : long23 b with
    | true =>
      rw [h1] at HL1
      rw [h2] at HL2
      clear h1 h2
      go_enter Try.func7, Try.ntmps7
      go_wp2_with fail
      refine HL1.out.mono ?_
      rintro e w1 ⟨rfl, rfl⟩
      go_wp2_with fail
      refine HL2.out.mono ?_
      rintro e w1 ⟨rfl, rfl⟩
      go_wp2_with fail
      refine (alive23 _).mono ?_
      rintro e w1 ⟨rfl, hB1⟩
      go_wp2_with fail
      go_ret
      exact ⟨rfl, hB1⟩
    | false =>
      cases h3 : long23 c with
      | true =>
        rw [h1] at HL1
        rw [h2] at HL2
        rw [h3] at HL3
        clear h1 h2 h3
        go_enter Try.func7, Try.ntmps7
        go_wp2_with fail
        refine HL1.out.mono ?_
        rintro e w1 ⟨rfl, rfl⟩
        go_wp2_with fail
        refine HL2.out.mono ?_
        rintro e w1 ⟨rfl, rfl⟩
        go_wp2_with fail
        refine HL3.out.mono ?_
        rintro e w1 ⟨rfl, rfl⟩
        go_wp2_with fail
        refine (alive23 _).mono ?_
        rintro e w1 ⟨rfl, hB1⟩
        go_wp2_with fail
        go_ret
        exact ⟨rfl, hB1⟩
      | false =>
        obtain ⟨n1, m1⟩ := long23_no h1
        obtain ⟨n2, m2⟩ := long23_no h2
        obtain ⟨n3, m3⟩ := long23_no h3
        have M1 := Lib.hid (show ∀ s ∈ a ++ c, s.length ≤ 4000 from fun s hs => by rcases List.mem_append.1 hs with h | h; exact m1 s h; exact m3 s h)
        have M2 := Lib.hid (show ∀ s ∈ b ++ c, s.length ≤ 4000 from fun s hs => by rcases List.mem_append.1 hs with h | h; exact m2 s h; exact m3 s h)
        rw [h1] at HL1
        rw [h2] at HL2
        rw [h3] at HL3
        clear h1 h2 h3 m1 m2 m3
        go_enter Try.func7, Try.ntmps7
        go_wp2_with fail
        refine HL1.out.mono ?_
        rintro e w1 ⟨rfl, rfl⟩
        go_wp2_with fail
        refine HL2.out.mono ?_
        rintro e w1 ⟨rfl, rfl⟩
        go_wp2_with fail
        refine HL3.out.mono ?_
        rintro e w1 ⟨rfl, rfl⟩
        go_wp2_with (first
          | (at_builtin; refine recS.append w rfl _ _ 40 rfl Try.underlying40 w.heap.size (.slice none 0 0) [] (Rec.Own.nil _ _) rfl (.slice a1 a.length c1) a HR1.out rfl (by show (0 + a.length) * 16 ≤ _; omega) (Nat.le_refl _) ?_; intro v4 w4 hown4 hB4; rw [List.nil_append] at hown4; obtain ⟨a4, c4, rfl⟩ := owns_slice hown4; have HO4 := Lib.hid hown4; have HB4 := Lib.hid hB4; have HR3' := Lib.hid (HR3.out.below hB4); clear hown4 hB4)
          | (at_builtin; refine recS.append w4 rfl _ _ 40 rfl Try.underlying40 w.heap.size (.slice a4 a.length c4) a HO4.out rfl (.slice a3 c.length c3) c HR3'.out rfl (by show (a.length + c.length) * 16 ≤ _; omega) HB4.out.size ?_; intro v5 w5 hown5 hB5; obtain ⟨a5, c5, rfl⟩ := owns_slice hown5; rw [List.length_append] at hown5; have HO5 := Lib.hid hown5; have HB5 := Lib.hid (HB4.out.trans hB5); clear hown5 hB5))
        refine (Ids23_any _ (a ++ c) _ HO5.out.row (by rw [List.length_append]; omega) M1.out).mono ?_
        rintro e w6 ⟨⟨u6, rfl, hown6⟩, hB6⟩
        obtain ⟨a6, c6, rfl⟩ := owns_slice hown6
        have HO6 := Lib.hid hown6
        have HB6 := Lib.hid (HB5.out.trans (hB6.mono HB5.out.size))
        clear hown6 hB6
        go_wp2_with fail
        refine (Groups23_any _ (idsF (a ++ c)) _ HO6.out.row (fun b hb => (HO6.out.lt b hb).2) (by rw [idsF_len, List.length_append]; omega) (all_len (idsF_all _))).mono ?_
        rintro e w7 ⟨hg, hB7⟩
        obtain ⟨u7, rfl, hown7⟩ := g23_good hg (idsF_all _)
        obtain ⟨GA, hGA⟩ : ∃ GA, GA = groups23 (idsF (a ++ c)) := ⟨_, rfl⟩
        rw [← hGA] at hown7
        have hla : GA.length ≤ 120 := by rw [hGA]; have := groups23_le (idsF (a ++ c)); rw [idsF_len, List.length_append] at this; omega
        obtain ⟨a7, c7, rfl, _, hga⟩ := recSp_open hown7.row
        have HGA := Lib.hid hGA
        have HRA := Lib.hid hown7.row
        have HB7 := Lib.hid (HB6.out.trans (hB7.mono HB6.out.size))
        clear hg hB7 hown7 hGA hga
        have HR2' := Lib.hid (HR2.out.below HB7.out)
        have HR3'' := Lib.hid (HR3.out.below HB7.out)
        go_wp2_with (first
          | (at_builtin; refine recS.append w7 rfl _ _ 40 rfl Try.underlying40 w7.heap.size (.slice none 0 0) [] (Rec.Own.nil _ _) rfl (.slice a2 b.length c2) b HR2'.out rfl (by show (0 + b.length) * 16 ≤ _; omega) (Nat.le_refl _) ?_; intro v8 w8 hown8 hB8; rw [List.nil_append] at hown8; obtain ⟨a8, c8, rfl⟩ := owns_slice hown8; have HO8 := Lib.hid hown8; have HB8 := Lib.hid hB8; have HR38 := Lib.hid (HR3''.out.below hB8); clear hown8 hB8)
          | (at_builtin; refine recS.append w8 rfl _ _ 40 rfl Try.underlying40 w7.heap.size (.slice a8 b.length c8) b HO8.out rfl (.slice a3 c.length c3) c HR38.out rfl (by show (b.length + c.length) * 16 ≤ _; omega) HB8.out.size ?_; intro v9 w9 hown9 hB9; obtain ⟨a9, c9, rfl⟩ := owns_slice hown9; rw [List.length_append] at hown9; have HO9 := Lib.hid hown9; have HB9 := Lib.hid (HB8.out.trans hB9); clear hown9 hB9))
        refine (Ids23_any _ (b ++ c) _ HO9.out.row (by rw [List.length_append]; omega) M2.out).mono ?_
        rintro e w10 ⟨⟨u10, rfl, hown10⟩, hB10⟩
        obtain ⟨a10, c10, rfl⟩ := owns_slice hown10
        have HO10 := Lib.hid hown10
        have HB10 := Lib.hid (bt HB9.out hB10)
        clear hown10 hB10
        go_wp2_with fail
        refine (Groups23_any _ (idsF (b ++ c)) _ HO10.out.row (fun b hb => (HO10.out.lt b hb).2) (by rw [idsF_len, List.length_append]; omega) (all_len (idsF_all _))).mono ?_
        rintro e w11 ⟨hg, hB11⟩
        obtain ⟨u11, rfl, hown11⟩ := g23_good hg (idsF_all _)
        obtain ⟨GB, hGB⟩ : ∃ GB, GB = groups23 (idsF (b ++ c)) := ⟨_, rfl⟩
        rw [← hGB] at hown11
        have hlb : GB.length ≤ 120 := by rw [hGB]; have := groups23_le (idsF (b ++ c)); rw [idsF_len, List.length_append] at this; omega
        obtain ⟨a11, c11, rfl, _, hgb⟩ := recSp_open hown11.row
        have HGB := Lib.hid hGB
        have HBF := Lib.hid (HB7.out.trans ((bt HB10.out hB11).mono HB7.out.size))
        obtain ⟨_, _, hv7, _, hga⟩ := recSp_open (HRA.out.below (bt HB10.out hB11))
        injection hv7 with f1 _ f3
        subst f1 f3
        have HCA := Lib.hid hga
        have HCB := Lib.hid hgb
        clear hg hB11 hown11 hGB hga hgb
        go_wp2_with fail
        have o1 : (a.length : Int) ≤ 60 := by omega
        have o2 : (b.length : Int) ≤ 60 := by omega
        have HFA := Lib.hid (show (idsF a).length = a.length from idsF_len a)
        have HFB := Lib.hid (show (idsF b).length = b.length from idsF_len b)
        go_loopw [11, 12, 13] (fun vi vk vm wr => ∃ i k : Nat, ∃ m : Bool, vi = .int .i64 (i : Int) ∧ vk = .int .i64 (k : Int) ∧ vm = .bool m ∧ i ≤ GA.length ∧ k ≤ GB.length ∧ Hid (m = true → Met GA GB (idsF c) a.length b.length i k) ∧ Hid (Below w11.heap.size w11 wr)) (fun vi vk _ _ => (GA.length - (intOf vi).toNat) + (GB.length - (intOf vk).toNat))
        case atStart => exact ⟨0, 0, false, rfl, rfl, rfl, Nat.zero_le _, Nat.zero_le _, fun h => absurd h (by decide), Below.refl _ _⟩
        case round =>
          obtain ⟨i, k, m, rfl, rfl, rfl, hi, hk, HM, HB⟩ := hrel
          by_cases hik : i < GA.length ∧ k < GB.length
          · obtain ⟨hia, hkb⟩ := hik
            obtain ⟨b1, of1, rfl, x1, x2⟩ := HCA.out i hia
            obtain ⟨b2, of2, rfl, y1, y2⟩ := HCB.out k hkb
            have z2 := Below.keeps HB.out x2
            have z4 := Below.keeps HB.out y2
            have i0 : (0 : Int) ≤ (i : Int) := by omega
            have i1 : (i : Int) < (GA.length : Int) := by omega
            have i2 : (0 : Int) ≤ (k : Int) := by omega
            have i3 : (k : Int) < (GB.length : Int) := by omega
            have i4 : (GA.length : Int) ≤ 120 := by omega
            have i5 : (GB.length : Int) ≤ 120 := by omega
            obtain ⟨s, hs⟩ : ∃ s, s = GA[i].2 := ⟨_, rfl⟩
            obtain ⟨t, ht⟩ : ∃ t, t = GB[k].2 := ⟨_, rfl⟩
            rw [← hs] at z2
            rw [← ht] at z4
            have hs1 : s ≤ 120 := by
              rw [hs]
              have hm := (groups23_tiles (idsF (a ++ c))).mem GA[i] (by rw [← HGA.out]; exact List.getElem_mem hia)
              rw [idsF_len, List.length_append] at hm; omega
            have ht1 : t ≤ 120 := by
              rw [ht]
              have hm := (groups23_tiles (idsF (b ++ c))).mem GB[k] (by rw [← HGB.out]; exact List.getElem_mem hkb)
              rw [idsF_len, List.length_append] at hm; omega
            have s2 : (s : Int) ≤ 120 := by omega
            have t2 : (t : Int) ≤ 120 := by omega
            have HS := Lib.hid hs
            have HT := Lib.hid ht
            clear x1 x2 y1 y2 hs ht
            cases m with
            | true =>
              obtain ⟨⟨z, p1, p2⟩, hmet⟩ := (HM.out rfl).step hia hkb
              rw [← HS.out] at p1
              rw [← HT.out] at p2
              have HMET := Lib.hid hmet
              have q1 : ¬ (s : Int) - (a.length : Int) < 0 := by omega
              have q2 : ¬ (t : Int) - (b.length : Int) < 0 := by omega
              have q3 : ((s : Int) - (a.length : Int) == (t : Int) - (b.length : Int)) = true := by rw [beq_iff_eq]; omega
              clear p1 p2 hmet
              go_wp2
              go_quiet (fail)
              go_wp2
              exact ⟨⟨i + 1, k + 1, true, by go_num, by go_num, rfl, by omega, by omega, fun _ => HMET.out, bt HB.out (Below.drewN' _ _)⟩, by simp [intOf]; omega⟩
            | false =>
              by_cases p1 : s < a.length
              · have q1 : (s : Int) - (a.length : Int) < 0 := by omega
                clear p1
                go_wp2
                go_quiet (fail)
                go_wp2
                exact ⟨⟨i + 1, k, false, by go_num, by go_num, rfl, by omega, by omega, fun h => absurd h (by decide), bt HB.out (Below.drewN' _ _)⟩, by simp [intOf]; omega⟩
              · have q1 : ¬ (s : Int) - (a.length : Int) < 0 := by omega
                have r1 : (0 : Int) ≤ (s : Int) - (a.length : Int) := by omega
                by_cases p2 : t < b.length
                · have q2 : (t : Int) - (b.length : Int) < 0 := by omega
                  clear p1 p2
                  go_wp2
                  go_quiet (fail)
                  go_wp2
                  exact ⟨⟨i, k + 1, false, by go_num, by go_num, rfl, by omega, by omega, fun h => absurd h (by decide), bt HB.out (Below.drewN' _ _)⟩, by simp [intOf]; omega⟩
                · have q2 : ¬ (t : Int) - (b.length : Int) < 0 := by omega
                  have r2 : (0 : Int) ≤ (t : Int) - (b.length : Int) := by omega
                  by_cases p3 : s + b.length = t + a.length
                  · have q3 : ((s : Int) - (a.length : Int) == (t : Int) - (b.length : Int)) = true := by rw [beq_iff_eq]; omega
                    have HMET := Lib.hid (Met.first2 HGA.out HGB.out hia hkb (s - a.length) (by rw [← HS.out]; omega) (by rw [← HT.out]; omega))
                    clear p1 p2 p3
                    go_wp2
                    go_quiet (fail)
                    go_wp2
                    exact ⟨⟨i + 1, k + 1, true, by go_num, by go_num, rfl, by omega, by omega, fun _ => HMET.out, bt HB.out (Below.drewN' _ _)⟩, by simp [intOf]; omega⟩
                  · have q3 : ((s : Int) - (a.length : Int) == (t : Int) - (b.length : Int)) = false := by rw [beq_eq_false_iff_ne]; omega
                    by_cases p4 : s + b.length < t + a.length
                    · have q4 : (s : Int) - (a.length : Int) < (t : Int) - (b.length : Int) := by omega
                      clear p1 p2 p3 p4
                      go_wp2
                      go_quiet (fail)
                      go_wp2
                      exact ⟨⟨i + 1, k, false, by go_num, by go_num, rfl, by omega, by omega, fun h => absurd h (by decide), bt HB.out (Below.drewN' _ _)⟩, by simp [intOf]; omega⟩
                    · have q4 : ¬ (s : Int) - (a.length : Int) < (t : Int) - (b.length : Int) := by omega
                      have r4 : (t : Int) - (b.length : Int) ≤ (s : Int) - (a.length : Int) := by omega
                      clear p1 p2 p3 p4
                      go_wp2
                      go_quiet (fail)
                      go_wp2
                      exact ⟨⟨i, k + 1, false, by go_num, by go_num, rfl, by omega, by omega, fun h => absurd h (by decide), bt HB.out (Below.drewN' _ _)⟩, by simp [intOf]; omega⟩
          · have hend : m = true → i = GA.length ∧ k = GB.length := fun h => by have := (HM.out h).len; omega
            have HE := Lib.hid hend
            clear hend
            by_cases hia : i < GA.length
            · have hkb : k = GB.length := by omega
              have i1 : (i : Int) < (GA.length : Int) := by omega
              have i3 : ¬ (k : Int) < (GB.length : Int) := by omega
              cases m with
              | true => have := (HE.out rfl).1; omega
              | false =>
                subst hkb
                clear hik
                go_wp2_with fail
                refine (alive23 _).mono ?_
                rintro e w12 ⟨rfl, hB12⟩
                go_wp2_with fail
                go_ret
                exact ⟨rfl, HBF.out.trans ((bt HB.out hB12).mono HBF.out.size)⟩
            · obtain rfl : i = GA.length := by omega
              clear hik
              cases m with
              | true =>
                obtain rfl : k = GB.length := (HE.out rfl).2
                go_wp2_with fail
                refine (alive23 _).mono ?_
                rintro e w12 ⟨rfl, hB12⟩
                go_wp2_with fail
                go_ret
                exact ⟨rfl, HBF.out.trans ((bt HB.out hB12).mono HBF.out.size)⟩
              | false =>
                go_wp2_with fail
                refine (alive23 _).mono ?_
                rintro e w12 ⟨rfl, hB12⟩
                go_wp2_with fail
                go_ret
                exact ⟨rfl, HBF.out.trans ((bt HB.out hB12).mono HBF.out.size)⟩
end Go.Proofs.Ytahmacnmphjhgaa
namespace Go.Proofs.Ytahmacnmphjhgaa
open Go.ChangeShapes Go.WideShapes Go.ChangeAt Go.RowKit Oct
open Go.ChangeMaps (open_string shut_string)

theorem u64_nat {a : Int} (h : (Lit.int .u64 a).wf = true) : ∃ n : Nat, a = (n : Int) ∧ n < 18446744073709551616 := by
  have h2 : 0 ≤ a ∧ a < 18446744073709551616 := by
    have := bounds_u64 h; omega
  exact ⟨a.toNat, by omega, by omega⟩

section
variable {P : Program} {H : Type} {enc : TypeId × Value → H} {W : World} {base : Nat}
theorem open_str {t j : Nat} {v : Value} {d : DataW H} {ps : List MemPlace} {ts : List TypeId} {ds : List (DataW H)} (ht : P.underlying t = some .string) (hv : Value.okWide P W .any base t v)
    (h : DataW.Trod enc P W 0 (fun _ => true) true t v d ps) (hsz : (DataW.weightsEach P ts ds).all (· ≤ reachBytes) = true) (hj : ts[j]? = some t) (hd : ds[j]? = some d) :
    ∃ l : List UInt8, v = .string (bs l) ∧ l.length ≤ 140737488355328 := by
  obtain ⟨s, rfl, rfl, _, _⟩ := open_string ht hv h
  refine ⟨s.data.toList, by rw [bs_of], ?_⟩
  have := sized_string hsz hj hd
  have h2 := reachBytes_lt
  omega

theorem weights_strs (e : TypeId) : ∀ (ss : List ByteArray) (s : ByteArray), s ∈ ss → s.data.toList.length ∈ DataW.weightsAll (H := H) P e (strs ss)
  | [], _, h => by simp at h
  | x :: ss, s, h => by
    have hx : strs (H := H) (x :: ss) = DataW.lit (.string x.data.toList) :: strs ss := rfl
    rw [hx, DataW.weightsAll]
    rcases List.mem_cons.1 h with rfl | h
    · simp [DataW.weights]
    · exact List.mem_append.2 (.inr (weights_strs e ss s h))
theorem add_cell {w : World} {a : Addr} {i : Nat} {u : Value} (h : w.cell? (a.add i) = some u) : a.add i = ⟨a.block, a.off + i, none⟩ := by
  unfold Addr.add at h ⊢
  split
  · rename_i hi
    rw [if_pos hi] at h
    subst hi
    cases a with
    | mk b o sp =>
      cases sp with
      | none => rfl
      | some x => exfalso; revert h; simp only [World.cell?]; split <;> simp
  · rfl
theorem open_texts {t e j : Nat} {v : Value} {d : DataW H} {ps : List MemPlace} {ts : List TypeId} {ds : List (DataW H)} (ht : P.underlying t = some (.slice e)) (he : P.underlying e = some .string) (hc : P.cellsOf e = 1) (hby : P.bytesOf e = 16)
    (hv : Value.okWide P W .any base t v) (h : DataW.Trod enc P W 0 (fun _ => true) true t v d ps) (hsz : (DataW.weightsEach P ts ds).all (· ≤ reachBytes) = true) (hj : ts[j]? = some t) (hd : ds[j]? = some d) :
    ∃ r : List (List UInt8), Reads W v r.length (tcells r) ∧ r.length ≤ 140737488355328 ∧ ∀ l ∈ r, l.length ≤ 140737488355328 := by
  have h47 := reachBytes_lt
  obtain ⟨a0, len, cap, rfl⟩ := okWide_slice ht hv
  obtain ⟨fuel, hf⟩ := h
  rcases open_strings ht he hc hf with ⟨hcs, hx⟩ | ⟨a, len', cap', ss, hcs, _, hl, hm, hz, hx, hcell, hws⟩
  · simp [Value.cells] at hcs
    obtain ⟨rfl, rfl, rfl⟩ := hcs
    exact ⟨[], Reads.nil _, by simp, by simp⟩
  · simp [Value.cells] at hcs
    obtain ⟨rfl, rfl, rfl⟩ := hcs
    simp at hz
    simp only [Prod.mk.injEq] at hx
    have hd2 := hx.1
    subst hd2
    have s1 := sized_slice hsz hj hd ht
    rw [hby] at s1
    simp only [strs, List.length_map, List.length_take, List.length_drop] at s1
    have hlen : (ss.take len).length = len := by simp; omega
    refine ⟨(ss.take len).map fun s => s.data.toList, ?_, ?_, ?_⟩
    · refine ⟨some a, cap, by rw [List.length_map, hlen], by simp, fun i u hu => ?_⟩
      have hi : i < len := by
        rcases Nat.lt_or_ge i len with h | h
        · exact h
        · rw [List.getElem?_eq_none (by simp [tcells]; omega)] at hu; simp at hu
      have hcl := hcell i (by omega)
      have e1 := add_cell hcl
      have e2 : a = ⟨a.block, a.off, none⟩ := by
        have h0 := add_cell (hcell 0 (by omega))
        simpa [Addr.add] using h0
      rw [e1] at hcl
      refine ⟨a.block, a.off, by rw [← e2], ?_⟩
      rw [hcl, ← hu]
      have hss : i < ss.length := by omega
      simp [tcells, List.getElem?_take, hi, hss, bs_of, List.getD]
    · simp; omega
    · intro l hl
      obtain ⟨s, hs, rfl⟩ := List.mem_map.1 hl
      have hin : s.data.toList.length ∈ DataW.weightsEach P ts ds := by
        refine DataW.weights_mem_each hj hd _ ?_
        simp only [DataW.weights, ht]
        exact List.mem_cons.2 (.inr (List.mem_append.2 (.inl (weights_strs e _ s hs))))
      have := List.all_eq_true.1 hsz _ hin
      simp at this
      simp
      omega
end
end Go.Proofs.Ytahmacnmphjhgaa
namespace Go.Proofs.Ytahmacnmphjhgaa
open Go.ChangeShapes Go.WideShapes Go.ChangeAt Go.RowKit Oct
open Go.ChangeMaps (open_string shut_string)

section
variable {P : Program} {H : Type} {enc : TypeId × Value → H} {W : World} {α β γ : Type}

/-- whatever the cells of a type read as, they hold an x; its measure is at most the datum's bulk -/
def Opens (enc : TypeId × Value → H) (P : Program) (W : World) (t : TypeId) (mu : α → Nat) (He : List Value → α → Prop) : Prop :=
  ∀ n cs d ps, DataW.trod enc P W 0 (fun _ => true) true n t cs = some (d, ps) → (∀ x ∈ d.weights P t, x ≤ reachBytes) → ∃ x, He cs x ∧ mu x ≤ Rows.uptoBulk d
theorem bulk_range (D : Nat → DataW H) (f : Nat → α) (mu : α → Nat) : ∀ n, (∀ i, i < n → mu (f i) ≤ Rows.uptoBulk (D i)) → (((List.range n).map f).map mu).sum ≤ Rows.uptoBulkAll ((List.range n).map D)
  | 0, _ => by simp
  | n + 1, h => by
    have ih := bulk_range D f mu n (fun i hi => h i (by omega))
    have app : ∀ (l r : List (DataW H)), Rows.uptoBulkAll (l ++ r) = Rows.uptoBulkAll l + Rows.uptoBulkAll r := by
      intro l r
      induction l with
      | nil => simp [Rows.uptoBulkAll]
      | cons x l ih => simp only [List.cons_append, Rows.uptoBulkAll, ih]; omega
    have := h n (by omega)
    simp only [List.range_succ, List.map_append, List.sum_append, app, List.map_cons, List.map_nil, List.sum_cons, List.sum_nil, Rows.uptoBulkAll]
    omega

theorem Opens.imp {t : TypeId} {mu : α → Nat} {He He' : List Value → α → Prop} (h : Opens enc P W t mu He) (hi : ∀ cs x, He cs x → He' cs x) : Opens enc P W t mu He' := by
  intro n cs d ps hd hw
  obtain ⟨x, hx, hb⟩ := h n cs d ps hd hw
  exact ⟨x, hi _ _ hx, hb⟩
/-- v is a row of elements of 'size' cells -/
def SliceOf (W : World) (size : Nat) (He : List Value → α → Prop) (v : Value) (xs : List α) : Prop :=
  ∃ a cap, v = .slice a xs.length cap ∧ xs.length ≤ cap ∧ (a = none → xs.length = 0 ∧ cap = 0) ∧
    ∀ k (h : k < xs.length), ∃ b off cs, a = some ⟨b, off, none⟩ ∧ cs.length = size ∧ (∀ j u, cs[j]? = some u → W.cell? ⟨b, off + k * size + j, none⟩ = some u) ∧ He cs xs[k]

theorem weights_all_mem (e : TypeId) : ∀ (ds : List (DataW H)) (d : DataW H), d ∈ ds → ∀ x ∈ d.weights P e, x ∈ DataW.weightsAll P e ds
  | [], _, h => by simp at h
  | d0 :: ds, d, h => by
    intro x hx
    rw [DataW.weightsAll]
    rcases List.mem_cons.1 h with rfl | h
    · exact List.mem_append.2 (.inl hx)
    · exact List.mem_append.2 (.inr (weights_all_mem e ds d h x hx))

theorem opens_str {t : TypeId} (ht : P.underlying t = some .string) : Opens enc P W t (fun l : List UInt8 => l.length + 1) fun cs (l : List UInt8) => cs = [.string (bs l)] ∧ l.length ≤ 140737488355328 := by
  intro n cs d ps h hw
  obtain ⟨s, rfl, hx, _⟩ := DataW.trod_string ht h
  simp only [Prod.mk.injEq] at hx
  obtain ⟨rfl, rfl⟩ := hx
  have := hw s.data.toList.length (by simp [DataW.weights])
  have h2 := reachBytes_lt
  exact ⟨s.data.toList, ⟨by rw [bs_of], by omega⟩, by simp [Rows.uptoBulk]⟩
theorem opens_int {t : TypeId} {k : IntKind} (ht : P.underlying t = some (.int k)) : Opens enc P W t (fun _ => 1) fun cs (a : Int) => cs = [.int k a] ∧ (Lit.int k a).wf = true := by
  intro n cs d ps h hw
  obtain ⟨a, rfl, hx, hwf⟩ := DataW.trod_int ht h
  simp only [Prod.mk.injEq] at hx
  obtain ⟨rfl, rfl⟩ := hx
  exact ⟨a, ⟨rfl, hwf⟩, by simp [Rows.uptoBulk]⟩
theorem opens_struct2 {t : TypeId} {f0 f1 : Field} {c0 c1 : Nat} {m0 : α → Nat} {m1 : β → Nat} {H0 : List Value → α → Prop} {H1 : List Value → β → Prop} (ht : P.underlying t = some (.struct #[f0, f1])) (hc : P.cellsOf t = c0 + c1)
    (hc0 : P.cellsOf f0.type = c0) (hc1 : P.cellsOf f1.type = c1) (o0 : f0.offset = 0) (o1 : f1.offset = c0)
    (h0 : Opens enc P W f0.type m0 H0) (h1 : Opens enc P W f1.type m1 H1) : Opens enc P W t (fun p => m0 p.1 + m1 p.2 + 1) fun cs (p : α × β) => ∃ cs0 cs1, cs = cs0 ++ cs1 ∧ cs0.length = c0 ∧ cs1.length = c1 ∧ H0 cs0 p.1 ∧ H1 cs1 p.2 := by
  intro n cs d ps h hw
  obtain ⟨y0, y1, m, hx, hl, e0, e1⟩ := trod_struct2 ht h
  simp only [Prod.mk.injEq] at hx
  obtain ⟨rfl, rfl⟩ := hx
  have hw' : ∀ x, x ∈ y0.1.weights P f0.type ∨ x ∈ y1.1.weights P f1.type → x ≤ reachBytes := by
    intro x hx
    refine hw x ?_
    simp only [DataW.weights, ht, DataW.weightsEach, List.map_cons, List.mem_append]
    rcases hx with hx | hx
    · exact .inl hx
    · exact .inr (.inl hx)
  obtain ⟨x0, k0, b0⟩ := h0 _ _ _ _ e0 (fun x hx => hw' x (.inl hx))
  obtain ⟨x1, k1, b1⟩ := h1 _ _ _ _ e1 (fun x hx => hw' x (.inr hx))
  rw [o0, hc0, List.drop_zero] at k0
  rw [o1, hc1] at k1
  refine ⟨(x0, x1), ⟨cs.take c0, (cs.drop c0).take c1, ?_, ?_, ?_, k0, k1⟩, by simp only [Rows.uptoBulk, Rows.uptoBulkAll]; omega⟩
  · have : (cs.drop c0).take c1 = cs.drop c0 := List.take_of_length_le (by simp; omega)
    rw [this, List.take_append_drop]
  · simp; omega
  · simp; omega
theorem opens_slice {t e : TypeId} {size : Nat} {mu : α → Nat} {He : List Value → α → Prop} (ht : P.underlying t = some (.slice e)) (hc : P.cellsOf e = size) (hpos : 0 < size) (he : Opens enc P W e mu He) :
    Opens enc P W t (fun xs => (xs.map mu).sum + 1) fun cs (xs : List α) => ∃ v, cs = [v] ∧ SliceOf W size He v xs ∧ xs.length * P.bytesOf e ≤ reachBytes := by
  intro n cs d ps h hw
  rcases Deep.open_slice ht h with ⟨rfl, hx⟩ | ⟨a, len, cap, m, n', D, Pl, rfl, _, hl, hm, hmm, hx, hcell⟩
  · simp only [Prod.mk.injEq] at hx
    obtain ⟨rfl, _⟩ := hx
    exact ⟨[], ⟨_, rfl, ⟨none, 0, rfl, Nat.le_refl _, fun _ => ⟨rfl, rfl⟩, fun k hk => by simp at hk⟩, by simp⟩, by simp [Rows.uptoBulk]⟩
  · simp only [Prod.mk.injEq] at hx
    obtain ⟨rfl, _⟩ := hx
    simp only [if_true] at hmm
    subst hmm
    have hin : ∀ i, i < len → ∀ x ∈ (D i).weights P e, x ≤ reachBytes := by
      intro i hi x hx
      refine hw x ?_
      simp only [DataW.weights, ht]
      exact List.mem_cons.2 (.inr (List.mem_append.2 (.inl (weights_all_mem e _ (D i) (List.mem_map.2 ⟨i, by simpa using hi, rfl⟩) x hx))))
    have each : ∀ i, i < len → ∃ x : α, (∃ cs', W.cells? 0 (a.add (i * size)) size = some cs' ∧ He cs' x) ∧ mu x ≤ Rows.uptoBulk (D i) := by
      intro i hi
      obtain ⟨cs', h1, h2⟩ := hcell i (by omega)
      rw [hc] at h1
      obtain ⟨x, hx, hb⟩ := he _ _ _ _ h2 (hin i hi)
      exact ⟨x, ⟨cs', h1, hx⟩, hb⟩
    have hlen := hw ((len + (m - len)) * P.bytesOf e) (by simp [DataW.weights, ht])
    have hlb : len * P.bytesOf e ≤ (len + (m - len)) * P.bytesOf e := Nat.mul_le_mul_right _ (by omega)
    by_cases h0 : len = 0
    · subst h0
      exact ⟨[], ⟨_, rfl, ⟨some a, m, rfl, Nat.zero_le _, by simp, fun k hk => by simp at hk⟩, by simp⟩, by simp [Rows.uptoBulk]⟩
    obtain ⟨x0, _⟩ := each 0 (by omega)
    haveI : Inhabited α := ⟨x0⟩
    obtain ⟨f, hf⟩ := Deep.choose_lt each
    have haddr : a = ⟨a.block, a.off, none⟩ := by
      obtain ⟨⟨cs', h1, _⟩, _⟩ := hf 0 (by omega)
      obtain ⟨_, hl', hcs⟩ := World.cells?_some h1
      have h2 := hcs 0 (by omega)
      rw [Nat.zero_mul] at h2
      have h3 : ∃ u, cs'[0]? = some u := ⟨cs'[0]'(by omega), List.getElem?_eq_getElem _⟩
      obtain ⟨u, hu⟩ := h3
      rw [hu] at h2
      have := add_cell (a := a.add 0) (i := 0) h2
      simpa [Addr.add] using this
    have hbulk := bulk_range D f mu len (fun i hi => (hf i hi).2)
    refine ⟨(List.range len).map f, ⟨_, rfl, ⟨some a, m, by simp, by simpa using hl, by simp, ?_⟩, ?_⟩, by simp only [Rows.uptoBulk]; omega⟩
    · intro k hk
      have hk' : k < len := by simpa using hk
      obtain ⟨⟨cs', h1, hHe⟩, _⟩ := hf k hk'
      obtain ⟨_, hl', hcs⟩ := World.cells?_some h1
      refine ⟨a.block, a.off, cs', by rw [← haddr], hl', ?_, by simpa using hHe⟩
      intro j u hj
      have hjl : j < size := by
        rcases Nat.lt_or_ge j size with h | h
        · exact h
        · rw [List.getElem?_eq_none (by omega)] at hj; cases hj
      have h2 := hcs j hjl
      rw [haddr, hj, Addr.add_lit, Addr.add_lit] at h2
      rw [← h2]
    · simp only [List.length_map, List.length_range]; omega

theorem open_any {t j : Nat} {v : Value} {d : DataW H} {ps : List MemPlace} {ts : List TypeId} {ds : List (DataW H)} {mu : α → Nat} {He : List Value → α → Prop} (ho : Opens enc P W t mu He)
    (h : DataW.Trod enc P W 0 (fun _ => true) true t v d ps) (hsz : (DataW.weightsEach P ts ds).all (· ≤ reachBytes) = true) (hj : ts[j]? = some t) (hd : ds[j]? = some d) : ∃ x, He v.cells.toList x ∧ mu x ≤ Rows.uptoBulk d := by
  obtain ⟨fuel, hf⟩ := h
  refine ho _ _ _ _ hf fun x hx => ?_
  simpa using List.all_eq_true.1 hsz x (DataW.weights_mem_each hj hd x hx)
theorem cells_slice {base : Nat} {t e : TypeId} {v v' : Value} (ht : P.underlying t = some (.slice e)) (hv : Value.okWide P W .any base t v) (h : v.cells.toList = [v']) : v = v' := by
  obtain ⟨a0, len, cap, rfl⟩ := okWide_slice ht hv
  simpa [Value.cells] using h
end
end Go.Proofs.Ytahmacnmphjhgaa
namespace Go.Proofs.Ytahmacnmphjhgaa
open Go.ChangeShapes Go.WideShapes Go.ChangeAt Go.RowKit Oct

section
variable {H : Type} {enc : TypeId × Value → H} {W : World}
theorem rec_of {α : Type} (R : Rec α) {He : List Value → α → Prop} (hcs0 : ∀ cs x, He cs x → cs = R.cell x) {v : Value} {xs : List α} (h : SliceOf W R.n He v xs) : R.Row W v xs ∧ ∀ x ∈ xs, ∃ cs, He cs x := by
  obtain ⟨a, cap, rfl, hle, hn, hc⟩ := h
  have hpos := R.pos
  refine ⟨⟨⟨a, cap, rfl, hn, ?_⟩, a, cap, rfl, hle⟩, ?_⟩
  · intro j u hj
    have hjl : j < xs.length * R.n := by
      rcases Nat.lt_or_ge j (xs.length * R.n) with h | h
      · exact h
      · rw [List.getElem?_eq_none (by rw [Rec.cells_length]; exact h)] at hj; cases hj
    have hk : j / R.n < xs.length := Nat.div_lt_of_lt_mul (by rw [Nat.mul_comm]; exact hjl)
    obtain ⟨b, off, cs, ha, hl, hcell, hcs⟩ := hc (j / R.n) hk
    obtain rfl := hcs0 _ _ hcs
    refine ⟨b, off, ha, ?_⟩
    have hm : j % R.n < R.n := Nat.mod_lt _ hpos
    have hu : (R.cell xs[j / R.n])[j % R.n]? = some ((R.cell xs[j / R.n])[j % R.n]'(by rw [R.len]; exact hm)) := List.getElem?_eq_getElem _
    have h1 := R.cells_at xs (j / R.n) hk (j % R.n) _ hu
    have e : j / R.n * R.n + j % R.n = j := Nat.div_add_mod' j R.n
    rw [e, hj] at h1
    have h2 := hcell (j % R.n) _ hu
    rw [← Option.some.inj h1, Nat.add_assoc, e] at h2
    exact h2
  · intro p hp
    obtain ⟨k, hk, rfl⟩ := List.getElem_of_mem hp
    obtain ⟨_, _, cs, _, _, _, h⟩ := hc k hk
    exact ⟨cs, h⟩
set_option maxRecDepth 100000 in
theorem open_strs {base j : Nat} {v : Value} {d : DataW H} {ps : List MemPlace} {ts : List TypeId} {ds : List (DataW H)}
    (hv : Value.okWide Try.prog W .any base 40 v) (h : DataW.Trod enc Try.prog W 0 (fun _ => true) true 40 v d ps) (hsz : (DataW.weightsEach Try.prog ts ds).all (· ≤ reachBytes) = true) (hj : ts[j]? = some 40) (hd : ds[j]? = some d) :
    ∃ l : List (List UInt8), recS.Row W v l ∧ l.length ≤ 140737488355328 ∧ ∀ s ∈ l, s.length ≤ 140737488355328 := by
  have ho : Opens enc Try.prog W 40 _ _ := opens_slice (size := 1) Try.underlying40 (by kernel_rfl) (by decide) (opens_str Try.underlying9)
  obtain ⟨l, ⟨v', hcs, h1, h2⟩, _⟩ := open_any ho h hsz hj hd
  obtain rfl := cells_slice Try.underlying40 hv hcs
  have hby : Try.prog.bytesOf 9 = 16 := by kernel_rfl
  rw [hby] at h2
  have h3 := reachBytes_lt
  obtain ⟨h4, h5⟩ := rec_of recS (fun cs x h => h.1) h1
  exact ⟨l, h4, by omega, fun s hs => by obtain ⟨cs, _, h⟩ := h5 s hs; exact h⟩
end
end Go.Proofs.Ytahmacnmphjhgaa
