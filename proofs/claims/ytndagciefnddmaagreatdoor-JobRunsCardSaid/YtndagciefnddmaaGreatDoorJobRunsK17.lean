/- Lemmas for JobRuns, part 17: walks of the functions that it reaches, and the plain laws behind them. -/
import Derived.Lib.Builder
import Derived.ProofKit
import Derived.OpenShut
import Derived.ShutString
import Derived.ChangeOld
import Derived.SizedLaws
import Derived.SliceStrings
import Derived.Test.YtndagciefnddmaaGreatDoorJobRunsK1
import Derived.Test.YtndagciefnddmaaGreatDoorJobRunsK2
import Derived.Test.YtndagciefnddmaaGreatDoorJobRunsK5
import Derived.Test.YtndagciefnddmaaGreatDoorJobRunsK13
import Derived.Test.YtndagciefnddmaaGreatDoorJobRunsK16
set_option linter.unusedSimpArgs false
set_option linter.unusedVariables false
namespace Go.Proofs.YtndagciefnddmaaGreatDoor
open Go.RowKit Oct
attribute [local irreducible] wpG
def PgJ (w : World) (base k i : Nat) (t c : Value) (T : List (List UInt8)) (C : List VI) : Prop := if i < k then recS.Own w base t T ∧ recIns.Own w base c C else t = .slice none 0 0 ∧ c = .slice none 0 0
theorem PgJ.below {w w' : World} {base k i : Nat} {t c : Value} {T : List (List UInt8)} {C : List VI} (h : PgJ w base k i t c T C) (hB : Below w.heap.size w w') : PgJ w' base k i t c T C := by
  unfold PgJ at h ⊢
  split at h
  · rename_i h1; rw [if_pos h1]; exact ⟨h.1.below hB, h.2.below hB⟩
  · rename_i h1; rw [if_neg h1]; exact h
theorem PgJ.chg {X : Nat → Prop} {w w' : World} {base k i : Nat} {t c : Value} {T : List (List UInt8)} {C : List VI} (h : PgJ w base k i t c T C) (hc : Chg X w w') (hX : ∀ b, X b → b < base) : PgJ w' base k i t c T C := by
  unfold PgJ at h ⊢
  split at h
  · rename_i h1; rw [if_pos h1]
    exact ⟨h.1.chgV hc (fun b hb hx => absurd (hX b hx) (Nat.not_lt.2 (h.1.lt b hb).1)), h.2.chgV hc (fun b hb hx => absurd (hX b hx) (Nat.not_lt.2 (h.2.lt b hb).1))⟩
  · rename_i h1; rw [if_neg h1]; exact h
theorem PgJ.up {w : World} {base k k' i : Nat} {t c : Value} {T : List (List UInt8)} {C : List VI} (h : PgJ w base k i t c T C) (hk : (i < k ↔ i < k')) : PgJ w base k' i t c T C := by
  unfold PgJ at h ⊢
  by_cases h1 : i < k
  · rw [if_pos h1] at h; rw [if_pos (hk.1 h1)]; exact h
  · rw [if_neg h1] at h; rw [if_neg (fun q => h1 (hk.2 q))]; exact h
theorem PgJ.no {w : World} {base k i : Nat} {t c : Value} {T : List (List UInt8)} {C : List VI} (h : PgJ w base k i t c T C) (hk : ¬ i < k) : t = .slice none 0 0 ∧ c = .slice none 0 0 := by
  unfold PgJ at h; rw [if_neg hk] at h; exact h
theorem PgJ.yes {w : World} {base k i : Nat} {t c : Value} {T : List (List UInt8)} {C : List VI} (h : PgJ w base k i t c T C) (hk : i < k) : recS.Own w base t T ∧ recIns.Own w base c C := by
  unfold PgJ at h; rw [if_pos hk] at h; exact h
theorem PgJ.of {w : World} {base k i : Nat} {t c : Value} {T : List (List UInt8)} {C : List VI} (h1 : recS.Own w base t T) (h2 : recIns.Own w base c C) (hk : i < k) : PgJ w base k i t c T C := by
  unfold PgJ; rw [if_pos hk]; exact ⟨h1, h2⟩
theorem PgJ.sl {w : World} {base k i : Nat} {t c : Value} {T : List (List UInt8)} {C : List VI} (h : PgJ w base k i t c T C) : ∃ a n m b p q, t = .slice a n m ∧ c = .slice b p q := by
  by_cases hk : i < k
  · obtain ⟨a, m, h1⟩ := owns_slice (h.yes hk).1
    obtain ⟨b, q, h2⟩ := owns_slice (h.yes hk).2
    exact ⟨_, _, _, _, _, _, h1, h2⟩
  · obtain ⟨h1, h2⟩ := h.no hk
    exact ⟨_, _, _, _, _, _, h1, h2⟩
theorem mayV_askJ {t : List (List UInt8)} {c : List VI} (h : mayV t c = true) : t.length ≤ 1000 ∧ c.length ≤ 5000 ∧ ∀ s ∈ t, s.length ≤ 140737488355328 := by
  have hm := mayV_textsM h
  unfold mayV at h
  simp only [Bool.and_eq_true, decide_eq_true_eq] at h
  obtain ⟨⟨⟨h1, h2⟩, -⟩, -⟩ := h
  exact ⟨Nat.le_trans h1 (by decide), Nat.le_trans h2 (by decide), fun s hs => Nat.le_trans (hm s hs) (by decide)⟩
def rsJ (j : Jb) : Nat → List UInt8
  | 0 => progB j.mt j.mc ++ (progB j.jt j.jc ++ (progB j.tt j.tc ++ []))
  | 1 => progB j.jt j.jc ++ (progB j.tt j.tc ++ [])
  | 2 => progB j.tt j.tc ++ []
  | _ => []
theorem rsJ_put (j : Jb) : putJ j = headB j ++ rsJ j 0 := by unfold putJ rsJ; simp
def GetJR (B : Nat) (j : Jb) (e : Ending) (w : World) : Prop := ∃ t1 c1 t2 c2 t3 c3, e = .returned (.tuple #[jobV t1 c1 t2 c2 t3 c3 j, .int .i64 0]) ∧ JobR w t1 c1 t2 c2 t3 c3 j
set_option maxRecDepth 100000 in
set_option maxHeartbeats 16000000 in
theorem jGet_put (j : Jb) (w : World) (hm : mayJ j = true) (hE : EffM w) (hg : 1 < w.heap.size) (hGl : GlobV w) :
    Calls Tryz.prog 44 #[.string (bs (putJ j))] w fun e w' => GetJR w.heap.size j e w' ∧ Below w.heap.size w w' := by
  obtain ⟨m1, m2, m3⟩ := mayJ_all hm
  obtain ⟨-, hp1, hp2, hf1, hf2⟩ := mayJ_ok hm
  have l1 := putCJ_len m1
  have l2 := putCJ_len m2
  have l3 := putCJ_len m3
  have b1 := progB_len m1
  have b2 := progB_len m2
  have b3 := progB_len m3
  have HEG := Lib.hid (fun w' (hB : Below w.heap.size w w') => (⟨hE.below hB hg, Nat.lt_of_lt_of_le hg hB.size, hGl.below hB⟩ : EffM w' ∧ 1 < w'.heap.size ∧ GlobV w'))
  have HGP := Lib.hid (fun (t : List (List UInt8)) (c : List VI) (h : mayV t c = true) w' => show Calls Tryz.prog 63 #[.string (bs (putC t c))] w' fun e w'' => (∃ tv cv, e = .returned (.tuple #[.agg #[tv, cv], .int .i64 0]) ∧ recS.Own w'' w'.heap.size tv t ∧ recIns.Own w'' w'.heap.size cv c) ∧ Below w'.heap.size w' w'' by
    have h2 := Get_any (putC t c) w' (Nat.le_trans (putCJ_len h) (by decide))
    unfold GetR at h2
    rw [getC_put h] at h2
    exact h2)
  obtain ⟨s, hs⟩ : ∃ s, s = putJ j := ⟨_, rfl⟩
  obtain ⟨pb, hpb⟩ : ∃ pb : UInt8, (pb.toNat : Int) = j.parts := ⟨UInt8.ofNat j.parts.toNat, by rw [UInt8.toNat_ofNat']; omega⟩
  obtain ⟨fn, hfn⟩ : ∃ fn : Nat, (fn : Int) = j.fuel := ⟨j.fuel.toNat, by omega⟩
  have hfl : fn < 4294967296 := by omega
  have hhd : headB j = pb :: num fn 4 := by
    unfold headB
    rw [← hpb, ← hfn]
    simp
  have hs2 : s = pb :: (num fn 4 ++ rsJ j 0) := by rw [hs, rsJ_put, hhd]; rfl
  have hrl : (rsJ j 0).length ≤ 6100 ∧ (rsJ j 1).length ≤ 6100 ∧ (rsJ j 2).length ≤ 6100 := by
    unfold rsJ
    simp only [List.length_append, List.length_nil]
    omega
  have hsl : s.length = 5 + (rsJ j 0).length := by rw [hs2, List.length_cons, List.length_append, num_length]; omega
  have HS5 := Lib.hid (show s.drop 5 = rsJ j 0 by rw [hs2]; exact List.drop_left' (l₁ := pb :: num fn 4) (by rw [List.length_cons, num_length]))
  have HG4 := Lib.hid (fun w' => show Calls Tryz.prog 61 #[.string (bs (s.tail.take 4))] w' fun e w'' => e = .returned (.tuple #[.int .u64 (fn : Int), .int .i64 0]) ∧ w' = w'' by
    have e4 : s.tail.take 4 = num fn 4 := by rw [hs2, List.tail_cons]; exact List.take_left' (num_length _ _)
    have h := Get01_any (bs (s.tail.take 4)) w' (by rw [bs_size, e4, num_length]; decide)
    rw [show (bs (s.tail.take 4)).data.toList = num fn 4 by rw [e4]; simp [bs], get_ok (num fn 4) (by rw [num_length]; decide) (by rw [num_length]; decide), val_num, mod4J hfl] at h
    exact h)
  obtain ⟨RL, hRL⟩ : ∃ RL, RL = (rsJ j 0).length := ⟨_, rfl⟩
  have i1 : (s.length : Int) = 5 + (RL : Int) := by omega
  have i2 : (RL : Int) ≤ 6100 := by omega
  have i3 : ¬ (s.length : Int) < 5 := by omega
  have hs0 : s[0]? = some pb := by rw [hs2]; rfl
  have hs00 : ∀ h : 0 < s.length, wrap64 ((s[0]'h).toNat : Int) = (pb.toNat : Int) := fun h => by
    have e : s[0]'h = pb := (List.getElem?_eq_some_iff.1 hs0).2
    rw [e]
    have := pb.toNat_lt
    unfold wrap64
    omega
  have aw : IntKind.i64.wrap (fn : Int) = (fn : Int) := by simp [IntKind.wrap, IntKind.bits, IntKind.signed]; omega
  have HPB := Lib.hid hpb
  have HFN := Lib.hid hfn
  have HRL := Lib.hid hrl
  have HM := Lib.hid (show mayV j.mt j.mc = true ∧ mayV j.jt j.jc = true ∧ mayV j.tt j.tc = true from ⟨m1, m2, m3⟩)
  have HL := Lib.hid (show (putC j.mt j.mc).length ≤ 2000 ∧ (putC j.jt j.jc).length ≤ 2000 ∧ (putC j.tt j.tc).length ≤ 2000 from ⟨l1, l2, l3⟩)
  have HMJ := Lib.hid hm
  rw [← hs]
  clear hRL hs hs2 hhd hpb hfn hfl hrl hsl m1 m2 m3 l1 l2 l3 b1 b2 b3 hp1 hp2 hf1 hf2 hm hE hg hGl
  obtain ⟨Z, hZ⟩ : ∃ Z, Z = w.heap.size := ⟨_, rfl⟩
  obtain ⟨W1, hW1⟩ : ∃ W1, W1 = w.alloc (.cells #[.slice none 0 0, .slice none 0 0, .slice none 0 0, .slice none 0 0, .slice none 0 0, .slice none 0 0, .int .i64 0, .int .i64 0] 27) := ⟨_, rfl⟩
  have hb1 : Below w.heap.size w W1 := by rw [hW1]; exact b_alloc _ _
  have hx : Blk W1 Z 27 [.slice none 0 0, .slice none 0 0, .slice none 0 0, .slice none 0 0, .slice none 0 0, .slice none 0 0, .int .i64 0, .int .i64 0] := by rw [hZ, hW1]; exact Blk.new w _ _
  have HB1 := Lib.hid hb1
  have HX := Lib.hid hx
  have HZ := Lib.hid hZ
  go_enter Tryz.func44, Tryz.ntmps44
  go_upto_region 1 with fail
  rw [← hW1, ← hZ]
  clear hW1 hZ hb1 hx
  go_upto_region 5 with (go_at_call 61; refine (HG4.out _).mono ?_; rintro e w1 ⟨rfl, rfl⟩)
  rw [hs00]
  obtain ⟨P, hP⟩ : ∃ P : Int, P = (pb.toNat : Int) := ⟨_, rfl⟩
  obtain ⟨F, hF⟩ : ∃ F : Int, F = (fn : Int) := ⟨_, rfl⟩
  rw [← hP, ← hF]
  obtain ⟨H, hH⟩ : ∃ H, H = W1.heap.size := ⟨_, rfl⟩
  obtain ⟨W4, hW4⟩ : ∃ W4, W4 = W1.alloc (.cells #[.slice none 0 0, .slice none 0 0, .slice none 0 0, .slice none 0 0, .slice none 0 0, .slice none 0 0, .int .i64 P, .int .i64 F] 86) := ⟨_, rfl⟩
  have hb4 : Below W1.heap.size W1 W4 := by rw [hW4]; exact b_alloc _ _
  have hh : Blk W4 H 86 [.slice none 0 0, .slice none 0 0, .slice none 0 0, .slice none 0 0, .slice none 0 0, .slice none 0 0, .int .i64 P, .int .i64 F] := by rw [hH, hW4]; exact Blk.new W1 _ _
  rw [← hW4, ← hH]
  have HZH := Lib.hid (show Z < H by rw [hH]; exact HX.out.lt)
  have HWH := Lib.hid (show w.heap.size ≤ H by rw [hH]; exact HB1.out.size)
  have HPV := Lib.hid (show P = j.parts by rw [hP]; exact HPB.out)
  have HFV := Lib.hid (show F = j.fuel by rw [hF]; exact HFN.out)
  have HH1 := Lib.hid hh
  have HX4 := Lib.hid (HX.out.below hb4)
  have HB4 := Lib.hid (bt HB1.out hb4)
  clear hW4 hH hb4 hh hP hF hs00 aw hs0
  go_upto_region 7 with (first | (go_at_call 50; refine (progs_any H W4).mono ?_; rintro e w5 ⟨⟨D, t, rfl, hDl, hd⟩, hB5⟩; have HH := Lib.hid (HH1.out.below hB5); have HD := Lib.hid hd; have HX5 := Lib.hid (HX4.out.below hB5); have HDH := Lib.hid (Nat.ne_of_gt (Nat.lt_of_lt_of_le HH1.out.lt hDl)); have HB5 := Lib.hid (bt HB4.out hB5); clear hDl hd hB5) | fail)
  have hhl : H < w5.heap.size := HH.out.lt
  have HHL := Lib.hid hhl
  clear hhl
  go_loopw [0, 37] (fun sv i wr => ∃ (k : Nat) (t1 c1 t2 c2 t3 c3 : Value), k ≤ 3 ∧ i = .int .i64 k ∧ sv = .string (bs (rsJ j k)) ∧ Hid (Blk wr H 86 [t1, c1, t2, c2, t3, c3, .int .i64 P, .int .i64 F]) ∧ Hid (PgJ wr (H + 1) k 0 t1 c1 j.mt j.mc) ∧ Hid (PgJ wr (H + 1) k 1 t2 c2 j.jt j.jc) ∧ Hid (PgJ wr (H + 1) k 2 t3 c3 j.tt j.tc) ∧ Hid (Chg (fun x => x = H) w5 wr) ∧ Hid (w5.heap.size ≤ wr.heap.size)) (fun _ i _ => 3 - (intOf i).toNat)
  case atStart => exact ⟨0, _, _, _, _, _, _, by omega, rfl, by rw [HS5.out], HH.out, ⟨rfl, rfl⟩, ⟨rfl, rfl⟩, ⟨rfl, rfl⟩, Chg.refl _ _, Nat.le_refl _⟩
  case round =>
    obtain ⟨k, t1, c1, t2, c2, t3, c3, hk, rfl, rfl, HHR, HP1, HP2, HP3, HCR, HSR⟩ := hrel
    obtain ⟨a1, n1, m1, b1, p1, q1, rfl, rfl⟩ := HP1.out.sl
    obtain ⟨a2, n2, m2, b2, p2, q2, rfl, rfl⟩ := HP2.out.sl
    obtain ⟨a3, n3, m3, b3, p3, q3, rfl, rfl⟩ := HP3.out.sl
    have hd := HD.out.chg HCR.out (fun e => HDH.out e)
    rcases (by omega : k = 0 ∨ k = 1 ∨ k = 2 ∨ k = 3) with rfl | rfl | rfl | rfl
    · have HTK := Lib.hid (fun w' => show Calls Tryz.prog 62 #[.string (bs (rsJ j 0))] w' fun e w'' => e = .returned (.tuple #[.string (bs (putC j.mt j.mc)), .string (bs (rsJ j (0 + 1))), .bool true]) ∧ Below w'.heap.size w' w'' by
        have h := jtake_any (putC j.mt j.mc) (rsJ j (0 + 1)) w' HL.out.1 (Nat.le_trans (HRL.out.2.1) (by decide))
        rw [show num (putC j.mt j.mc).length 4 ++ (putC j.mt j.mc ++ rsJ j (0 + 1)) = rsJ j 0 by rw [← List.append_assoc]; rfl] at h
        exact h)
      have HCG := Lib.hid (HGP.out j.mt j.mc HM.out.1)
      obtain ⟨S, hS⟩ : ∃ S, S = rsJ j 0 := ⟨_, rfl⟩
      obtain ⟨S2, hS2⟩ : ∃ S2, S2 = rsJ j (0 + 1) := ⟨_, rfl⟩
      obtain ⟨M, hM⟩ : ∃ M, M = putC j.mt j.mc := ⟨_, rfl⟩
      rw [← hS, ← hS2, ← hM] at HTK
      rw [← hM] at HCG
      rw [← hS]
      have HS2 := Lib.hid hS2
      clear hS hS2 hM
      have d0 := hd.cell (k := 0) rfl
      have d1 := hd.cell (k := 1) rfl
      go_upto_region 9 with fail
      obtain ⟨T, hT⟩ : ∃ T, T = wr.heap.size := ⟨_, rfl⟩
      obtain ⟨U, hU⟩ : ∃ U, U = wr.alloc (.cells #[.int .u8 1, .pointer (some ⟨H, 0, none⟩)] 96) := ⟨_, rfl⟩
      have hbU : Below wr.heap.size wr U := by rw [hU]; exact b_alloc _ _
      have hu : Blk U T 96 [.int .u8 1, .pointer (some ⟨H, 0, none⟩)] := by rw [hT, hU]; exact Blk.new _ _ _
      have HU := Lib.hid hu
      have HBU := Lib.hid hbU
      rw [← hU, ← hT]
      clear hd d0 d1 hU hT hbU hu
      go_upto_region 11 with (first | (go_at_call 63; refine (HCG.out _).mono ?_; rintro e w8 ⟨⟨tv, cv, rfl, ho1, ho2⟩, hB8⟩; obtain ⟨ga, gk, rfl⟩ := owns_slice ho1; obtain ⟨gb, gl, rfl⟩ := owns_slice ho2; have HO1 := Lib.hid ho1; have HO2 := Lib.hid ho2; have HB8 := Lib.hid (bt HB7.out hB8); clear ho1 ho2 hB8) | (go_at_call 62; refine (HTK.out _).mono ?_; rintro e w7 ⟨rfl, hB7⟩; have HS7 := Lib.hid hB7.size; have HB7 := Lib.hid hB7; clear hB7))
      obtain ⟨G, hG⟩ : ∃ G, G = w8.heap.size := ⟨_, rfl⟩
      obtain ⟨V, hV⟩ : ∃ V, V = w8.alloc (.cells #[.slice ga j.mt.length gk, .slice gb j.mc.length gl] 25) := ⟨_, rfl⟩
      have hbV : Below w8.heap.size w8 V := by rw [hV]; exact b_alloc _ _
      have hgB : Blk V G 25 [.slice ga j.mt.length gk, .slice gb j.mc.length gl] := by rw [hG, hV]; exact Blk.new _ _ _
      rw [← hV, ← hG]
      have HBV := Lib.hid (bt HB8.out hbV)
      have HO1V := Lib.hid (HO1.out.below hbV)
      have HO2V := Lib.hid (HO2.out.below hbV)
      have huV := HU.out.below HBV.out
      have u0 := huV.cell (k := 0) rfl
      have u1 := huV.cell (k := 1) rfl
      have g0 := hgB.cell (k := 0) rfl
      have g1 := hgB.cell (k := 1) rfl
      have hbw := bt HBU.out HBV.out
      have hhV := HHR.out.below hbw
      have v0 := hhV.cell (k := 0) rfl
      have v1 := hhV.cell (k := 1) rfl
      have f0 := hhV.free (k := 0) (by simp)
      have f1 := hhV.free (k := 1) (by simp)
      have hTl : T < V.heap.size := lt_of_cell u0
      have hHl : H < V.heap.size := lt_of_cell v0
      have hGl : G < V.heap.size := lt_of_cell g0
      have HBW := Lib.hid hbw
      have HHV := Lib.hid hhV
      have HBS := Lib.hid (show H + 1 ≤ w7.heap.size from Nat.le_trans HHL.out (Nat.le_trans HSR.out (Nat.le_trans HBU.out.size HS7.out)))
      clear huV hgB hbw hhV hV hG hbV
      go_wp2_with fail
      go_roundw
      case rel =>
        have hcc : Chg (fun x => x = H) V ((V.setCell ⟨H, 0, none⟩ (.slice ga j.mt.length gk)).setCell ⟨H, 1, none⟩ (.slice gb j.mc.length gl)) := Chg.trans (Chg.setCell V ⟨H, 0, none⟩ _ rfl) (Chg.setCell _ ⟨H, 1, none⟩ _ rfl)
        have hlt : ∀ b, b = H → b < H + 1 := fun b hb => by omega
        have hbs := HBS.out
        have hbw := HBW.out
        exact ⟨0 + 1, .slice ga j.mt.length gk, .slice gb j.mc.length gl, _, _, _, _, by omega, rfl, by rw [HS2.out], (HHV.out.set 0 _).set 1 _, (PgJ.of (HO1V.out.mono hbs) (HO2V.out.mono hbs) (by omega)).chg hcc hlt, ((HP2.out.below hbw).chg hcc hlt).up (by omega), ((HP3.out.below hbw).chg hcc hlt).up (by omega), (HCR.out.trans (Chg.of_below hbw)).trans hcc, by rw [size_setA, size_setA]; exact Nat.le_trans HSR.out hbw.size⟩
      case measure => decide
    · have HTK := Lib.hid (fun w' => show Calls Tryz.prog 62 #[.string (bs (rsJ j 1))] w' fun e w'' => e = .returned (.tuple #[.string (bs (putC j.jt j.jc)), .string (bs (rsJ j (1 + 1))), .bool true]) ∧ Below w'.heap.size w' w'' by
        have h := jtake_any (putC j.jt j.jc) (rsJ j (1 + 1)) w' HL.out.2.1 (Nat.le_trans (HRL.out.2.2) (by decide))
        rw [show num (putC j.jt j.jc).length 4 ++ (putC j.jt j.jc ++ rsJ j (1 + 1)) = rsJ j 1 by rw [← List.append_assoc]; rfl] at h
        exact h)
      have HCG := Lib.hid (HGP.out j.jt j.jc HM.out.2.1)
      obtain ⟨S, hS⟩ : ∃ S, S = rsJ j 1 := ⟨_, rfl⟩
      obtain ⟨S2, hS2⟩ : ∃ S2, S2 = rsJ j (1 + 1) := ⟨_, rfl⟩
      obtain ⟨M, hM⟩ : ∃ M, M = putC j.jt j.jc := ⟨_, rfl⟩
      rw [← hS, ← hS2, ← hM] at HTK
      rw [← hM] at HCG
      rw [← hS]
      have HS2 := Lib.hid hS2
      clear hS hS2 hM
      have d0 := hd.cell (k := 2) rfl
      have d1 := hd.cell (k := 3) rfl
      go_upto_region 9 with fail
      obtain ⟨T, hT⟩ : ∃ T, T = wr.heap.size := ⟨_, rfl⟩
      obtain ⟨U, hU⟩ : ∃ U, U = wr.alloc (.cells #[.int .u8 2, .pointer (some ⟨H, 2, none⟩)] 96) := ⟨_, rfl⟩
      have hbU : Below wr.heap.size wr U := by rw [hU]; exact b_alloc _ _
      have hu : Blk U T 96 [.int .u8 2, .pointer (some ⟨H, 2, none⟩)] := by rw [hT, hU]; exact Blk.new _ _ _
      have HU := Lib.hid hu
      have HBU := Lib.hid hbU
      rw [← hU, ← hT]
      clear hd d0 d1 hU hT hbU hu
      go_upto_region 11 with (first | (go_at_call 63; refine (HCG.out _).mono ?_; rintro e w8 ⟨⟨tv, cv, rfl, ho1, ho2⟩, hB8⟩; obtain ⟨ga, gk, rfl⟩ := owns_slice ho1; obtain ⟨gb, gl, rfl⟩ := owns_slice ho2; have HO1 := Lib.hid ho1; have HO2 := Lib.hid ho2; have HB8 := Lib.hid (bt HB7.out hB8); clear ho1 ho2 hB8) | (go_at_call 62; refine (HTK.out _).mono ?_; rintro e w7 ⟨rfl, hB7⟩; have HS7 := Lib.hid hB7.size; have HB7 := Lib.hid hB7; clear hB7))
      obtain ⟨G, hG⟩ : ∃ G, G = w8.heap.size := ⟨_, rfl⟩
      obtain ⟨V, hV⟩ : ∃ V, V = w8.alloc (.cells #[.slice ga j.jt.length gk, .slice gb j.jc.length gl] 25) := ⟨_, rfl⟩
      have hbV : Below w8.heap.size w8 V := by rw [hV]; exact b_alloc _ _
      have hgB : Blk V G 25 [.slice ga j.jt.length gk, .slice gb j.jc.length gl] := by rw [hG, hV]; exact Blk.new _ _ _
      rw [← hV, ← hG]
      have HBV := Lib.hid (bt HB8.out hbV)
      have HO1V := Lib.hid (HO1.out.below hbV)
      have HO2V := Lib.hid (HO2.out.below hbV)
      have huV := HU.out.below HBV.out
      have u0 := huV.cell (k := 0) rfl
      have u1 := huV.cell (k := 1) rfl
      have g0 := hgB.cell (k := 0) rfl
      have g1 := hgB.cell (k := 1) rfl
      have hbw := bt HBU.out HBV.out
      have hhV := HHR.out.below hbw
      have v0 := hhV.cell (k := 2) rfl
      have v1 := hhV.cell (k := 3) rfl
      have f0 := hhV.free (k := 2) (by simp)
      have f1 := hhV.free (k := 3) (by simp)
      have hTl : T < V.heap.size := lt_of_cell u0
      have hHl : H < V.heap.size := lt_of_cell v0
      have hGl : G < V.heap.size := lt_of_cell g0
      have HBW := Lib.hid hbw
      have HHV := Lib.hid hhV
      have HBS := Lib.hid (show H + 1 ≤ w7.heap.size from Nat.le_trans HHL.out (Nat.le_trans HSR.out (Nat.le_trans HBU.out.size HS7.out)))
      clear huV hgB hbw hhV hV hG hbV
      go_wp2_with fail
      go_roundw
      case rel =>
        have hcc : Chg (fun x => x = H) V ((V.setCell ⟨H, 2, none⟩ (.slice ga j.jt.length gk)).setCell ⟨H, 3, none⟩ (.slice gb j.jc.length gl)) := Chg.trans (Chg.setCell V ⟨H, 2, none⟩ _ rfl) (Chg.setCell _ ⟨H, 3, none⟩ _ rfl)
        have hlt : ∀ b, b = H → b < H + 1 := fun b hb => by omega
        have hbs := HBS.out
        have hbw := HBW.out
        exact ⟨1 + 1, _, _, .slice ga j.jt.length gk, .slice gb j.jc.length gl, _, _, by omega, rfl, by rw [HS2.out], (HHV.out.set 2 _).set 3 _, ((HP1.out.below hbw).chg hcc hlt).up (by omega), (PgJ.of (HO1V.out.mono hbs) (HO2V.out.mono hbs) (by omega)).chg hcc hlt, ((HP3.out.below hbw).chg hcc hlt).up (by omega), (HCR.out.trans (Chg.of_below hbw)).trans hcc, by rw [size_setA, size_setA]; exact Nat.le_trans HSR.out hbw.size⟩
      case measure => decide
    · have HTK := Lib.hid (fun w' => show Calls Tryz.prog 62 #[.string (bs (rsJ j 2))] w' fun e w'' => e = .returned (.tuple #[.string (bs (putC j.tt j.tc)), .string (bs (rsJ j (2 + 1))), .bool true]) ∧ Below w'.heap.size w' w'' by
        have h := jtake_any (putC j.tt j.tc) (rsJ j (2 + 1)) w' HL.out.2.2 (Nat.le_trans (show ([] : List UInt8).length ≤ 0 from Nat.le_refl 0) (by decide))
        rw [show num (putC j.tt j.tc).length 4 ++ (putC j.tt j.tc ++ rsJ j (2 + 1)) = rsJ j 2 by rw [← List.append_assoc]; rfl] at h
        exact h)
      have HCG := Lib.hid (HGP.out j.tt j.tc HM.out.2.2)
      obtain ⟨S, hS⟩ : ∃ S, S = rsJ j 2 := ⟨_, rfl⟩
      obtain ⟨S2, hS2⟩ : ∃ S2, S2 = rsJ j (2 + 1) := ⟨_, rfl⟩
      obtain ⟨M, hM⟩ : ∃ M, M = putC j.tt j.tc := ⟨_, rfl⟩
      rw [← hS, ← hS2, ← hM] at HTK
      rw [← hM] at HCG
      rw [← hS]
      have HS2 := Lib.hid hS2
      clear hS hS2 hM
      have d0 := hd.cell (k := 4) rfl
      have d1 := hd.cell (k := 5) rfl
      go_upto_region 9 with fail
      obtain ⟨T, hT⟩ : ∃ T, T = wr.heap.size := ⟨_, rfl⟩
      obtain ⟨U, hU⟩ : ∃ U, U = wr.alloc (.cells #[.int .u8 3, .pointer (some ⟨H, 4, none⟩)] 96) := ⟨_, rfl⟩
      have hbU : Below wr.heap.size wr U := by rw [hU]; exact b_alloc _ _
      have hu : Blk U T 96 [.int .u8 3, .pointer (some ⟨H, 4, none⟩)] := by rw [hT, hU]; exact Blk.new _ _ _
      have HU := Lib.hid hu
      have HBU := Lib.hid hbU
      rw [← hU, ← hT]
      clear hd d0 d1 hU hT hbU hu
      go_upto_region 11 with (first | (go_at_call 63; refine (HCG.out _).mono ?_; rintro e w8 ⟨⟨tv, cv, rfl, ho1, ho2⟩, hB8⟩; obtain ⟨ga, gk, rfl⟩ := owns_slice ho1; obtain ⟨gb, gl, rfl⟩ := owns_slice ho2; have HO1 := Lib.hid ho1; have HO2 := Lib.hid ho2; have HB8 := Lib.hid (bt HB7.out hB8); clear ho1 ho2 hB8) | (go_at_call 62; refine (HTK.out _).mono ?_; rintro e w7 ⟨rfl, hB7⟩; have HS7 := Lib.hid hB7.size; have HB7 := Lib.hid hB7; clear hB7))
      obtain ⟨G, hG⟩ : ∃ G, G = w8.heap.size := ⟨_, rfl⟩
      obtain ⟨V, hV⟩ : ∃ V, V = w8.alloc (.cells #[.slice ga j.tt.length gk, .slice gb j.tc.length gl] 25) := ⟨_, rfl⟩
      have hbV : Below w8.heap.size w8 V := by rw [hV]; exact b_alloc _ _
      have hgB : Blk V G 25 [.slice ga j.tt.length gk, .slice gb j.tc.length gl] := by rw [hG, hV]; exact Blk.new _ _ _
      rw [← hV, ← hG]
      have HBV := Lib.hid (bt HB8.out hbV)
      have HO1V := Lib.hid (HO1.out.below hbV)
      have HO2V := Lib.hid (HO2.out.below hbV)
      have huV := HU.out.below HBV.out
      have u0 := huV.cell (k := 0) rfl
      have u1 := huV.cell (k := 1) rfl
      have g0 := hgB.cell (k := 0) rfl
      have g1 := hgB.cell (k := 1) rfl
      have hbw := bt HBU.out HBV.out
      have hhV := HHR.out.below hbw
      have v0 := hhV.cell (k := 4) rfl
      have v1 := hhV.cell (k := 5) rfl
      have f0 := hhV.free (k := 4) (by simp)
      have f1 := hhV.free (k := 5) (by simp)
      have hTl : T < V.heap.size := lt_of_cell u0
      have hHl : H < V.heap.size := lt_of_cell v0
      have hGl : G < V.heap.size := lt_of_cell g0
      have HBW := Lib.hid hbw
      have HHV := Lib.hid hhV
      have HBS := Lib.hid (show H + 1 ≤ w7.heap.size from Nat.le_trans HHL.out (Nat.le_trans HSR.out (Nat.le_trans HBU.out.size HS7.out)))
      clear huV hgB hbw hhV hV hG hbV
      go_wp2_with fail
      go_roundw
      case rel =>
        have hcc : Chg (fun x => x = H) V ((V.setCell ⟨H, 4, none⟩ (.slice ga j.tt.length gk)).setCell ⟨H, 5, none⟩ (.slice gb j.tc.length gl)) := Chg.trans (Chg.setCell V ⟨H, 4, none⟩ _ rfl) (Chg.setCell _ ⟨H, 5, none⟩ _ rfl)
        have hlt : ∀ b, b = H → b < H + 1 := fun b hb => by omega
        have hbs := HBS.out
        have hbw := HBW.out
        exact ⟨2 + 1, _, _, _, _, .slice ga j.tt.length gk, .slice gb j.tc.length gl, by omega, rfl, by rw [HS2.out], (HHV.out.set 4 _).set 5 _, ((HP1.out.below hbw).chg hcc hlt).up (by omega), ((HP2.out.below hbw).chg hcc hlt).up (by omega), (PgJ.of (HO1V.out.mono hbs) (HO2V.out.mono hbs) (by omega)).chg hcc hlt, (HCR.out.trans (Chg.of_below hbw)).trans hcc, by rw [size_setA, size_setA]; exact Nat.le_trans HSR.out hbw.size⟩
      case measure => decide
    · have hr1 := HP1.out.yes (by omega)
      have hr2 := HP2.out.yes (by omega)
      have hr3 := HP3.out.yes (by omega)
      have hbW : Below w.heap.size w wr := HB5.out.trans (HCR.out.below (fun x hx => by rw [show x = H from hx]; exact HWH.out) HB5.out.size)
      obtain ⟨e1, e2, e3⟩ := HEG.out wr hbW
      have hj : JobR wr (.slice a1 n1 m1) (.slice b1 p1 q1) (.slice a2 n2 m2) (.slice b2 p2 q2) (.slice a3 n3 m3) (.slice b3 p3 q3) j := by
        obtain ⟨z1, z2, z3⟩ := mayV_askJ HM.out.1
        obtain ⟨y1, y2, y3⟩ := mayV_askJ HM.out.2.1
        obtain ⟨x1, x2, x3⟩ := mayV_askJ HM.out.2.2
        obtain ⟨-, q1, q2, q3, q4⟩ := mayJ_ok HMJ.out
        exact ⟨⟨hr1.1.row, hr1.2.row, z1, z2, z3, e1, e2⟩, ⟨hr2.1.row, hr2.2.row, y1, y2, y3, e1, e2⟩, ⟨hr3.1.row, hr3.2.row, x1, x2, x3, e1, e2⟩, by omega, by omega, by omega, by omega, e3⟩
      have HMC := Lib.hid (show Calls Tryz.prog 58 #[.agg #[.slice a1 n1 m1, .slice b1 p1 q1, .slice a2 n2 m2, .slice b2 p2 q2, .slice a3 n3 m3, .slice b3 p3 q3, .int .i64 P, .int .i64 F]] wr fun e w' => e = .returned (.bool true) ∧ Below wr.heap.size wr w' by
        have h := jmay_any _ _ _ _ _ _ j wr hj
        unfold jobV at h
        rw [← HPV.out, ← HFV.out, HMJ.out] at h
        exact h)
      have hhr := HHR.out
      have hzr := HX5.out.chg HCR.out (fun e => Nat.ne_of_lt HZH.out e)
      have HZR := Lib.hid hzr
      have HJR := Lib.hid hj
      have HBWR := Lib.hid hbW
      have HR1 := Lib.hid hr1
      have HR2 := Lib.hid hr2
      have HR3 := Lib.hid hr3
      have x0 := hhr.cell (k := 0) rfl
      have x1 := hhr.cell (k := 1) rfl
      have x2 := hhr.cell (k := 2) rfl
      have x3 := hhr.cell (k := 3) rfl
      have x4 := hhr.cell (k := 4) rfl
      have x5 := hhr.cell (k := 5) rfl
      have x6 := hhr.cell (k := 6) rfl
      have x7 := hhr.cell (k := 7) rfl
      have hHl : H < wr.heap.size := hhr.lt
      rw [show rsJ j 3 = [] from rfl]
      clear hd hj hhr hzr hr1 hr2 hr3 hbW e1 e2 e3
      go_wp2_with (go_at_call 58; refine HMC.out.mono ?_; rintro e w9 ⟨rfl, hB9⟩; have hh9 := HHR.out.below hB9; have hz9 := HZR.out.below hB9; have HZ9 := Lib.hid hz9; clear x0 x1 x2 x3 x4 x5 x6 x7 hHl; have x0 := hh9.cell (k := 0) rfl; have x1 := hh9.cell (k := 1) rfl; have x2 := hh9.cell (k := 2) rfl; have x3 := hh9.cell (k := 3) rfl; have x4 := hh9.cell (k := 4) rfl; have x5 := hh9.cell (k := 5) rfl; have x6 := hh9.cell (k := 6) rfl; have x7 := hh9.cell (k := 7) rfl; have z0 := hz9.cell (k := 0) rfl; have z1 := hz9.cell (k := 1) rfl; have z2 := hz9.cell (k := 2) rfl; have z3 := hz9.cell (k := 3) rfl; have z4 := hz9.cell (k := 4) rfl; have z5 := hz9.cell (k := 5) rfl; have z6 := hz9.cell (k := 6) rfl; have z7 := hz9.cell (k := 7) rfl; have f0 := hz9.free (k := 0) (by simp); have f1 := hz9.free (k := 1) (by simp); have f2 := hz9.free (k := 2) (by simp); have f3 := hz9.free (k := 3) (by simp); have f4 := hz9.free (k := 4) (by simp); have f5 := hz9.free (k := 5) (by simp); have f6 := hz9.free (k := 6) (by simp); have f7 := hz9.free (k := 7) (by simp); have hHl := hh9.lt; have hZl := hz9.lt; have HB9 := Lib.hid hB9; clear hB9 hh9 hz9)
      obtain ⟨hy, hc⟩ := job_store HZ9.out (.slice a1 n1 m1) (.slice b1 p1 q1) (.slice a2 n2 m2) (.slice b2 p2 q2) (.slice a3 n3 m3) (.slice b3 p3 q3) (.int .i64 P) (.int .i64 F)
      refine bodyPost_ret (results_cell_tmpM rfl rfl (load_job hy)) rfl ?_
      have hzl : ∀ b, b = Z → b < H + 1 := fun b hb => by have := HZH.out; omega
      have hb9 : Below w.heap.size w w9 := HBWR.out.trans (HB9.out.mono HBWR.out.size)
      have hbf := hb9.trans (hc.below (fun x hx => by rw [show x = Z from hx, HZ.out]; exact Nat.le_refl _) hb9.size)
      obtain ⟨e1, e2, e3⟩ := HEG.out _ hbf
      have hjr := HJR.out
      have own : ∀ {T : List (List UInt8)} {t : Value}, recS.Own wr (H + 1) t T → ∀ {W : World}, Chg (fun x => x = Z) w9 W → recS.Row W t T := fun h W hc => ((h.below HB9.out).chgV hc (fun b hb hx => absurd (hzl b hx) (Nat.not_lt.2 (h.lt b hb).1))).row
      have own2 : ∀ {T : List VI} {t : Value}, recIns.Own wr (H + 1) t T → ∀ {W : World}, Chg (fun x => x = Z) w9 W → recIns.Row W t T := fun h W hc => ((h.below HB9.out).chgV hc (fun b hb hx => absurd (hzl b hx) (Nat.not_lt.2 (h.lt b hb).1))).row
      refine ⟨⟨_, _, _, _, _, _, ?_, ⟨⟨own HR1.out.1 hc, own2 HR1.out.2 hc, hjr.a.lt, hjr.a.lc, hjr.a.m, e1, e2⟩, ⟨own HR2.out.1 hc, own2 HR2.out.2 hc, hjr.b.lt, hjr.b.lc, hjr.b.m, e1, e2⟩, ⟨own HR3.out.1 hc, own2 HR3.out.2 hc, hjr.c.lt, hjr.c.lc, hjr.c.m, e1, e2⟩, hjr.p0, hjr.p1, hjr.f0, hjr.f1, e3⟩⟩, hbf⟩
      unfold jobV
      rw [← HPV.out, ← HFV.out]
      rfl
end Go.Proofs.YtndagciefnddmaaGreatDoor
namespace Go.Proofs.YtndagciefnddmaaGreatDoor
open Go.RowKit Oct
def Kept (b : Nat) (w w' : World) : Prop := ∀ X cs t fz, X ≠ b → t ≠ 5 → w.heap[X]? = some (.cells cs t fz) → w'.heap[X]? = some (.cells cs t fz)
theorem Kept.trans {b : Nat} {w w1 w2 : World} (h1 : Kept b w w1) (h2 : Kept b w1 w2) : Kept b w w2 := fun X cs t fz hX ht h => h2 X cs t fz hX ht (h1 X cs t fz hX ht h)
theorem Kept.below {b : Nat} {w w' : World} (h : Below w.heap.size w w') : Kept b w w' := fun X cs t fz _ _ hx => by
  have hlt : X < w.heap.size := by
    rcases Nat.lt_or_ge X w.heap.size with h' | h'
    · exact h'
    · simp [Array.getElem?_eq_none h'] at hx
  exact (h.block X hlt).trans hx
end Go.Proofs.YtndagciefnddmaaGreatDoor
namespace Go.Proofs.YtndagciefnddmaaGreatDoor
open Go.RowKit Oct
attribute [local irreducible] wpG
def BldO (B b : Nat) (l : List UInt8) (w : World) : Prop := B ≤ w.heap.size ∧ Lib.IsBuilder 70 5 B b (bcells l) w
theorem BldO.fresh (w : World) : BldO w.heap.size w.heap.size [] (w.alloc (.cells #[.pointer none, .slice none 0 0] 70)) := ⟨by simp, Lib.fresh_isBuilder _ _ w⟩
theorem BldO.below {B b : Nat} {l : List UInt8} {w w' : World} (h : BldO B b l w) (hB : Below w.heap.size w w') : BldO B b l w' :=
  ⟨Nat.le_trans h.1 hB.size, h.2.imp (fun h => BuilderAt_below h hB) (fun h => BuilderAt_below h hB)⟩
theorem BldO.at {B b : Nat} {l : List UInt8} {w : World} (h : BldO B b l w) : ∃ p, Lib.BuilderAt 70 5 B b p (bcells l) w := by
  rcases h.2 with h | h
  · exact ⟨_, h⟩
  · exact ⟨_, h⟩
theorem BldO.lt {B b : Nat} {l : List UInt8} {w : World} (h : BldO B b l w) : b < w.heap.size := by
  obtain ⟨p, h⟩ := h.at
  exact h.lt
def kPtrO : Known Bel := ⟨Option Addr, fun q => .pointer q, fun _ => none, fun _ _ h => by cases h⟩
@[go_sem] theorem kPtrO_val (q : Option Addr) : kPtrO.val q = .pointer q := rfl
end Go.Proofs.YtndagciefnddmaaGreatDoor
namespace Go.Proofs.YtndagciefnddmaaGreatDoor
open Go.RowKit Oct
attribute [local irreducible] wpG
end Go.Proofs.YtndagciefnddmaaGreatDoor
namespace Go.Proofs.YtndagciefnddmaaGreatDoor
open Go.RowKit Oct
attribute [local irreducible] wpG
theorem Kept.blk {b : Nat} {w w' : World} (h : Kept b w w') {k : Nat} {t : TypeId} {cs : List Value} (hb : Blk w k t cs) (hk : k ≠ b) (ht : t ≠ 5) : Blk w' k t cs := h k _ t _ hk ht hb
end Go.Proofs.YtndagciefnddmaaGreatDoor
namespace Go.Proofs.YtndagciefnddmaaGreatDoor
open Go.RowKit Oct
attribute [local irreducible] wpG
end Go.Proofs.YtndagciefnddmaaGreatDoor
namespace Go.Proofs.YtndagciefnddmaaGreatDoor.Oct
end Go.Proofs.YtndagciefnddmaaGreatDoor.Oct
namespace Go.Proofs.YtndagciefnddmaaGreatDoor.Oct
def readT (l : List UInt8) : List UInt8 × Nat × Int :=
  if l.length < 2 then ([], 0, 6) else if l.length < 2 + val (l.take 2) then ([], 0, 6) else ((l.drop 2).take (val (l.take 2)), 2 + val (l.take 2), 0)
def texts : List (List UInt8) → List UInt8
  | [] => []
  | l :: r => num l.length 2 ++ l ++ texts r
def fits (r : List (List UInt8)) : Bool := r.all fun l => decide (l.length ≤ 65535)
def row (r : List (List UInt8)) : List UInt8 × Int :=
  if r.length ≤ 65535 then if fits r then (num r.length 2 ++ texts r, 0) else ([], 5) else ([], 5)
def readTexts : Nat → List UInt8 → Option (List (List UInt8))
  | 0, l => if l = [] then some [] else none
  | k + 1, l => if (readT l).2.2 = 0 then (readTexts k (l.drop (readT l).2.1)).map ((readT l).1 :: ·) else none
theorem readTexts_ok (k : Nat) (l : List UInt8) (h : (readT l).2.2 = 0) : readTexts (k + 1) l = (readTexts k (l.drop (readT l).2.1)).map ((readT l).1 :: ·) := if_pos h
theorem readTexts_no (k : Nat) (l : List UInt8) (h : ¬ (readT l).2.2 = 0) : readTexts (k + 1) l = none := if_neg h
def RrInv (l0 : List UInt8) (k0 m : Nat) (r : List (List UInt8)) (l : List UInt8) : Prop := readTexts k0 l0 = (readTexts m l).map (r ++ ·)
theorem RrInv.start (l0 : List UInt8) (k0 : Nat) : RrInv l0 k0 k0 [] l0 := by simp [RrInv]
theorem RrInv.step {l0 : List UInt8} {k0 m : Nat} {r : List (List UInt8)} {l : List UInt8} (h : RrInv l0 k0 (m + 1) r l) (ho : (readT l).2.2 = 0) : RrInv l0 k0 m (r ++ [(readT l).1]) (l.drop (readT l).2.1) := by
  unfold RrInv at h ⊢
  rw [h, readTexts_ok m l ho, Option.map_map]
  congr 1
  funext x
  simp
theorem RrInv.no {l0 : List UInt8} {k0 m : Nat} {r : List (List UInt8)} {l : List UInt8} (h : RrInv l0 k0 (m + 1) r l) (ho : ¬ (readT l).2.2 = 0) : readTexts k0 l0 = none := by
  rw [h, readTexts_no m l ho]; rfl
theorem RrInv.fin {l0 : List UInt8} {k0 : Nat} {r : List (List UInt8)} {l : List UInt8} (h : RrInv l0 k0 0 r l) : readTexts k0 l0 = if l = [] then some r else none := by
  rw [h, readTexts]; split <;> simp
end Go.Proofs.YtndagciefnddmaaGreatDoor.Oct
namespace Go.Proofs.YtndagciefnddmaaGreatDoor
open Go.RowKit Oct
end Go.Proofs.YtndagciefnddmaaGreatDoor
namespace Go.Proofs.YtndagciefnddmaaGreatDoor
open Go.RowKit Oct
end Go.Proofs.YtndagciefnddmaaGreatDoor
namespace Go.Proofs.YtndagciefnddmaaGreatDoor
open Go.RowKit Oct
end Go.Proofs.YtndagciefnddmaaGreatDoor
namespace Go.Proofs.YtndagciefnddmaaGreatDoor
open Go.RowKit Oct
attribute [local irreducible] wpG
theorem RR.nil (w : World) : RR w (.slice none 0 0) [] := ⟨none, 0, rfl, Nat.le_refl _, fun _ => ⟨rfl, rfl⟩, fun k hk => absurd hk (Nat.not_lt_zero _)⟩
theorem RR.one (w : World) (l : List PR) (cs : Array Value) (hcs : cs = (pcells l).toArray) (n : Nat) (hn : n = l.length) (e e' : TypeId) :
    RR ((w.alloc (.cells cs e)).alloc (.cells #[.slice (some ⟨w.heap.size, 0, none⟩) n n] e')) (.slice (some ⟨w.heap.size + 1, 0, none⟩) 1 1) [l] := by
  subst hcs hn
  refine ⟨_, _, rfl, Nat.le_refl _, (by simp), ?_⟩
  intro k hk
  have hs : (w.alloc (.cells (pcells l).toArray e)).heap.size = w.heap.size + 1 := by simp
  have r1 := (RP.new w l e).below (b_alloc _ (.cells #[.slice (some ⟨w.heap.size, 0, none⟩) l.length l.length] e'))
  obtain rfl : k = 0 := by simp at hk; omega
  exact ⟨_, _, _, rfl, by rw [← hs, World.cell?_alloc_new]; rfl, r1⟩
end Go.Proofs.YtndagciefnddmaaGreatDoor
namespace Go.Proofs.YtndagciefnddmaaGreatDoor
open Go.RowKit Oct
attribute [local irreducible] wpG
theorem recKv_pcellsT : ∀ l : List PR, recKv.cells l = pcells l
  | [] => rfl
  | x :: l => by rw [Rec.cells, recKv_pcellsT l]; rfl
theorem recKv_rpT {w : World} {v : Value} {l : List PR} (h : recKv.Row w v l) : RP w v l := ⟨by rw [← recKv_pcellsT]; exact h.1, h.2⟩
set_option maxRecDepth 100000 in
set_option maxHeartbeats 8000000 in
theorem rSame15_eq (s1 d1 s2 d2 s3 d3 t1 c1 t2 c2 t3 c3 : Value) (j : Jb) (w : World) (h : JobR w s1 d1 s2 d2 s3 d3 j) (h' : JobR w t1 c1 t2 c2 t3 c3 j) :
    Calls Tryz.prog 46 #[jobV s1 d1 s2 d2 s3 d3 j, jobV t1 c1 t2 c2 t3 c3 j] w fun e w' => e = .returned (.bool true) ∧ Below w.heap.size w w' := by
  have HS1 := Lib.hid (fun w' (hB : Below w.heap.size w w') => rSame12_any s1 d1 t1 c1 j.mt j.mc w' (h.below hB).a.t (h.below hB).a.c (h'.below hB).a.t (h'.below hB).a.c (Nat.le_trans h.a.lt (by decide)) (Nat.le_trans h.a.lc (by decide)))
  have HS2 := Lib.hid (fun w' (hB : Below w.heap.size w w') => rSame12_any s2 d2 t2 c2 j.jt j.jc w' (h.below hB).b.t (h.below hB).b.c (h'.below hB).b.t (h'.below hB).b.c (Nat.le_trans h.b.lt (by decide)) (Nat.le_trans h.b.lc (by decide)))
  have HS3 := Lib.hid (fun w' (hB : Below w.heap.size w w') => rSame12_any s3 d3 t3 c3 j.tt j.tc w' (h.below hB).c.t (h.below hB).c.c (h'.below hB).c.t (h'.below hB).c.c (Nat.le_trans h.c.lt (by decide)) (Nat.le_trans h.c.lc (by decide)))
  obtain ⟨ta, tc, rfl, -, -⟩ := recS_open h.a.t
  obtain ⟨ca, cc, rfl, -, -⟩ := recIns_open h.a.c
  obtain ⟨ta2, tc2, rfl, -, -⟩ := recS_open h.b.t
  obtain ⟨ca2, cc2, rfl, -, -⟩ := recIns_open h.b.c
  obtain ⟨ta3, tc3, rfl, -, -⟩ := recS_open h.c.t
  obtain ⟨ca3, cc3, rfl, -, -⟩ := recIns_open h.c.c
  obtain ⟨ua, uc, rfl, -, -⟩ := recS_open h'.a.t
  obtain ⟨va, vc, rfl, -, -⟩ := recIns_open h'.a.c
  obtain ⟨ua2, uc2, rfl, -, -⟩ := recS_open h'.b.t
  obtain ⟨va2, vc2, rfl, -, -⟩ := recIns_open h'.b.c
  obtain ⟨ua3, uc3, rfl, -, -⟩ := recS_open h'.c.t
  obtain ⟨va3, vc3, rfl, -, -⟩ := recIns_open h'.c.c
  unfold jobV
  obtain ⟨P, hP⟩ : ∃ P, P = j.parts := ⟨_, rfl⟩
  obtain ⟨F, hF⟩ : ∃ F, F = j.fuel := ⟨_, rfl⟩
  rw [← hP, ← hF]
  clear hP hF
  obtain ⟨J, hJ⟩ : ∃ J, J = w.heap.size := ⟨_, rfl⟩
  obtain ⟨W0, hW0⟩ : ∃ W0, W0 = w.alloc (.cells #[.slice ta j.mt.length tc, .slice ca j.mc.length cc, .slice ta2 j.jt.length tc2, .slice ca2 j.jc.length cc2, .slice ta3 j.tt.length tc3, .slice ca3 j.tc.length cc3, .int .i64 P, .int .i64 F] 27) := ⟨_, rfl⟩
  have hs0 : W0.heap.size = J + 1 := by rw [hW0, size_alV, hJ]
  have hx : Blk W0 J 27 [.slice ta j.mt.length tc, .slice ca j.mc.length cc, .slice ta2 j.jt.length tc2, .slice ca2 j.jc.length cc2, .slice ta3 j.tt.length tc3, .slice ca3 j.tc.length cc3, .int .i64 P, .int .i64 F] := by rw [hJ, hW0]; exact Blk.new w _ _
  obtain ⟨W1, hW1⟩ : ∃ W1, W1 = W0.alloc (.cells #[.slice ua j.mt.length uc, .slice va j.mc.length vc, .slice ua2 j.jt.length uc2, .slice va2 j.jc.length vc2, .slice ua3 j.tt.length uc3, .slice va3 j.tc.length vc3, .int .i64 P, .int .i64 F] 27) := ⟨_, rfl⟩
  have hy : Blk W1 (J + 1) 27 [.slice ua j.mt.length uc, .slice va j.mc.length vc, .slice ua2 j.jt.length uc2, .slice va2 j.jc.length vc2, .slice ua3 j.tt.length uc3, .slice va3 j.tc.length vc3, .int .i64 P, .int .i64 F] := by rw [← hs0, hW1]; exact Blk.new W0 _ _
  have hb1 : Below w.heap.size w W1 := by rw [hW1]; exact bt (by rw [hW0]; exact b_alloc _ _) (b_alloc _ _)
  have HX := Lib.hid (show Blk W1 J 27 _ from hx.below (by rw [hW1]; exact b_alloc _ _))
  have HY := Lib.hid hy
  have HB1 := Lib.hid hb1
  have x0 := HX.out.cell (k := 0) rfl
  have x1 := HX.out.cell (k := 1) rfl
  have x2 := HX.out.cell (k := 2) rfl
  have x3 := HX.out.cell (k := 3) rfl
  have x4 := HX.out.cell (k := 4) rfl
  have x5 := HX.out.cell (k := 5) rfl
  have x6 := HX.out.cell (k := 6) rfl
  have x7 := HX.out.cell (k := 7) rfl
  have y0 := HY.out.cell (k := 0) rfl
  have y1 := HY.out.cell (k := 1) rfl
  have y2 := HY.out.cell (k := 2) rfl
  have y3 := HY.out.cell (k := 3) rfl
  have y4 := HY.out.cell (k := 4) rfl
  have y5 := HY.out.cell (k := 5) rfl
  have y6 := HY.out.cell (k := 6) rfl
  have y7 := HY.out.cell (k := 7) rfl
  go_enter Tryz.func46, Tryz.ntmps46
  go_upto_region 1 with fail
  rw [← hW0]
  rw [← hW1, ← hJ]
  clear hW0 hW1 hJ hs0 hx hy hb1 h h'
  go_wp2_with (first | (go_at_call 65; refine (HS3.out _ HB3.out).mono ?_; rintro e w4 ⟨rfl, hB4⟩; have x6 := (HX3.out.below hB4).cell (k := 6) rfl; have x7 := (HX3.out.below hB4).cell (k := 7) rfl; have y6 := (HY3.out.below hB4).cell (k := 6) rfl; have y7 := (HY3.out.below hB4).cell (k := 7) rfl; have HB4 := Lib.hid (bt HB3.out hB4); clear hB4 x4 x5 y4 y5) | (go_at_call 65; refine (HS2.out _ HB2.out).mono ?_; rintro e w3 ⟨rfl, hB3⟩; have HX3 := Lib.hid (HX2.out.below hB3); have HY3 := Lib.hid (HY2.out.below hB3); have x4 := HX3.out.cell (k := 4) rfl; have x5 := HX3.out.cell (k := 5) rfl; have y4 := HY3.out.cell (k := 4) rfl; have y5 := HY3.out.cell (k := 5) rfl; have HB3 := Lib.hid (bt HB2.out hB3); clear hB3 x2 x3 y2 y3) | (go_at_call 65; refine (HS1.out _ HB1.out).mono ?_; rintro e w2 ⟨rfl, hB2⟩; clear x0 x1 x2 x3 x4 x5 x6 x7 y0 y1 y2 y3 y4 y5 y6 y7; have HX2 := Lib.hid (HX.out.below hB2); have HY2 := Lib.hid (HY.out.below hB2); have x2 := HX2.out.cell (k := 2) rfl; have x3 := HX2.out.cell (k := 3) rfl; have y2 := HY2.out.cell (k := 2) rfl; have y3 := HY2.out.cell (k := 3) rfl; have HB2 := Lib.hid (bt HB1.out hB2); clear hB2))
  go_ret
  exact ⟨rfl, HB4.out⟩
set_option maxRecDepth 100000 in
set_option maxHeartbeats 8000000 in
theorem jGet_nil (w : World) : Calls Tryz.prog 44 #[.string ⟨#[]⟩] w fun e w' => e = .returned (.tuple #[.agg #[.slice none 0 0, .slice none 0 0, .slice none 0 0, .slice none 0 0, .slice none 0 0, .slice none 0 0, .int .i64 0, .int .i64 0], .int .i64 7]) ∧ Below w.heap.size w w' := by
  obtain ⟨Z, hZ⟩ : ∃ Z, Z = w.heap.size := ⟨_, rfl⟩
  obtain ⟨W1, hW1⟩ : ∃ W1, W1 = w.alloc (.cells #[.slice none 0 0, .slice none 0 0, .slice none 0 0, .slice none 0 0, .slice none 0 0, .slice none 0 0, .int .i64 0, .int .i64 0] 27) := ⟨_, rfl⟩
  have hb1 : Below w.heap.size w W1 := by rw [hW1]; exact b_alloc _ _
  have hx : Blk W1 Z 27 [.slice none 0 0, .slice none 0 0, .slice none 0 0, .slice none 0 0, .slice none 0 0, .slice none 0 0, .int .i64 0, .int .i64 0] := by rw [hZ, hW1]; exact Blk.new w _ _
  have x0 := hx.cell (k := 0) rfl
  have x1 := hx.cell (k := 1) rfl
  have x2 := hx.cell (k := 2) rfl
  have x3 := hx.cell (k := 3) rfl
  have x4 := hx.cell (k := 4) rfl
  have x5 := hx.cell (k := 5) rfl
  have x6 := hx.cell (k := 6) rfl
  have x7 := hx.cell (k := 7) rfl
  have f0 := hx.free (k := 0) (by simp)
  have f1 := hx.free (k := 1) (by simp)
  have f2 := hx.free (k := 2) (by simp)
  have f3 := hx.free (k := 3) (by simp)
  have f4 := hx.free (k := 4) (by simp)
  have f5 := hx.free (k := 5) (by simp)
  have f6 := hx.free (k := 6) (by simp)
  have f7 := hx.free (k := 7) (by simp)
  have HX := Lib.hid hx
  have HB1 := Lib.hid hb1
  have HZ := Lib.hid hZ
  go_enter Tryz.func44, Tryz.ntmps44
  go_upto_region 1 with fail
  rw [← hW1, ← hZ]
  clear hW1 hZ hb1 hx
  go_wp2_with fail
  obtain ⟨hy, hc⟩ := job_store HX.out (.slice none 0 0) (.slice none 0 0) (.slice none 0 0) (.slice none 0 0) (.slice none 0 0) (.slice none 0 0) (.int .i64 0) (.int .i64 0)
  refine bodyPost_ret (results_cell_tmpM rfl rfl (load_job hy)) rfl ?_
  exact ⟨rfl, HB1.out.trans (hc.below (fun x hx => by rw [show x = Z from hx, HZ.out]; exact Nat.le_refl _) HB1.out.size)⟩
def jobZ : Jb := ⟨[], [], [], [], [], [], 0, 0⟩
set_option maxRecDepth 100000 in
set_option maxHeartbeats 8000000 in
theorem jId_no (t1 c1 t2 c2 t3 c3 : Value) (j : Jb) (w : World) (h : JobR w t1 c1 t2 c2 t3 c3 j) (hm : mayJ j = false) :
    Calls Tryz.prog 45 #[jobV t1 c1 t2 c2 t3 c3 j] w fun e w' => e = .returned (.tuple #[.string ⟨#[]⟩, .int .i64 2]) ∧ Below w.heap.size w w' := by
  have HP := Lib.hid (fun w' (hB : Below w.heap.size w w') => by
    have q := jPut_any t1 c1 t2 c2 t3 c3 j w' (h.below hB)
    rw [show putRJ j = .tuple #[.string (bs []), .int .i64 2] from if_neg (by rw [hm]; decide)] at q
    exact q)
  obtain ⟨ta, tc, rfl, -, -⟩ := recS_open h.a.t
  obtain ⟨ca, cc, rfl, -, -⟩ := recIns_open h.a.c
  obtain ⟨ta2, tc2, rfl, -, -⟩ := recS_open h.b.t
  obtain ⟨ca2, cc2, rfl, -, -⟩ := recIns_open h.b.c
  obtain ⟨ta3, tc3, rfl, -, -⟩ := recS_open h.c.t
  obtain ⟨ca3, cc3, rfl, -, -⟩ := recIns_open h.c.c
  unfold jobV at HP ⊢
  obtain ⟨W1, hW1⟩ : ∃ W1, W1 = w.alloc (.cells #[.slice ta j.mt.length tc, .slice ca j.mc.length cc, .slice ta2 j.jt.length tc2, .slice ca2 j.jc.length cc2, .slice ta3 j.tt.length tc3, .slice ca3 j.tc.length cc3, .int .i64 j.parts, .int .i64 j.fuel] 27) := ⟨_, rfl⟩
  have hb1 : Below w.heap.size w W1 := by rw [hW1]; exact b_alloc _ _
  obtain ⟨J, hJ⟩ : ∃ J, J = w.heap.size := ⟨_, rfl⟩
  have hx : Blk W1 J 27 [.slice ta j.mt.length tc, .slice ca j.mc.length cc, .slice ta2 j.jt.length tc2, .slice ca2 j.jc.length cc2, .slice ta3 j.tt.length tc3, .slice ca3 j.tc.length cc3, .int .i64 j.parts, .int .i64 j.fuel] := by rw [hJ, hW1]; exact Blk.new w _ _
  have x0 := hx.cell (k := 0) rfl
  have x1 := hx.cell (k := 1) rfl
  have x2 := hx.cell (k := 2) rfl
  have x3 := hx.cell (k := 3) rfl
  have x4 := hx.cell (k := 4) rfl
  have x5 := hx.cell (k := 5) rfl
  have x6 := hx.cell (k := 6) rfl
  have x7 := hx.cell (k := 7) rfl
  have HB1 := Lib.hid hb1
  go_enter Tryz.func45, Tryz.ntmps45
  go_upto_region 1 with fail
  rw [← hW1, ← hJ]
  clear hW1 hJ hb1 hx h hm
  go_wp2_with (go_at_call 43; refine (HP.out _ HB1.out).mono ?_; rintro e w2 ⟨rfl, hB2⟩; have HB2 := Lib.hid (bt HB1.out hB2); clear hB2)
  go_ret2
  exact ⟨rfl, HB2.out⟩
theorem al15_1 : jobRun (countJ 2) (countJ 2).mt (countJ 2).mc 1 [[97]] = (0, [([97], [49])], []) := by decide +kernel
theorem al15_2 : jobRun (countJ 2) (countJ 2).jt (countJ 2).jc 2 [[50], [51]] = (0, [], [53]) := by decide +kernel
theorem al15_3 : jobRun (countJ 2) (countJ 2).tt (countJ 2).tc 3 [[97], [53]] = (0, [], [97, 53]) := by decide +kernel
theorem al15_4 : putRJ (countJ 2) = .tuple #[.string (bs (putJ (countJ 2))), .int .i64 0] := if_pos (by decide +kernel)
theorem al15_5 : mayJ (countJ 2) = true := by decide +kernel
theorem al15_6 : mayJ jobZ = false := by decide +kernel
end Go.Proofs.YtndagciefnddmaaGreatDoor
namespace Go.Proofs.YtndagciefnddmaaGreatDoor
open Go.RowKit Oct
attribute [local irreducible] wpG
set_option maxRecDepth 100000 in
set_option maxHeartbeats 8000000 in
theorem alive15_any (w : World) (hE : EffM w) (hg : 1 < w.heap.size) (hG : GlobV w) (hdo : doesAt w) : Calls Tryz.prog 25 #[] w fun e w' => e = .returned (.bool true) ∧ Below w.heap.size w w' := by
  have HC := Lib.hid (Count_any 2 w)
  have HJ := Lib.hid (fun e w' (hB : Below w.heap.size w w') (hc : CountR 2 w.heap.size e w') => hc.job (by decide) (by decide) (hE.below hB hg) (Nat.lt_of_lt_of_le hg hB.size) (hG.below hB))
  have HDO := Lib.hid (fun w' (hB : Below w.heap.size w w') => hdo.below hB)
  have HGE := Lib.hid (fun w' (hB : Below w.heap.size w w') => jGet_put (countJ 2) w' al15_5 (hE.below hB hg) (Nat.lt_of_lt_of_le hg hB.size) (hG.below hB))
  have HID := Lib.hid (fun w' (hB : Below w.heap.size w w') => show Calls Tryz.prog 45 #[.agg #[.slice none 0 0, .slice none 0 0, .slice none 0 0, .slice none 0 0, .slice none 0 0, .slice none 0 0, .int .i64 0, .int .i64 0]] w' fun e w'' => e = .returned (.tuple #[.string ⟨#[]⟩, .int .i64 2]) ∧ Below w'.heap.size w' w'' from
    jId_no (.slice none 0 0) (.slice none 0 0) (.slice none 0 0) (.slice none 0 0) (.slice none 0 0) (.slice none 0 0) jobZ w'
      ⟨⟨Rec.Row.nil _, Rec.Row.nil _, Nat.zero_le _, Nat.zero_le _, fun s hs => (by cases hs), hE.below hB hg, Nat.lt_of_lt_of_le hg hB.size⟩, ⟨Rec.Row.nil _, Rec.Row.nil _, Nat.zero_le _, Nat.zero_le _, fun s hs => (by cases hs), hE.below hB hg, Nat.lt_of_lt_of_le hg hB.size⟩,
        ⟨Rec.Row.nil _, Rec.Row.nil _, Nat.zero_le _, Nat.zero_le _, fun s hs => (by cases hs), hE.below hB hg, Nat.lt_of_lt_of_le hg hB.size⟩, by decide, by decide, by decide, by decide, hG.below hB⟩ al15_6)
  clear hE hg hG hdo
  obtain ⟨SB, hSB⟩ : ∃ SB, SB = putJ (countJ 2) := ⟨_, rfl⟩
  rw [← hSB] at HGE
  go_enter Tryz.func25, Tryz.ntmps25
  go_upto_region 2 with (go_at_call 34; refine HC.out.mono ?_; rintro e w1 ⟨hc, hB1⟩; obtain ⟨a1, k1, a2, k2, a3, k3, rfl, hj⟩ := HJ.out e w1 hB1 hc; have HB1 := Lib.hid hB1; have HJ1 := Lib.hid hj; clear hc hB1 hj HC HJ)
  obtain ⟨W2, hW2⟩ : ∃ W2, W2 = w1.alloc (.cells #[.slice none 0 0, .slice a1 4 k1, .slice none 0 0, .slice a2 6 k2, .slice none 0 0, .slice a3 3 k3, .int .i64 2, .int .i64 100] 27) := ⟨_, rfl⟩
  obtain ⟨B, hBn⟩ : ∃ B, B = w1.heap.size := ⟨_, rfl⟩
  have hb2 : Below w1.heap.size w1 W2 := by rw [hW2]; exact b_alloc _ _
  have hx : Blk W2 B 27 [.slice none 0 0, .slice a1 4 k1, .slice none 0 0, .slice a2 6 k2, .slice none 0 0, .slice a3 3 k3, .int .i64 2, .int .i64 100] := by rw [hW2, hBn]; exact Blk.new _ _ _
  have HX := Lib.hid hx
  have HJ2 := Lib.hid (HJ1.out.below hb2)
  have HB2 := Lib.hid (bt HB1.out hb2)
  rw [← hW2, ← hBn]
  clear hW2 hBn hb2 hx
  have HMA := Lib.hid (fun w' (hB : Below W2.heap.size W2 w') => show Calls Tryz.prog 26 #[.agg #[.slice none 0 0, .slice a1 4 k1, .slice none 0 0, .slice a2 6 k2, .slice none 0 0, .slice a3 3 k3, .int .i64 2, .int .i64 100], .string ⟨#[97]⟩] w' fun e w'' => (∃ pa pc, e = .returned (.tuple #[.slice pa 1 pc, .int .i64 0]) ∧ RP w'' (.slice pa 1 pc) [([97], [49])]) ∧ Below w'.heap.size w' w'' by
    have h := jMap_any _ _ _ _ _ _ (countJ 2) [97] w' (HJ2.out.below hB) (HDO.out _ (bt HB2.out hB)) (by decide)
    rw [al15_1] at h
    refine h.mono ?_
    rintro e w'' ⟨⟨pv, rfl, hr⟩, hB2⟩
    have hr2 := recKv_rpT hr
    obtain ⟨pa, pc, rfl, _, -⟩ := hr2.open
    exact ⟨⟨pa, pc, rfl, hr2⟩, hB2⟩)
  have HJO := Lib.hid (fun w' (hB : Below W2.heap.size W2 w') => show Calls Tryz.prog 27 #[.agg #[.slice none 0 0, .slice a1 4 k1, .slice none 0 0, .slice a2 6 k2, .slice none 0 0, .slice a3 3 k3, .int .i64 2, .int .i64 100], .string ⟨#[50]⟩, .string ⟨#[51]⟩] w' fun e w'' => e = .returned (.tuple #[.string ⟨#[53]⟩, .int .i64 0]) ∧ Below w'.heap.size w' w'' by
    have h := jJoin_any _ _ _ _ _ _ (countJ 2) [50] [51] w' (HJ2.out.below hB) (HDO.out _ (bt HB2.out hB)) (by decide) (by decide)
    rw [al15_2] at h
    exact h)
  have HTE := Lib.hid (fun w' (hB : Below W2.heap.size W2 w') => show Calls Tryz.prog 28 #[.agg #[.slice none 0 0, .slice a1 4 k1, .slice none 0 0, .slice a2 6 k2, .slice none 0 0, .slice a3 3 k3, .int .i64 2, .int .i64 100], .string ⟨#[97]⟩, .string ⟨#[53]⟩] w' fun e w'' => e = .returned (.tuple #[.string ⟨#[97, 53]⟩, .int .i64 0]) ∧ Below w'.heap.size w' w'' by
    have h := jTell_any _ _ _ _ _ _ (countJ 2) [97] [53] w' (HJ2.out.below hB) (HDO.out _ (bt HB2.out hB)) (by decide) (by decide)
    rw [al15_3] at h
    exact h)
  have HPU := Lib.hid (fun w' (hB : Below W2.heap.size W2 w') => show Calls Tryz.prog 43 #[.agg #[.slice none 0 0, .slice a1 4 k1, .slice none 0 0, .slice a2 6 k2, .slice none 0 0, .slice a3 3 k3, .int .i64 2, .int .i64 100]] w' fun e w'' => e = .returned (.tuple #[.string (bs SB), .int .i64 0]) ∧ Below w'.heap.size w' w'' by
    have h := jPut_any _ _ _ _ _ _ (countJ 2) w' (HJ2.out.below hB)
    rw [al15_4, ← hSB] at h
    exact h)
  have HSP := Lib.hid (fun w' (va : Value) (hv : RP w' va [([97], [49])]) => show Calls Tryz.prog 22 #[va, .slice (some ⟨w'.heap.size, 0, none⟩) 1 1] (w'.alloc (.cells #[.string ⟨#[97]⟩, .string ⟨#[49]⟩] 60)) fun e w'' => e = .returned (.bool true) ∧ Below w'.heap.size w' w'' by
    have hbb := b_alloc w' (.cells #[.string ⟨#[97]⟩, .string ⟨#[49]⟩] 60)
    have h := same14_any va _ [([97], [49])] [([97], [49])] _ (hv.below hbb) (RP.new w' [([97], [49])] 60) (by decide) (by decide)
    rw [decide_eq_true rfl] at h
    exact h.mono fun e w'' h => ⟨h.1, bt hbb h.2⟩)
  clear hSB
  have hx0 := HX.out
  have x0 := hx0.cell (k := 0) rfl
  have x1 := hx0.cell (k := 1) rfl
  have x2 := hx0.cell (k := 2) rfl
  have x3 := hx0.cell (k := 3) rfl
  have x4 := hx0.cell (k := 4) rfl
  have x5 := hx0.cell (k := 5) rfl
  have x6 := hx0.cell (k := 6) rfl
  have x7 := hx0.cell (k := 7) rfl
  have hBl := hx0.lt
  clear hx0
  go_wp2_with fail
  refine (HMA.out W2 (b_refl _)).mono ?_
  rintro e w3 ⟨⟨pa, pc, rfl, hr⟩, hB⟩
  have HR3 := Lib.hid hr
  clear hr
  have HB3 := Lib.hid hB
  have hxx := HX.out.below HB3.out
  clear hB x0 x1 x2 x3 x4 x5 x6 x7 hBl
  have x0 := hxx.cell (k := 0) rfl
  have x1 := hxx.cell (k := 1) rfl
  have x2 := hxx.cell (k := 2) rfl
  have x3 := hxx.cell (k := 3) rfl
  have x4 := hxx.cell (k := 4) rfl
  have x5 := hxx.cell (k := 5) rfl
  have x6 := hxx.cell (k := 6) rfl
  have x7 := hxx.cell (k := 7) rfl
  have hBl := hxx.lt
  clear hxx
  go_wp2_with fail
  refine (HJO.out _ HB3.out).mono ?_
  rintro e w4 ⟨rfl, hB⟩
  have HR4 := Lib.hid (HR3.out.below hB)
  have HB4 := Lib.hid (bt HB3.out hB)
  have hxx := HX.out.below HB4.out
  clear hB x0 x1 x2 x3 x4 x5 x6 x7 hBl
  have x0 := hxx.cell (k := 0) rfl
  have x1 := hxx.cell (k := 1) rfl
  have x2 := hxx.cell (k := 2) rfl
  have x3 := hxx.cell (k := 3) rfl
  have x4 := hxx.cell (k := 4) rfl
  have x5 := hxx.cell (k := 5) rfl
  have x6 := hxx.cell (k := 6) rfl
  have x7 := hxx.cell (k := 7) rfl
  have hBl := hxx.lt
  clear hxx
  go_wp2_with fail
  refine (HTE.out _ HB4.out).mono ?_
  rintro e w5 ⟨rfl, hB⟩
  have HR5 := Lib.hid (HR4.out.below hB)
  have HB5 := Lib.hid (bt HB4.out hB)
  have hxx := HX.out.below HB5.out
  clear hB x0 x1 x2 x3 x4 x5 x6 x7 hBl
  have x0 := hxx.cell (k := 0) rfl
  have x1 := hxx.cell (k := 1) rfl
  have x2 := hxx.cell (k := 2) rfl
  have x3 := hxx.cell (k := 3) rfl
  have x4 := hxx.cell (k := 4) rfl
  have x5 := hxx.cell (k := 5) rfl
  have x6 := hxx.cell (k := 6) rfl
  have x7 := hxx.cell (k := 7) rfl
  have hBl := hxx.lt
  clear hxx
  go_wp2_with fail
  refine (HPU.out _ HB5.out).mono ?_
  rintro e w6 ⟨rfl, hB⟩
  have HR6 := Lib.hid (HR5.out.below hB)
  have HB6 := Lib.hid (bt HB5.out hB)
  have hxx := HX.out.below HB6.out
  clear hB x0 x1 x2 x3 x4 x5 x6 x7 hBl
  have x0 := hxx.cell (k := 0) rfl
  have x1 := hxx.cell (k := 1) rfl
  have x2 := hxx.cell (k := 2) rfl
  have x3 := hxx.cell (k := 3) rfl
  have x4 := hxx.cell (k := 4) rfl
  have x5 := hxx.cell (k := 5) rfl
  have x6 := hxx.cell (k := 6) rfl
  have x7 := hxx.cell (k := 7) rfl
  have hBl := hxx.lt
  clear hxx
  clear x0 x1 x2 x3 x4 x5 x6 x7 hBl
  go_wp2_with fail
  refine (HGE.out w6 (bt HB2.out HB6.out)).mono ?_
  rintro e w7 ⟨⟨s1, d1, s2, d2, s3, d3, rfl, hk⟩, hB⟩
  obtain ⟨sa, sc, rfl, -, -⟩ := recS_open hk.a.t
  obtain ⟨da, dc, rfl, -, -⟩ := recIns_open hk.a.c
  obtain ⟨sa2, sc2, rfl, -, -⟩ := recS_open hk.b.t
  obtain ⟨da2, dc2, rfl, -, -⟩ := recIns_open hk.b.c
  obtain ⟨sa3, sc3, rfl, -, -⟩ := recS_open hk.c.t
  obtain ⟨da3, dc3, rfl, -, -⟩ := recIns_open hk.c.c
  rw [show jobV (.slice sa (countJ 2).mt.length sc) (.slice da (countJ 2).mc.length dc) (.slice sa2 (countJ 2).jt.length sc2) (.slice da2 (countJ 2).jc.length dc2) (.slice sa3 (countJ 2).tt.length sc3) (.slice da3 (countJ 2).tc.length dc3) (countJ 2) = .agg #[.slice sa 0 sc, .slice da 4 dc, .slice sa2 0 sc2, .slice da2 6 dc2, .slice sa3 0 sc3, .slice da3 3 dc3, .int .i64 2, .int .i64 100] from rfl]
  have HK7 := Lib.hid hk
  have HR7 := Lib.hid (HR6.out.below hB)
  have HB7 := Lib.hid (bt HB6.out hB)
  clear hB hk
  go_upto_region 7 with fail
  obtain ⟨K, hK⟩ : ∃ K, K = w7.heap.size := ⟨_, rfl⟩
  obtain ⟨W8, hW8⟩ : ∃ W8, W8 = w7.alloc (.cells #[.slice sa 0 sc, .slice da 4 dc, .slice sa2 0 sc2, .slice da2 6 dc2, .slice sa3 0 sc3, .slice da3 3 dc3, .int .i64 2, .int .i64 100] 27) := ⟨_, rfl⟩
  have hb8 : Below w7.heap.size w7 W8 := by rw [hW8]; exact b_alloc _ _
  have hk8 : Blk W8 K 27 [.slice sa 0 sc, .slice da 4 dc, .slice sa2 0 sc2, .slice da2 6 dc2, .slice sa3 0 sc3, .slice da3 3 dc3, .int .i64 2, .int .i64 100] := by rw [hK, hW8]; exact Blk.new _ _ _
  have HKB := Lib.hid hk8
  have HB8 := Lib.hid (bt HB7.out hb8)
  have HK8 := Lib.hid (HK7.out.below hb8)
  have HR8 := Lib.hid (HR7.out.below hb8)
  rw [← hW8, ← hK]
  clear hW8 hK hb8 hk8
  go_upto_region 8 with (go_at_call 44; refine (jGet_nil W8).mono ?_; rintro e w9 ⟨rfl, hB⟩; have HB9 := Lib.hid hB; clear hB)
  obtain ⟨W10, hW10⟩ : ∃ W10, W10 = w9.alloc (.cells #[.slice none 0 0, .slice none 0 0, .slice none 0 0, .slice none 0 0, .slice none 0 0, .slice none 0 0, .int .i64 0, .int .i64 0] 27) := ⟨_, rfl⟩
  have hb10 : Below w9.heap.size w9 W10 := by rw [hW10]; exact b_alloc _ _
  first | rw [← hW10] | skip
  have HB10 := Lib.hid (bt HB9.out hb10)
  clear hW10 hb10
  go_wp2_with fail
  refine (HID.out W10 (bt HB2.out (bt HB8.out HB10.out))).mono ?_
  rintro e w11 ⟨rfl, hB⟩
  have HB11 := Lib.hid (bt HB10.out hB)
  clear hB
  have HR11 := Lib.hid (HR8.out.below HB11.out)
  go_wp2_with fail
  refine (HSP.out w11 _ HR11.out).mono ?_
  rintro e w12 ⟨rfl, hB⟩
  have HB12 := Lib.hid (bt HB11.out hB)
  clear hB
  have hx12 := HX.out.below (bt HB8.out HB12.out)
  have hk12 := HKB.out.below HB12.out
  have x0 := hx12.cell (k := 0) rfl
  have x1 := hx12.cell (k := 1) rfl
  have x2 := hx12.cell (k := 2) rfl
  have x3 := hx12.cell (k := 3) rfl
  have x4 := hx12.cell (k := 4) rfl
  have x5 := hx12.cell (k := 5) rfl
  have x6 := hx12.cell (k := 6) rfl
  have x7 := hx12.cell (k := 7) rfl
  have y0 := hk12.cell (k := 0) rfl
  have y1 := hk12.cell (k := 1) rfl
  have y2 := hk12.cell (k := 2) rfl
  have y3 := hk12.cell (k := 3) rfl
  have y4 := hk12.cell (k := 4) rfl
  have y5 := hk12.cell (k := 5) rfl
  have y6 := hk12.cell (k := 6) rfl
  have y7 := hk12.cell (k := 7) rfl
  clear hx12 hk12
  have HSJ := Lib.hid (rSame15_eq _ _ _ _ _ _ _ _ _ _ _ _ (countJ 2) w12 (HJ2.out.below (bt HB8.out HB12.out)) (HK8.out.below HB12.out))
  go_wp2_with fail
  refine HSJ.out.mono ?_
  rintro e w13 ⟨rfl, hB⟩
  have HB13 := Lib.hid (bt HB12.out hB)
  clear hB
  go_wp2_with fail
  go_ret
  exact ⟨rfl, bt HB2.out (bt HB8.out HB13.out)⟩
end Go.Proofs.YtndagciefnddmaaGreatDoor
namespace Go.Proofs.YtndagciefnddmaaGreatDoor
open Go.RowKit Oct
attribute [local irreducible] wpG
set_option maxRecDepth 100000 in
set_option maxHeartbeats 4000000 in
theorem Slow_any (t1 c1 t2 c2 t3 c3 : Value) (j : Jb) (w : World) (h : JobQ w t1 c1 t2 c2 t3 c3 j) :
    Calls Tryz.prog 7 #[jobV t1 c1 t2 c2 t3 c3 j] w fun e w' => e = .returned (.bool (slowJ j)) ∧ Below w.heap.size w w' := by
  obtain ⟨ta, tc, rfl, -, -⟩ := recS_open h.a.t
  obtain ⟨ca, cc, rfl, -, -⟩ := recIns_open h.a.c
  obtain ⟨ta2, tc2, rfl, -, -⟩ := recS_open h.b.t
  obtain ⟨ca2, cc2, rfl, -, -⟩ := recIns_open h.b.c
  obtain ⟨ta3, tc3, rfl, -, -⟩ := recS_open h.c.t
  obtain ⟨ca3, cc3, rfl, -, -⟩ := recIns_open h.c.c
  unfold jobV
  unfold slowJ
  clear h
  obtain ⟨F, hF⟩ : ∃ F, F = j.fuel := ⟨_, rfl⟩
  rw [← hF]
  clear hF
  by_cases h1 : (3000 : Int) < F
  · by_cases h2 : F ≤ 65536
    · have e : (decide ((3000 : Int) < F) && decide (F ≤ 65536)) = true := by simp [h1, h2]
      rw [e]
      go_enter Tryz.func7, Tryz.ntmps7
      go_wp2
      go_ret
      exact ⟨rfl, b_alloc _ _⟩
    · have e : (decide ((3000 : Int) < F) && decide (F ≤ 65536)) = false := by simp [h2]
      rw [e]
      go_enter Tryz.func7, Tryz.ntmps7
      go_wp2
      go_ret
      exact ⟨rfl, b_alloc _ _⟩
  · have e : (decide ((3000 : Int) < F) && decide (F ≤ 65536)) = false := by simp [h1]
    rw [e]
    go_enter Tryz.func7, Tryz.ntmps7
    go_wp2
    go_ret
    exact ⟨rfl, b_alloc _ _⟩
set_option maxRecDepth 100000 in
set_option maxHeartbeats 4000000 in
theorem Large15_any (t1 c1 t2 c2 t3 c3 : Value) (j : Jb) (w : World) (h : JobQ w t1 c1 t2 c2 t3 c3 j) :
    Calls Tryz.prog 6 #[jobV t1 c1 t2 c2 t3 c3 j] w fun e w' => e = .returned (.bool (largeJ j)) ∧ Below w.heap.size w w' := by
  have HA := Lib.hid (fun w' (hB : Below w.heap.size w w') => (h.a.below hB).large)
  have HB := Lib.hid (fun w' (hB : Below w.heap.size w w') => (h.b.below hB).large)
  have HC := Lib.hid (fun w' (hB : Below w.heap.size w w') => (h.c.below hB).large)
  obtain ⟨ta, tc, rfl, -, -⟩ := recS_open h.a.t
  obtain ⟨ca, cc, rfl, -, -⟩ := recIns_open h.a.c
  obtain ⟨ta2, tc2, rfl, -, -⟩ := recS_open h.b.t
  obtain ⟨ca2, cc2, rfl, -, -⟩ := recIns_open h.b.c
  obtain ⟨ta3, tc3, rfl, -, -⟩ := recS_open h.c.t
  obtain ⟨ca3, cc3, rfl, -, -⟩ := recIns_open h.c.c
  unfold jobV
  unfold largeJ
  clear h
  obtain ⟨W1, hW1⟩ : ∃ W1, W1 = w.alloc (.cells #[.slice ta j.mt.length tc, .slice ca j.mc.length cc, .slice ta2 j.jt.length tc2, .slice ca2 j.jc.length cc2, .slice ta3 j.tt.length tc3, .slice ca3 j.tc.length cc3, .int .i64 j.parts, .int .i64 j.fuel] 27) := ⟨_, rfl⟩
  have hb1 : Below w.heap.size w W1 := by rw [hW1]; exact b_alloc _ _
  obtain ⟨J, hJ⟩ : ∃ J, J = w.heap.size := ⟨_, rfl⟩
  have hx : Blk W1 J 27 [.slice ta j.mt.length tc, .slice ca j.mc.length cc, .slice ta2 j.jt.length tc2, .slice ca2 j.jc.length cc2, .slice ta3 j.tt.length tc3, .slice ca3 j.tc.length cc3, .int .i64 j.parts, .int .i64 j.fuel] := by rw [hJ, hW1]; exact Blk.new w _ _
  have x0 := hx.cell (k := 0) rfl
  have x1 := hx.cell (k := 1) rfl
  have HB1 := Lib.hid hb1
  have HX := Lib.hid hx
  obtain ⟨A, hA⟩ : ∃ A, A = largeV j.mt j.mc := ⟨_, rfl⟩
  obtain ⟨B, hB⟩ : ∃ B, B = largeV j.jt j.jc := ⟨_, rfl⟩
  obtain ⟨C, hC⟩ : ∃ C, C = largeV j.tt j.tc := ⟨_, rfl⟩
  rw [← hA] at HA
  rw [← hB] at HB
  rw [← hC] at HC
  rw [← hA, ← hB, ← hC]
  go_enter Tryz.func6, Tryz.ntmps6
  go_upto_region 1 with fail
  rw [← hW1, ← hJ]
  clear hW1 hJ hb1 hx hA hB hC
  cases A
  · cases B
    · cases C
      all_goals
        go_wp2_with (first | (go_at_call 33; refine (HC.out _ HB3.out).mono ?_; rintro e w4 ⟨rfl, hB4⟩; have HB4 := Lib.hid (bt HB3.out hB4); clear hB4) | (go_at_call 33; refine (HB.out _ HB2.out).mono ?_; rintro e w3 ⟨rfl, hB3⟩; have HX3 := Lib.hid (HX2.out.below hB3); have x4 := HX3.out.cell (k := 4) rfl; have x5 := HX3.out.cell (k := 5) rfl; have HB3 := Lib.hid (bt HB2.out hB3); clear hB3 x2 x3) | (go_at_call 33; refine (HA.out _ HB1.out).mono ?_; rintro e w2 ⟨rfl, hB2⟩; have HX2 := Lib.hid (HX.out.below hB2); have x2 := HX2.out.cell (k := 2) rfl; have x3 := HX2.out.cell (k := 3) rfl; have HB2 := Lib.hid (bt HB1.out hB2); clear hB2 x0 x1))
        go_ret
        exact ⟨rfl, HB4.out⟩
    · go_wp2_with (first | (go_at_call 33; refine (HB.out _ HB2.out).mono ?_; rintro e w3 ⟨rfl, hB3⟩; have HB3 := Lib.hid (bt HB2.out hB3); clear hB3 x2 x3) | (go_at_call 33; refine (HA.out _ HB1.out).mono ?_; rintro e w2 ⟨rfl, hB2⟩; have HX2 := Lib.hid (HX.out.below hB2); have x2 := HX2.out.cell (k := 2) rfl; have x3 := HX2.out.cell (k := 3) rfl; have HB2 := Lib.hid (bt HB1.out hB2); clear hB2 x0 x1))
      go_ret
      exact ⟨by simp, HB3.out⟩
  · go_wp2_with (go_at_call 33; refine (HA.out _ HB1.out).mono ?_; rintro e w2 ⟨rfl, hB2⟩; have HB2 := Lib.hid (bt HB1.out hB2); clear hB2 x0 x1)
    go_ret
    exact ⟨by simp, HB2.out⟩
end Go.Proofs.YtndagciefnddmaaGreatDoor
namespace Go.Proofs.YtndagciefnddmaaGreatDoor
open Go.RowKit Oct
attribute [local irreducible] wpG
theorem vmV_pairs (texts : List (List UInt8)) (code : List VI) (role : UInt8) (ins : List (List UInt8)) (fuel : Int) : (vmV texts code role ins fuel).2.1.length ≤ 256 := by
  cases hy : askRun texts code role ins fuel with
  | false => rw [vmV_no hy]; simp
  | true =>
    rw [vmV_yes hy]
    obtain ⟨h1, h2, -, -, h5⟩ := askRun_ok hy
    obtain ⟨hg, -⟩ := goodM_of h1 h2 h5
    unfold ranV
    split
    · rename_i h0
      obtain ⟨hok, -⟩ := runM_ok hg fuel.toNat startM startM_ok h0
      exact hok.pr
    · simp
theorem recKq_pcells : ∀ l : List PR, recKq.cells l = pcells l
  | [] => rfl
  | x :: l => by rw [Rec.cells, recKq_pcells l]; rfl
theorem recKq_rp {w : World} {v : Value} {l : List PR} (h : recKq.Row w v l) : RP w v l := ⟨by rw [← recKq_pcells]; exact h.1, h.2⟩
theorem jobRun_not {j : Jb} (h : mayJ j = false) (texts : List (List UInt8)) (code : List VI) (role : UInt8) (ins : List (List UInt8)) : jobRun j texts code role ins = (2, [], []) := if_neg (by rw [h]; decide)
set_option maxRecDepth 100000 in
set_option maxHeartbeats 8000000 in
theorem JobRuns_any (t1 c1 t2 c2 t3 c3 : Value) (j : Jb) (rc a b : List UInt8) (w : World) (hj : JobQ w t1 c1 t2 c2 t3 c3 j) (hl1 : rc.length ≤ 140737488355328) (hl2 : a.length ≤ 140737488355328) (hl3 : b.length ≤ 140737488355328)
    (hE : EffM w) (hg : 1 < w.heap.size) (hG : GlobV w) (hdo : doesAt w) :
    Calls Tryz.prog 5 #[jobV t1 c1 t2 c2 t3 c3 j, .string (bs rc), .string (bs a), .string (bs b)] w fun e w' => e = .returned (.bool true) ∧ Below w.heap.size w w' := by
  have HLA := Lib.hid (fun w' (hB : Below w.heap.size w w') => Large15_any t1 c1 t2 c2 t3 c3 j w' (hj.below hB))
  have HSL := Lib.hid (fun w' (hB : Below w.heap.size w w') => Slow_any t1 c1 t2 c2 t3 c3 j w' (hj.below hB))
  have HAV := Lib.hid (fun w' (hB : Below w.heap.size w w') => alive15_any w' (hE.below hB hg) (Nat.lt_of_lt_of_le hg hB.size) (hG.below hB) (hdo.below hB))
  have HJR := Lib.hid (fun (hl : largeJ j = false) => hj.job hl hE hg hG)
  have HMA := Lib.hid (fun (hl : largeJ j = false) w' (hB : Below w.heap.size w w') => jMap_any t1 c1 t2 c2 t3 c3 j rc w' ((HJR.out hl).below hB) (hdo.below hB) hl1)
  have HJO := Lib.hid (fun (hl : largeJ j = false) w' (hB : Below w.heap.size w w') => jJoin_any t1 c1 t2 c2 t3 c3 j a b w' ((HJR.out hl).below hB) (hdo.below hB) hl2 hl3)
  have HTE := Lib.hid (fun (hl : largeJ j = false) w' (hB : Below w.heap.size w w') => jTell_any t1 c1 t2 c2 t3 c3 j a b w' ((HJR.out hl).below hB) (hdo.below hB) hl2 hl3)
  have HMY := Lib.hid (fun (hl : largeJ j = false) w' (hB : Below w.heap.size w w') => rMay15_any t1 c1 t2 c2 t3 c3 j w' ((HJR.out hl).below hB))
  have HRM := Lib.hid (fun (hl : largeJ j = false) w' (hB : Below w.heap.size w w') => rMap15_any t1 c1 t2 c2 t3 c3 j rc w' ((HJR.out hl).below hB) hl1)
  have HRJ := Lib.hid (fun (hl : largeJ j = false) w' (hB : Below w.heap.size w w') => rJoin15_any t1 c1 t2 c2 t3 c3 j a b w' ((HJR.out hl).below hB) hl2 hl3)
  have HRT := Lib.hid (fun (hl : largeJ j = false) w' (hB : Below w.heap.size w w') => rTell15_any t1 c1 t2 c2 t3 c3 j a b w' ((HJR.out hl).below hB) hl2 hl3)
  obtain ⟨ta, tc, rfl, -, -⟩ := recS_open hj.a.t
  obtain ⟨ca, cc, rfl, -, -⟩ := recIns_open hj.a.c
  obtain ⟨ta2, tc2, rfl, -, -⟩ := recS_open hj.b.t
  obtain ⟨ca2, cc2, rfl, -, -⟩ := recIns_open hj.b.c
  obtain ⟨ta3, tc3, rfl, -, -⟩ := recS_open hj.c.t
  obtain ⟨ca3, cc3, rfl, -, -⟩ := recIns_open hj.c.c
  unfold jobV at HLA HSL HMA HJO HTE HMY HRM HRJ HRT ⊢
  have HVP := Lib.hid (vmV_pairs j.mt j.mc 1 [rc] j.fuel)
  have HM1 := Lib.hid (fun (h : mayJ j = true) => jobRun_may h j.mt j.mc 1 [rc])
  have HM2 := Lib.hid (fun (h : mayJ j = true) => jobRun_may h j.jt j.jc 2 [a, b])
  have HM3 := Lib.hid (fun (h : mayJ j = true) => jobRun_may h j.tt j.tc 3 [a, b])
  have HN1 := Lib.hid (fun (h : mayJ j = false) => jobRun_not h j.mt j.mc 1 [rc])
  have HN2 := Lib.hid (fun (h : mayJ j = false) => jobRun_not h j.jt j.jc 2 [a, b])
  have HN3 := Lib.hid (fun (h : mayJ j = false) => jobRun_not h j.tt j.tc 3 [a, b])
  obtain ⟨R1, hR1⟩ : ∃ R1, R1 = jobRun j j.mt j.mc 1 [rc] := ⟨_, rfl⟩
  obtain ⟨R2, hR2⟩ : ∃ R2, R2 = jobRun j j.jt j.jc 2 [a, b] := ⟨_, rfl⟩
  obtain ⟨R3, hR3⟩ : ∃ R3, R3 = jobRun j j.tt j.tc 3 [a, b] := ⟨_, rfl⟩
  obtain ⟨V1, hV1⟩ : ∃ V1, V1 = vmV j.mt j.mc 1 [rc] j.fuel := ⟨_, rfl⟩
  obtain ⟨V2, hV2⟩ : ∃ V2, V2 = vmV j.jt j.jc 2 [a, b] j.fuel := ⟨_, rfl⟩
  obtain ⟨V3, hV3⟩ : ∃ V3, V3 = vmV j.tt j.tc 3 [a, b] j.fuel := ⟨_, rfl⟩
  rw [← hR1, ← hV1] at HM1
  rw [← hR2, ← hV2] at HM2
  rw [← hR3, ← hV3] at HM3
  rw [← hR1] at HN1 HMA
  rw [← hR2] at HN2 HJO
  rw [← hR3] at HN3 HTE
  rw [← hV1] at HRM HVP
  rw [← hV2] at HRJ
  rw [← hV3] at HRT
  clear hR1 hR2 hR3 hV1 hV2 hV3
  obtain ⟨P, hP⟩ : ∃ P, P = j.parts := ⟨_, rfl⟩
  obtain ⟨F, hF⟩ : ∃ F, F = j.fuel := ⟨_, rfl⟩
  rw [← hP, ← hF] at HLA HSL HMA HJO HTE HMY HRM HRJ HRT ⊢
  clear hP hF
  obtain ⟨W1, hW1⟩ : ∃ W1, W1 = w.alloc (.cells #[.slice ta j.mt.length tc, .slice ca j.mc.length cc, .slice ta2 j.jt.length tc2, .slice ca2 j.jc.length cc2, .slice ta3 j.tt.length tc3, .slice ca3 j.tc.length cc3, .int .i64 P, .int .i64 F] 27) := ⟨_, rfl⟩
  have hb1 : Below w.heap.size w W1 := by rw [hW1]; exact b_alloc _ _
  obtain ⟨J, hJ⟩ : ∃ J, J = w.heap.size := ⟨_, rfl⟩
  have hx : Blk W1 J 27 [.slice ta j.mt.length tc, .slice ca j.mc.length cc, .slice ta2 j.jt.length tc2, .slice ca2 j.jc.length cc2, .slice ta3 j.tt.length tc3, .slice ca3 j.tc.length cc3, .int .i64 P, .int .i64 F] := by rw [hJ, hW1]; exact Blk.new w _ _
  have HB1 := Lib.hid hb1
  have HX1 := Lib.hid hx
  have x0 := HX1.out.cell (k := 0) rfl
  have x1 := HX1.out.cell (k := 1) rfl
  have x2 := HX1.out.cell (k := 2) rfl
  have x3 := HX1.out.cell (k := 3) rfl
  have x4 := HX1.out.cell (k := 4) rfl
  have x5 := HX1.out.cell (k := 5) rfl
  have x6 := HX1.out.cell (k := 6) rfl
  have x7 := HX1.out.cell (k := 7) rfl
  have r1 : (rc.length : Int) ≤ 140737488355328 := by omega
  have r2 : (a.length : Int) ≤ 140737488355328 := by omega
  have r3 : (b.length : Int) ≤ 140737488355328 := by omega
  go_enter Tryz.func5, Tryz.ntmps5
  go_upto_region 1 with fail
  rw [← hW1, ← hJ]
  clear hW1 hJ hb1 hx hj hl1 hl2 hl3 hE hg hG hdo
  by_cases hla : largeJ j = true
  · rw [hla] at HLA
    clear hla
    go_wp2_with (first | (go_at_call 25; refine (HAV.out _ HB2.out).mono ?_; rintro e w3 ⟨rfl, hB3⟩; have HB3 := Lib.hid (bt HB2.out hB3); clear hB3) | (go_at_call 6; refine (HLA.out _ HB1.out).mono ?_; rintro e w2 ⟨rfl, hB2⟩; have HB2 := Lib.hid (bt HB1.out hB2); clear hB2 x0 x1 x2 x3 x4 x5 x6 x7))
    go_ret
    exact ⟨rfl, HB3.out⟩
  · have hlf : largeJ j = false := by cases q : largeJ j with
      | false => rfl
      | true => exact absurd q hla
    rw [hlf] at HLA
    go_wp2_with fail
    refine (HLA.out _ HB1.out).mono ?_
    rintro e w2 ⟨rfl, hB2⟩
    have HX2 := Lib.hid (HX1.out.below hB2)
    have HB2 := Lib.hid (bt HB1.out hB2)
    clear hB2 x0 x1 x2 x3 x4 x5 x6 x7 hla
    have x0 := HX2.out.cell (k := 0) rfl
    have x1 := HX2.out.cell (k := 1) rfl
    have x2 := HX2.out.cell (k := 2) rfl
    have x3 := HX2.out.cell (k := 3) rfl
    have x4 := HX2.out.cell (k := 4) rfl
    have x5 := HX2.out.cell (k := 5) rfl
    have x6 := HX2.out.cell (k := 6) rfl
    have x7 := HX2.out.cell (k := 7) rfl
    by_cases hs : slowJ j = true
    · rw [hs] at HSL
      clear hs hlf
      go_wp2_with (first | (go_at_call 25; refine (HAV.out _ HB3.out).mono ?_; rintro e w4 ⟨rfl, hB4⟩; have HB4 := Lib.hid (bt HB3.out hB4); clear hB4) | (go_at_call 7; refine (HSL.out _ HB2.out).mono ?_; rintro e w3 ⟨rfl, hB3⟩; have HB3 := Lib.hid (bt HB2.out hB3); clear hB3 x0 x1 x2 x3 x4 x5 x6 x7))
      go_ret
      exact ⟨rfl, HB4.out⟩
    · have hsf : slowJ j = false := by cases q : slowJ j with
        | false => rfl
        | true => exact absurd q hs
      rw [hsf] at HSL
      have HLF := Lib.hid hlf
      clear hs hsf hlf
      by_cases hsum : (4000 : Int) < (rc.length : Int) + (a.length : Int) + (b.length : Int)
      · go_wp2_with (first | (go_at_call 25; refine (HAV.out _ HB3.out).mono ?_; rintro e w4 ⟨rfl, hB4⟩; have HB4 := Lib.hid (bt HB3.out hB4); clear hB4) | (go_at_call 7; refine (HSL.out _ HB2.out).mono ?_; rintro e w3 ⟨rfl, hB3⟩; have HB3 := Lib.hid (bt HB2.out hB3); clear hB3 x0 x1 x2 x3 x4 x5 x6 x7))
        go_ret
        exact ⟨rfl, HB4.out⟩
      · go_upto_region 3 with (go_at_call 7; refine (HSL.out _ HB2.out).mono ?_; rintro e w3 ⟨rfl, hB3⟩; have HX3 := Lib.hid (HX2.out.below hB3); have HB3 := Lib.hid (bt HB2.out hB3); clear hB3 x0 x1 x2 x3 x4 x5 x6 x7)
        clear hsum
        have HGM := Lib.hid (HMA.out HLF.out)
        have HGJ := Lib.hid (HJO.out HLF.out)
        have HGT := Lib.hid (HTE.out HLF.out)
        have HGY := Lib.hid (HMY.out HLF.out)
        have HQM := Lib.hid (HRM.out HLF.out)
        have HQJ := Lib.hid (HRJ.out HLF.out)
        have HQT := Lib.hid (HRT.out HLF.out)
        clear HMA HJO HTE HMY HRM HRJ HRT
        by_cases hm : mayJ j = true
        · have e1 := HM1.out hm
          have e2 := HM2.out hm
          have e3 := HM3.out hm
          rw [hm] at HGY
          rw [e1] at HGM
          rw [e2] at HGJ
          rw [e3] at HGT
          clear HM1 HM2 HM3 HN1 HN2 HN3 e1 e2 e3 hm R1 R2 R3
          have x0 := HX3.out.cell (k := 0) rfl
          have x1 := HX3.out.cell (k := 1) rfl
          have x2 := HX3.out.cell (k := 2) rfl
          have x3 := HX3.out.cell (k := 3) rfl
          have x4 := HX3.out.cell (k := 4) rfl
          have x5 := HX3.out.cell (k := 5) rfl
          have x6 := HX3.out.cell (k := 6) rfl
          have x7 := HX3.out.cell (k := 7) rfl
          go_wp2_with fail
          refine (HGM.out _ HB3.out).mono ?_
          rintro e w4 ⟨⟨pv, rfl, hr⟩, hB4⟩
          have HX4 := Lib.hid (HX3.out.below hB4)
          have hr4 := recKv_rpT hr
          obtain ⟨pa, pc, rfl, _, -⟩ := hr4.open
          have HR4 := Lib.hid hr4
          clear hr hr4
          have HB4 := Lib.hid (bt HB3.out hB4)
          clear hB4 x0 x1 x2 x3 x4 x5 x6 x7
          have x0 := HX4.out.cell (k := 0) rfl
          have x1 := HX4.out.cell (k := 1) rfl
          have x2 := HX4.out.cell (k := 2) rfl
          have x3 := HX4.out.cell (k := 3) rfl
          have x4 := HX4.out.cell (k := 4) rfl
          have x5 := HX4.out.cell (k := 5) rfl
          have x6 := HX4.out.cell (k := 6) rfl
          have x7 := HX4.out.cell (k := 7) rfl
          go_wp2_with fail
          refine (HGJ.out _ HB4.out).mono ?_
          rintro e w5 ⟨rfl, hB5⟩
          have HX5 := Lib.hid (HX4.out.below hB5)
          have HR5 := Lib.hid (HR4.out.below hB5)
          have HB5 := Lib.hid (bt HB4.out hB5)
          clear hB5 x0 x1 x2 x3 x4 x5 x6 x7
          have x0 := HX5.out.cell (k := 0) rfl
          have x1 := HX5.out.cell (k := 1) rfl
          have x2 := HX5.out.cell (k := 2) rfl
          have x3 := HX5.out.cell (k := 3) rfl
          have x4 := HX5.out.cell (k := 4) rfl
          have x5 := HX5.out.cell (k := 5) rfl
          have x6 := HX5.out.cell (k := 6) rfl
          have x7 := HX5.out.cell (k := 7) rfl
          go_wp2_with fail
          refine (HGT.out _ HB5.out).mono ?_
          rintro e w6 ⟨rfl, hB6⟩
          have HX6 := Lib.hid (HX5.out.below hB6)
          have HR6 := Lib.hid (HR5.out.below hB6)
          have HB6 := Lib.hid (bt HB5.out hB6)
          clear hB6 x0 x1 x2 x3 x4 x5 x6 x7
          have x0 := HX6.out.cell (k := 0) rfl
          have x1 := HX6.out.cell (k := 1) rfl
          have x2 := HX6.out.cell (k := 2) rfl
          have x3 := HX6.out.cell (k := 3) rfl
          have x4 := HX6.out.cell (k := 4) rfl
          have x5 := HX6.out.cell (k := 5) rfl
          have x6 := HX6.out.cell (k := 6) rfl
          have x7 := HX6.out.cell (k := 7) rfl
          go_wp2_with fail
          refine (HGY.out _ HB6.out).mono ?_
          rintro e w7 ⟨rfl, hB7⟩
          have HX7 := Lib.hid (HX6.out.below hB7)
          have HR7 := Lib.hid (HR6.out.below hB7)
          have HB7 := Lib.hid (bt HB6.out hB7)
          clear hB7 x0 x1 x2 x3 x4 x5 x6 x7
          have x0 := HX7.out.cell (k := 0) rfl
          have x1 := HX7.out.cell (k := 1) rfl
          have x2 := HX7.out.cell (k := 2) rfl
          have x3 := HX7.out.cell (k := 3) rfl
          have x4 := HX7.out.cell (k := 4) rfl
          have x5 := HX7.out.cell (k := 5) rfl
          have x6 := HX7.out.cell (k := 6) rfl
          have x7 := HX7.out.cell (k := 7) rfl
          go_wp2_with fail
          refine (HQM.out _ HB7.out).mono ?_
          rintro e w8 ⟨⟨qv, rfl, hr⟩, hB8⟩
          have HX8 := Lib.hid (HX7.out.below hB8)
          have hr8 := recKq_rp hr
          obtain ⟨qa, qc, rfl, _, -⟩ := hr8.open
          have HQ8 := Lib.hid hr8
          have HR8 := Lib.hid (HR7.out.below hB8)
          clear hr hr8
          have HB8 := Lib.hid (bt HB7.out hB8)
          clear hB8 x0 x1 x2 x3 x4 x5 x6 x7
          have x0 := HX8.out.cell (k := 0) rfl
          have x1 := HX8.out.cell (k := 1) rfl
          have x2 := HX8.out.cell (k := 2) rfl
          have x3 := HX8.out.cell (k := 3) rfl
          have x4 := HX8.out.cell (k := 4) rfl
          have x5 := HX8.out.cell (k := 5) rfl
          have x6 := HX8.out.cell (k := 6) rfl
          have x7 := HX8.out.cell (k := 7) rfl
          go_wp2_with fail
          refine (HQJ.out _ HB8.out).mono ?_
          rintro e w9 ⟨rfl, hB9⟩
          have HX9 := Lib.hid (HX8.out.below hB9)
          have HR9 := Lib.hid (HR8.out.below hB9)
          have HQ9 := Lib.hid (HQ8.out.below hB9)
          have HB9 := Lib.hid (bt HB8.out hB9)
          clear hB9 x0 x1 x2 x3 x4 x5 x6 x7
          have x0 := HX9.out.cell (k := 0) rfl
          have x1 := HX9.out.cell (k := 1) rfl
          have x2 := HX9.out.cell (k := 2) rfl
          have x3 := HX9.out.cell (k := 3) rfl
          have x4 := HX9.out.cell (k := 4) rfl
          have x5 := HX9.out.cell (k := 5) rfl
          have x6 := HX9.out.cell (k := 6) rfl
          have x7 := HX9.out.cell (k := 7) rfl
          go_wp2_with fail
          refine (HQT.out _ HB9.out).mono ?_
          rintro e w10 ⟨rfl, hB10⟩
          have HX10 := Lib.hid (HX9.out.below hB10)
          have HR10 := Lib.hid (HR9.out.below hB10)
          have HQ10 := Lib.hid (HQ9.out.below hB10)
          have HB10 := Lib.hid (bt HB9.out hB10)
          clear hB10 x0 x1 x2 x3 x4 x5 x6 x7
          go_wp2_with fail
          refine (same14_any _ _ V1.2.1 V1.2.1 w10 HR10.out HQ10.out (Nat.le_trans HVP.out (by decide)) (Nat.le_trans HVP.out (by decide))).mono ?_
          rw [decide_eq_true rfl]
          rintro e w11 ⟨rfl, hB11⟩
          have HB11 := Lib.hid (bt HB10.out hB11)
          clear hB11
          go_wp2_with (go_at_call 25; refine (HAV.out _ HB11.out).mono ?_; rintro e w12 ⟨rfl, hB12⟩; have HB12 := Lib.hid (bt HB11.out hB12); clear hB12)
          go_ret
          exact ⟨rfl, HB12.out⟩
        · have hno : mayJ j = false := by cases q : mayJ j with
            | false => rfl
            | true => exact absurd q hm
          have e1 := HN1.out hno
          have e2 := HN2.out hno
          have e3 := HN3.out hno
          rw [hno] at HGY
          rw [e1] at HGM
          rw [e2] at HGJ
          rw [e3] at HGT
          clear HM1 HM2 HM3 HN1 HN2 HN3 e1 e2 e3 hm hno R1 R2 R3
          have x0 := HX3.out.cell (k := 0) rfl
          have x1 := HX3.out.cell (k := 1) rfl
          have x2 := HX3.out.cell (k := 2) rfl
          have x3 := HX3.out.cell (k := 3) rfl
          have x4 := HX3.out.cell (k := 4) rfl
          have x5 := HX3.out.cell (k := 5) rfl
          have x6 := HX3.out.cell (k := 6) rfl
          have x7 := HX3.out.cell (k := 7) rfl
          go_wp2_with fail
          refine (HGM.out _ HB3.out).mono ?_
          rintro e w4 ⟨⟨pv, rfl, hr⟩, hB4⟩
          have HX4 := Lib.hid (HX3.out.below hB4)
          have hr4 := recKv_rpT hr
          obtain ⟨pa, pc, rfl, _, -⟩ := hr4.open
          clear hr hr4
          have HB4 := Lib.hid (bt HB3.out hB4)
          clear hB4 x0 x1 x2 x3 x4 x5 x6 x7
          have x0 := HX4.out.cell (k := 0) rfl
          have x1 := HX4.out.cell (k := 1) rfl
          have x2 := HX4.out.cell (k := 2) rfl
          have x3 := HX4.out.cell (k := 3) rfl
          have x4 := HX4.out.cell (k := 4) rfl
          have x5 := HX4.out.cell (k := 5) rfl
          have x6 := HX4.out.cell (k := 6) rfl
          have x7 := HX4.out.cell (k := 7) rfl
          go_wp2_with fail
          refine (HGJ.out _ HB4.out).mono ?_
          rintro e w5 ⟨rfl, hB5⟩
          have HX5 := Lib.hid (HX4.out.below hB5)
          have HB5 := Lib.hid (bt HB4.out hB5)
          clear hB5 x0 x1 x2 x3 x4 x5 x6 x7
          have x0 := HX5.out.cell (k := 0) rfl
          have x1 := HX5.out.cell (k := 1) rfl
          have x2 := HX5.out.cell (k := 2) rfl
          have x3 := HX5.out.cell (k := 3) rfl
          have x4 := HX5.out.cell (k := 4) rfl
          have x5 := HX5.out.cell (k := 5) rfl
          have x6 := HX5.out.cell (k := 6) rfl
          have x7 := HX5.out.cell (k := 7) rfl
          go_wp2_with fail
          refine (HGT.out _ HB5.out).mono ?_
          rintro e w6 ⟨rfl, hB6⟩
          have HX6 := Lib.hid (HX5.out.below hB6)
          have HB6 := Lib.hid (bt HB5.out hB6)
          clear hB6 x0 x1 x2 x3 x4 x5 x6 x7
          have x0 := HX6.out.cell (k := 0) rfl
          have x1 := HX6.out.cell (k := 1) rfl
          have x2 := HX6.out.cell (k := 2) rfl
          have x3 := HX6.out.cell (k := 3) rfl
          have x4 := HX6.out.cell (k := 4) rfl
          have x5 := HX6.out.cell (k := 5) rfl
          have x6 := HX6.out.cell (k := 6) rfl
          have x7 := HX6.out.cell (k := 7) rfl
          go_wp2_with fail
          refine (HGY.out _ HB6.out).mono ?_
          rintro e w7 ⟨rfl, hB7⟩
          have HX7 := Lib.hid (HX6.out.below hB7)
          have HB7 := Lib.hid (bt HB6.out hB7)
          clear hB7 x0 x1 x2 x3 x4 x5 x6 x7
          go_wp2_with (go_at_call 25; refine (HAV.out _ HB7.out).mono ?_; rintro e w12 ⟨rfl, hB12⟩; have HB12 := Lib.hid (bt HB7.out hB12); clear hB12)
          go_ret
          exact ⟨rfl, HB12.out⟩
end Go.Proofs.YtndagciefnddmaaGreatDoor
namespace Go.Proofs.YtndagciefnddmaaGreatDoor
open Go.ChangeShapes Go.WideShapes Go.ChangeAt Go.RowKit Oct
open Go.ChangeMaps (open_string shut_string)
section
variable {P : Program} {H : Type} {enc : TypeId × Value → H} {W : World} {base : Nat}
theorem open_str {t j : Nat} {v : Value} {d : DataW H} {ps : List MemPlace} {ts : List TypeId} {ds : List (DataW H)} (ht : P.underlying t = some .string) (hv : Value.okWide P W .any base t v)
    (h : DataW.Trod enc P W 0 (fun _ => true) true t v d ps) (hsz : (DataW.weightsEach P ts ds).all (· ≤ reachBytes) = true) (hj : ts[j]? = some t) (hd : ds[j]? = some d) :
    ∃ l : List UInt8, v = .string (bs l) ∧ l.length ≤ 140737488355328 := by
  obtain ⟨s, rfl, rfl, _, _⟩ := open_string ht hv h
  refine ⟨s.data.toList, by rw [bs_of], ?_⟩
  have := sized_string hsz hj hd
  have h2 := reachBytes_lt
  omega
theorem add_cell {w : World} {a : Addr} {i : Nat} {u : Value} (h : w.cell? (a.add i) = some u) : a.add i = ⟨a.block, a.off + i, none⟩ := by
  unfold Addr.add at h ⊢
  split
  · rename_i hi
    rw [if_pos hi] at h
    subst hi
    cases a with
    | mk b o sp =>
      cases sp with
      | none => rfl
      | some x => exfalso; revert h; simp only [World.cell?]; split <;> simp
  · rfl
end
end Go.Proofs.YtndagciefnddmaaGreatDoor
