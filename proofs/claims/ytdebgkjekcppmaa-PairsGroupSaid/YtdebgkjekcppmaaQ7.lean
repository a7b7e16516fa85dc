/- Walks: Get of pairs. -/
import Derived.Test.YtdebgkjekcppmaaQ6
import Derived.Test.YtdebgkjekcppmaaQS
import Derived.Test.YtdebgkjekcppmaaW3
import Derived.Maps.RangeWalk
namespace Go.Proofs.Ytdebgkjekcppmaa
open Go.RowKit Oct

/-- what Get gives -/
def PsRes (o : Option (List PR)) (base : Nat) (e : Ending) (w' : World) : Prop :=
  match o with
  | some r => ∃ v, e = .returned (.tuple #[v, .int .i64 0]) ∧ OP w' base v r
  | none => e = .returned (.tuple #[.slice none 0 0, .int .i64 7])
theorem b_drewB (w : World) (b : Nat) : Below b w w.drew := (Below.refl _ _).drew
theorem rdV_at' (r : List UInt8 × Nat × Int) : rdV r = .tuple #[.string (bs r.1), .int .i64 r.2.1, .int .i64 r.2.2] := rfl

set_option maxRecDepth 100000 in
set_option maxHeartbeats 4000000 in
theorem rGetP_any (l : List UInt8) (w : World) (hs : l.length ≤ 140737488355328) :
    Calls Try.prog 30 #[.string (bs l)] w fun e w' => PsRes (getP l) w.heap.size e w' ∧ Below w.heap.size w w' := by
  by_cases h : l.length < 2
  · rw [getP_short l h]
    go_enter Try.func30, Try.ntmps30
    go_wp2
    go_ret2
    exact ⟨rfl, Below.refl _ _⟩
  · have hv := val2_lt l
    go_enter Try.func30, Try.ntmps30
    go_wp2_with (go_at_call 72; refine (value_any _ _ (by simp; omega)).mono ?_; rw [bs_data]; rintro e w' ⟨rfl, rfl⟩)
    go_loopw [0, 5, 6] (fun s v i wr => ∃ k m : Nat, ∃ r : List PR, ∃ t : List UInt8, k + m = val (l.take 2) ∧ i = .int .i64 k ∧ s = .string (bs t) ∧ t.length ≤ 140737488355328 ∧ r.length = k ∧ OP wr w.heap.size v r ∧ Hid (PsInv (l.drop 2) (val (l.take 2)) m r t) ∧ Below w.heap.size w wr) (fun _ _ i _ => val (l.take 2) - (intOf i).toNat)
    case atStart => exact ⟨0, val (l.take 2), [], _, by omega, rfl, rfl, by simp; omega, rfl, OP.nil _ _, PsInv.start _ _, Below.refl _ _⟩
    case round =>
      obtain ⟨k, m, r, t, hkm, rfl, rfl, ht, hrk, hown, hH, hB⟩ := hrel
      have HK := Lib.hid hkm
      have HR := Lib.hid hrk
      have hk1 : r.length ≤ 65536 := by omega
      by_cases h0 : k < val (l.take 2)
      · clear hkm hrk
        obtain ⟨m, rfl⟩ : ∃ m', m = m' + 1 := ⟨m - 1, by have := HK.out; omega⟩
        by_cases ho : (readT t).2.2 = 0
        · have hle := (readT_le t ho).1
          have hr1 : (rest1 t).length ≤ 140737488355328 := by unfold rest1; simp; omega
          go_wp2_with fail
          refine (rRead_any _ _ ht).mono ?_; rw [rdV_at']; rintro e w2 ⟨rfl, hB2⟩
          go_wp2_with fail
          have HO := Lib.hid ho
          by_cases ho2 : (readT (rest1 t)).2.2 = 0
          · have hp : pok t := ⟨ho, ho2⟩
            have hpl := plen_le t hp
            have HP := Lib.hid hp
            clear hp ho
            have hown2 := hown.below hB2
            refine (rRead_any (rest1 t) _ hr1).mono ?_; rw [rdV_at']; rintro e w3 ⟨rfl, hB3⟩
            have hown3 := hown2.below hB3
            have hby : (r.length + 1) * 32 ≤ 140737488355328 := by omega
            have hbase := (bt hB (bt hB2 hB3)).size
            have q0 : (readT t).2.1 + (readT (rest1 t)).2.1 ≤ t.length := hpl
            have q1 : IntKind.i64.wrap (((readT t).2.1 : Int) + ((readT (rest1 t)).2.1 : Int)) = ((readT t).2.1 : Int) + ((readT (rest1 t)).2.1 : Int) := IntWalk.i64_in _ (by omega)
            have HL := Lib.hid hpl
            clear hpl
            go_wp2_with (at_builtin; refine append1P w3 (pnow t) rfl _ _ 35 rfl Try.underlying35 w.heap.size _ r rfl hown3 _ rfl hby hbase ?_; intro v' w4 hown4 hB4)
            go_roundw
            case rel => exact ⟨k + 1, m, r ++ [pnow t], _, by have := HK.out; omega, by go_num, rfl, by simp; omega, by simp [HR.out], hown4, hH.out.step HP.out, (bt hB (bt hB2 hB3)).trans hB4⟩
            case measure => simp [intOf]; omega
          · have HO2 := Lib.hid (fun hp : pok t => ho2 hp.2)
            have ho1 : ((readT (rest1 t)).2.2 == 0) = false := by simpa using ho2
            have ho3 : ((readT (rest1 t)).2.2 != 0) = true := by simpa using ho2
            clear ho ho2
            refine (rRead_any (rest1 t) _ hr1).mono ?_; rw [rdV_at']; rintro e w3 ⟨rfl, hB3⟩
            go_wp2
            go_ret2
            rw [getP_no l (hH.out.no HO2.out)]
            exact ⟨rfl, bt hB (bt hB2 hB3)⟩
        · have ho1 : ((readT t).2.2 == 0) = false := by simpa using ho
          have ho2 : ((readT t).2.2 != 0) = true := by simpa using ho
          have HO := Lib.hid (fun hp : pok t => ho hp.1)
          clear ho
          go_wp2_with fail
          refine (rRead_any _ _ ht).mono ?_; rw [rdV_at']; rintro e w2 ⟨rfl, hB2⟩
          go_wp2
          go_ret2
          rw [getP_no l (hH.out.no HO.out)]
          exact ⟨rfl, bt hB hB2⟩
      · obtain rfl : m = 0 := by omega
        have hF := hH.out.fin
        by_cases hz : t = []
        · subst hz
          rw [if_pos rfl] at hF
          have hG := getP_some l h r hF
          clear hkm hrk hF
          cases hst : sorted r
          · have hG2 : getP l = none := by rw [hG, hst]; rfl
            have HG := Lib.hid hG2
            have HS := Lib.hid hst
            clear hG hG2 hst
            go_wp2_with fail
            refine (rSorted_any _ r _ hown.reads (by omega)).mono ?_; rw [HS.out]; rintro e w2 ⟨rfl, hB2⟩
            go_wp2
            go_ret2
            rw [HG.out]
            exact ⟨rfl, bt hB hB2⟩
          · have hG2 : getP l = some r := by rw [hG, hst]; rfl
            have HG := Lib.hid hG2
            have HS := Lib.hid hst
            clear hG hG2 hst
            go_wp2_with fail
            refine (rSorted_any _ r _ hown.reads (by omega)).mono ?_; rw [HS.out]; rintro e w2 ⟨rfl, hB2⟩
            have hown2 := hown.below hB2
            go_wp2
            go_ret2
            rw [HG.out]
            exact ⟨⟨_, rfl, hown2⟩, bt hB hB2⟩
        · rw [if_neg hz] at hF
          have HG := Lib.hid (getP_no l hF)
          clear hkm hrk hF
          have hz2 : t.isEmpty = false := by simpa using hz
          go_wp2
          go_ret2
          rw [HG.out]
          exact ⟨rfl, hB⟩
theorem getS2 (l : List UInt8) (h : ¬ l.length < 2) : getS (l.take 2) = ((val (l.take 2) : Int), 0) := by
  unfold getS; rw [if_pos (by simp; omega)]

set_option maxRecDepth 100000 in
set_option maxHeartbeats 4000000 in
theorem GetP_any (l : List UInt8) (w : World) (hs : l.length ≤ 140737488355328) :
    Calls Try.prog 29 #[.string (bs l)] w fun e w' => PsRes (getP l) w.heap.size e w' ∧ Below w.heap.size w w' := by
  by_cases h : l.length < 2
  · rw [getP_short l h]
    go_enter Try.func29, Try.ntmps29
    go_wp2
    go_ret2
    exact ⟨rfl, Below.refl _ _⟩
  · have hv := val2_lt l
    go_enter Try.func29, Try.ntmps29
    have HG0 := Lib.hid (getS2 l h)
    go_wp2_with (go_at_call 70; refine (Get_any _ _ (by simp [maxLen]; omega)).mono ?_; rw [bs_data, HG0.out]; rintro e w' ⟨rfl, rfl⟩)
    go_loopw [0, 2, 23] (fun s v i wr => ∃ k m : Nat, ∃ r : List PR, ∃ t : List UInt8, k + m = val (l.take 2) ∧ i = .int .u64 k ∧ s = .string (bs t) ∧ t.length ≤ 140737488355328 ∧ r.length = k ∧ OP wr w.heap.size v r ∧ Hid (PsInv (l.drop 2) (val (l.take 2)) m r t) ∧ Below w.heap.size w wr) (fun _ _ i _ => val (l.take 2) - (intOf i).toNat)
    case atStart => exact ⟨0, val (l.take 2), [], _, by omega, rfl, rfl, by simp; omega, rfl, OP.nil _ _, PsInv.start _ _, Below.refl _ _⟩
    case round =>
      obtain ⟨k, m, r, t, hkm, rfl, rfl, ht, hrk, hown, hH, hB⟩ := hrel
      have HK := Lib.hid hkm
      have HR := Lib.hid hrk
      have hk1 : r.length ≤ 65536 := by omega
      by_cases h0 : k < val (l.take 2)
      · clear hkm hrk
        obtain ⟨m, rfl⟩ : ∃ m', m = m' + 1 := ⟨m - 1, by have := HK.out; omega⟩
        by_cases ho : (readT t).2.2 = 0
        · have hle := (readT_le t ho).1
          have hr1 : (rest1 t).length ≤ 140737488355328 := by unfold rest1; simp; omega
          go_wp2_with fail
          refine (Read_any _ _ ht).mono ?_; rw [rdV_at']; rintro e w2 ⟨rfl, hB2⟩
          go_wp2_with fail
          have HO := Lib.hid ho
          by_cases ho2 : (readT (rest1 t)).2.2 = 0
          · have hp : pok t := ⟨ho, ho2⟩
            have hpl := plen_le t hp
            have HP := Lib.hid hp
            clear hp ho
            have hown2 := hown.below hB2
            refine (Read_any (rest1 t) _ hr1).mono ?_; rw [rdV_at']; rintro e w3 ⟨rfl, hB3⟩
            have hown3 := hown2.below hB3
            have hby : (r.length + 1) * 32 ≤ 140737488355328 := by omega
            have hbase := (bt hB (bt hB2 hB3)).size
            have q0 : (readT t).2.1 + (readT (rest1 t)).2.1 ≤ t.length := hpl
            have q1 : IntKind.i64.wrap (((readT t).2.1 : Int) + ((readT (rest1 t)).2.1 : Int)) = ((readT t).2.1 : Int) + ((readT (rest1 t)).2.1 : Int) := IntWalk.i64_in _ (by omega)
            have HL := Lib.hid hpl
            clear hpl
            have q2 : (0 : Int) ≤ ((readT t).2.1 : Int) + ((readT (rest1 t)).2.1 : Int) := by omega
            have q3 : (((readT t).2.1 : Int) + ((readT (rest1 t)).2.1 : Int)).toNat = (readT t).2.1 + (readT (rest1 t)).2.1 := by omega
            have q4 : ((readT t).2.1 : Int) + ((readT (rest1 t)).2.1 : Int) ≤ (t.length : Int) := by omega
            have hown3d := World.ownsRow.drew hown3
            have hbased : w.heap.size ≤ w3.drew.heap.size := hbase
            obtain ⟨ao, co, rfl⟩ := owns_slice hown
            clear hown hown2 hown3
            go_wp2
            go_region_law (refine step_append1P w3.drew (pnow t) rfl _ _ 35 rfl Try.underlying35 w.heap.size _ r rfl hown3d _ rfl hby hbased ?_; intro g cap w4 hown4 hB4)
            all_goals
              simp only [List.getElem_toArray, List.getElem_cons_succ, List.getElem_cons_zero]
              go_frame
              go_wp2
              go_roundw
              case rel => exact ⟨k + 1, m, r ++ [pnow t], _, by have := HK.out; omega, by go_num, rfl, by simp; omega, by simp [HR.out], hown4, hH.out.step HP.out, (bt hB (bt hB2 hB3)).trans ((b_drewB w3 _).trans hB4)⟩
              case measure => simp [intOf]; omega
          · have HO2 := Lib.hid (fun hp : pok t => ho2 hp.2)
            have ho1 : ((readT (rest1 t)).2.2 == 0) = false := by simpa using ho2
            have ho3 : ((readT (rest1 t)).2.2 != 0) = true := by simpa using ho2
            clear ho ho2
            refine (Read_any (rest1 t) _ hr1).mono ?_; rw [rdV_at']; rintro e w3 ⟨rfl, hB3⟩
            go_wp2
            go_ret2
            rw [getP_no l (hH.out.no HO2.out)]
            exact ⟨rfl, bt hB (bt hB2 hB3)⟩
        · have ho1 : ((readT t).2.2 == 0) = false := by simpa using ho
          have ho2 : ((readT t).2.2 != 0) = true := by simpa using ho
          have HO := Lib.hid (fun hp : pok t => ho hp.1)
          clear ho
          go_wp2_with fail
          refine (Read_any _ _ ht).mono ?_; rw [rdV_at']; rintro e w2 ⟨rfl, hB2⟩
          go_wp2
          go_ret2
          rw [getP_no l (hH.out.no HO.out)]
          exact ⟨rfl, bt hB hB2⟩
      · obtain rfl : m = 0 := by omega
        have hF := hH.out.fin
        by_cases hz : t = []
        · subst hz
          rw [if_pos rfl] at hF
          have hG := getP_some l h r hF
          clear hkm hrk hF
          cases hst : sorted r
          · have hG2 : getP l = none := by rw [hG, hst]; rfl
            have HG := Lib.hid hG2
            have HS := Lib.hid hst
            clear hG hG2 hst
            go_wp2_with fail
            refine (Check_any _ r _ hown.reads (by omega)).mono ?_; rw [chk, HS.out]; rintro e w2 ⟨rfl, hB2⟩
            go_wp2
            go_ret2
            rw [HG.out]
            exact ⟨rfl, bt hB hB2⟩
          · have hG2 : getP l = some r := by rw [hG, hst]; rfl
            have HG := Lib.hid hG2
            have HS := Lib.hid hst
            clear hG hG2 hst
            go_wp2_with fail
            refine (Check_any _ r _ hown.reads (by omega)).mono ?_; rw [chk, HS.out]; rintro e w2 ⟨rfl, hB2⟩
            have hown2 := hown.below hB2
            go_wp2
            go_ret2
            rw [HG.out]
            exact ⟨⟨_, rfl, hown2⟩, bt hB hB2⟩
        · rw [if_neg hz] at hF
          have HG := Lib.hid (getP_no l hF)
          clear hkm hrk hF
          have hz2 : t.isEmpty = false := by simpa using hz
          go_wp2
          go_ret2
          rw [HG.out]
          exact ⟨rfl, hB⟩
end Go.Proofs.Ytdebgkjekcppmaa
