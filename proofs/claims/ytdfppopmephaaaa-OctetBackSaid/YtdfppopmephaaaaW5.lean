/- Walks of package octet: ReadShort of the reference. -/
import Derived.Test.YtdfppopmephaaaaW4
import Derived.Test.YtdfppopmephaaaaP2
import Derived.Deep.RegionHeld3
namespace Go.Proofs.Ytdfppopmephaaaa
open Go.RowKit Oct

theorem byte_data (s : ByteArray) (k : Nat) (h : k < s.size) : s.data.toList[k]'(by simpa using h) = s[k] := by simp; rfl
theorem lead_hi (s : ByteArray) (k : Nat) (h : k < s.size) (h' : k < lead s.data.toList) : (128 : Int) ≤ (s[k].toNat : Int) := by
  have := lead_yes s.data.toList k (by simpa using h) h'
  rw [byte_data s k h] at this; omega
theorem lead_lo (s : ByteArray) (h : lead s.data.toList < s.size) : (s[lead s.data.toList].toNat : Int) < 128 := by
  have := lead_not s.data.toList (by simpa using h)
  rw [byte_data s _ h] at this; omega
theorem lead_size (s : ByteArray) : lead s.data.toList ≤ s.size := by have := lead_le s.data.toList; simpa using this

/-- what ReadShort gives, as values -/
def rsV (r : Nat × Nat × Int) : Value := .tuple #[.int .u64 r.1, .int .i64 r.2.1, .int .i64 r.2.2]
theorem rsV_mk (a b : Nat) (c : Int) : rsV (a, b, c) = .tuple #[.int .u64 a, .int .i64 b, .int .i64 c] := rfl

set_option maxRecDepth 100000 in
set_option maxHeartbeats 400000 in
theorem rReadShort_end (s : ByteArray) (w : World) (hs : s.size ≤ maxLen) (h : lead s.data.toList = s.size) (h9 : s.size ≤ 9) :
    Calls Try.prog 15 #[.string s] w fun e w' => e = .returned (rsV (readShort s.data.toList)) ∧ Below w.heap.size w w' := by
  unfold maxLen at hs
  rw [readShort_end s.data.toList (by simpa using h) (by simpa using h9), rsV_mk]
  have hhi := lead_hi s
  go_enter Try.func15, Try.ntmps15
  go_wp2
  go_loop [5] (fun i => ∃ k : Nat, k ≤ s.size ∧ i = .int .i64 k) (fun i => (s.size - (intOf i).toNat))
  case atStart => exact ⟨0, by omega, rfl⟩
  case round =>
    obtain ⟨k, hk, rfl⟩ := hrel
    by_cases h0 : k < s.size
    · have hb := hhi k h0 (by omega)
      go_wp2
      go_round
      case rel => exact ⟨k + 1, by omega, by go_num⟩
      case measure => simp [intOf]; omega
    · obtain rfl : k = s.size := by omega
      go_wp2
      go_ret3
      exact ⟨rfl, Below.refl _ _⟩

set_option maxRecDepth 100000 in
set_option maxHeartbeats 400000 in
theorem rReadShort_big (s : ByteArray) (w : World) (hs : s.size ≤ maxLen) (h : 10 ≤ lead s.data.toList) :
    Calls Try.prog 15 #[.string s] w fun e w' => e = .returned (rsV (readShort s.data.toList)) ∧ Below w.heap.size w w' := by
  unfold maxLen at hs
  rw [readShort_big s.data.toList h, rsV_mk]
  have hhi := lead_hi s
  have hle := lead_size s
  go_enter Try.func15, Try.ntmps15
  go_wp2
  go_loop [5] (fun i => ∃ k : Nat, k ≤ 10 ∧ i = .int .i64 k) (fun i => (10 - (intOf i).toNat))
  case atStart => exact ⟨0, by omega, rfl⟩
  case round =>
    obtain ⟨k, hk, rfl⟩ := hrel
    by_cases h0 : k < 10
    · have hb := hhi k (by omega) (by omega)
      go_wp2
      go_round
      case rel => exact ⟨k + 1, by omega, by go_num⟩
      case measure => simp [intOf]; omega
    · obtain rfl : k = 10 := by omega
      go_wp2
      all_goals
        go_ret3
        exact ⟨rfl, Below.refl _ _⟩

/-- one step of the sum -/
theorem val7_round (s : ByteArray) (n j : Nat) (hj : j < n + 1) (hn : n < s.size) :
    IntKind.u64.wrap (IntKind.u64.wrap (((val7 ((s.data.toList.take (n + 1)).drop (j + 1)) % 18446744073709551616 : Nat) : Int) * 128) + (s[j].toNat : Int) % 128) = ((val7 ((s.data.toList.take (n + 1)).drop j) % 18446744073709551616 : Nat) : Int) := by
  have hl : s.data.toList.length = s.size := by simp
  have e : (s.data.toList.take (n + 1)).drop j = s[j] :: (s.data.toList.take (n + 1)).drop (j + 1) := by
    rw [List.drop_eq_getElem_cons (by rw [List.length_take]; omega), List.getElem_take, byte_data s j (by omega)]
  rw [e, val7]
  generalize val7 ((s.data.toList.take (n + 1)).drop (j + 1)) = x
  generalize s[j].toNat = c
  simp only [IntKind.wrap_u64]
  omega

set_option maxRecDepth 100000 in
set_option maxHeartbeats 400000 in
theorem rReadShort_mid (s : ByteArray) (w : World) (hs : s.size ≤ maxLen) (n : Nat) (hn : lead s.data.toList = n) (h : n < s.size) (h9 : n ≤ 9) :
    Calls Try.prog 15 #[.string s] w fun e w' => e = .returned (rsV (readShort s.data.toList)) ∧ Below w.heap.size w w' := by
  unfold maxLen at hs
  have hhi := lead_hi s
  have hlo : (s[n].toNat : Int) < 128 := by subst hn; exact lead_lo s h
  have HR := Lib.hid (readShort_ref s.data.toList (by simpa using hn ▸ h) (by omega))
  rw [hn] at HR
  have HN := Lib.hid hn
  clear hn
  go_enter Try.func15, Try.ntmps15
  go_wp2
  go_loop [5] (fun i => ∃ k : Nat, k ≤ n ∧ i = .int .i64 k) (fun i => (n - (intOf i).toNat))
  case atStart => exact ⟨0, by omega, rfl⟩
  case round =>
    obtain ⟨k, hk, rfl⟩ := hrel
    by_cases h0 : k < n
    · have hb := hhi k (by omega) (by rw [HN.out]; omega)
      go_wp2
      go_round
      case rel => exact ⟨k + 1, by omega, by go_num⟩
      case measure => simp [intOf]; omega
    · obtain rfl : k = n := by omega
      have b0 : ((k : Int) == (s.size : Int)) = false := beq_eq_false_iff_ne.2 (by omega)
      have b1 : ((k : Int) == 10) = false := beq_eq_false_iff_ne.2 (by omega)
      go_wp2
      go_loop [6, 7] (fun v i => ∃ j x : Nat, j ≤ k + 1 ∧ i = .int .i64 ((j : Int) - 1) ∧ v = .int .u64 x ∧ x < 18446744073709551616 ∧ Hid (x = val7 ((s.data.toList.take (k + 1)).drop j) % 18446744073709551616)) (fun _ i => (intOf i + 1).toNat)
      case atStart => exact ⟨k + 1, 0, by omega, by go_num, rfl, by decide, by show 0 = _; rw [List.drop_of_length_le (by simp; omega)]; rfl⟩
      case round =>
        obtain ⟨j, x, hj, rfl, rfl, hx, hH⟩ := hrel
        by_cases h1 : 0 < j
        · obtain ⟨j, rfl⟩ : ∃ i, j = i + 1 := ⟨j - 1, by omega⟩
          have V := Lib.hid (val7_round s k j (by omega) h)
          go_wp2
          go_round
          case rel => exact ⟨j, _, by omega, by go_num, v_int (by have := V.out; rw [← hH.out] at this; exact this), Nat.mod_lt _ (by decide), rfl⟩
          case measure => simp [intOf]
        · obtain rfl : j = 0 := by omega
          have hH2 := Lib.hid (hH.out)
          clear hH
          by_cases hq : short x = s.data.toList.take (k + 1)
          · have hq2 : (short x == (s.extract 0 (k + 1)).toList) = true := by rw [ByteArray.toList_eq, Lib.extract_data]; simpa using hq
            have HQ := Lib.hid hq; clear hq
            have q1 : IntKind.i64.wrap ((k : Int) + 1) = (k : Int) + 1 := IntWalk.i64_in _ (by omega)
            have q2 : (0 : Int) ≤ (k : Int) + 1 := by omega
            have q3 : ((k : Int) + 1).toNat = k + 1 := by omega
            have q4 : (k : Int) + 1 ≤ (s.size : Int) := by omega
            go_wp2
            go_region_with (go_at_call 17; refine (rShort_any _ _ hx).mono ?_; rintro e w' ⟨rfl, hB⟩)
            all_goals
              have hx2 : x = val7 (s.data.toList.take (k + 1)) % 18446744073709551616 := hH2.out
              have hr := HR.out
              rw [← hx2, if_pos HQ.out] at hr
              have hr := Lib.hid hr
              clear hx2
              go_wp2
              go_ret3
              exact ⟨by rw [hr.out]; rfl, ((Below.refl _ _).drew).trans hB⟩
          · have hq2 : (short x == (s.extract 0 (k + 1)).toList) = false := by rw [ByteArray.toList_eq, Lib.extract_data]; simpa using hq
            have HQ := Lib.hid hq; clear hq
            have q1 : IntKind.i64.wrap ((k : Int) + 1) = (k : Int) + 1 := IntWalk.i64_in _ (by omega)
            have q2 : (0 : Int) ≤ (k : Int) + 1 := by omega
            have q3 : ((k : Int) + 1).toNat = k + 1 := by omega
            have q4 : (k : Int) + 1 ≤ (s.size : Int) := by omega
            go_wp2
            go_region_with (go_at_call 17; refine (rShort_any _ _ hx).mono ?_; rintro e w' ⟨rfl, hB⟩)
            all_goals
              have hx2 : x = val7 (s.data.toList.take (k + 1)) % 18446744073709551616 := hH2.out
              have hr := HR.out
              rw [← hx2, if_neg HQ.out] at hr
              have hr := Lib.hid hr
              clear hx2
              go_wp2
              go_ret3
              exact ⟨by rw [hr.out]; rfl, ((Below.refl _ _).drew).trans hB⟩

theorem rReadShort_any (s : ByteArray) (w : World) (hs : s.size ≤ maxLen) :
    Calls Try.prog 15 #[.string s] w fun e w' => e = .returned (rsV (readShort s.data.toList)) ∧ Below w.heap.size w w' := by
  have hle := lead_size s
  by_cases h1 : 10 ≤ lead s.data.toList
  · exact rReadShort_big s w hs h1
  · by_cases h2 : lead s.data.toList = s.size
    · exact rReadShort_end s w hs h2 (by omega)
    · exact rReadShort_mid s w hs _ rfl (by omega) (by omega)

end Go.Proofs.Ytdfppopmephaaaa
