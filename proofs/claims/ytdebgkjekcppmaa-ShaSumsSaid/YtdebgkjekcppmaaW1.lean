/- Walks of package octet. -/
import Derived.Test.YtdebgkjekcppmaaRows
import Derived.Test.YtdebgkjekcppmaaP0
import Derived.WalkKit
import Derived.WalkSpells
import Derived.WalkLawsBesides
namespace Go.Proofs.Ytdebgkjekcppmaa
open Go.RowKit Oct

theorem infoU8 : (Try.prog.info? 5).map (fun i => (i.zero, i.size, i.bytes)) = some (some (.int .u8 0), 1, 1) := by kernel_rfl

theorem conv1 (w : World) (x : Int) : (convert 75 9 (.slice (some ⟨w.heap.size, 0, none⟩) 1 1)).run Try.prog (w.alloc (.cells #[.int .u8 x] 5)) = .ok (.string (bs [UInt8.ofNat x.toNat])) (w.alloc (.cells #[.int .u8 x] 5)) := conv_one (P := Try.prog) 75 9 5 Try.underlying75 Try.underlying5 Try.underlying9 w x

set_option maxRecDepth 100000 in
set_option maxHeartbeats 400000 in
theorem value_any (s : ByteArray) (w : World) (hs : s.size ≤ 8) :
    Calls Try.prog 72 #[.string s] w fun e w' => e = .returned (.int .u64 (val s.data.toList)) ∧ w = w' := by
  go_enter Try.func72, Try.ntmps72
  go_wp2
  go_loop [3, 4] (fun v i => ∃ k : Nat, k ≤ s.size ∧ i = .int .i64 ((k : Int) - 1) ∧ v = .int .u64 (val (s.data.toList.drop k))) (fun _ i => (intOf i + 1).toNat)
  case atStart => exact ⟨s.size, Nat.le_refl _, rfl, v_int (by rw [List.drop_of_length_le (by simp)]; rfl)⟩
  case round =>
    obtain ⟨k, hk, rfl, rfl⟩ := hrel
    have hl : s.data.toList.length = s.size := by simp
    by_cases h0 : 0 < k
    · obtain ⟨j, rfl⟩ : ∃ j, k = j + 1 := ⟨k - 1, by omega⟩
      have hd := Hid.out (val_drop s.data.toList j (by omega))
      have hb := val_lt8 (s.data.toList.drop j) (by simp; omega)
      have hc := s[j].toNat_lt
      have H : Hid ((IntKind.u64.wrap (IntKind.u64.wrap (↑(val (s.data.toList.drop (j + 1))) * 256) + IntKind.u64.wrap (s[j].toNat : Int))) = (val (s.data.toList.drop j) : Int)) := by
        have e : (s.data.toList[j]'(by omega)) = s[j] := by simp; rfl
        rw [e] at hd
        rw [hd] at hb ⊢
        rw [IntWalk.u64_in (_ * 256) (by omega), IntWalk.u64_in (s[j].toNat : Int) (by omega), IntWalk.u64_in _ (by omega)]
        show _ = _
        omega
      clear hd hb hc
      go_wp2
      go_round
      case rel => exact ⟨j, by omega, rfl, v_int H.out⟩
      case measure => simp [intOf]
    · obtain rfl : k = 0 := by omega
      go_wp2
      go_ret
      exact ⟨by simp, rfl⟩

set_option maxRecDepth 100000 in
set_option maxHeartbeats 400000 in
theorem num_any (v n : Int) (w : World) (h1 : 0 ≤ n) (h2 : n ≤ 8) (h3 : 0 ≤ v) (h4 : v < 18446744073709551616) :
    Calls Try.prog 67 #[.int .u64 v, .int .i64 n] w fun e w' => e = .returned (.string (bs (num v.toNat n.toNat))) ∧ Below w.heap.size w w' := by
  have hcv := conv1
  go_enter Try.func67, Try.ntmps67
  go_wp2
  go_loopw [0, 5, 6] (fun u s i wr => ∃ k : Nat, ∃ x : Nat, ∃ l : List UInt8, (k : Int) ≤ n ∧ i = .int .i64 k ∧ u = .int .u64 x ∧ x < 18446744073709551616 ∧ s = .string (bs l) ∧ l.length ≤ k ∧ Hid (x = v.toNat / 256 ^ k ∧ l = num v.toNat k) ∧ Below w.heap.size w wr) (fun _ _ i _ => (n - intOf i).toNat)
  case atStart => exact ⟨0, v.toNat, [], by omega, rfl, v_int (by omega), by omega, rfl, by simp, ⟨by simp, rfl⟩, Below.refl _ _⟩
  case round =>
    obtain ⟨k, x, l, hk, rfl, rfl, hx, rfl, hl, hH, hB⟩ := hrel
    by_cases h0 : (k : Int) < n
    · go_wp2
      go_roundw
      case rel =>
        obtain ⟨rfl, rfl⟩ := hH.out
        exact ⟨k + 1, _, _, by omega, by go_num, by go_num, Nat.lt_of_le_of_lt (Nat.div_le_self _ _) hx, rfl, by simp, ⟨by rw [Nat.pow_succ, Nat.div_div_eq_div_mul], by rw [num_snoc]⟩, hB.alloc hB.size _⟩
      case measure => simp [intOf]; omega
    · obtain rfl : n = k := by omega
      go_wp2
      go_ret
      obtain ⟨_, rfl⟩ := hH.out
      exact ⟨rfl, hB⟩

/-- the cells of the array after k rounds -/
def cb (v k : Nat) : Array Value := ((num v k).map (fun c => Value.int .u8 (c.toNat : Int)) ++ List.replicate (8 - k) (Value.int .u8 0)).toArray
theorem cb_new (v k : Nat) (h : k < 8) : (cb v k)[k]? = some (.int .u8 0) := by
  simp [cb, List.getElem?_append, num_length, List.getElem?_replicate]; omega
theorem cb_at (v k j : Nat) (h : j < k) : (cb v k)[j]? = some (.int .u8 (((num v k)[j]'(by rw [num_length]; exact h)).toNat : Int)) := by
  have hl : j < (num v k).length := by rw [num_length]; exact h
  simp [cb, List.getElem?_append, num_length, h, hl]
theorem num_take (v m n j : Nat) (h : m ≤ n) (hj : j < m) : (num v n)[j]'(by rw [num_length]; omega) = (num v m)[j]'(by rw [num_length]; omega) := by
  induction m generalizing v n j with
  | zero => omega
  | succ m ih =>
    obtain ⟨n, rfl⟩ : ∃ n', n = n' + 1 := ⟨n - 1, by omega⟩
    cases j with
    | zero => simp [num]
    | succ j => simp only [num, List.getElem_cons_succ]; exact ih _ _ _ (by omega) (by omega)
theorem cb_step (v : Int) (k : Nat) (h : k < 8) (h0 : 0 ≤ v) : (cb v.toNat k).setIfInBounds k (Value.int IntKind.u8 (v / 2 ^ (8 * k) % 256)) = cb v.toNat (k + 1) := by
  obtain ⟨v, rfl⟩ := Int.eq_ofNat_of_zero_le h0
  have e : ((v : Int) / 2 ^ (8 * k) % 256) = (((UInt8.ofNat (v / 256 ^ k % 256)).toNat : Nat) : Int) := by
    have : (2 : Int) ^ (8 * k) = ((256 ^ k : Nat) : Int) := by rw [Int.pow_mul]; simp
    rw [this]; simp
  rw [e]
  simp only [cb, Int.toNat_natCast, List.setIfInBounds_toArray, num_snoc, List.map_append, List.append_assoc]
  congr 1
  rw [List.set_append_right _ _ (by simp [num_length])]
  obtain ⟨m, hm⟩ : ∃ m, 8 - k = m + 1 := ⟨7 - k, by omega⟩
  have hm' : 8 - (k + 1) = m := by omega
  simp [num_length, hm, hm', List.replicate_succ]

set_option maxRecDepth 100000 in
set_option maxHeartbeats 400000 in
theorem bytes_any (v n : Int) (w : World) (h1 : 1 ≤ n) (h2 : n ≤ 8) (h3 : 0 ≤ v) (h4 : v < 18446744073709551616) :
    Calls Try.prog 93 #[.int .u64 v, .int .i64 n] w fun e w' => e = .returned (.string (bs (num v.toNat n.toNat))) ∧ Below w.heap.size w w' := by
  obtain ⟨m, rfl⟩ := Int.eq_ofNat_of_zero_le (show 0 ≤ n by omega)
  have hfin : ∀ c, (convert 75 9 (.slice (some ⟨w.heap.size, 0, none⟩) m c)).run Try.prog (w.alloc (.cells (cb v.toNat 8) 133)) = .ok (.string (bs (num v.toNat m))) (w.alloc (.cells (cb v.toNat 8) 133)) := by
    intro c
    have := run_convert_bytes_back (P := Try.prog) (w.alloc (.cells (cb v.toNat 8) 133)) 75 9 5 ⟨w.heap.size, 0, none⟩ c (num v.toNat m) Try.underlying75 Try.underlying5 Try.underlying9 (fun j hj => by
      rw [num_length] at hj
      have := cb_at v.toNat 8 j (by omega)
      simp [World.cell?_alloc_new, Addr.add_lit, this, num_take v.toNat m 8 j (by omega) hj])
    rw [num_length] at this
    exact this
  go_enter Try.func93, Try.ntmps93
  go_wp2
  go_loopw [7] (fun i wr => ∃ k : Nat, k ≤ 8 ∧ i = .int .i64 k ∧ wr = w.alloc (.cells (cb v.toNat k) 133)) (fun i _ => (8 - intOf i).toNat)
  case atStart => exact ⟨0, by omega, rfl, rfl⟩
  case round =>
    obtain ⟨k, hk, rfl, rfl⟩ := hrel
    by_cases h0 : (k : Int) < 8
    · have hc := cb_new v.toNat k (by omega)
      go_wp2
      go_roundw
      case rel => exact ⟨k + 1, by omega, by go_num, by rw [cb_step v k (by omega) h3]⟩
      case measure => simp [intOf]; omega
    · obtain rfl : k = 8 := by omega
      go_wp2
      go_ret
      exact ⟨rfl, (Below.refl _ _).alloc (Nat.le_refl _) _⟩