/- Walks over rows of pairs: Sorted, Check, Same. -/
import Derived.Test.YtdebgkjekcppmaaQ0
namespace Go.Proofs.Ytdebgkjekcppmaa
open Go.RowKit Oct

/-- does one text stand ahead of another one? -/
def lt (a b : List UInt8) : Bool := Op.bytesLess a b
/-- is a row sorted? -/
def sorted : List PR → Bool
  | [] => true
  | [_] => true
  | p :: q :: l => !lt q.1 p.1 && sorted (q :: l)
theorem sorted_iff (l : List PR) : sorted l = true ↔ ∀ k (h : k + 1 < l.length), lt l[k + 1].1 l[k].1 = false := by
  match l with
  | [] => simp [sorted]
  | [_] => simp [sorted]
  | p :: q :: l =>
    have ih := sorted_iff (q :: l)
    simp only [sorted, Bool.and_eq_true, Bool.not_eq_true', ih]
    constructor
    · rintro ⟨h1, h2⟩ k hk
      cases k with
      | zero => exact h1
      | succ k => exact h2 k (by simpa using hk)
    · intro h
      exact ⟨h 0 (by simp), fun k hk => h (k + 1) (by simpa using hk)⟩

/-- what Check gives -/
def chk (l : List PR) : Int := if sorted l then 0 else 2
theorem sorted_false (l : List PR) (k : Nat) (h : k + 1 < l.length) (hlt : lt l[k + 1].1 l[k].1 = true) : sorted l = false := by
  cases hs : sorted l
  · rfl
  · rw [(sorted_iff l).1 hs k h] at hlt; simp at hlt
theorem sorted_true (l : List PR) (k : Nat) (hk : l.length ≤ k + 1) (h : ∀ j (h : j + 1 < l.length), j < k → lt l[j + 1].1 l[j].1 = false) : sorted l = true :=
  (sorted_iff l).2 fun j hj => h j hj (by omega)

set_option maxRecDepth 100000 in
set_option maxHeartbeats 1000000 in
theorem rSorted_any (v : Value) (l : List PR) (w : World) (hr : RP w v l) (hl : l.length ≤ 140737488355328) :
    Calls Try.prog 69 #[v] w fun e w' => e = .returned (.bool (sorted l)) ∧ Below w.heap.size w w' := by
  obtain ⟨a, cap, rfl, _, hc⟩ := hr.open
  go_enter Try.func69, Try.ntmps69
  go_wp2
  go_loopw [3] (fun i wr => ∃ k : Nat, (k = 0 ∨ k + 1 ≤ l.length) ∧ i = .int .i64 ((k : Int) + 1) ∧ Hid (∀ j (h : j + 1 < l.length), j < k → lt l[j + 1].1 l[j].1 = false) ∧ Below w.heap.size w wr) (fun i _ => (l.length + 1 - (intOf i).toNat))
  case atStart => exact ⟨0, .inl rfl, rfl, by intro j _ h; omega, Below.refl _ _⟩
  case round =>
    obtain ⟨k, hk, rfl, hH, hB⟩ := hrel
    by_cases h0 : k + 1 < l.length
    · obtain ⟨b, off, rfl, c1, _⟩ := hc (k + 1) h0
      obtain ⟨b', off', hb, c2, _⟩ := hc k (by omega)
      cases hb
      have d1 := Below.keeps hB c1
      have d2 := Below.keeps hB c2
      have kk1 : (k : Int) + 1 < (l.length : Int) := by omega
      have kk2 : (k : Int) < (l.length : Int) := by omega
      clear hc hk
      cases hlt : lt l[k + 1].1 l[k].1
      · have HL := Lib.hid hlt
        unfold lt at hlt
        go_wp2
        go_quiet (fail)
        go_wp2
        go_roundw
        case rel =>
          refine ⟨k + 1, .inr (by omega), by go_num, ?_, bt hB (Below.drewN' _ _)⟩
          intro j h hj
          by_cases hjk : j = k
          · subst hjk; exact HL.out
          · exact hH.out j h (by omega)
        case measure => simp [intOf]; omega
      · have HL := Lib.hid hlt
        unfold lt at hlt
        go_wp2
        go_quiet (fail)
        go_wp2
        go_ret
        exact ⟨by rw [sorted_false l k h0 HL.out]; rfl, bt hB (Below.drewN' _ _)⟩
    · have hs := Lib.hid (sorted_true l k (by omega) hH.out)
      go_wp2
      go_ret
      exact ⟨by rw [hs.out]; rfl, hB⟩

set_option maxRecDepth 100000 in
set_option maxHeartbeats 1000000 in
theorem Check_any (v : Value) (l : List PR) (w : World) (hr : RP w v l) (hl : l.length ≤ 140737488355328) :
    Calls Try.prog 36 #[v] w fun e w' => e = .returned (.int .i64 (chk l)) ∧ Below w.heap.size w w' := by
  obtain ⟨a, cap, rfl, _, hc⟩ := hr.open
  go_enter Try.func36, Try.ntmps36
  go_wp2
  go_loopw [3] (fun i wr => ∃ k : Nat, (k = 0 ∨ k + 1 ≤ l.length) ∧ i = .int .i64 ((k : Int) + 1) ∧ Hid (∀ j (h : j + 1 < l.length), j < k → lt l[j + 1].1 l[j].1 = false) ∧ Below w.heap.size w wr) (fun i _ => (l.length + 1 - (intOf i).toNat))
  case atStart => exact ⟨0, .inl rfl, rfl, by intro j _ h; omega, Below.refl _ _⟩
  case round =>
    obtain ⟨k, hk, rfl, hH, hB⟩ := hrel
    by_cases h0 : k + 1 < l.length
    · obtain ⟨b, off, rfl, c1, _⟩ := hc (k + 1) h0
      obtain ⟨b', off', hb, c2, _⟩ := hc k (by omega)
      cases hb
      have d1 := Below.keeps hB c1
      have d2 := Below.keeps hB c2
      have kk1 : (k : Int) + 1 < (l.length : Int) := by omega
      have kk2 : (k : Int) < (l.length : Int) := by omega
      clear hc hk
      cases hlt : lt l[k + 1].1 l[k].1
      · have HL := Lib.hid hlt
        unfold lt at hlt
        go_wp2
        go_quiet (fail)
        go_wp2
        go_roundw
        case rel =>
          refine ⟨k + 1, .inr (by omega), by go_num, ?_, bt hB (Below.drewN' _ _)⟩
          intro j h hj
          by_cases hjk : j = k
          · subst hjk; exact HL.out
          · exact hH.out j h (by omega)
        case measure => simp [intOf]; omega
      · have HL := Lib.hid hlt
        unfold lt at hlt
        go_wp2
        go_quiet (fail)
        go_wp2
        go_ret
        exact ⟨by rw [chk, sorted_false l k h0 HL.out]; rfl, bt hB (Below.drewN' _ _)⟩
    · have hs := Lib.hid (sorted_true l k (by omega) hH.out)
      go_wp2
      go_ret
      exact ⟨by rw [chk, hs.out]; rfl, hB⟩
end Go.Proofs.Ytdebgkjekcppmaa
