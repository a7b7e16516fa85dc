/- Walk over rows of rows of pairs: Merge. -/
import Derived.Test.YtdebgkjekcppmaaQ4
namespace Go.Proofs.Ytdebgkjekcppmaa
open Go.RowKit Oct

/-- v is a row of rows of pairs -/
def RR (w : World) (v : Value) (rows : List (List PR)) : Prop := ∃ a cap, v = .slice a rows.length cap ∧ rows.length ≤ cap ∧ (a = none → rows.length = 0 ∧ cap = 0) ∧
  ∀ k (hk : k < rows.length), ∃ b off u, a = some ⟨b, off, none⟩ ∧ w.cell? ⟨b, off + k, none⟩ = some u ∧ RP w u rows[k]
theorem RR.below {w w' : World} {v : Value} {rows : List (List PR)} (h : RR w v rows) (hB : Below w.heap.size w w') : RR w' v rows := by
  obtain ⟨a, cap, hv, hle, hn, hc⟩ := h
  refine ⟨a, cap, hv, hle, hn, fun k hk => ?_⟩
  obtain ⟨b, off, u, ha, hu, hr⟩ := hc k hk
  exact ⟨b, off, u, ha, Below.keeps hB hu, hr.below hB⟩
theorem flat_take (rows : List (List PR)) (k : Nat) (h : k < rows.length) : (rows.take (k + 1)).flatten = (rows.take k).flatten ++ rows[k] := by
  rw [List.take_succ_eq_append_getElem h, List.flatten_append]; simp only [List.flatten_cons, List.flatten_nil, List.append_nil]
theorem flat_le (rows : List (List PR)) (k : Nat) : (rows.take k).flatten.length ≤ rows.flatten.length := by
  have h : rows.flatten = (rows.take k).flatten ++ (rows.drop k).flatten := by rw [← List.flatten_append, List.take_append_drop]
  rw [h, List.length_append]; omega

set_option maxRecDepth 100000 in
set_option maxHeartbeats 4000000 in
theorem Merge_any (v : Value) (rows : List (List PR)) (w : World) (hr : RR w v rows) (hn : rows.length ≤ 140737488355328) (hl : rows.flatten.length * 32 ≤ 140737488355328) :
    Calls Try.prog 33 #[v] w fun e w' => ∃ v', e = .returned v' ∧ OP w' w.heap.size v' (srt rows.flatten) ∧ Below w.heap.size w w' := by
  obtain ⟨a, cap, rfl, _, _, hc⟩ := hr
  go_enter Try.func33, Try.ntmps33
  go_wp2
  go_loopw [2, 7] (fun out i wr => ∃ (k : Nat) (o : List PR), k ≤ rows.length ∧ i = .int .i64 k ∧ OP wr w.heap.size out o ∧ Hid (o = srt (rows.take k).flatten) ∧ Below w.heap.size w wr) (fun _ i _ => rows.length - (intOf i).toNat)
  case atStart => exact ⟨0, [], by omega, rfl, OP.nil _ _, rfl, Below.refl _ _⟩
  case round =>
    obtain ⟨k, o, hk, rfl, hown, hH, hB⟩ := hrel
    obtain ⟨ao, co, rfl⟩ := owns_slice hown
    have hO := Lib.hid hown
    clear hown
    by_cases h0 : k < rows.length
    · obtain ⟨b, off, u, rfl, hu, hru⟩ := hc k h0
      obtain ⟨ar, cr, rfl, _, _⟩ := hru.open
      replace hu := Below.keeps hB hu
      have kk1 : (k : Int) < (rows.length : Int) := by omega
      have hru2 := hru.below hB
      have hf := flat_take rows k h0
      have hf2 := flat_le rows (k + 1)
      rw [hf, List.length_append] at hf2
      have hl1 : rows[k].length * 32 ≤ 140737488355328 := by omega
      have hl2 : (o.length + (srt rows[k]).length) * 32 ≤ 140737488355328 := by rw [hH.out, srt_length, srt_length]; omega
      have HF := Lib.hid hf
      clear hf hru hc hf2
      go_wp2_with (first
        | (go_at_call 74; refine (merged_any _ _ _ _ _ (hO.out.below hB2).reads hown2.reads hl2).mono ?_; rintro e w3 ⟨v3, rfl, hown3, hB3⟩)
        | (go_at_call 35; refine (Sort_any _ _ rows[k] wr (Nat.le_refl _) hru2 hl1).mono ?_; rintro e w2 ⟨vb, rfl, hown2, hB2⟩; obtain ⟨ab, cb, rfl⟩ := owns_slice hown2))
      go_roundw
      case rel =>
        have hB4 := bt hB hB2
        refine ⟨k + 1, _, by omega, by go_num, hown3.mono hB4.size, ?_, bt hB4 hB3⟩
        unfold Hid
        rw [HF.out, hH.out, mrg_srt]
      case measure => simp [intOf]; omega
    · obtain rfl : k = rows.length := by omega
      go_wp2
      go_ret
      have := hH.out
      rw [List.take_length] at this
      exact ⟨_, rfl, by rw [← this]; exact hO.out, hB⟩
end Go.Proofs.Ytdebgkjekcppmaa
