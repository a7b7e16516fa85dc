/- Walks of package octet: ReadRow. -/
import Derived.Test.YtdfppopmephaaaaW8
namespace Go.Proofs.Ytdfppopmephaaaa
open Go.RowKit Oct

theorem infoStr : (Try.prog.info? 9).map (fun i => (i.zero, i.size, i.bytes)) = some (some (.string ByteArray.empty), 1, 16) := by kernel_rfl
/-- what ReadRow gives -/
def RowRes (o : Option (List (List UInt8))) (base : Nat) (e : Ending) (w' : World) : Prop :=
  match o with
  | some r => ∃ v, e = .returned (.tuple #[v, .int .i64 0]) ∧ w'.ownsRow base 9 1 v r.length (tcells r)
  | none => e = .returned (.tuple #[.slice none 0 0, .int .i64 7])
theorem rdV_at (r : List UInt8 × Nat × Int) : rdV r = .tuple #[.string (bs r.1), .int .i64 r.2.1, .int .i64 r.2.2] := rfl

set_option maxRecDepth 100000 in
set_option maxHeartbeats 1000000 in
theorem rReadRow_any (l : List UInt8) (w : World) (hs : l.length ≤ 140737488355328) :
    Calls Try.prog 24 #[.string (bs l)] w fun e w' => RowRes (readRow l) w.heap.size e w' ∧ Below w.heap.size w w' := by
  by_cases h : l.length < 2
  · rw [readRow_short l h]
    go_enter Try.func24, Try.ntmps24
    go_wp2
    go_ret2
    exact ⟨rfl, Below.refl _ _⟩
  · rw [readRow_at l h]
    have hv := val2_lt l
    go_enter Try.func24, Try.ntmps24
    go_wp2_with (go_at_call 42; refine (value_any _ _ (by simp; omega)).mono ?_; rw [bs_data]; rintro e w' ⟨rfl, rfl⟩)
    go_loopw [0, 5, 6] (fun s v i wr => ∃ k m : Nat, ∃ r : List (List UInt8), ∃ t : List UInt8, k + m = val (l.take 2) ∧ i = .int .i64 k ∧ s = .string (bs t) ∧ t.length ≤ 140737488355328 ∧ r.length = k ∧ wr.ownsRow w.heap.size 9 1 v r.length (tcells r) ∧ Hid (RrInv (l.drop 2) (val (l.take 2)) m r t) ∧ Below w.heap.size w wr) (fun _ _ i _ => val (l.take 2) - (intOf i).toNat)
    case atStart => exact ⟨0, val (l.take 2), [], _, by omega, rfl, rfl, by simp; omega, rfl, World.ownsRow_nil _ _ _ _, RrInv.start _ _, Below.refl _ _⟩
    case round =>
      obtain ⟨k, m, r, t, hkm, rfl, rfl, ht, hrk, hown, hH, hB⟩ := hrel
      have HK := Lib.hid hkm
      have HR := Lib.hid hrk
      have hk1 : r.length ≤ 65536 := by omega
      by_cases h0 : k < val (l.take 2)
      · clear hkm hrk
        by_cases ho : (readT t).2.2 = 0
        · have hle := (readT_le t ho).1
          go_wp2_with (first | (go_at_call 25; refine (rRead_any _ _ ht).mono ?_; rw [rdV_at]; rintro e w2 ⟨rfl, hB2⟩; have hown2 := ownsRow_below hown hB2) | (at_builtin; refine append1 w2 [_] 9 rfl _ _ 36 rfl w.heap.size (.string ByteArray.empty) 1 16 Try.underlying36 infoStr rfl (by decide) _ _ _ rfl hown2 _ rfl rfl (by simp [Value.oneCell']) (by omega) (by decide) (Nat.le_trans hB.size hB2.size) ?_; intro v' w3 hown3 hB3))
          go_roundw
          case rel =>
            obtain ⟨m, rfl⟩ : ∃ m', m = m' + 1 := ⟨m - 1, by have := HK.out; omega⟩
            rw [tcells_snoc] at hown3
            exact ⟨k + 1, m, r ++ [(readT t).1], _, by have := HK.out; omega, by go_num, rfl, by simp; omega, by simp [HR.out], by simpa using hown3, hH.out.step ho, hB.trans ((hB2.mono hB.size).trans hB3)⟩
          case measure => simp [intOf]; omega
        · have ho1 : ((readT t).2.2 == 0) = false := by simpa using ho
          have ho2 : ((readT t).2.2 != 0) = true := by simpa using ho
          have HO := Lib.hid ho
          clear ho
          go_wp2_with (go_at_call 25; refine (rRead_any _ _ ht).mono ?_; rw [rdV_at]; rintro e w2 ⟨rfl, hB2⟩)
          go_ret2
          obtain ⟨m, rfl⟩ : ∃ m', m = m' + 1 := ⟨m - 1, by have := HK.out; omega⟩
          rw [hH.out.no HO.out]
          exact ⟨rfl, bt hB hB2⟩
      · obtain rfl : m = 0 := by omega
        have hF := hH.out.fin
        by_cases hz : t = []
        · subst hz
          rw [if_pos rfl] at hF
          have HF := Lib.hid hF; clear hF
          clear hkm hrk
          go_wp2
          go_ret2
          rw [HF.out]
          exact ⟨⟨_, rfl, hown⟩, hB⟩
        · rw [if_neg hz] at hF
          have HF := Lib.hid hF; clear hF
          clear hkm hrk
          have hz2 : t.isEmpty = false := by simpa using hz
          go_wp2
          go_ret2
          rw [HF.out]
          exact ⟨rfl, hB⟩
end Go.Proofs.Ytdfppopmephaaaa
