/- Walks of package octet: ReadRow. -/
import Derived.Test.YtdfppopmephaaaaW11
namespace Go.Proofs.Ytdfppopmephaaaa
open Go.RowKit Oct

set_option maxRecDepth 100000 in
set_option maxHeartbeats 2000000 in
theorem ReadRow_any (l : List UInt8) (w : World) (hs : l.length ≤ 140737488355328) :
    Calls Try.prog 23 #[.string (bs l)] w fun e w' => RowRes (readRow l) w.heap.size e w' ∧ Below w.heap.size w w' := by
  by_cases h : l.length < 2
  · rw [readRow_short l h]
    go_enter Try.func23, Try.ntmps23
    go_wp2
    exact bodyPost_ret (v := .tuple #[.slice none 0 0, .int .i64 7]) (by simp [results, Try.results23, go_sem]) rfl ⟨rfl, (two_new _ _ _).2.2⟩
  · rw [readRow_at l h]
    have hv := val2_lt l
    have HV := Lib.hid (val2 l (by omega))
    have z0 : 0 < l.length := by omega
    have z1 : 1 < l.length := by omega
    have y1 : (1 : Int) < (l.length : Int) := by omega
    have c0 := l[0].toNat_lt
    have c1 := l[1].toNat_lt
    go_enter Try.func23, Try.ntmps23
    go_wp2
    go_quiet (fail)
    go_wp2
    have hst : ∃ W1, W1 = ((((w.alloc (.cells #[.string (bs l)] 9)).alloc (.cells #[.slice none 0 0] 36)).drewN nq).setCell ⟨w.heap.size, 0, none⟩ (.string (bs (l.drop 2)))) ∧ W1.heap[w.heap.size]? = some (.cells #[.string (bs (l.drop 2))] 9 (0, 0)) ∧
        W1.heap[w.heap.size + 1]? = some (.cells #[.slice none 0 0] 36 (0, 0)) ∧ Below w.heap.size w W1 := by
      obtain ⟨t1, t2, t3⟩ := two_new w (.cells #[.string (bs l)] 9) (.cells #[.slice none 0 0] 36)
      refine ⟨_, rfl, one_setCell (v := .string (bs l)) t1, ?_, ?_⟩
      · rw [Below.heap_setCell _ _ _ _ (by simp)]; exact t2
      · exact (bt t3 (Below.drewN' _ _)).setCell (by simp) _
    obtain ⟨W1, hW1, hs1, hl1, hB1⟩ := hst
    rw [← hW1]
    clear hW1
    go_loopw [21] (fun i wr => ∃ k m : Nat, ∃ r : List (List UInt8), ∃ t : List UInt8, ∃ v : Value, k + m = val (l.take 2) ∧ i = .int .i64 k ∧ t.length ≤ 140737488355328 ∧ Hid (wr.heap[w.heap.size]? = some (.cells #[.string (bs t)] 9 (0, 0))) ∧ Hid (wr.heap[w.heap.size + 1]? = some (.cells #[v] 36 (0, 0))) ∧ r.length = k ∧ wr.ownsRow (w.heap.size + 2) 9 1 v r.length (tcells r) ∧ Hid (RrInv (l.drop 2) (val (l.take 2)) m r t) ∧ Below w.heap.size w wr) (fun i _ => val (l.take 2) - (intOf i).toNat)
    case atStart => exact ⟨0, val (l.take 2), [], _, _, by omega, rfl, by simp; omega, hs1, hl1, rfl, World.ownsRow_nil _ _ _ _, RrInv.start _ _, hB1⟩
    case round =>
      clear hs1 hl1 hB1
      obtain ⟨k, m, r, t, v, hkm, rfl, ht, hs1, hl1, hrk, hown, hH, hB⟩ := hrel
      have HK := Lib.hid hkm
      have HR := Lib.hid hrk
      have hk1 : r.length ≤ 65536 := by omega
      by_cases h0 : k < val (l.take 2)
      · have h0' : (k : Int) < (l[0].toNat : Int) + (l[1].toNat : Int) * 256 := by have := HV.out; omega
        clear hkm hrk
        by_cases ho : (readT t).2.2 = 0
        · have HO := Lib.hid ho
          clear ho
          go_wp2_with (go_at_call 45; refine (next_ok _ r t v _ hs1.out hl1.out hown (by omega) ht HO.out).mono ?_; rintro e w2 ⟨rfl, v', hs2, hl2, hown2, hB2⟩; have HS2 := Lib.hid hs2; have HL2 := Lib.hid hl2; clear hs2 hl2)
          go_roundw
          case rel =>
            obtain ⟨m, rfl⟩ : ∃ m', m = m' + 1 := ⟨m - 1, by have := HK.out; omega⟩
            exact ⟨k + 1, m, r ++ [(readT t).1], _, v', by have := HK.out; omega, by go_num, by simp; omega, HS2, HL2, by simp [HR.out], by simpa using hown2, hH.out.step HO.out, hB.trans hB2⟩
          case measure => simp [intOf]; omega
        · have ho1 : ((readT t).2.2 == 0) = false := by simpa using ho
          have ho2 : ((readT t).2.2 != 0) = true := by simpa using ho
          have HO := Lib.hid ho
          clear ho
          have c1 := cell_of_one hl1.out
          go_wp2_with (go_at_call 45; refine (next_no _ t _ hs1.out ht HO.out _).mono ?_; rintro e w2 ⟨rfl, hB2⟩; have hl2 := below_one hB2 (lt_of_block hl1.out) hl1.out; have c2 := cell_of_one hl2; have f2 := free_of_one hl2; clear hl2)
          obtain ⟨m, rfl⟩ : ∃ m', m = m' + 1 := ⟨m - 1, by have := HK.out; omega⟩
          rw [hH.out.no HO.out]
          refine bodyPost_ret (v := .tuple #[.slice none 0 0, .int .i64 7]) ?_ rfl ⟨rfl, (bt hB hB2).setCell (by simp) _⟩
          simp [results, Try.results23, go_sem, c2]
      · obtain rfl : m = 0 := by omega
        have h0' : ¬ (k : Int) < (l[0].toNat : Int) + (l[1].toNat : Int) * 256 := by have := HV.out; omega
        have hF := hH.out.fin
        by_cases hz : t = []
        · subst hz
          rw [if_pos rfl] at hF
          have HF := Lib.hid hF; clear hF
          clear hkm hrk
          have c1 := cell_of_one hs1.out
          have c2 := cell_of_one hl1.out
          have f2 := free_of_one hl1.out
          obtain ⟨va, vcap, rfl⟩ := owns_slice hown
          go_wp2
          rw [HF.out]
          refine bodyPost_ret (v := .tuple #[.slice va r.length vcap, .int .i64 0]) ?_ rfl ⟨⟨_, rfl, ?_⟩, hB.setCell (by simp) _⟩
          · simp [results, Try.results23, go_sem, c2]
          · have := ownsRow_setCell_below hown (a := ⟨w.heap.size + 1, 0, none⟩) (by simp) (.slice va r.length vcap)
            exact owns_mono this (by omega)
        · rw [if_neg hz] at hF
          have HF := Lib.hid hF; clear hF
          clear hkm hrk
          have hz2 : t.isEmpty = false := by simpa using hz
          have c1 := cell_of_one hs1.out
          have c2 := cell_of_one hl1.out
          have f2 := free_of_one hl1.out
          go_wp2
          rw [HF.out]
          refine bodyPost_ret (v := .tuple #[.slice none 0 0, .int .i64 7]) ?_ rfl ⟨rfl, hB.setCell (by simp) _⟩
          simp [results, Try.results23, go_sem, c2]
end Go.Proofs.Ytdfppopmephaaaa
