/- Walks of package octet: ReadRow and its closure. -/
import Derived.Test.YtdfppopmephaaaaW10
namespace Go.Proofs.Ytdfppopmephaaaa
open Go.RowKit Oct

theorem below_one {w w' : World} {base b : Nat} {o : Obj} (hB : Below base w w') (hb : b < base) (h : w.heap[b]? = some o) : w'.heap[b]? = some o := (hB.block b hb).trans h

set_option maxRecDepth 100000 in
set_option maxHeartbeats 1000000 in
theorem next_no (B : Nat) (t : List UInt8) (w : World) (hs : w.heap[B]? = some (.cells #[.string (bs t)] 9 (0, 0))) (ht : t.length ≤ 140737488355328) (ho : ¬ (readT t).2.2 = 0) (p : Value) :
    Calls Try.prog 45 #[.pointer (some ⟨B, 0, none⟩), p] w fun e w' => e = .returned (.int .i64 (readT t).2.2) ∧ Below w.heap.size w w' := by
  have c1 := cell_of_one hs
  have ho1 : ((readT t).2.2 == 0) = false := by simpa using ho
  clear hs
  go_enter Try.func45, Try.ntmps45
  go_wp2_with (go_at_call 19; refine (Read_any _ _ ht).mono ?_; rw [rdV_at]; rintro e w2 ⟨rfl, hB2⟩)
  go_ret
  exact ⟨rfl, hB2⟩

theorem two_stores (B : Nat) (x y : Value) {w w3 : World} {x0 y0 : Value} {tx ty e : TypeId} {n : Nat} {xs : List Value} (hs : w3.heap[B]? = some (.cells #[x0] tx (0, 0))) (hl : w3.heap[B + 1]? = some (.cells #[y0] ty (0, 0)))
    (hown : w3.ownsRow (B + 2) e 1 y n xs) (hB : Below B w w3) :
    ∃ v', ((w3.setCell ⟨B + 1, 0, none⟩ y).setCell ⟨B, 0, none⟩ x).heap[B]? = some (.cells #[x] tx (0, 0)) ∧ ((w3.setCell ⟨B + 1, 0, none⟩ y).setCell ⟨B, 0, none⟩ x).heap[B + 1]? = some (.cells #[v'] ty (0, 0)) ∧
      ((w3.setCell ⟨B + 1, 0, none⟩ y).setCell ⟨B, 0, none⟩ x).ownsRow (B + 2) e 1 v' n xs ∧ Below B w ((w3.setCell ⟨B + 1, 0, none⟩ y).setCell ⟨B, 0, none⟩ x) := by
  refine ⟨y, ?_, ?_, ?_, ?_⟩
  · exact one_setCell (v := x0) (by rw [Below.heap_setCell _ _ _ _ (by simp)]; exact hs)
  · rw [Below.heap_setCell _ _ _ _ (by simp)]; exact one_setCell hl
  · exact ownsRow_setCell_below (ownsRow_setCell_below hown (by simp) _) (by simp) _
  · exact (hB.setCell (by simp) _).setCell (by simp) _
theorem two_stores' (B : Nat) (x y : Value) {w w3 : World} {x0 y0 : Value} {tx ty e : TypeId} {n : Nat} {xs : List Value} (hs : w3.heap[B]? = some (.cells #[x0] tx (0, 0))) (hl : w3.heap[B + 1]? = some (.cells #[y0] ty (0, 0)))
    (hown : w3.ownsRow (B + 2) e 1 y n xs) (hB : Below B w w3) :
    ∃ v', ((w3.setCell ⟨B, 0, none⟩ x).setCell ⟨B + 1, 0, none⟩ y).heap[B]? = some (.cells #[x] tx (0, 0)) ∧ ((w3.setCell ⟨B, 0, none⟩ x).setCell ⟨B + 1, 0, none⟩ y).heap[B + 1]? = some (.cells #[v'] ty (0, 0)) ∧
      ((w3.setCell ⟨B, 0, none⟩ x).setCell ⟨B + 1, 0, none⟩ y).ownsRow (B + 2) e 1 v' n xs ∧ Below B w ((w3.setCell ⟨B, 0, none⟩ x).setCell ⟨B + 1, 0, none⟩ y) := by
  refine ⟨y, ?_, ?_, ?_, ?_⟩
  · rw [Below.heap_setCell _ _ _ _ (by simp)]; exact one_setCell hs
  · exact one_setCell (v := y0) (by rw [Below.heap_setCell _ _ _ _ (by simp)]; exact hl)
  · exact ownsRow_setCell_below (ownsRow_setCell_below hown (by simp) _) (by simp) _
  · exact (hB.setCell (by simp) _).setCell (by simp) _

set_option maxRecDepth 100000 in
set_option maxHeartbeats 2000000 in
theorem next_ok (B : Nat) (r : List (List UInt8)) (t : List UInt8) (v : Value) (w : World) (hs : w.heap[B]? = some (.cells #[.string (bs t)] 9 (0, 0))) (hl : w.heap[B + 1]? = some (.cells #[v] 36 (0, 0)))
    (hown : w.ownsRow (B + 2) 9 1 v r.length (tcells r)) (hr : r.length ≤ 1000000) (ht : t.length ≤ 140737488355328) (ho : (readT t).2.2 = 0) :
    Calls Try.prog 45 #[.pointer (some ⟨B, 0, none⟩), .pointer (some ⟨B + 1, 0, none⟩)] w fun e w' => e = .returned (.int .i64 0) ∧ ∃ v', w'.heap[B]? = some (.cells #[.string (bs (t.drop (readT t).2.1))] 9 (0, 0)) ∧ w'.heap[B + 1]? = some (.cells #[v'] 36 (0, 0)) ∧
      w'.ownsRow (B + 2) 9 1 v' (r.length + 1) (tcells (r ++ [(readT t).1])) ∧ Below B w w' := by
  have hle := (readT_le t ho).1
  have hB := lt_of_block hl
  have c1 := cell_of_one hs
  go_enter Try.func45, Try.ntmps45
  go_wp2_with (go_at_call 19; refine (Read_any _ _ ht).mono ?_; rw [rdV_at]; rintro e w2 ⟨rfl, hB2⟩; have hs2 := below_one hB2 (lt_of_block hs) hs; have hl2 := below_one hB2 hB hl; have hown2 := ownsRow_below hown hB2)
  clear c1 hs hl hown
  have c1 := cell_of_one hs2
  have c2 := cell_of_one hl2
  have f1 := free_of_one hs2
  have f2 := free_of_one hl2
  have hsz := hB2.size
  obtain ⟨a, n', cap, rfl⟩ : ∃ a n cap, v = .slice a n cap := by
    rcases hown2.2 with ⟨hv, h0⟩ | ⟨g, cap, cur, hv, _⟩ <;> exact ⟨_, _, _, hv⟩
  have hbase : B + 2 ≤ w2.drew.heap.size := by show B + 2 ≤ w2.heap.size; omega
  have hby : (r.length + 1) * 16 ≤ 140737488355328 := by omega
  have hown4 := World.ownsRow.drew hown2
  clear hown2
  have k1 : ∀ o, (w2.alloc o).cell? ⟨B, 0, none⟩ = some (.string (bs t)) := fun o => Below.keeps (b_alloc w2 o) c1
  have k2 : ∀ o, (w2.alloc o).cell? ⟨B + 1, 0, none⟩ = some (.slice a n' cap) := fun o => Below.keeps (b_alloc w2 o) c2
  go_region_law (refine step_append1 w2.drew [_] 9 rfl _ _ 36 rfl (B + 2) (.string ByteArray.empty) 1 16 Try.underlying36 infoStr rfl (by decide) _ _ _ rfl hown4 _ rfl rfl (by simp [Value.oneCell']) hby (by decide) hbase ?_; intro g cap w3 hown3 hB3; have hs3 := (hB3.block B (by omega)).trans hs2; have hl3 := (hB3.block (B + 1) (by omega)).trans hl2; have c3 := cell_of_one hs3; have c4 := cell_of_one hl3; have f3 := free_of_one hs3; have f4 := free_of_one hl3)
  all_goals
    rw [tcells_snoc] at hown3
    clear c1 c2 f1 f2 k1 k2 hown4 hs2 hl2
    go_wp2
    go_ret
    have hB4 : Below B w w3 := (hB2.mono (by omega)).trans (((Below.refl B w2).drew).trans (hB3.mono (by omega)))
    first
      | exact ⟨rfl, two_stores B (.string (bs (t.drop (readT t).2.1))) (.slice (some ⟨g, 0, none⟩) (r.length + 1) cap) hs3 hl3 hown3 hB4⟩
      | exact ⟨rfl, two_stores' B (.string (bs (t.drop (readT t).2.1))) (.slice (some ⟨g, 0, none⟩) (r.length + 1) cap) hs3 hl3 hown3 hB4⟩
end Go.Proofs.Ytdfppopmephaaaa
