/- Walks of package sha: the iterator of blocks. -/
import Derived.Test.YtdebgkjekcppmaaS8
import Derived.Test.YtdebgkjekcppmaaR2
import Derived.Test.YtdebgkjekcppmaaSD
import Derived.Deep.DeepCutAuto
namespace Go.Proofs.Ytdebgkjekcppmaa
open Go.RowKit Oct
attribute [local go_sem] Oper.semAt_some

/-- what the iterator may do: take from the rest of the Hash in block p -/
def XrP (p : Nat) (U U' : World) : Prop := Chg (· = p) U U' ∧ ∀ (h : List UInt32) (r : List UInt8) (n : Int), h.length = 8 → Blk U p 89 (hcells h r n) → ∃ r', Blk U' p 89 (hcells h r' n)
/-- what a round must keep: the rest of the Hash in p, the variable in b -/
def YrP (p b : Nat) (U U' : World) : Prop := (∀ o, U.heap[b]? = some o → U'.heap[b]? = some o) ∧ ∀ (h : List UInt32) (r : List UInt8) (n : Int), h.length = 8 → Blk U p 89 (hcells h r n) → ∃ h', h'.length = 8 ∧ Blk U' p 89 (hcells h' r n)
def ElS (x : List UInt8) (vs : Array Value) (_ : World) : Prop := vs = #[.string (bs x)] ∧ x.length = 64
/-- the rest's length, in a cell -/
def slenC : Option Value → Nat
  | some (.string s) => s.size
  | _ => 0
theorem blk_size {w : World} {b : Nat} {t : TypeId} {cs : List Value} (h : Blk w b t cs) : b < w.heap.size := h.lt

theorem blk_at6 {wr : World} {p b : Nat} {h' : List UInt32} {q : List UInt8} {n : Int} (hb : Blk wr b 30 [.pointer (some ⟨p, 0, none⟩)]) (hp : Blk wr p 89 (hcells h' q n)) (hne : b ≠ p) (hl : h'.length = 8) (q' : List UInt8) :
    XrP p wr (wr.setCell ⟨p, 8, none⟩ (.string (bs q'))).drew ∧ Blk (wr.setCell ⟨p, 8, none⟩ (.string (bs q'))).drew b 30 [.pointer (some ⟨p, 0, none⟩)] ∧ Blk (wr.setCell ⟨p, 8, none⟩ (.string (bs q'))).drew p 89 (hcells h' q' n) := by
  have hc : Chg (· = p) wr (wr.setCell ⟨p, 8, none⟩ (.string (bs q'))).drew := (Chg.setCell (X := (· = p)) wr ⟨p, 8, none⟩ _ rfl).trans (Chg.drew _ _)
  have hx : ∀ (h : List UInt32) (r : List UInt8) (n : Int), h.length = 8 → Blk wr p 89 (hcells h r n) → Blk (wr.setCell ⟨p, 8, none⟩ (.string (bs q'))).drew p 89 (hcells h q' n) := fun h r n hl hB => by
    have := hB.set 8 (.string (bs q'))
    rw [hcells_set8 _ _ _ _ hl] at this
    exact this
  exact ⟨⟨hc, fun h r n hl hB => ⟨q', hx h r n hl hB⟩⟩, hb.chg hc hne, hx _ _ _ hl hp⟩
set_option maxRecDepth 100000 in
set_option maxHeartbeats 2000000 in
theorem blocks_iter (k p b : Nat) (h : List UInt32) (hl : h.length = 8) (r : List UInt8) (n : Int) (W : World) (hb : Blk W b 30 [.pointer (some ⟨p, 0, none⟩)]) (hp : Blk W p 89 (hcells h r n)) (hne : b ≠ p) (hr : r.length ≤ 140737488355328) :
    IterG Fence.wide k Try.prog 89 #[.pointer (some ⟨b, 0, none⟩)] (XrP p) (YrP p b) (fun U => ∃ h', h'.length = 8 ∧ Blk U p 89 (hcells h' (tailB r) n)) ElS (chunks r) W := by
  intro l J Jx hJ hJx hY hJ0
  refine callsIn_wide.2 ?_
  have HJ := Lib.hid hJ
  have HJx := Lib.hid hJx
  have HY := Lib.hid hY
  have HN := Lib.hid hne
  clear hJ hJx hY hne
  go_enter Try.func89, Try.ntmps89
  go_wp2
  go_loopw [3] (fun _ wr => ∃ (h : List UInt32) (q : List UInt8) (dn : List (List UInt8)), q.length ≤ 140737488355328 ∧ Hid (h.length = 8) ∧ Hid (Blk wr b 30 [.pointer (some ⟨p, 0, none⟩)]) ∧ Hid (Blk wr p 89 (hcells h q n)) ∧ Hid (chunks r = dn ++ chunks q) ∧ Hid (tailB r = tailB q) ∧ Hid (J dn wr)) (fun _ wr => slenC (wr.cell? ⟨p, 8, none⟩))
  case atStart => exact ⟨h, r, [], hr, hl, hb, hp, rfl, rfl, hJ0⟩
  case round =>
    clear hb hp hJ0
    obtain ⟨h', q, dn, hql, hl', hb, hp, hG, hT, hJd⟩ := hrel
    have c0 := hb.out.cell (k := 0) rfl
    have c8 := hp.out.cell (hcells_rest h' q n hl'.out)
    have f8 := hp.out.free (k := 8) (by rw [hcells_length _ _ _ hl'.out]; omega)
    by_cases h64 : 64 ≤ q.length
    · have m1 : (64 : Int) ≤ (q.length : Int) := by omega
      have HS := Lib.hid (chunks_step q h64)
      have HT2 := Lib.hid (tailB_step q h64)
      have HQ := Lib.hid (show (q.take 64).length = 64 by simp; omega)
      go_wp2
      go_region
      go_upto_region 3 with (fail)
      obtain ⟨W6, hW6⟩ : ∃ W6, W6 = (wr.setCell ⟨p, 8, none⟩ (.string (bs (q.drop 64)))).drew := ⟨_, rfl⟩
      rw [← hW6]
      have h6 := blk_at6 hb.out hp.out HN.out hl'.out (q.drop 64)
      rw [← hW6] at h6
      clear hW6
      obtain ⟨hx6, hb6, hp6⟩ := h6
      have hJ6 := HJ.out _ _ _ hJd.out hx6
      have hG6 := hG.out
      rw [HS.out] at hG6
      obtain ⟨fn, tm, asg, bod, hy, hRd⟩ := HY.out dn (q.take 64) #[.string (bs (q.take 64))] W6 hJ6 ⟨rfl, HQ.out⟩ ⟨chunks (q.drop 64), by rw [hG6]; simp⟩
      have HB6 := Lib.hid hb6
      have HP6 := Lib.hid hp6
      have HG6 := Lib.hid hG6
      clear hb6 hp6 hG6 hx6 hJ6 c0 c8 f8
      refine (wpIn_wide (n := k)).1 ?_
      gi_wp2
      refine ⟨fun h => (by cases h), ?_⟩
      refine hRd.mono ?_
      rintro e W7 (⟨rfl, hJ7, hc7⟩ | ⟨rfl, hJx7⟩)
      · gi_wp2
        go_wp2
        obtain ⟨hb7, hp7⟩ := hc7
        obtain ⟨h7, hl7, hP7⟩ := hp7 h' (q.drop 64) n hl'.out HP6.out
        have hql7 : (q.drop 64).length = q.length - 64 := by simp
        refine ⟨⟨h7, q.drop 64, dn ++ [q.take 64], by omega, hl7, hb7 _ HB6.out, hP7, ?_, ?_, hJ7⟩, ?_⟩
        · show chunks r = dn ++ [q.take 64] ++ chunks (q.drop 64)
          rw [HG6.out]; simp
        · show tailB r = tailB (q.drop 64)
          rw [hT.out, HT2.out]
        · have c1 := hP7.cell (hcells_rest h7 (q.drop 64) n hl7)
          have c2 := hp.out.cell (hcells_rest h' q n hl'.out)
          rw [c1, c2]
          show (bs (q.drop 64)).size < (bs q).size
          rw [bs_size, bs_size]; omega
      · gi_wp2
        go_wp2
        refine bodyPost_ret (results_none rfl _ _ _) rfl ?_
        exact ⟨⟨_, rfl⟩, .inr ⟨_, ⟨chunks (q.drop 64), by rw [HG6.out]; simp⟩, hJx7⟩⟩
    · have m1 : ¬ (64 : Int) ≤ (q.length : Int) := by omega
      have hfin : chunks r = dn := by have := hG.out; rw [chunks_short q (by omega), List.append_nil] at this; exact this
      have hft : tailB r = q := by have := hT.out; rw [tailB_short q (by omega)] at this; exact this
      have HF := Lib.hid hfin
      have HT2 := Lib.hid hft
      clear hfin hft
      go_wp2
      go_end0
      refine ⟨⟨_, rfl⟩, .inl ⟨by rw [HF.out]; exact hJd.out, h', hl'.out, by rw [HT2.out]; exact hp.out⟩⟩
end Go.Proofs.Ytdebgkjekcppmaa
