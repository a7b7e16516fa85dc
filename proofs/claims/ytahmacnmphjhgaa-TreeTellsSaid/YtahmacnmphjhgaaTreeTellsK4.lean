/- Lemmas for TreeTells, part 4: walks of the functions that it reaches, and the plain laws behind them. -/
import Derived.Deep.DeepCutAuto
import Derived.Lib.ConvBytes
import Derived.Laws.AppendOwn
import Derived.Test.YtahmacnmphjhgaaTreeTellsK3
set_option linter.unusedSimpArgs false
set_option linter.unusedVariables false
namespace Go.Proofs.Ytahmacnmphjhgaa
open Go.RowKit Oct

def chunksN : Nat → List UInt8 → List (List UInt8)
  | 0, _ => []
  | n + 1, l => l.take 64 :: chunksN n (l.drop 64)
/-- the whole blocks of a text -/
def chunks (l : List UInt8) : List (List UInt8) := chunksN (l.length / 64) l
/-- what is behind them -/
def tailB (l : List UInt8) : List UInt8 := l.drop (64 * (l.length / 64))
def absorb (h : List UInt32) (l : List UInt8) : List UInt32 := (chunks l).foldl blockF h
theorem chunks_step (l : List UInt8) (h : 64 ≤ l.length) : chunks l = l.take 64 :: chunks (l.drop 64) := by
  unfold chunks
  rw [List.length_drop, show l.length / 64 = (l.length - 64) / 64 + 1 by omega]; rfl
theorem chunks_short (l : List UInt8) (h : l.length < 64) : chunks l = [] := by
  unfold chunks; rw [show l.length / 64 = 0 by omega]; rfl
theorem tailB_step (l : List UInt8) (h : 64 ≤ l.length) : tailB l = tailB (l.drop 64) := by
  unfold tailB
  rw [List.length_drop, List.drop_drop]; congr 1; omega
theorem tailB_short (l : List UInt8) (h : l.length < 64) : tailB l = l := by
  unfold tailB; rw [show l.length / 64 = 0 by omega]; rfl
theorem tailB_length (l : List UInt8) : (tailB l).length = l.length % 64 := by
  unfold tailB; rw [List.length_drop]; omega
theorem chunks_append (b : List UInt8) : ∀ (n : Nat) (a : List UInt8), a.length = 64 * n → chunks (a ++ b) = chunks a ++ chunks b ∧ tailB (a ++ b) = tailB b := by
  intro n
  induction n with
  | zero =>
    intro a ha
    obtain rfl : a = [] := List.eq_nil_of_length_eq_zero (by omega)
    exact ⟨rfl, rfl⟩
  | succ n ih =>
    intro a ha
    obtain ⟨h1, h2⟩ := ih (a.drop 64) (by rw [List.length_drop]; omega)
    rw [chunks_step (a ++ b) (by rw [List.length_append]; omega), chunks_step a (by omega), tailB_step (a ++ b) (by rw [List.length_append]; omega)]
    rw [List.drop_append_of_le_length (by omega), List.take_append_of_le_length (by omega), h1, h2]
    exact ⟨rfl, rfl⟩
theorem split_tailB (t : List UInt8) : ∃ a, t = a ++ tailB t ∧ a.length = 64 * (t.length / 64) := by
  refine ⟨t.take (64 * (t.length / 64)), ?_, ?_⟩
  · unfold tailB; rw [List.take_append_drop]
  · rw [List.length_take]; omega
theorem absorb_tail (h : List UInt32) (t s : List UInt8) : absorb (absorb h t) (tailB t ++ s) = absorb h (t ++ s) ∧ tailB (tailB t ++ s) = tailB (t ++ s) := by
  obtain ⟨a, h1, h2⟩ := split_tailB t
  have e1 := chunks_append (tailB t ++ s) _ a h2
  have e2 := chunks_append (tailB t) _ a h2
  rw [← List.append_assoc, ← h1] at e1
  rw [← h1] at e2
  have hs : chunks (tailB t) = [] := chunks_short _ (by rw [tailB_length]; omega)
  unfold absorb
  rw [e1.1, e2.1, hs, List.append_nil, List.foldl_append]
  exact ⟨rfl, e1.2.symm⟩
theorem absorb_length (h : List UInt32) (l : List UInt8) (hl : h.length = 8) : (absorb h l).length = 8 := by
  unfold absorb
  generalize chunks l = c
  induction c generalizing h with
  | nil => exact hl
  | cons x c ih => exact ih _ (blockF_length h x hl)
theorem foldl_length (h : List UInt32) (c : List (List UInt8)) (hl : h.length = 8) : (c.foldl blockF h).length = 8 := by
  induction c generalizing h with
  | nil => exact hl
  | cons x c ih => exact ih _ (blockF_length h x hl)
/-- how many zero bytes are put -/
def zc (n : Nat) : Nat := (119 - n % 64) % 64
/-- the bytes of a number of 64 bits, the highest first -/
def be8 (n : Nat) : List UInt8 := [UInt8.ofNat (n / 72057594037927936), UInt8.ofNat (n / 281474976710656), UInt8.ofNat (n / 1099511627776), UInt8.ofNat (n / 4294967296), UInt8.ofNat (n / 16777216), UInt8.ofNat (n / 65536), UInt8.ofNat (n / 256), UInt8.ofNat n]
def padTail (r : List UInt8) (n : Nat) : List UInt8 := r ++ [0x80] ++ List.replicate (zc r.length) 0 ++ be8 (8 * n)
theorem padTail_length (r : List UInt8) (n : Nat) : (padTail r n).length = r.length + 9 + zc r.length := by
  simp [padTail, be8]; omega
theorem padTail_mod (r : List UInt8) (n : Nat) : (padTail r n).length % 64 = 0 := by
  rw [padTail_length]; unfold zc; omega
def wb (x : UInt32) : List UInt8 := [UInt8.ofNat (x.toNat / 16777216), UInt8.ofNat (x.toNat / 65536), UInt8.ofNat (x.toNat / 256), UInt8.ofNat x.toNat]
def outB (v : List UInt32) : List UInt8 := v.flatMap wb
/-- the sum of a text -/
def shaF (t : List UInt8) : List UInt8 := outB (absorb h0 (padTail t t.length))
theorem shaF_pieces (t : List UInt8) : outB (absorb (absorb h0 t) (padTail (tailB t) t.length)) = shaF t := by
  have h := absorb_tail h0 t ([0x80] ++ List.replicate (zc t.length) 0 ++ be8 (8 * t.length))
  have e : padTail (tailB t) t.length = tailB t ++ ([0x80] ++ List.replicate (zc t.length) 0 ++ be8 (8 * t.length)) := by
    have hz : zc (tailB t).length = zc t.length := by rw [tailB_length]; unfold zc; omega
    simp only [padTail, hz, List.append_assoc]
  rw [e, h.1]
  simp only [shaF, padTail, List.append_assoc]
theorem outB_length (v : List UInt32) : (outB v).length = 4 * v.length := by
  induction v with
  | nil => rfl
  | cons x v ih => simp [outB, wb] at ih ⊢; omega
theorem shaF_length (t : List UInt8) : (shaF t).length = 32 := by
  rw [shaF, outB_length, absorb_length _ _ rfl]
theorem outB_take (v : List UInt32) (k : Nat) (h : k < v.length) : outB (v.take (k + 1)) = outB (v.take k) ++ wb (v.getD k 0) := by
  rw [List.take_succ_eq_append_getElem h, outB, List.flatMap_append, List.getD_eq_getElem?_getD, List.getElem?_eq_getElem h]
  simp [outB]
end Go.Proofs.Ytahmacnmphjhgaa
namespace Go.Proofs.Ytahmacnmphjhgaa
open Go.RowKit Oct
attribute [local go_sem] Oper.semAt_some

/-- what the iterator may do: take from the rest of the Hash in block p -/
def XrP (p : Nat) (U U' : World) : Prop := Chg (· = p) U U' ∧ ∀ (h : List UInt32) (r : List UInt8) (n : Int), h.length = 8 → Blk U p 138 (hcells h r n) → ∃ r', Blk U' p 138 (hcells h r' n)
/-- what a round must keep: the rest of the Hash in p, the variable in b -/
def YrP (p b : Nat) (U U' : World) : Prop := (∀ o, U.heap[b]? = some o → U'.heap[b]? = some o) ∧ ∀ (h : List UInt32) (r : List UInt8) (n : Int), h.length = 8 → Blk U p 138 (hcells h r n) → ∃ h', h'.length = 8 ∧ Blk U' p 138 (hcells h' r n)
def ElS (x : List UInt8) (vs : Array Value) (_ : World) : Prop := vs = #[.string (bs x)] ∧ x.length = 64
/-- the rest's length, in a cell -/
def slenC : Option Value → Nat
  | some (.string s) => s.size
  | _ => 0
theorem blk_size {w : World} {b : Nat} {t : TypeId} {cs : List Value} (h : Blk w b t cs) : b < w.heap.size := h.lt

theorem blk_at6 {wr : World} {p b : Nat} {h' : List UInt32} {q : List UInt8} {n : Int} (hb : Blk wr b 128 [.pointer (some ⟨p, 0, none⟩)]) (hp : Blk wr p 138 (hcells h' q n)) (hne : b ≠ p) (hl : h'.length = 8) (q' : List UInt8) :
    XrP p wr (wr.setCell ⟨p, 8, none⟩ (.string (bs q'))).drew ∧ Blk (wr.setCell ⟨p, 8, none⟩ (.string (bs q'))).drew b 128 [.pointer (some ⟨p, 0, none⟩)] ∧ Blk (wr.setCell ⟨p, 8, none⟩ (.string (bs q'))).drew p 138 (hcells h' q' n) := by
  have hc : Chg (· = p) wr (wr.setCell ⟨p, 8, none⟩ (.string (bs q'))).drew := (Chg.setCell (X := (· = p)) wr ⟨p, 8, none⟩ _ rfl).trans (Chg.drew _ _)
  have hx : ∀ (h : List UInt32) (r : List UInt8) (n : Int), h.length = 8 → Blk wr p 138 (hcells h r n) → Blk (wr.setCell ⟨p, 8, none⟩ (.string (bs q'))).drew p 138 (hcells h q' n) := fun h r n hl hB => by
    have := hB.set 8 (.string (bs q'))
    rw [hcells_set8 _ _ _ _ hl] at this
    exact this
  exact ⟨⟨hc, fun h r n hl hB => ⟨q', hx h r n hl hB⟩⟩, hb.chg hc hne, hx _ _ _ hl hp⟩
set_option maxRecDepth 100000 in
set_option maxHeartbeats 2000000 in
theorem blocks_iter (k p b : Nat) (h : List UInt32) (hl : h.length = 8) (r : List UInt8) (n : Int) (W : World) (hb : Blk W b 128 [.pointer (some ⟨p, 0, none⟩)]) (hp : Blk W p 138 (hcells h r n)) (hne : b ≠ p) (hr : r.length ≤ 140737488355328) :
    IterG Fence.wide k Try.prog 95 #[.pointer (some ⟨b, 0, none⟩)] (XrP p) (YrP p b) (fun U => ∃ h', h'.length = 8 ∧ Blk U p 138 (hcells h' (tailB r) n)) ElS (chunks r) W := by
  intro l J Jx hJ hJx hY hJ0
  refine callsIn_wide.2 ?_
  have HJ := Lib.hid hJ
  have HJx := Lib.hid hJx
  have HY := Lib.hid hY
  have HN := Lib.hid hne
  clear hJ hJx hY hne
  go_enter Try.func95, Try.ntmps95
  go_wp2
  go_loopw [3] (fun _ wr => ∃ (h : List UInt32) (q : List UInt8) (dn : List (List UInt8)), q.length ≤ 140737488355328 ∧ Hid (h.length = 8) ∧ Hid (Blk wr b 128 [.pointer (some ⟨p, 0, none⟩)]) ∧ Hid (Blk wr p 138 (hcells h q n)) ∧ Hid (chunks r = dn ++ chunks q) ∧ Hid (tailB r = tailB q) ∧ Hid (J dn wr)) (fun _ wr => slenC (wr.cell? ⟨p, 8, none⟩))
  case atStart => exact ⟨h, r, [], hr, hl, hb, hp, rfl, rfl, hJ0⟩
  case round =>
    clear hb hp hJ0
    obtain ⟨h', q, dn, hql, hl', hb, hp, hG, hT, hJd⟩ := hrel
    have c0 := hb.out.cell (k := 0) rfl
    have c8 := hp.out.cell (hcells_rest h' q n hl'.out)
    have f8 := hp.out.free (k := 8) (by rw [hcells_length _ _ _ hl'.out]; omega)
    by_cases h64 : 64 ≤ q.length
    · have m1 : (64 : Int) ≤ (q.length : Int) := by omega
      have HS := Lib.hid (chunks_step q h64)
      have HT2 := Lib.hid (tailB_step q h64)
      have HQ := Lib.hid (show (q.take 64).length = 64 by simp; omega)
      go_wp2
      go_region
      go_upto_region 3 with (fail)
      obtain ⟨W6, hW6⟩ : ∃ W6, W6 = (wr.setCell ⟨p, 8, none⟩ (.string (bs (q.drop 64)))).drew := ⟨_, rfl⟩
      rw [← hW6]
      have h6 := blk_at6 hb.out hp.out HN.out hl'.out (q.drop 64)
      rw [← hW6] at h6
      clear hW6
      obtain ⟨hx6, hb6, hp6⟩ := h6
      have hJ6 := HJ.out _ _ _ hJd.out hx6
      have hG6 := hG.out
      rw [HS.out] at hG6
      obtain ⟨fn, tm, asg, bod, hy, hRd⟩ := HY.out dn (q.take 64) #[.string (bs (q.take 64))] W6 hJ6 ⟨rfl, HQ.out⟩ ⟨chunks (q.drop 64), by rw [hG6]; simp⟩
      have HB6 := Lib.hid hb6
      have HP6 := Lib.hid hp6
      have HG6 := Lib.hid hG6
      clear hb6 hp6 hG6 hx6 hJ6 c0 c8 f8
      refine (wpIn_wide (n := k)).1 ?_
      gi_wp2
      refine ⟨fun h => (by cases h), ?_⟩
      refine hRd.mono ?_
      rintro e W7 (⟨rfl, hJ7, hc7⟩ | ⟨rfl, hJx7⟩)
      · gi_wp2
        go_wp2
        obtain ⟨hb7, hp7⟩ := hc7
        obtain ⟨h7, hl7, hP7⟩ := hp7 h' (q.drop 64) n hl'.out HP6.out
        have hql7 : (q.drop 64).length = q.length - 64 := by simp
        refine ⟨⟨h7, q.drop 64, dn ++ [q.take 64], by omega, hl7, hb7 _ HB6.out, hP7, ?_, ?_, hJ7⟩, ?_⟩
        · show chunks r = dn ++ [q.take 64] ++ chunks (q.drop 64)
          rw [HG6.out]; simp
        · show tailB r = tailB (q.drop 64)
          rw [hT.out, HT2.out]
        · have c1 := hP7.cell (hcells_rest h7 (q.drop 64) n hl7)
          have c2 := hp.out.cell (hcells_rest h' q n hl'.out)
          rw [c1, c2]
          show (bs (q.drop 64)).size < (bs q).size
          rw [bs_size, bs_size]; omega
      · gi_wp2
        go_wp2
        refine bodyPost_ret (results_none rfl _ _ _) rfl ?_
        exact ⟨⟨_, rfl⟩, .inr ⟨_, ⟨chunks (q.drop 64), by rw [HG6.out]; simp⟩, hJx7⟩⟩
    · have m1 : ¬ (64 : Int) ≤ (q.length : Int) := by omega
      have hfin : chunks r = dn := by have := hG.out; rw [chunks_short q (by omega), List.append_nil] at this; exact this
      have hft : tailB r = q := by have := hT.out; rw [tailB_short q (by omega)] at this; exact this
      have HF := Lib.hid hfin
      have HT2 := Lib.hid hft
      clear hfin hft
      go_wp2
      go_end0
      refine ⟨⟨_, rfl⟩, .inl ⟨by rw [HF.out]; exact hJd.out, h', hl'.out, by rw [HT2.out]; exact hp.out⟩⟩
end Go.Proofs.Ytahmacnmphjhgaa
namespace Go.Proofs.Ytahmacnmphjhgaa
open Go.RowKit Oct
attribute [local go_sem] Oper.semAt_some

set_option maxRecDepth 100000 in
set_option maxHeartbeats 1000000 in
theorem Write_nil (l : List UInt8) (w : World) : Calls Try.prog 84 #[.pointer none, .string (bs l)] w fun e w' => e = .returned (.int .i64 1) ∧ Below w.heap.size w w' := by
  go_enter Try.func84, Try.ntmps84
  go_wp2
  go_ret
  exact ⟨rfl, b_alloc _ _⟩

/-- a Hash lies in block p with rest r and count n, whatever its words -/
theorem hash_same {U : World} {p : Nat} {h h' : List UInt32} {r r' : List UInt8} {n n' : Int} (hl : h.length = 8) (hl' : h'.length = 8) (hB : Blk U p 138 (hcells h r n)) (hB' : Blk U p 138 (hcells h' r' n')) : r' = r ∧ n' = n := by
  have a1 := hB.cell (hcells_rest h r n hl)
  have a2 := hB'.cell (hcells_rest h' r' n' hl')
  have b1 := hB.cell (hcells_n h r n hl)
  have b2 := hB'.cell (hcells_n h' r' n' hl')
  rw [a1] at a2
  rw [b1] at b2
  injection a2 with a2
  injection a2 with a2
  injection b2 with b2
  injection b2 with _ b2
  refine ⟨?_, b2.symm⟩
  have := congrArg ByteArray.toList a2
  simpa [bs_toList] using this.symm
/-- the invariant of a range over blocks: D0: the function's own blocks lie from there on; the box in block S holds v -/
def WrI (p D0 S : Nat) (v : Value) (t : TypeId) (h : List UInt32) (N : Int) (w : World) (pre : List (List UInt8)) (U : World) : Prop :=
  (∃ rest, Blk U p 138 (hcells (pre.foldl blockF h) rest N)) ∧ Blk U S t [v] ∧ Chg (fun k => k = p ∨ D0 ≤ k) w U
theorem WrI.x {p D0 S : Nat} {v : Value} {t : TypeId} {h : List UInt32} {N : Int} {w U U' : World} {pre : List (List UInt8)} (hl : h.length = 8) (hS : S ≠ p) (hI : WrI p D0 S v t h N w pre U) (hx : XrP p U U') : WrI p D0 S v t h N w pre U' := by
  obtain ⟨⟨rest, h1⟩, h2, h3⟩ := hI
  exact ⟨hx.2 _ _ _ (foldl_length h pre hl) h1, h2.chg hx.1 hS, h3.trans (hx.1.mono fun k hk => .inl hk)⟩
theorem WrI.d {p D0 S D : Nat} {v : Value} {t : TypeId} {h : List UInt32} {N : Int} {w U U' : World} {pre : List (List UInt8)} (hS : S < D) (hp : p < D) (hD : D0 ≤ D) (hI : WrI p D0 S v t h N w pre U) (hx : Chg (fun k => k = D ∨ k = D + 1) U U') : WrI p D0 S v t h N w pre U' := by
  obtain ⟨⟨rest, h1⟩, h2, h3⟩ := hI
  exact ⟨⟨rest, h1.chg hx (by omega)⟩, h2.chg hx (by omega), h3.trans (hx.mono fun k hk => .inr (by omega))⟩
theorem WrI.step {p D0 S : Nat} {v : Value} {t : TypeId} {h : List UInt32} {N : Int} {w U U' : World} {pre : List (List UInt8)} {rest x : List UInt8} (hS : S ≠ p) (h2 : Blk U S t [v]) (h3 : Chg (fun k => k = p ∨ D0 ≤ k) w U)
    (hB : Blk U' p 138 (hcells (blockF (pre.foldl blockF h) x) rest N)) (hc : Chg (· = p) U U') : WrI p D0 S v t h N w (pre ++ [x]) U' :=
  ⟨⟨rest, by rw [List.foldl_append]; exact hB⟩, h2.chg hc hS, h3.trans (hc.mono fun k hk => .inl hk)⟩
theorem XrP.keep {p D : Nat} (hp : p < D) (U U' : World) (h : XrP p U U') : KeepD D U U' := KeepD.of_chg h.1 fun k hk e => by subst e; omega
theorem YrP.comp {p b D : Nat} (hp : p < D) (hb : b < D) (u v x y : World) (h1 : Chg (fun k => k = D ∨ k = D + 1) u v) (h2 : YrP p b v x) (h3 : Chg (fun k => k = D ∨ k = D + 1) x y) : YrP p b u y :=
  ⟨fun o ho => h3.at (h2.1 o (h1.at ho (by omega))) (by omega), fun h r n hl hB => by
    obtain ⟨h', hl', hB'⟩ := h2.2 h r n hl (hB.chg h1 (by omega))
    exact ⟨h', hl', hB'.chg h3 (by omega)⟩⟩
theorem YrP.of_block {p b : Nat} {h h' : List UInt32} {r : List UInt8} {n : Int} {U U' : World} (hne : b ≠ p) (hl : h.length = 8) (hl' : h'.length = 8) (hB : Blk U p 138 (hcells h r n)) (hB' : Blk U' p 138 (hcells h' r n)) (hc : Chg (· = p) U U') : YrP p b U U' :=
  ⟨fun o ho => hc.at ho hne, fun h2 r2 n2 hl2 hB2 => by
    obtain ⟨rfl, rfl⟩ := hash_same hl hl2 hB hB2
    exact ⟨h', hl', hB'⟩⟩
theorem fin_d {p D : Nat} (hp : p < D) (r : List UInt8) (n : Int) (U U' : World) (h : ∃ h', h'.length = 8 ∧ Blk U p 138 (hcells h' r n)) (hc : Chg (fun k => k = D ∨ k = D + 1) U U') : ∃ h', h'.length = 8 ∧ Blk U' p 138 (hcells h' r n) := by
  obtain ⟨h', hl', hB⟩ := h
  exact ⟨h', hl', hB.chg hc (by omega)⟩
/-- at the end -/
theorem WrI.fin {p D0 S : Nat} {v : Value} {t : TypeId} {h : List UInt32} {N : Int} {w U : World} {l : List UInt8} (hl : h.length = 8) (hI : WrI p D0 S v t h N w (chunks l) U) (hf : ∃ h', h'.length = 8 ∧ Blk U p 138 (hcells h' (tailB l) N)) : Blk U p 138 (hcells (absorb h l) (tailB l) N) := by
  obtain ⟨⟨rest, h1⟩, _, _⟩ := hI
  obtain ⟨h', hl', hB⟩ := hf
  obtain ⟨rfl, _⟩ := hash_same hl' (foldl_length h _ hl) hB h1
  exact h1

set_option maxRecDepth 100000 in
set_option maxHeartbeats 2000000 in
theorem Write_any (p : Nat) (h : List UInt32) (hl : h.length = 8) (r s : List UInt8) (n : Nat) (w : World) (hp : Blk w p 138 (hcells h r n)) (hn : n + s.length ≤ 140737488355328) (hr : r.length + s.length ≤ 140737488355328) :
    Calls Try.prog 84 #[.pointer (some ⟨p, 0, none⟩), .string (bs s)] w fun e w' => e = .returned (.int .i64 0) ∧ Blk w' p 138 (hcells (absorb h (r ++ s)) (tailB (r ++ s)) ((n + s.length : Nat) : Int)) ∧ Chg (· = p) w w' := by
  have c8 := hp.cell (hcells_rest h r n hl)
  have c9 := hp.cell (hcells_n h r n hl)
  have f8 := hp.free (k := 8) (by rw [hcells_length _ _ _ hl]; omega)
  have f9 := hp.free (k := 9) (by rw [hcells_length _ _ _ hl]; omega)
  have hlt := hp.lt
  have HP := Lib.hid hp
  have HL := Lib.hid hl
  clear hp hl
  refine calls_of_wp_marks Try.func84 rfl ?_
  simp only [Try.ntmps84, List.size_toArray, List.length_cons, List.length_nil, Nat.reduceAdd, Nat.reduceSub, Array.replicate_succ, Array.replicate_zero, List.push_toArray, List.append_toArray, List.nil_append, List.cons_append]
  go_wp2_with fail
  obtain ⟨w1, hw1⟩ : ∃ w1, w1 = ((w.setCell ⟨p, 9, none⟩ (.int .u64 (n + s.length))).setCell ⟨p, 8, none⟩ (.string (bs (r ++ s)))).alloc (.cells #[.pointer (some ⟨p, 0, none⟩)] 128) := ⟨_, rfl⟩
  rw [← hw1]
  have hc0 : Chg (· = p) w ((w.setCell ⟨p, 9, none⟩ (.int .u64 (n + s.length))).setCell ⟨p, 8, none⟩ (.string (bs (r ++ s)))) := (Chg.setCell (X := (· = p)) w ⟨p, 9, none⟩ _ rfl).trans (Chg.setCell _ ⟨p, 8, none⟩ _ rfl)
  have hs0 : ((w.setCell ⟨p, 9, none⟩ (.int .u64 (n + s.length))).setCell ⟨p, 8, none⟩ (.string (bs (r ++ s)))).heap.size = w.heap.size := by simp [World.setCell]
  have hc1 : Chg (· = p) w w1 := by
    rw [hw1]
    exact hc0.trans (Chg.alloc _ _ _)
  have hs1 : w1.heap.size = w.heap.size + 1 := by rw [hw1]; simp [World.setCell]
  have hb1 : Blk w1 w.heap.size 128 [.pointer (some ⟨p, 0, none⟩)] := by
    rw [hw1]
    have := Blk.new ((w.setCell ⟨p, 9, none⟩ (.int .u64 (n + s.length))).setCell ⟨p, 8, none⟩ (.string (bs (r ++ s)))) [.pointer (some ⟨p, 0, none⟩)] 128
    rw [hs0] at this
    exact this
  have hp1 : Blk w1 p 138 (hcells h (r ++ s) ((n + s.length : Nat) : Int)) := by
    rw [hw1]
    have h1 := HP.out.set 9 (.int .u64 (n + s.length))
    rw [hcells_set9 _ _ _ _ HL.out] at h1
    have h2 := h1.set 8 (.string (bs (r ++ s)))
    rw [hcells_set8 _ _ _ _ HL.out] at h2
    exact h2.below (b_alloc _ _)
  clear hc0 hs0
  obtain ⟨N, hN⟩ : ∃ N : Int, N = ((n + s.length : Nat) : Int) := ⟨_, rfl⟩
  rw [← hN] at hp1
  have HN := Lib.hid hN
  clear hw1 hN c8 c9 f8 f9 hn
  obtain ⟨w0, hw0⟩ : ∃ w0, w0 = w := ⟨_, rfl⟩
  subst hw0
  refine (blocks_any p w1).mono ?_
  rintro e w2 ⟨b, rfl, hbs, hb2, hB2⟩
  have hb1' := Lib.hid (hb1.below hB2)
  have hp1' := Lib.hid (hp1.below hB2)
  have hc2 := Lib.hid (hc1.trans (Chg.of_below hB2))
  have hs2 := hB2.size
  have hlt2 := hb2.lt
  have HB2 := Lib.hid hb2
  have hbp : b ≠ p := by omega
  clear hb1 hp1 hc1 hb2 hB2
  go_wp2_with fail
  refine wp_rangeG (D := w2.heap.size) rfl (gf := 95) (lb := #[.pointer (some ⟨b, 0, none⟩)]) rfl (enters_of Try.func95 (by kernel_rfl) rfl)
    (Xr := XrP p) (Yr := YrP p b) (Fin := fun U => ∃ h', h'.length = 8 ∧ Blk U p 138 (hcells h' (tailB (r ++ s)) N)) (El := ElS) (out := chunks (r ++ s)) (XrP.keep (by omega)) (YrP.comp (by omega) (by omega)) (fun U U' h hc => fin_d (by omega) _ _ U U' h hc)
    (fun W hW => blocks_iter 2 p b h HL.out (r ++ s) N W (HB2.out.below hW) (hp1'.out.below hW) hbp (by simp; omega))
    (fun x vs U h => by rw [h.1]; rfl) (fun x vs U U' h _ => h)
    (WrI p w0.heap.size w0.heap.size (.pointer (some ⟨p, 0, none⟩)) 128 h N w0) (fun _ _ _ => False) (fun pre U U' h hx => h.x HL.out (by omega) hx) (fun pre U U' h hx => h.d (by omega) (by omega) (by omega) hx) (fun _ _ _ _ h _ => h.elim) (fun _ _ _ _ h _ => h.elim)
    ⟨⟨_, hp1'.out⟩, hb1'.out, hc2.out.mono fun k hk => .inl hk⟩ ?round ?done ?stop
  case round =>
    rintro l pre x vs U _ ⟨rfl, hx64⟩ hpre
    gi_wp2
    refine ⟨Below.refl _ _, ?_⟩
    rintro U2 h2 ⟨⟨rest, hB⟩, hbx, hcw⟩ _ hcU
    have c0 := hbx.cell (k := 0) rfl
    have HBx := Lib.hid hbx
    have HBp := Lib.hid hB
    have HCw := Lib.hid hcw
    clear hbx hB hcw hcU hpre
    gi_wp2
    refine ⟨trivial, CallsIn.inRound _ (callsIn_wide.2 ((block_any p _ (foldl_length h pre HL.out) rest N x (by omega) U2 HBp.out).mono ?_))⟩
    rintro e U3 ⟨rfl, hB3, hC3⟩
    gi_wp2
    refine ⟨KeepD.of_chg hC3 fun k hk e => by subst e; omega, YrP.of_block hbp (foldl_length h pre HL.out) (blockF_length _ _ (foldl_length h pre HL.out)) HBp.out hB3 hC3, WrI.step (by omega) HBx.out HCw.out hB3 hC3⟩
  case done =>
    rintro W h2 hI hF hK
    have hE := Lib.hid (hI.fin HL.out hF)
    have hC := Lib.hid hI.2.2
    clear hI hF
    go_wp2
    refine marks_ret (D := w2.heap.size) rfl hK (results_tmp rfl _ _ _) ⟨rfl, ?_, ?_⟩
    · rw [← HN.out]
      exact hE.out.chg (Chg.putObj (X := fun k => k = w2.heap.size) _ _ _ rfl) (by omega)
    · have hc := hC.out.trans (Chg.putObj (X := fun k => k = p ∨ w0.heap.size ≤ k) W w2.heap.size (.deferred none) (.inr (by omega)))
      exact ⟨hc.os, hc.tape, hc.output, hc.size, fun k hk hn => hc.block k hk (by omega)⟩
  case stop => exact fun _ _ _ _ _ h _ => h.elim
end Go.Proofs.Ytahmacnmphjhgaa
namespace Go.Proofs.Ytahmacnmphjhgaa
open Go.RowKit Oct

/-- blocks that hold no bytes, other than b, are kept -/
def Kept (b : Nat) (w w' : World) : Prop := ∀ X cs t fz, X ≠ b → t ≠ 5 → w.heap[X]? = some (.cells cs t fz) → w'.heap[X]? = some (.cells cs t fz)
theorem Kept.trans {b : Nat} {w w1 w2 : World} (h1 : Kept b w w1) (h2 : Kept b w1 w2) : Kept b w w2 := fun X cs t fz hX ht h => h2 X cs t fz hX ht (h1 X cs t fz hX ht h)
theorem Kept.below {b : Nat} {w w' : World} (h : Below w.heap.size w w') : Kept b w w' := fun X cs t fz _ _ hx => by
  have hlt : X < w.heap.size := by
    rcases Nat.lt_or_ge X w.heap.size with h' | h'
    · exact h'
    · simp [Array.getElem?_eq_none h'] at hx
  exact (h.block X hlt).trans hx
theorem copyCheck_kept (B b : Nat) (bs : List Value) (w : World) (h : Lib.IsBuilder 122 5 B b bs w) :
    Calls Try.prog 88 #[.pointer (some ⟨b, 0, none⟩)] w fun e w' => e = .returned (.tuple #[]) ∧ (Lib.BuilderAt 122 5 B b (.pointer (some ⟨b, 0, none⟩)) bs w' ∧ Below B w w' ∧ Kept b w w') := by
  rcases h with h | h
  · refine (copyCheck_fresh b w h.cell0 h.shape h.frozen0).mono ?_
    rintro e w' ⟨rfl, rfl⟩
    exact ⟨rfl, h.used _, (Below.refl B w).setCell (p := ⟨b, 0, none⟩) h.1 _, fun X cs t fz hX _ hx => by rw [heap_setCell_other _ _ _ _ (fun e => hX (by first | exact e | exact e.symm))]; exact hx⟩
  · refine (copyCheck_used b w h.cell0).mono ?_
    rintro e w' ⟨rfl, rfl⟩
    exact ⟨rfl, h, Below.refl B _, fun X cs t fz _ _ hx => hx⟩

set_option maxHeartbeats 2000000 in
set_option maxRecDepth 100000 in
theorem WriteString_raw2 (B b : Nat) (bs : List Value) (s : ByteArray) (w : World) (h : Lib.IsBuilder 122 5 B b bs w) (hlen : bs.length + s.size ≤ 140737488355328) (hBw : B ≤ w.heap.size) :
    Calls Try.prog 79 #[.pointer (some ⟨b, 0, none⟩), .string s] w fun e w' => e = .returned (.tuple #[.int .i64 s.size, .nilIface]) ∧ (Lib.BuilderAt 122 5 B b (.pointer (some ⟨b, 0, none⟩)) (bs ++ Lib.strCells s) w' ∧ Below B w w' ∧ Kept b w w') := by
  obtain ⟨i0, hi, hz0, hz1, hz2⟩ := info_parts infoU8
  go_enter Try.func79, Try.ntmps79
  go_wp2_with (go_at_call 88; refine (copyCheck_kept B b bs _ h).mono ?_)
  rintro e w1 ⟨rfl, h1, hb1, hk1⟩
  obtain ⟨hB, v, hbk, hown, hne⟩ := h1
  have c0 : w1.cell? ⟨b, 0, none⟩ = some (.pointer (some ⟨b, 0, none⟩)) := by rw [Lib.cell_of_heap hbk]; rfl
  have c1 : w1.cell? ⟨b, 1, none⟩ = some v := by rw [Lib.cell_of_heap hbk]; rfl
  go_wp2_with (at_builtin; refine Lib.wpList_append_own_string _ rfl _ _ 94 9 rfl B 5 i0 Try.underlying94 Try.underlying9 hi hz0 hz1 hz2 _ _ _ rfl hown s rfl ?c3 ?c4 ?c5 ?_)
  case c3 => unfold maxLen; omega
  case c4 => omega
  case c5 => have := hb1.size; omega
  intro v' w2 hown' hgrow _
  have hlt : b < w1.heap.size := by
    rcases Nat.lt_or_ge b w1.heap.size with h' | h'
    · exact h'
    · simp [Array.getElem?_eq_none h'] at hbk
  have hb2 : w2.heap[b]? = some (.cells #[.pointer (some ⟨b, 0, none⟩), v] 122 (0, 0)) := by
    rw [hgrow.block b hlt (fun e => hne e.symm)]
    exact hbk
  have d0 : w2.cell? ⟨b, 0, none⟩ = some (.pointer (some ⟨b, 0, none⟩)) := by rw [Lib.cell_of_heap hb2]; rfl
  have d1 : w2.cell? ⟨b, 1, none⟩ = some v := by rw [Lib.cell_of_heap hb2]; rfl
  have f1 : w2.frozen? ⟨b, 1, none⟩ = false := Lib.frozen_of_heap hb2 1
  obtain ⟨ao, n', cap, rfl⟩ : ∃ ao n' cap, v' = .slice ao n' cap := by
    rcases hown'.2 with ⟨hv, _⟩ | ⟨g, cap, cur, hv, _⟩
    · exact ⟨_, _, _, hv⟩
    · exact ⟨_, _, _, hv⟩
  go_wp2
  go_ret2
  refine ⟨rfl, ?_, ?_, ?_⟩
  · exact Lib.BuilderAt.put (T := 122) (e := 5) hB hb2 (bs' := bs ++ Lib.strCells s) (by simpa [Lib.strCells_length] using hown') (by decide)
  · exact (hb1.grown hgrow (by have := hb1.size; omega) (fun k hk => (hown.lt k hk).1)).setCell (p := ⟨b, 1, none⟩) hB _
  · intro X cs t fz hX ht hx
    have h1 := hk1 X cs t fz hX ht hx
    have hlt1 : X < w1.heap.size := by
      rcases Nat.lt_or_ge X w1.heap.size with h' | h'
      · exact h'
      · simp [Array.getElem?_eq_none h'] at h1
    have h2 := hgrow.block X hlt1 (fun e => by
      rcases hown.2 with ⟨hv, _⟩ | ⟨g, cap, cur, hv, _, hg, _⟩
      · rw [hv] at e; simp [Value.ownBlock] at e
      · rw [hv] at e
        simp only [Value.ownBlock, Option.some.injEq] at e
        subst e
        rw [hg] at h1
        injection h1 with h1
        injection h1 with _ h1 _
        exact ht h1.symm)
    rw [heap_setCell_other _ _ _ _ (fun e => hX (by first | exact e | exact e.symm))]
    exact h2.trans h1

theorem WriteString_kept (B b : Nat) (l m : List UInt8) (w : World) (h : Bld B b l w) (hlen : l.length + m.length ≤ 140737488355328) :
    Calls Try.prog 79 #[.pointer (some ⟨b, 0, none⟩), .string (bs m)] w fun e w' => e = .returned (.tuple #[.int .i64 m.length, .nilIface]) ∧ Bld B b (l ++ m) w' ∧ Below B w w' ∧ Kept b w w' := by
  refine (WriteString_raw2 B b (bcells l) (bs m) w h.2 (by rw [bcells_length, bs_size]; exact hlen) h.1).mono ?_
  rintro e w' ⟨rfl, h1, h2, h3⟩
  refine ⟨by rw [bs_size], ⟨Nat.le_trans h.1 h2.size, .inr ?_⟩, h2, h3⟩
  rw [strCells_bs] at h1
  simpa [bcells] using h1
end Go.Proofs.Ytahmacnmphjhgaa
namespace Go.Proofs.Ytahmacnmphjhgaa
open Go.RowKit Oct

section
variable {P : Program}
/-- append(s, x): .. and old blocks other than the slice's own stand -/
theorem append1K {ops : Array Oper} {rest : List Oper} {o : Oper} {a : Act} {Q : Exit → Act → World → Prop} (wr : World) (news : List Value) (e : TypeId) (hgd : o.guard = none) (s x : Operand) (t : TypeId)
    (ho : o.op = .call { callee := .builtin .append, args := #[s, x], argTypes := #[t, t] })
    (base : Nat) (z : Value) (size bytes : Nat) (ht : P.underlying t = some (.slice e)) (hinfo : (P.info? e).map (fun i => (i.zero, i.size, i.bytes)) = some (some z, size, bytes))
    (hzs : z.cells.size = size) (hsz : 0 < size) (v : Value) (n : Nat) (xs : List Value) (hs : a.eval s = v) (hown : wr.ownsRow base e size v n xs)
    (c : Nat) (hx : a.eval x = .slice (some ⟨wr.heap.size, 0, none⟩) 1 c) (hl : news.length = size) (h1 : ∀ u ∈ news, u.oneCell' = true)
    (hbytes : (n + 1) * bytes ≤ 140737488355328) (hby : 0 < bytes) (hbase : base ≤ wr.heap.size)
    (h : ∀ v' w', w'.ownsRow base e size v' (n + 1) (xs ++ news) → Below base wr w' → (∀ k, k < wr.heap.size → v.ownBlock ≠ some k → w'.heap[k]? = wr.heap[k]?) → wpList P ops Q rest (a.put o.dst v') w') : wpList P ops Q (o :: rest) a (wr.alloc (.cells news.toArray e)) := by
  obtain ⟨i, hi, hz, hi1, hi2⟩ := info_parts hinfo
  have hn : n + 1 ≤ (n + 1) * bytes := Nat.le_mul_of_pos_right _ hby
  refine wpList_append_own _ hgd s x t ho base e i z size bytes ht hi hz hi1 hi2 hzs hsz v n xs hs (hown.alloc _) ⟨wr.heap.size, 0, none⟩ 1 c news hx (by simpa using hl) ?_ h1 (by unfold maxLen; omega) hbytes (by simp; omega) ?_
  · intro j u hj
    have : j < news.length := by
      rcases Nat.lt_or_ge j news.length with h | h
      · exact h
      · simp [List.getElem?_eq_none h] at hj
    rw [Addr.add_lit, Nat.zero_add, World.cell?_alloc_new]
    simpa using hj
  · intro v' w' h2 h3 _
    refine h v' w' h2 (((Below.refl base wr).alloc hbase _).grown h3 (by simp; omega) ?_) ?_
    · intro k hk
      exact (hown.lt k hk).1
    · intro k hk hne
      rw [h3.block k (by simp; omega) (fun e => hne e.symm)]
      exact heap_alloc_old wr _ hk
/-- append(s, x...) -/
theorem appendNK {ops : Array Oper} {rest : List Oper} {o : Oper} {a : Act} {Q : Exit → Act → World → Prop} (w : World) (news : List Value) (e : TypeId) (hgd : o.guard = none) (s x : Operand) (t : TypeId)
    (ho : o.op = .call { callee := .builtin .append, args := #[s, x], argTypes := #[t, t] })
    (base : Nat) (z : Value) (size bytes : Nat) (ht : P.underlying t = some (.slice e)) (hinfo : (P.info? e).map (fun i => (i.zero, i.size, i.bytes)) = some (some z, size, bytes))
    (hzs : z.cells.size = size) (hsz : 0 < size) (v : Value) (n : Nat) (xs : List Value) (hs : a.eval s = v) (hown : w.ownsRow base e size v n xs)
    (vx : Value) (m : Nat) (hx : a.eval x = vx) (hr : Reads w vx m news) (hl : news.length = m * size) (h1 : ∀ u ∈ news, u.oneCell' = true)
    (hbytes : (n + m) * bytes ≤ 140737488355328) (hby : 0 < bytes) (hbase : base ≤ w.heap.size)
    (h : ∀ v' w', w'.ownsRow base e size v' (n + m) (xs ++ news) → Below base w w' → (∀ k, k < w.heap.size → v.ownBlock ≠ some k → w'.heap[k]? = w.heap[k]?) → wpList P ops Q rest (a.put o.dst v') w') : wpList P ops Q (o :: rest) a w := by
  obtain ⟨i, hi, hz, hi1, hi2⟩ := info_parts hinfo
  have hn : n + m ≤ (n + m) * bytes := Nat.le_mul_of_pos_right _ hby
  obtain ⟨ax, cap, rfl, hnone, hc⟩ := hr
  cases ax with
  | none =>
    obtain ⟨rfl, rfl⟩ := hnone rfl
    have hnil : news = [] := List.eq_nil_of_length_eq_zero (by simpa using hl)
    subst hnil
    refine wpList_append_own_none hgd s x t ho base e i size ht hi v n xs hs hown hx ?_
    exact h v w (by simpa using hown) (Below.refl _ _) (fun _ _ _ => rfl)
  | some ad =>
    refine wpList_append_own _ hgd s x t ho base e i z size bytes ht hi hz hi1 hi2 hzs hsz v n xs hs hown ad m cap news hx hl ?_ h1 (by unfold maxLen; omega) hbytes hbase ?_
    · intro j u hj
      obtain ⟨b, off, ha, hu⟩ := hc j u hj
      cases ha
      rw [Addr.add_lit]; exact hu
    · intro v' w' h2 h3 _
      refine h v' w' h2 ((Below.refl base w).grown h3 hbase ?_) (fun k hk hne => h3.block k hk (fun e => hne e.symm))
      intro k hk
      exact (hown.lt k hk).1
end

theorem copyCheck_chg (B b : Nat) (bs : List Value) (w : World) (h : Lib.IsBuilder 122 5 B b bs w) :
    Calls Try.prog 88 #[.pointer (some ⟨b, 0, none⟩)] w fun e w' => e = .returned (.tuple #[]) ∧ (Lib.BuilderAt 122 5 B b (.pointer (some ⟨b, 0, none⟩)) bs w' ∧ Below B w w' ∧ Chg (· = b) w w') := by
  rcases h with h | h
  · refine (copyCheck_fresh b w h.cell0 h.shape h.frozen0).mono ?_
    rintro e w' ⟨rfl, rfl⟩
    exact ⟨rfl, h.used _, (Below.refl B w).setCell (p := ⟨b, 0, none⟩) h.1 _, Chg.setCell _ _ _ rfl⟩
  · refine (copyCheck_used b w h.cell0).mono ?_
    rintro e w' ⟨rfl, rfl⟩
    exact ⟨rfl, h, Below.refl B _, Chg.refl _ _⟩
theorem bcells_app (l m : List UInt8) : bcells (l ++ m) = bcells l ++ bcells m := by simp [bcells]
theorem bcells_one (m : List UInt8) : ∀ u ∈ bcells m, u.oneCell' = true := by
  intro u hu
  simp only [bcells, List.mem_map] at hu
  obtain ⟨x, _, rfl⟩ := hu; rfl
theorem bytes_other {w : World} {B : Nat} {v : Value} {n : Nat} {xs : List Value} (hown : w.ownsRow B 5 1 v n xs) {X : Nat} {cs : Array Value} {t : TypeId} {fz : Nat × Nat} (hx : w.heap[X]? = some (.cells cs t fz)) (ht : t ≠ 5) : v.ownBlock ≠ some X := fun e => by
  rcases hown.2 with ⟨hv, _⟩ | ⟨g, cap, cur, hv, _, hg, _⟩
  · rw [hv] at e; simp [Value.ownBlock] at e
  · rw [hv] at e
    simp only [Value.ownBlock, Option.some.injEq] at e
    subst e
    rw [hg] at hx
    injection hx with hx
    injection hx with _ hx _
    exact ht hx.symm


set_option maxHeartbeats 2000000 in
set_option maxRecDepth 100000 in
theorem Write_kept (B b : Nat) (l m : List UInt8) (vm : Value) (w : World) (h : Bld B b l w) (hm : Reads w vm m.length (bcells m)) (hmb : ∀ w1, Chg (· = b) w w1 → Reads w1 vm m.length (bcells m)) (hlen : l.length + m.length ≤ 140737488355328) :
    Calls Try.prog 91 #[.pointer (some ⟨b, 0, none⟩), vm] w fun e w' => e = .returned (.tuple #[.int .i64 m.length, .nilIface]) ∧ Bld B b (l ++ m) w' ∧ Below B w w' ∧ Kept b w w' := by
  obtain ⟨hBw, h⟩ := h
  have HL := Lib.hid hlen
  have HM := Lib.hid hm
  have HB := Lib.hid hmb
  clear hlen hm hmb
  obtain ⟨am, cm, rfl, _, _⟩ := HM.out
  go_enter Try.func91, Try.ntmps91
  go_wp2_with (go_at_call 88; refine (copyCheck_chg B b _ _ h).mono ?_)
  rintro e w1 ⟨rfl, h1, hb1, hk1⟩
  obtain ⟨hB, v, hbk, hown, hne⟩ := h1
  rw [bcells_length] at hown
  have hm1 : Reads w1 (.slice am m.length cm) m.length (bcells m) := HB.out _ hk1
  have c0 : w1.cell? ⟨b, 0, none⟩ = some (.pointer (some ⟨b, 0, none⟩)) := by rw [Lib.cell_of_heap hbk]; rfl
  have c1 : w1.cell? ⟨b, 1, none⟩ = some v := by rw [Lib.cell_of_heap hbk]; rfl
  go_wp2_with (at_builtin; refine appendNK w1 (bcells m) 5 rfl _ _ 94 rfl B (.int .u8 0) 1 1 Try.underlying94 infoU8 rfl (by decide) _ _ _ rfl hown _ _ rfl hm1 (by rw [bcells_length, Nat.mul_one]) (bcells_one m) (by have := HL.out; omega) (by decide) (by have := hb1.size; omega) ?_)
  intro v' w2 hown' hb2 hkeep
  have hlt : b < w1.heap.size := by
    rcases Nat.lt_or_ge b w1.heap.size with h' | h'
    · exact h'
    · simp [Array.getElem?_eq_none h'] at hbk
  have hbk2 : w2.heap[b]? = some (.cells #[.pointer (some ⟨b, 0, none⟩), v] 122 (0, 0)) := by
    rw [hkeep b hlt (fun e => hne e)]
    exact hbk
  have d0 : w2.cell? ⟨b, 0, none⟩ = some (.pointer (some ⟨b, 0, none⟩)) := by rw [Lib.cell_of_heap hbk2]; rfl
  have d1 : w2.cell? ⟨b, 1, none⟩ = some v := by rw [Lib.cell_of_heap hbk2]; rfl
  have f1 : w2.frozen? ⟨b, 1, none⟩ = false := Lib.frozen_of_heap hbk2 1
  obtain ⟨ao, cap, rfl⟩ := owns_slice hown'
  go_wp2
  go_ret2
  have hB12 : Below B w w2 := hb1.trans hb2
  refine ⟨rfl, ⟨?_, .inr ?_⟩, ?_, ?_⟩
  · have := hB12.size; simp [World.setCell]; omega
  · rw [bcells_app]
    exact Lib.BuilderAt.put (T := 122) (e := 5) hB hbk2 (bs' := bcells l ++ bcells m) (by simpa [bcells_length] using hown') (by decide)
  · exact hB12.setCell (p := ⟨b, 1, none⟩) hB _
  · intro X cs t fz hX ht hx
    have h1 := hk1.at hx hX
    have hlt1 : X < w1.heap.size := by
      rcases Nat.lt_or_ge X w1.heap.size with h' | h'
      · exact h'
      · simp [Array.getElem?_eq_none h'] at h1
    have h2 := hkeep X hlt1 (bytes_other hown h1 ht)
    rw [heap_setCell_other _ _ _ _ (fun e => hX (by first | exact e | exact e.symm))]
    exact h2.trans h1
end Go.Proofs.Ytahmacnmphjhgaa
namespace Go.Proofs.Ytahmacnmphjhgaa
open Go.RowKit Oct

/-- bytes of the call's own; the row may bear a mark behind its cells -/
def OwnE (w : World) (base : Nat) (e : TypeId) (v : Value) (l : List UInt8) : Prop :=
  ∃ g cap cur fz, v = .slice (some ⟨g, 0, none⟩) l.length cap ∧ base ≤ g ∧ w.heap[g]? = some (.cells cur e fz) ∧ (fz.2 = 0 ∨ cur.size ≤ fz.1) ∧ l.length ≤ cap ∧ cap ≤ maxLen ∧ cur.size = cap ∧ cur.toList.take l.length = bcells l
section
variable {P : Program}
theorem OwnE.slice {w : World} {base : Nat} {e : TypeId} {v : Value} {l : List UInt8} (h : OwnE w base e v l) : ∃ g cap, v = .slice (some ⟨g, 0, none⟩) l.length cap := by
  obtain ⟨g, cap, _, _, hv, _⟩ := h
  exact ⟨g, cap, hv⟩
theorem OwnE.below {w w' : World} {base : Nat} {e : TypeId} {v : Value} {l : List UInt8} (h : OwnE w base e v l) (hB : Below w.heap.size w w') : OwnE w' base e v l := by
  obtain ⟨g, cap, cur, fz, h1, h2, h3, h4⟩ := h
  exact ⟨g, cap, cur, fz, h1, h2, (hB.block g (Array.getElem?_eq_some_iff.1 h3).1).trans h3, h4⟩
theorem OwnE.cell {w : World} {base g n cap : Nat} {e : TypeId} {l : List UInt8} (h : OwnE w base e (.slice (some ⟨g, 0, none⟩) n cap) l) (j : Nat) (hj : j < l.length) : w.cell? ⟨g, j, none⟩ = some (.int .u8 (l[j].toNat : Int)) := by
  obtain ⟨g', cap', cur, fz, h1, h2, h3, _, _, _, _, h5⟩ := h
  injection h1 with e1 _ _
  cases e1
  rw [cell_of_row w g j cur e fz h3]
  have : (cur.toList.take l.length)[j]? = some (.int .u8 (l[j].toNat : Int)) := by rw [h5]; simp [bcells, hj]
  rw [List.getElem?_take, if_pos hj] at this
  simpa using this
theorem OwnE.new (w : World) (e : TypeId) (l : List UInt8) (hl : l.length ≤ maxLen) : OwnE (Lib.bytesWorld w e (bs l)) w.heap.size e (.slice (some ⟨w.heap.size, 0, none⟩) l.length (grownCap w (bs l).size 0 e)) l := by
  have hge := grownCap_ge w (bs l).size 0 e
  have hle := grownCap_le_maxLen w (bs l).size 0 e (by rw [bs_size]; exact hl)
  have hsz : (Lib.bytesCells w e (bs l)).size = grownCap w (bs l).size 0 e := by
    simp only [Lib.bytesCells, Array.size_append, Array.size_map, Array.size_replicate]
    have : (bs l).data.size = (bs l).size := rfl
    omega
  refine ⟨w.heap.size, _, _, _, rfl, Nat.le_refl _, Lib.bytesWorld_at_new w e (bs l), .inr (Nat.le_refl _), by rw [bs_size] at hge; exact hge, hle, hsz, ?_⟩
  have h1 : (Lib.bytesCells w e (bs l)).toList = bcells l ++ List.replicate (grownCap w (bs l).size 0 e - (bs l).size) (.int .u8 0) := by
    simp only [Lib.bytesCells, Array.toList_append, Array.toList_map, bs_data, bcells, Array.toList_replicate]
  rw [h1, List.take_append_of_le_length (by rw [bcells_length]; exact Nat.le_refl _), List.take_of_length_le (by rw [bcells_length]; exact Nat.le_refl _)]
theorem below_bytes (w : World) (e : TypeId) (s : ByteArray) : Below w.heap.size w (Lib.bytesWorld w e s) :=
  ⟨rfl, rfl, rfl, by rw [Lib.bytesWorld_size]; omega, fun k hk => Lib.bytesWorld_at_old w e s k hk⟩
/-- append(s, x): one byte -/
theorem append1E {ops : Array Oper} {rest : List Oper} {o : Oper} {a : Act} {Q : Exit → Act → World → Prop} (wr : World) (c : UInt8) (e : TypeId) (hgd : o.guard = none) (s x : Operand) (t : TypeId)
    (ho : o.op = .call { callee := .builtin .append, args := #[s, x], argTypes := #[t, t] })
    (base : Nat) (ht : P.underlying t = some (.slice e)) (hinfo : (P.info? e).map (fun i => (i.zero, i.size, i.bytes)) = some (some (.int .u8 0), 1, 1))
    (v : Value) (l : List UInt8) (n : Nat) (hn : l.length = n) (u : Value) (hu : u = .int .u8 (c.toNat : Int)) (hown : OwnE wr base e v l) (hs : a.eval s = v)
    (cx : Nat) (hx : a.eval x = .slice (some ⟨wr.heap.size, 0, none⟩) 1 cx) (hbytes : n + 1 ≤ 140737488355328) (hbase : base ≤ wr.heap.size)
    (h : ∀ g cap w', OwnE w' base e (.slice (some ⟨g, 0, none⟩) (n + 1) cap) (l ++ [c]) → Below base wr w' → wpList P ops Q rest (a.put o.dst (.slice (some ⟨g, 0, none⟩) (n + 1) cap)) w') :
    wpList P ops Q (o :: rest) a (wr.alloc (.cells #[u] e)) := by
  subst hn hu
  obtain ⟨i, hi, hz, hi1, hi2⟩ := info_parts hinfo
  refine wpList_plain hgd fun K hK => ?_
  obtain ⟨w, hw⟩ : ∃ w, w = wr.alloc (.cells #[.int .u8 (c.toNat : Int)] e) := ⟨_, rfl⟩
  rw [← hw]
  have hown' : OwnE w base e v l := by rw [hw]; exact hown.below (b_alloc _ _)
  have hB1 : Below base wr w := by rw [hw]; exact (Below.refl base wr).alloc hbase _
  have hnew : ∀ j u, [Value.int .u8 (c.toNat : Int)][j]? = some u → w.cell? ((⟨wr.heap.size, 0, none⟩ : Addr).add j) = some u := by
    intro j u hj
    have hj0 : j < 1 := by
      rcases Nat.lt_or_ge j 1 with h | h
      · exact h
      · simp [List.getElem?_eq_none (show [Value.int .u8 (c.toNat : Int)].length ≤ j from h)] at hj
    rw [hw, Addr.add_lit, Nat.zero_add, World.cell?_alloc_new]
    simpa using hj
  obtain ⟨g, cap, cur, fz, hv, hbg, hg, hfz, hle, hcm, hcs, htk⟩ := id hown'
  have main : ∃ g' cap' w', (Builtin.append_ #[t, t] o.type #[v, .slice (some ⟨wr.heap.size, 0, none⟩) 1 cx]).run P w = .ok (.slice (some ⟨g', 0, none⟩) (l.length + 1) cap') w' ∧ OwnE w' base e (.slice (some ⟨g', 0, none⟩) (l.length + 1) cap') (l ++ [c]) ∧ Below base w w' := by
    subst hv
    by_cases hroom : l.length + 1 ≤ cap
    · have hlt : l.length < cur.size := by omega
      have hcell : w.cell? ⟨g, l.length, none⟩ = some cur[l.length] := by rw [cell_of_row w g _ cur e fz hg]; simp [hlt]
      have hfro : w.frozen? ⟨g, l.length, none⟩ = false := by
        obtain ⟨lo, hh⟩ := fz
        simp only at hfz
        simp only [World.frozen?, hg, Bool.and_eq_false_iff, decide_eq_false_iff_not]
        omega
      have hst : (storeCells ⟨g, l.length, none⟩ [Value.int .u8 (c.toNat : Int)] 0).run P w = .ok () (w.setCell ⟨g, l.length, none⟩ (.int .u8 (c.toNat : Int))) := by
        have hadd : (⟨g, l.length, none⟩ : Addr).add 0 = ⟨g, l.length, none⟩ := Addr.add_lit ..
        simp only [storeCells, Sem.run_bind, hadd]
        rw [run_store P w _ _ _ rfl, hcell]
        simp [hfro]
      have hf := run_firstCells_some (P := P) w i.size 1 ⟨wr.heap.size, 0, none⟩ 1 cx [.int .u8 (c.toNat : Int)] (by simp [hi1]) hnew
      refine ⟨g, cap, w.setCell ⟨g, l.length, none⟩ (.int .u8 (c.toNat : Int)), ?_, ?_, ?_⟩
      · rw [hi1] at hf
        simp [Builtin.append_, run_underlying ht, sizeOf, typeInfo, hi, hi1, Builtin.lenOf, hroom, hf, Addr.add_lit, hst]
      · refine ⟨g, cap, cur.setIfInBounds l.length (.int .u8 (c.toNat : Int)), fz, by simp, hbg, ?_, by simpa using hfz, by simpa using hroom, hcm, by simpa using hcs, ?_⟩
        · rw [setCell_eq_setRow w g _ cur e fz _ hg]
          exact setRow_heap w g cur _ e fz hg
        · rw [Array.toList_setIfInBounds, List.length_append, List.length_singleton, List.take_set, List.take_succ_eq_append_getElem (by simpa using hlt), htk]
          rw [List.set_append_right _ _ (by rw [bcells_length]; exact Nat.le_refl _), bcells_length, Nat.sub_self, ← bcells_snoc]
          rfl
      · exact (Below.refl base w).setCell (p := ⟨g, l.length, none⟩) hbg _
    · have holds : ∀ j u, (bcells l)[j]? = some u → w.cell? ((⟨g, 0, none⟩ : Addr).add j) = some u := by
        intro j u hj
        have hjl : j < l.length := by
          rcases Nat.lt_or_ge j l.length with h | h
          · exact h
          · simp [List.getElem?_eq_none (show (bcells l).length ≤ j by rw [bcells_length]; exact h)] at hj
        have := hown'.cell j hjl
        rw [Addr.add_lit, Nat.zero_add, this]
        simp [bcells, hjl] at hj
        rw [hj]
      have hr := run_append_grow (P := P) w t o.type e i (.int .u8 0) ht hi hz ⟨g, 0, none⟩ l.length cap (bcells l) (by rw [bcells_length, hi1, Nat.mul_one]) holds ⟨wr.heap.size, 0, none⟩ 1 cx [.int .u8 (c.toNat : Int)] (by simp [hi1]) hnew (by omega) (by omega)
        (growslice_fits (by omega) (by rw [hi2]; omega))
      have hge := grownCap_ge w (l.length + 1) cap e
      have hlm := grownCap_le_maxLen w (l.length + 1) cap e (by unfold maxLen; omega)
      refine ⟨_, _, _, hr, ?_, (Below.refl base w).drew.alloc (by simp; have := hB1.size; omega) _⟩
      refine ⟨w.heap.size, _, _, _, by simp, by have := hB1.size; omega, World.alloc_heap_new w.drew _, .inl rfl, by simpa using hge, hlm, ?_, ?_⟩
      · simp only [Array.size_append, List.size_toArray, bcells_length, List.length_singleton, size_zeroCells]
        simp [Value.cells]
        omega
      · have e1 : (bcells l ++ [Value.int .u8 (c.toNat : Int)]).length = (l ++ [c]).length := by simp [bcells_length]
        simp only [Array.toList_append, List.append_assoc]
        rw [← List.append_assoc, ← e1, List.take_left, bcells_snoc]
  obtain ⟨g', cap', w', hr, h2, h3⟩ := main
  unfold Oper.wp execOp
  simp only [ho, resolve, invoke, builtin, Sem.run_bind, Sem.run_pure, Result.andThen_ok, List.map_toArray, List.map_cons, List.map_nil, hs, hx, hr]
  exact hK _ _ (h g' cap' w' h2 (hB1.trans h3))
/-- string(b) -/
theorem conv_ownE (src dst e : TypeId) (hs : P.underlying src = some (.slice e)) (he : P.underlying e = some (.int .u8)) (hd : P.underlying dst = some .string) (w : World) (base : Nat) (v : Value) (l : List UInt8)
    (h : OwnE w base e v l) : (convert src dst v).run P w = .ok (.string (bs l)) w := by
  obtain ⟨g, cap, rfl⟩ := h.slice
  exact run_convert_bytes_back w src dst e ⟨g, 0, none⟩ cap l hs he hd (fun j hj => by rw [Addr.add_lit, Nat.zero_add]; exact h.cell j hj)
end
end Go.Proofs.Ytahmacnmphjhgaa
namespace Go.Proofs.Ytahmacnmphjhgaa
open Go.RowKit Oct
attribute [local go_sem] Oper.semAt_some

set_option maxRecDepth 100000 in
set_option maxHeartbeats 1000000 in
theorem MSum_nil (w : World) : Calls Try.prog 85 #[.pointer none] w fun e w' => e = .returned (.string (bs [])) ∧ Below w.heap.size w w' := by
  go_enter Try.func85, Try.ntmps85
  go_wp2
  go_ret
  exact ⟨rfl, b_refl _⟩

theorem hcells_one (h : List UInt32) (r : List UInt8) (n : Int) : (hcells h r n).toArray.all (·.oneCell') = true := by
  rw [List.all_toArray, List.all_eq_true]; intro v hv
  simp only [hcells, ucells, List.mem_append, List.mem_map, List.mem_cons, List.not_mem_nil, or_false] at hv
  rcases hv with ⟨x, _, rfl⟩ | rfl | rfl <;> rfl
theorem blk_storeK {P : Program} {ops : Array Oper} {rest : List Oper} {op : Oper} {a : Act} {w : World} {Q : Exit → Act → World → Prop} (b : Nat) (cs cs' : List Value) {t : TypeId} (h : Blk w b t cs) (hgd : op.guard = none) (ty : TypeId) (x y : Operand) (ho : op.op = .store ty x y) (hx : a.eval x = .pointer (some ⟨b, 0, none⟩))
    (hy : a.eval y = .agg cs'.toArray) (hi : (P.info? ty).map (·.size) = some cs'.length) (hl : cs.length = cs'.length) (h1 : cs'.toArray.all (·.oneCell') = true)
    (k : ∀ w', Hid (w.setRow b cs'.toArray = w') → wpList P ops Q rest (a.put op.dst undef) w') : wpList P ops Q (op :: rest) a w :=
  blk_store b cs cs' h hgd ty x y ho hx hy hi hl h1 (k _ rfl)
theorem msum_w1 {p : Nat} {h : List UInt32} {r : List UInt8} {n : Int} {w w1 : World} (hl : h.length = 8) (hp : Blk w p 138 (hcells h r n)) (hw : (w.alloc (.cells #[.int .u32 0, .int .u32 0, .int .u32 0, .int .u32 0, .int .u32 0, .int .u32 0, .int .u32 0, .int .u32 0, .string ⟨#[]⟩, .int .u64 0] 138)).setRow w.heap.size (hcells h r n).toArray = w1) :
    Below w.heap.size w w1 ∧ w1.heap.size = w.heap.size + 1 ∧ Blk w1 w.heap.size 138 (hcells h r n) ∧ w1.cell? ⟨p, 9, none⟩ = some (.int .u64 n) ∧ w1.cell? ⟨w.heap.size, 8, none⟩ = some (.string (bs r)) := by
  have hz : Blk (w.alloc (.cells #[.int .u32 0, .int .u32 0, .int .u32 0, .int .u32 0, .int .u32 0, .int .u32 0, .int .u32 0, .int .u32 0, .string ⟨#[]⟩, .int .u64 0] 138)) w.heap.size 138 (hcells (zrow 8) [] 0) := Blk.new w (hcells (zrow 8) [] 0) _
  have hB : Below w.heap.size w w1 := by rw [← hw]; exact below_setRow (b_alloc w _) (Nat.le_refl _) _
  have hb : Blk w1 w.heap.size 138 (hcells h r n) := by rw [← hw]; exact hz.row _
  exact ⟨hB, by rw [← hw, setRow_size]; simp, hb, (hp.below hB).cell (hcells_n h r n hl), hb.cell (hcells_rest h r n hl)⟩
theorem conv_E (w : World) (s : ByteArray) (l : List UInt8) (hs : s = bs l) (hl : l.length ≤ maxLen) : ∃ g cap w', (convert 9 94 (.string s)).run Try.prog w = .ok (.slice (some ⟨g, 0, none⟩) l.length cap) w' ∧ OwnE w' w.heap.size 5 (.slice (some ⟨g, 0, none⟩) l.length cap) l ∧ Below w.heap.size w w' := by
  subst hs
  have := Lib.run_convert_string_bytes (P := Try.prog) w 9 94 5 (bs l) Try.underlying9 Try.underlying94 Try.underlying5
  rw [bs_size] at this
  exact ⟨_, _, _, this, by have h := OwnE.new w 5 l hl; rw [bs_size] at h; exact h, below_bytes _ _ _⟩
def vlen : Value → Nat
  | .slice _ n _ => n
  | _ => 0
theorem zc_le (n : Nat) : zc n ≤ 63 := by unfold zc; omega
theorem zc_mod (n k : Nat) (h : k < zc n) : (n + 1 + k) % 64 ≠ 56 := by unfold zc at h; omega
theorem zc_end (n : Nat) : (n + 1 + zc n) % 64 = 56 := by unfold zc; omega
/-- the text with its mark and k zero bytes -/
def zpad (r : List UInt8) (k : Nat) : List UInt8 := r ++ [0x80] ++ List.replicate k 0
theorem zpad_length (r : List UInt8) (k : Nat) : (zpad r k).length = r.length + 1 + k := by simp [zpad]; omega
theorem zpad_succ (r : List UInt8) (k : Nat) : zpad r k ++ [0] = zpad r (k + 1) := by simp [zpad, List.replicate_succ']
theorem zpad_one (r : List UInt8) : bs r ++ ⟨#[128]⟩ = bs (zpad r 0) := by
  have e : (⟨#[128]⟩ : ByteArray) = bs [128] := rfl
  rw [e, bs_append]; simp [zpad]
theorem be8_step (n j : Nat) (hj : j < 8) : (be8 n).take (j + 1) = (be8 n).take j ++ [(be8 n).getD j 0] := by
  have hl : (be8 n).length = 8 := rfl
  rw [List.take_succ_eq_append_getElem (by omega), List.getD_eq_getElem?_getD, List.getElem?_eq_getElem (by omega), Option.getD_some]
def be8_num (n : Nat) : Nat → Nat
  | 0 => n / 72057594037927936 % 256
  | 1 => n / 281474976710656 % 256
  | 2 => n / 1099511627776 % 256
  | 3 => n / 4294967296 % 256
  | 4 => n / 16777216 % 256
  | 5 => n / 65536 % 256
  | 6 => n / 256 % 256
  | _ => n % 256
theorem be8_val (n j : Nat) (z : Int) (hj : j < 8) (hz : z = (be8_num (8 * n) j : Nat)) : Value.int .u8 z = .int .u8 (((be8 (8 * n)).getD j 0).toNat : Int) := by
  rw [hz]
  match j, hj with
  | 0, _ | 1, _ | 2, _ | 3, _ | 4, _ | 5, _ | 6, _ | 7, _ => exact v_int (congrArg Int.ofNat (UInt8.toNat_ofNat' ..).symm)
theorem bld_lt {B b : Nat} {l : List UInt8} {w : World} (h : Bld B b l w) : b < w.heap.size := h.2.elim (fun h => h.lt) (fun h => h.lt)
theorem outB_all (V : List UInt32) (h : V.length = 8) : outB (V.take 8) = outB V := by rw [List.take_of_length_le (by omega)]
theorem wb_blk (w : World) (x : UInt32) : Blk (w.alloc (.cells #[.int .u8 (U x / 16777216), .int .u8 (U x / 65536 % 256), .int .u8 (U x / 256 % 256), .int .u8 (U x % 256)] 5)) w.heap.size 5 (bcells (wb x)) := by
  have e : (#[.int .u8 (U x / 16777216), .int .u8 (U x / 65536 % 256), .int .u8 (U x / 256 % 256), .int .u8 (U x % 256)] : Array Value) = (bcells (wb x)).toArray := by
    have := U_lt x
    simp only [bcells, wb, List.map_cons, List.map_nil, U_nat]
    congr 1
    refine congr (congrArg _ (v_int ?_)) (congr (congrArg _ (v_int ?_)) (congr (congrArg _ (v_int ?_)) (congrArg (fun v => [v]) (v_int ?_))))
    all_goals
      rw [UInt8.toNat_ofNat']
      omega
  rw [e]
  exact Blk.new w _ _
theorem reads_blk {w : World} {g : Nat} {e : TypeId} {m : List UInt8} (h : Blk w g e (bcells m)) (c : Nat) : Reads w (.slice (some ⟨g, 0, none⟩) m.length c) m.length (bcells m) :=
  ⟨_, _, rfl, (by simp), fun j u hj => ⟨g, 0, rfl, by rw [Nat.zero_add]; exact h.cell hj⟩⟩
set_option maxRecDepth 100000 in
set_option maxHeartbeats 2000000 in
theorem MSum_any (p : Nat) (h : List UInt32) (hl : h.length = 8) (r : List UInt8) (n : Nat) (w : World) (hp : Blk w p 138 (hcells h r n)) (hn : n ≤ 140737488355328) (hr : r.length ≤ 64) :
    Calls Try.prog 85 #[.pointer (some ⟨p, 0, none⟩)] w fun e w' => e = .returned (.string (bs (outB (absorb h (padTail r n))))) ∧ Below w.heap.size w w' := by
  have c9 := hp.cell (hcells_n h r n hl)
  have hlt := hp.lt
  have HP := Lib.hid hp
  have HL := Lib.hid hl
  have HI := Lib.hid (show (Try.prog.info? 138).map (·.size) = some (hcells h r n).length by rw [hcells_length _ _ _ hl]; kernel_rfl)
  clear hp hl
  refine calls_of_wp_marks Try.func85 rfl ?_
  simp only [Try.ntmps85, List.size_toArray, List.length_cons, List.length_nil, Nat.reduceAdd, Nat.reduceSub, Array.replicate_succ, Array.replicate_zero, List.push_toArray, List.append_toArray, List.nil_append, List.cons_append]
  have hz : Blk (w.alloc (.cells #[.int .u32 0, .int .u32 0, .int .u32 0, .int .u32 0, .int .u32 0, .int .u32 0, .int .u32 0, .int .u32 0, .string ⟨#[]⟩, .int .u64 0] 138)) w.heap.size 138 (hcells (zrow 8) [] 0) := Blk.new w (hcells (zrow 8) [] 0) _
  have HZ := Lib.hid hz
  clear hz
  have HLL := Lib.hid (show (hcells (zrow 8) [] 0).length = (hcells h r n).length by rw [hcells_length _ _ _ HL.out]; rfl)
  go_wp2_with first | (refine blk_load p (hcells h r n) HP.out _ rfl _ _ rfl rfl Try.underlying138 rfl HI.out ?_) | (refine blk_storeK w.heap.size (hcells (zrow 8) [] 0) (hcells h r n) HZ.out rfl _ _ _ rfl rfl rfl HI.out HLL.out (hcells_one _ _ _) ?_)
  intro w1 hw1
  obtain ⟨hB1, hs1, hb1, c19, c18⟩ := msum_w1 HL.out HP.out hw1.out
  have HB1 := Lib.hid hB1
  have HC1 := Lib.hid hb1
  have HS1 := Lib.hid hs1
  have hs1' : w.heap.size < w1.heap.size := by omega
  clear hs1
  clear hw1 hB1 hb1 HZ HLL c9
  go_wp2
  obtain ⟨g2, cap2, w2, hcv, hO2, hB2⟩ := conv_E w1 _ _ (zpad_one r) (by rw [zpad_length]; unfold maxLen; omega)
  rw [zpad_length] at hcv hO2
  have HO2 := Lib.hid hO2
  have HB2 := Lib.hid hB2
  have hs2 := hB2.size
  rw [hcv]
  clear hcv hO2 hB2 c18 c19
  go_wp2
  go_loopw [5] (fun v wx => ∃ (k g cap : Nat), k ≤ zc r.length ∧ v = .slice (some ⟨g, 0, none⟩) (r.length + 1 + k) cap ∧ Hid (OwnE wx w1.heap.size 5 (.slice (some ⟨g, 0, none⟩) (r.length + 1 + k) cap) (zpad r k)) ∧ Hid (Below w1.heap.size w1 wx)) (fun v _ => 200 - vlen v)
  case atStart => exact ⟨0, g2, cap2, Nat.zero_le _, rfl, HO2, HB2⟩
  case round =>
    obtain ⟨k, g, cap, hk, rfl, HO, HB⟩ := hrel
    have hz := zc_le r.length
    have hsz := HB.out.size
    by_cases hkz : k < zc r.length
    · have m1 : ((r.length : Int) + 1 + (k : Int)) % 64 ≠ 56 := by have := zc_mod r.length k hkz; omega
      have m2 : (((r.length : Int) + 1 + (k : Int)) % 64 != 56) = true := by simpa using m1
      have HZ := Lib.hid hz
      have HK := Lib.hid hkz
      clear hz hkz hk
      go_wp2_with (at_builtin; go_loud (refine append1E wr 0 5 rfl _ _ 94 rfl w1.heap.size Try.underlying94 infoU8 (.slice (some ⟨g, 0, none⟩) (r.length + 1 + k) cap) (zpad r k) _ (zpad_length r k) _ (by rfl) HO.out rfl _ rfl (by have := HZ.out; have := HK.out; omega) (by omega) ?_))
      intro g3 cap3 w3 hO3 hB3
      rw [zpad_succ] at hO3
      go_wp2
      go_roundw
      case rel => exact ⟨k + 1, g3, cap3, HK.out, rfl, hO3, HB.out.trans hB3⟩
      case measure => simp [vlen]; have := HZ.out; have := HK.out; omega
    · obtain rfl : k = zc r.length := by omega
      have m1 : (r.length + 1 + zc r.length : Int) % 64 = 56 := by have := zc_end r.length; omega
      have HZ := Lib.hid hz
      obtain ⟨M, hM⟩ : ∃ M, M = r.length + 1 + zc r.length := ⟨_, rfl⟩
      have hMi : (M : Int) % 64 = 56 := by rw [hM]; push_cast; exact m1
      rw [← hM] at HO ⊢
      have HM := Lib.hid hM
      have HZP := Lib.hid (show (zpad r (zc r.length)).length = M by rw [zpad_length, hM])
      have hM2 : M ≤ 200 := by omega
      obtain ⟨Z, hZ⟩ : ∃ Z, Z = zpad r (zc r.length) := ⟨_, rfl⟩
      rw [← hZ] at HO HZP
      have HZD := Lib.hid hZ
      clear hk hkz m1 hM hz hZ HB2 HO2 hMi
      have hMi : (M : Int) % 64 = 56 := by have := HM.out; have := zc_end r.length; omega
      go_wp2
      clear hMi
      go_loopw [5, 6] (fun v i wx => ∃ (j g cap : Nat), j ≤ 8 ∧ i = .int .i64 (56 - 8 * (j : Int)) ∧ v = .slice (some ⟨g, 0, none⟩) (M + j) cap ∧ Hid (OwnE wx w1.heap.size 5 (.slice (some ⟨g, 0, none⟩) (M + j) cap) (Z ++ (be8 (8 * n)).take j)) ∧ Hid (Below w1.heap.size w1 wx)) (fun v _ _ => 300 - vlen v)
      case atStart => exact ⟨0, g, cap, by omega, rfl, rfl, by simpa using HO, HB⟩
      case round =>
        clear HO HB
        obtain ⟨j, g, cap, hj, rfl, rfl, HO, HB⟩ := hrel
        have hsz := HB.out.size
        have HL2 := Lib.hid (show (Z ++ (be8 (8 * n)).take j).length = M + j by rw [List.length_append, HZP.out, List.length_take]; simp [be8]; omega)
        by_cases hj8 : j < 8
        · have HBE := Lib.hid (be8_step (8 * n) j hj8)
          have HJ := Lib.hid hj8
          clear hj8 hj
          have hj := HJ.out
          obtain ⟨jn, hjn⟩ : ∃ jn, jn = j + 1 := ⟨_, rfl⟩
          have HJN := Lib.hid hjn
          clear hjn
          rcases (by omega : j = 0 ∨ j = 1 ∨ j = 2 ∨ j = 3 ∨ j = 4 ∨ j = 5 ∨ j = 6 ∨ j = 7) with rfl | rfl | rfl | rfl | rfl | rfl | rfl | rfl
          all_goals
            clear hj
            go_wp2_with (at_builtin; go_must (refine append1E wr _ 5 rfl _ _ 94 rfl w1.heap.size Try.underlying94 infoU8 _ _ _ HL2.out _ (be8_val n _ _ HJ.out (by simp only [be8_num]; omega)) HO.out rfl _ rfl (by omega) hsz ?_))
            intro g3 cap3 w3 hO3 hB3
            have HO3 := Lib.hid hO3
            clear hO3
            go_wp2
            have hjn := HJN.out
            refine ⟨⟨jn, g3, cap3, by omega, ?_, ?_, ?_, HB.out.trans hB3⟩, by simp [vlen]; omega⟩
            all_goals (subst hjn; first | rfl | exact HO3)
        · obtain rfl : j = 8 := by omega
          have hpt : Z ++ (be8 (8 * n)).take 8 = padTail r n := by rw [HZD.out]; rfl
          rw [hpt] at HO
          have hcv := conv_ownE 94 9 5 Try.underlying94 Try.underlying5 Try.underlying9 wr _ _ _ HO.out
          have HPM := Lib.hid (padTail_mod r n)
          have HPL := Lib.hid (show (padTail r n).length ≤ 300 by rw [← hpt]; have := HL2.out; omega)
          obtain ⟨T, hT⟩ : ∃ T, T = padTail r n := ⟨_, rfl⟩
          rw [← hT] at hcv HPM HPL
          have HT := Lib.hid hT
          have HC2 := Lib.hid (HC1.out.below HB.out)
          have HBB := Lib.hid (HB1.out.trans (HB.out.mono (by omega)))
          have c8 := HC2.out.cell (hcells_rest h r n HL.out)
          have f8 := HC2.out.free (k := 8) (by rw [hcells_length _ _ _ HL.out]; omega)
          clear hT hpt HO HL2 hj hj8 HB
          go_wp2_with fail
          obtain ⟨C, hC⟩ : ∃ C, C = w.heap.size := ⟨_, rfl⟩
          rw [← hC] at HC2 c8 f8 ⊢
          obtain ⟨w4, hw4⟩ : ∃ w4, w4 = wr.setCell ⟨C, 8, none⟩ (.string (bs T)) := ⟨_, rfl⟩
          rw [← hw4]
          have hB4 : Below w.heap.size w w4 := by rw [hw4]; exact HBB.out.setCell (p := ⟨C, 8, none⟩) (by show w.heap.size ≤ C; omega) _
          have hp4 : Blk w4 C 138 (hcells h T n) := by
            rw [hw4]
            have := HC2.out.set 8 (.string (bs T))
            rw [hcells_set8 _ _ _ _ HL.out] at this
            exact this
          have HP4 := Lib.hid hp4
          have HB4 := Lib.hid hB4
          have hlt4 := hp4.lt
          have HCE := Lib.hid hC
          clear hw4 hB4 hp4 hcv c8 f8 HC2 HBB hC
          refine (blocks_any C w4).mono ?_
          rintro e w5 ⟨b, rfl, hbs, hb5, hB5⟩
          have HP5 := Lib.hid (HP4.out.below hB5)
          have HB5 := Lib.hid (HB4.out.trans (hB5.mono HB4.out.size))
          have hs5 := hB5.size
          have hlt5 := hb5.lt
          have HX5 := Lib.hid hb5
          have hbp : b ≠ C := by omega
          obtain ⟨N, hN⟩ : ∃ N : Int, N = (n : Int) := ⟨_, rfl⟩
          rw [← hN] at HP5
          have HN := Lib.hid hN
          clear hb5 hB5 hN HP4
          go_wp2_with fail
          refine wp_rangeG (D := w5.heap.size) rfl (gf := 95) (lb := #[.pointer (some ⟨b, 0, none⟩)]) rfl (enters_of Try.func95 (by kernel_rfl) rfl)
            (Xr := XrP C) (Yr := YrP C b) (Fin := fun U => ∃ h', h'.length = 8 ∧ Blk U C 138 (hcells h' (tailB T) N)) (El := ElS) (out := chunks T) (XrP.keep (by omega)) (YrP.comp (by omega) (by omega)) (fun U U' h hc => fin_d (by omega) _ _ U U' h hc)
            (fun W hW => blocks_iter 2 C b h HL.out T N W (HX5.out.below hW) (HP5.out.below hW) hbp (by have := HPL.out; omega))
            (fun x vs U h => by rw [h.1]; rfl) (fun x vs U U' h _ => h)
            (WrI C C b (.pointer (some ⟨C, 0, none⟩)) 128 h N w) (fun _ _ _ => False) (fun pre U U' h hx => h.x HL.out (by omega) hx) (fun pre U U' h hx => h.d (by omega) (by omega) (by omega) hx) (fun _ _ _ _ h _ => h.elim) (fun _ _ _ _ h _ => h.elim)
            ⟨⟨_, HP5.out⟩, HX5.out, Chg.of_base HB5.out fun k hk => .inr (by have := HCE.out; omega)⟩ ?round ?done ?stop
          case round =>
            rintro l pre x vs U _ ⟨rfl, hx64⟩ hpre
            gi_wp2
            refine ⟨Below.refl _ _, ?_⟩
            rintro U2 h2 ⟨⟨rest, hB⟩, hbx, hcw⟩ _ hcU
            have HBx := Lib.hid hbx
            have HBp := Lib.hid hB
            have HCw := Lib.hid hcw
            clear hbx hB hcw hcU hpre
            gi_wp2
            refine ⟨trivial, CallsIn.inRound _ (callsIn_wide.2 ((block_any C _ (foldl_length h pre HL.out) rest N x (by omega) U2 HBp.out).mono ?_))⟩
            rintro e U3 ⟨rfl, hB3, hC3⟩
            gi_wp2
            refine ⟨KeepD.of_chg hC3 fun k hk e => by subst e; omega, YrP.of_block hbp (foldl_length h pre HL.out) (blockF_length _ _ (foldl_length h pre HL.out)) HBp.out hB3 hC3, WrI.step (by omega) HBx.out HCw.out hB3 hC3⟩
          case done =>
            rintro W h2 hI hF hK
            have hE := hI.fin HL.out hF
            have hC := Lib.hid hI.2.2
            have hV := absorb_length h T HL.out
            have hltC := hE.lt
            obtain ⟨V, hVV⟩ : ∃ V, V = absorb h T := ⟨_, rfl⟩
            rw [← hVV] at hE hV
            have HV := Lib.hid hVV
            have HVL := Lib.hid hV
            have HE := Lib.hid hE
            have HR := Lib.hid (show World.rangeAt W C 0 (ucells V) from fun j v hv => by rw [Nat.zero_add]; exact hE.cell (by rw [hcells, List.getElem?_append_left (by exact (List.getElem?_eq_some_iff.1 hv).1)]; exact hv))
            have HIV := Lib.hid (show (Try.prog.info? 136).map (·.size) = some (ucells V).length by rw [ucells_length, hV]; kernel_rfl)
            clear hI hF hE hV hVV
            go_wp2_with (refine wpList_load_mid rfl 136 _ rfl C 0 rfl (ucells V) (.array 8 131) (World.rangeAt_alloc HR.out _) (by kernel_rfl) rfl HIV.out ?_)
            obtain ⟨W1, hW1⟩ : ∃ W1, W1 = W.alloc (.cells #[.pointer none, .slice none 0 0] 122) := ⟨_, rfl⟩
            have hBld : Bld W.heap.size W.heap.size [] W1 := by rw [hW1]; exact Bld.fresh W
            have hBW : Below W.heap.size W W1 := by rw [hW1]; exact b_alloc _ _
            rw [← hW1]
            have HBld := Lib.hid hBld
            have HBW := Lib.hid hBW
            clear hW1 hBld hBW HR HE
            go_loopw [52] (fun t ux => ∃ k : Nat, k ≤ 8 ∧ t = .int .i64 k ∧ Hid (Bld W.heap.size W.heap.size (outB (V.take k)) ux) ∧ Hid (Below W.heap.size W ux)) (fun t _ => 8 - (intOf t).toNat)
            case atStart => exact ⟨0, by omega, rfl, HBld, HBW⟩
            case round =>
              clear HBld HBW
              obtain ⟨k, hk, rfl, HBl, HBx⟩ := hrel
              by_cases hk8 : k < 8
              · have k1 : (k : Int) < 8 := by omega
                have k0 : (0 : Int) ≤ (k : Int) := by omega
                have hix := index8 V HVL.out k hk8
                have HOT := Lib.hid (outB_take V k (by rw [HVL.out]; exact hk8))
                have HLen := Lib.hid (show (outB (V.take k)).length ≤ 40 by rw [outB_length, List.length_take]; omega)
                generalize V.getD k 0 = x at *
                have hx1 : U x < 4294967296 := by have := U_lt x; rw [U_nat]; omega
                have hx0 : 0 ≤ U x := by rw [U_nat]; omega
                go_wp2_with fail
                have hm := wb_blk wr x
                have hsz4 := HBx.out.size
                refine (Write_kept W.heap.size W.heap.size (outB (V.take k)) (wb x) (.slice (some ⟨wr.heap.size, 0, none⟩) 4 4) _ (HBl.out.below (b_alloc _ _)) (reads_blk hm 4) (fun w1 hc => reads_blk (hm.chg hc (by have := bld_lt HBl.out; omega)) 4) (by have := HLen.out; show _ + 4 ≤ _; omega)).mono ?_
                rintro e w7 ⟨rfl, hBl7, hB7, _⟩
                rw [← HOT.out] at hBl7
                have HB7 := Lib.hid hBl7
                have HBx7 := Lib.hid (HBx.out.trans ((b_alloc wr _).mono hsz4 |>.trans hB7))
                clear hm hB7 hBl7
                go_wp2_with fail
                exact ⟨⟨k + 1, by omega, by go_num, HB7.out, HBx7.out⟩, by simp [intOf]; omega⟩
              · obtain rfl : k = 8 := by omega
                have hout := outB_all V HVL.out
                have HO8 := Lib.hid hout
                clear hout
                go_wp2_with fail
                refine (BString_any W.heap.size W.heap.size _ wr HBl.out).mono ?_
                rintro e w7 ⟨rfl, hB7⟩
                have HB7 := Lib.hid (HBx.out.trans hB7)
                clear hB7
                go_wp2_with fail
                have hD : w7.heap[w5.heap.size]? = some (.deferred (some [])) := (HB7.out.block w5.heap.size (by omega)).trans hK
                refine marks_ret (D := w5.heap.size) rfl hD (results_tmp rfl _ _ _) ⟨?_, ?_⟩
                · show Ending.returned (.string (bs (outB (V.take 8)))) = _
                  rw [HO8.out, HV.out, HT.out]
                · have h1 := hC.out.trans ((Chg.of_base HB7.out (X := fun k => k = C ∨ C ≤ k) fun k hk => .inr (by omega)).trans (Chg.putObj (X := fun k => k = C ∨ C ≤ k) w7 w5.heap.size (.deferred none) (.inr (by omega))))
                  exact ⟨h1.os, h1.tape, h1.output, h1.size, fun k hk => h1.block k hk (by have := HCE.out; omega)⟩
          case stop => exact fun _ _ _ _ _ h _ => h.elim
end Go.Proofs.Ytahmacnmphjhgaa
namespace Go.Proofs.Ytahmacnmphjhgaa
open Go.RowKit Oct

def hexAll : List UInt8 := [48, 49, 50, 51, 52, 53, 54, 55, 56, 57, 97, 98, 99, 100, 101, 102]
def hexd (n : Nat) : UInt8 := hexAll.getD n 0
def hexF (l : List UInt8) : List UInt8 := l.flatMap fun c => [hexd (c.toNat / 16), hexd (c.toNat % 16)]
theorem hexF_length (l : List UInt8) : (hexF l).length = 2 * l.length := by
  induction l with
  | nil => rfl
  | cons c l ih => simp only [hexF, List.flatMap_cons, List.length_append, List.length_cons, List.length_nil] at ih ⊢; omega
theorem hexF_snoc (l : List UInt8) (k : Nat) (h : k < l.length) : hexF (l.take (k + 1)) = hexF (l.take k) ++ [hexd (l[k].toNat / 16), hexd (l[k].toNat % 16)] := by
  rw [List.take_succ_eq_append_getElem h, hexF, List.flatMap_append]; simp [hexF]
set_option maxRecDepth 100000 in
theorem index16 (n : Nat) (h : n < 16) (w : World) :
    (Instr.index 9 (.string ⟨#[48, 49, 50, 51, 52, 53, 54, 55, 56, 57, 97, 98, 99, 100, 101, 102]⟩) (.int .u8 (n : Int))).run Try.prog w = .ok (.int .u8 ((hexd n).toNat : Int)) w := by
  rcases (by omega : n = 0 ∨ n = 1 ∨ n = 2 ∨ n = 3 ∨ n = 4 ∨ n = 5 ∨ n = 6 ∨ n = 7 ∨ n = 8 ∨ n = 9 ∨ n = 10 ∨ n = 11 ∨ n = 12 ∨ n = 13 ∨ n = 14 ∨ n = 15) with rfl | rfl | rfl | rfl | rfl | rfl | rfl | rfl | rfl | rfl | rfl | rfl | rfl | rfl | rfl | rfl
  all_goals clear h
  all_goals kernel_rfl

theorem grow_index {P : Program} {o : Oper} {a : Act} {w : World} {v : Value} {G : Value → World → Prop} (t : TypeId) (x y : Operand) (ho : o.op = .index t x y)
    (h : (Instr.index t (a.eval x) (a.eval y)).run P w = .ok v w) (hG : G v w) : growAt P o a w G := by
  unfold growAt execOp
  simp only [ho, Sem.run_bind, h, Result.andThen_ok, Sem.run_pure]
  exact hG

end Go.Proofs.Ytahmacnmphjhgaa
namespace Go.Proofs.Ytahmacnmphjhgaa
open Go.RowKit Oct

def unhGo (acc : List UInt8) : List UInt8 → Option (List UInt8)
  | [] => some acc
  | [_] => none
  | a :: b :: r => match dig a, dig b with
    | some x, some y => unhGo (acc ++ [UInt8.ofNat (16 * x + y)]) r
    | _, _ => none
def unhF (l : List UInt8) : Option (List UInt8) := if l.length % 2 ≠ 0 then none else unhGo [] l
def uV (l : List UInt8) : Value := match unhF l with
  | some o => .tuple #[.string (bs o), .int .i64 0]
  | none => .tuple #[.string (bs []), .int .i64 7]
theorem uV_some {l o : List UInt8} (h : unhF l = some o) : uV l = .tuple #[.string (bs o), .int .i64 0] := by rw [uV, h]
theorem uV_none {l : List UInt8} (h : unhF l = none) : uV l = .tuple #[.string (bs []), .int .i64 7] := by rw [uV, h]
theorem unhGo_at (acc l : List UInt8) (k : Nat) (h : k + 1 < l.length) : unhGo acc (l.drop k) = match dig l[k], dig l[k + 1] with
    | some x, some y => unhGo (acc ++ [UInt8.ofNat (16 * x + y)]) (l.drop (k + 2))
    | _, _ => none := by
  rw [List.drop_eq_getElem_cons (show k < l.length by omega), List.drop_eq_getElem_cons h]; rfl

end Go.Proofs.Ytahmacnmphjhgaa
namespace Go.Proofs.Ytahmacnmphjhgaa
open Go.RowKit Oct

theorem dig_hexd : ∀ n, n < 16 → dig (hexd n) = some n := by decide
theorem hexd_dig (c : UInt8) (n : Nat) (h : dig c = some n) : hexd n = c := by
  have k1 : ∀ n, n < 10 → hexd n = UInt8.ofNat (48 + n) := by decide
  have k2 : ∀ n, n < 16 → 10 ≤ n → hexd n = UInt8.ofNat (87 + n) := by decide
  unfold dig at h
  split at h
  · cases h
    rw [k1 _ (by omega), show 48 + (c.toNat - 48) = c.toNat by omega, UInt8.ofNat_toNat]
  · split at h
    · cases h
      rw [k2 _ (by omega) (by omega), show 87 + (c.toNat - 87) = c.toNat by omega, UInt8.ofNat_toNat]
    · cases h
theorem unhGo_hex (l : List UInt8) : ∀ acc, unhGo acc (hexF l) = some (acc ++ l) := by
  induction l with
  | nil => intro acc; simp [hexF, unhGo]
  | cons c l ih =>
    intro acc
    have hc := c.toNat_lt
    have e : hexF (c :: l) = hexd (c.toNat / 16) :: hexd (c.toNat % 16) :: hexF l := rfl
    rw [e, unhGo, dig_hexd _ (by omega), dig_hexd _ (by omega)]
    simp only []
    rw [ih, show 16 * (c.toNat / 16) + c.toNat % 16 = c.toNat by omega, UInt8.ofNat_toNat, List.append_assoc]
    rfl
theorem unhF_hex (l : List UInt8) : unhF (hexF l) = some l := by
  rw [unhF, if_neg (by rw [hexF_length]; omega), unhGo_hex]; rfl
theorem hexF_append (a b : List UInt8) : hexF (a ++ b) = hexF a ++ hexF b := by simp [hexF]
theorem hex_unhGo : ∀ (n : Nat) (t acc y : List UInt8), t.length ≤ n → unhGo acc t = some y → hexF y = hexF acc ++ t
  | _, [], acc, y, _, h => by simp only [unhGo, Option.some.injEq] at h; subst h; simp
  | _, [a], acc, y, _, h => by simp [unhGo] at h
  | 0, a :: b :: t, acc, y, hn, h => by simp at hn
  | n + 1, a :: b :: t, acc, y, hn, h => by
    rw [unhGo] at h
    cases ha : dig a with
    | none => rw [ha] at h; simp at h
    | some p =>
      cases hb : dig b with
      | none => rw [ha, hb] at h; simp at h
      | some q =>
        rw [ha, hb] at h
        have hp := dig_lt a p ha
        have hq := dig_lt b q hb
        have := hex_unhGo n t _ y (by simp at hn; omega) h
        have e : hexF [UInt8.ofNat (16 * p + q)] = [a, b] := by
          have e1 : (UInt8.ofNat (16 * p + q)).toNat = 16 * p + q := UInt8.toNat_ofNat_of_lt' (by show 16 * p + q < 256; omega)
          simp only [hexF, List.flatMap_cons, List.flatMap_nil, List.append_nil, e1]
          rw [show (16 * p + q) / 16 = p by omega, show (16 * p + q) % 16 = q by omega, hexd_dig a p ha, hexd_dig b q hb]
        rw [this, hexF_append, e, List.append_assoc]; rfl
theorem hex_unhF (t y : List UInt8) (h : unhF t = some y) : hexF y = t := by
  unfold unhF at h
  split at h
  · cases h
  · have := hex_unhGo t.length t [] y (Nat.le_refl _) h
    simpa [hexF] using this
end Go.Proofs.Ytahmacnmphjhgaa
namespace Go.Proofs.Ytahmacnmphjhgaa
open Go.RowKit Oct

theorem or16F : ∀ x y : Fin 16, bits .or .u8 ((x.val : Int) * 16) (y.val : Int) = ((UInt8.ofNat (16 * x.val + y.val)).toNat : Int) := by decide +kernel
theorem or16 (x y : Nat) (hx : x < 16) (hy : y < 16) : bits .or .u8 ((x : Int) * 16) (y : Int) = ((UInt8.ofNat (16 * x + y)).toNat : Int) := or16F ⟨x, hx⟩ ⟨y, hy⟩
end Go.Proofs.Ytahmacnmphjhgaa
namespace Go.Proofs.Ytahmacnmphjhgaa
open Go.RowKit Oct

/-- block p is a Hash of the text t -/
def HashOf (w : World) (p : Nat) (t : List UInt8) : Prop := Blk w p 138 (hcells (absorb h0 t) (tailB t) ((t.length : Nat) : Int))
theorem HashOf.below {w w' : World} {p : Nat} {t : List UInt8} (h : HashOf w p t) (hB : Below w.heap.size w w') : HashOf w' p t := Blk.below h hB
theorem HashOf.chg {X : Nat → Prop} {w w' : World} {p : Nat} {t : List UInt8} (h : HashOf w p t) (hB : Chg X w w') (hX : ¬ X p) : HashOf w' p t := Blk.chg h hB hX
theorem NewH_any (w : World) : Calls Try.prog 83 #[] w fun e w' => ∃ b, e = .returned (.pointer (some ⟨b, 0, none⟩)) ∧ w.heap.size ≤ b ∧ HashOf w' b [] ∧ Below w.heap.size w w' := New_any w
theorem WriteH_any (p : Nat) (t s : List UInt8) (w : World) (hp : HashOf w p t) (hn : t.length + s.length ≤ 70368744177664) :
    Calls Try.prog 84 #[.pointer (some ⟨p, 0, none⟩), .string (bs s)] w fun e w' => e = .returned (.int .i64 0) ∧ HashOf w' p (t ++ s) ∧ Chg (· = p) w w' := by
  obtain ⟨e1, e2⟩ := absorb_tail h0 t s
  have hl := tailB_length t
  have h := Write_any p (absorb h0 t) (absorb_length _ _ rfl) (tailB t) s t.length w hp (by omega) (by omega)
  rw [e1, e2, ← List.length_append] at h
  exact h
theorem MSumH_any (p : Nat) (t : List UInt8) (w : World) (hp : HashOf w p t) (hn : t.length ≤ 70368744177664) :
    Calls Try.prog 85 #[.pointer (some ⟨p, 0, none⟩)] w fun e w' => e = .returned (.string (bs (shaF t))) ∧ Below w.heap.size w w' := by
  have hl := tailB_length t
  have h := MSum_any p (absorb h0 t) (absorb_length _ _ rfl) (tailB t) t.length w hp (by omega) (by omega)
  rw [shaF_pieces] at h
  exact h
set_option maxRecDepth 100000 in
set_option maxHeartbeats 1000000 in
theorem Sum_any (s : List UInt8) (w : World) (hs : s.length ≤ 70368744177664) :
    Calls Try.prog 71 #[.string (bs s)] w fun e w' => e = .returned (.string (bs (shaF s))) ∧ Below w.heap.size w w' := by
  have HS := Lib.hid hs
  clear hs
  go_enter Try.func71, Try.ntmps71
  go_wp2_with fail
  refine (NewH_any w).mono ?_
  rintro e w1 ⟨b, rfl, hb, hH1, hB1⟩
  have HH1 := Lib.hid hH1
  have HB1 := Lib.hid hB1
  clear hH1 hB1
  go_wp2_with fail
  refine (WriteH_any b [] s _ HH1.out (by have := HS.out; simp; omega)).mono ?_
  rintro e w2 ⟨rfl, hH2, hC2⟩
  rw [List.nil_append] at hH2
  have HH2 := Lib.hid hH2
  have HC2 := Lib.hid hC2
  clear hH2 hC2
  go_wp2_with fail
  refine (MSumH_any b s _ HH2.out HS.out).mono ?_
  rintro e w3 ⟨rfl, hB3⟩
  have HB3 := Lib.hid hB3
  clear hB3
  go_wp2_with fail
  go_ret
  have h2 : Below w.heap.size w w2 := HB1.out.trans (HC2.out.below (fun k hk => by subst hk; exact hb) HB1.out.size)
  exact ⟨rfl, h2.trans (HB3.out.mono h2.size)⟩

set_option maxRecDepth 100000 in
theorem hex_none : hexF (shaF []) = [101, 51, 98, 48, 99, 52, 52, 50, 57, 56, 102, 99, 49, 99, 49, 52, 57, 97, 102, 98, 102, 52, 99, 56, 57, 57, 54, 102, 98, 57, 50, 52, 50, 55, 97, 101, 52, 49, 101, 52, 54, 52, 57, 98, 57, 51, 52, 99, 97, 52, 57, 53, 57, 57, 49, 98, 55, 56, 53, 50, 98, 56, 53, 53] := by decide +kernel
set_option maxRecDepth 100000 in
theorem hex_abc : hexF (shaF [97, 98, 99]) = [98, 97, 55, 56, 49, 54, 98, 102, 56, 102, 48, 49, 99, 102, 101, 97, 52, 49, 52, 49, 52, 48, 100, 101, 53, 100, 97, 101, 50, 50, 50, 51, 98, 48, 48, 51, 54, 49, 97, 51, 57, 54, 49, 55, 55, 97, 57, 99, 98, 52, 49, 48, 102, 102, 54, 49, 102, 50, 48, 48, 49, 53, 97, 100] := by decide +kernel
theorem unh_0G : uV [48, 71] = .tuple #[.string (bs []), .int .i64 7] := uV_none (by decide +kernel)

end Go.Proofs.Ytahmacnmphjhgaa
