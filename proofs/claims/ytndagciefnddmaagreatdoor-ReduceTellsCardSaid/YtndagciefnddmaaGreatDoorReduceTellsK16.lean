/- Lemmas for ReduceTells, part 16: walks of the functions that it reaches, and the plain laws behind them. -/
import Derived.Lib.QuietBelow
import Derived.Recover
import Derived.ProofKit
import Derived.OpenShut
import Derived.ShutString
import Derived.ChangeOld
import Derived.SizedLaws
import Derived.SliceStrings
import Derived.Test.YtndagciefnddmaaGreatDoorRows
import Derived.Deep.Slices
import Derived.ChangeSame
import Derived.Lay
import Derived.LaidMore
import Derived.Lib.LaidU8
import Derived.HandedShaped
import Derived.Stop.LaidErr
import Derived.Shelf.Vars
import Derived.LaidSub
import Derived.Test.YtndagciefnddmaaGreatDoorReduceTellsK1
import Derived.Test.YtndagciefnddmaaGreatDoorReduceTellsK5
import Derived.Test.YtndagciefnddmaaGreatDoorReduceTellsK6
import Derived.Test.YtndagciefnddmaaGreatDoorReduceTellsK7
import Derived.Test.YtndagciefnddmaaGreatDoorReduceTellsK11
import Derived.Test.YtndagciefnddmaaGreatDoorReduceTellsK12
import Derived.Test.YtndagciefnddmaaGreatDoorReduceTellsK14
import Derived.Test.YtndagciefnddmaaGreatDoorReduceTellsK15
set_option linter.unusedSimpArgs false
set_option linter.unusedVariables false
namespace Go.Proofs.YtndagciefnddmaaGreatDoor
abbrev b8 (n : Nat) : UInt8 := UInt8.ofNat n
end Go.Proofs.YtndagciefnddmaaGreatDoor
namespace Go.Proofs.YtndagciefnddmaaGreatDoor
open Go.RowKit Oct
attribute [local irreducible] wpG
end Go.Proofs.YtndagciefnddmaaGreatDoor
namespace Go.Proofs.YtndagciefnddmaaGreatDoor
open Go.RowKit Oct
attribute [local irreducible] wpG
end Go.Proofs.YtndagciefnddmaaGreatDoor
namespace Go.Proofs.YtndagciefnddmaaGreatDoor
open Go.RowKit Oct
attribute [local irreducible] wpG
end Go.Proofs.YtndagciefnddmaaGreatDoor
namespace Go.Proofs.YtndagciefnddmaaGreatDoor
open Go.RowKit Oct
attribute [local irreducible] wpG
end Go.Proofs.YtndagciefnddmaaGreatDoor
namespace Go.Proofs.YtndagciefnddmaaGreatDoor
open Go.RowKit Oct
attribute [local irreducible] wpG
end Go.Proofs.YtndagciefnddmaaGreatDoor
namespace Go.Proofs.YtndagciefnddmaaGreatDoor
open Go.RowKit Oct
attribute [local irreducible] wpG
theorem litC {α : Type} (R : Rec α) (w : World) (l : List α) (cs : Array Value) (hcs : cs = (R.cells l).toArray) (n : Nat) (hn : n = l.length) (hm : n ≤ 1000) : R.Row (w.alloc (.cells cs R.e)) (.slice (some ⟨w.heap.size, 0, none⟩) n n) l := by
  subst hn hcs
  refine Rec.Own.row (base := w.heap.size) ⟨by rw [Rec.cells_length], .inr ⟨w.heap.size, l.length, (R.cells l).toArray, rfl, Nat.le_refl _, ?_, Nat.le_refl _, Nat.le_trans hm (by decide), ?_, ?_⟩⟩
  · show (w.heap.push _)[w.heap.size]? = _
    rw [Array.getElem?_push_size]
  · rw [List.size_toArray, Rec.cells_length]
  · show (R.cells l).take (l.length * R.n) = _
    rw [List.take_of_length_le (by rw [Rec.cells_length]; exact Nat.le_refl _)]
end Go.Proofs.YtndagciefnddmaaGreatDoor
namespace Go.Proofs.YtndagciefnddmaaGreatDoor
open Go.RowKit Oct
attribute [local irreducible] wpG
theorem load_job {w : World} {b : Nat} {v0 v1 v2 v3 v4 v5 v6 v7 : Value} (h : Blk w b 27 [v0, v1, v2, v3, v4, v5, v6, v7]) : (loadVar 27 ⟨b, 0, none⟩).run Tryz.prog w = .ok (.agg #[v0, v1, v2, v3, v4, v5, v6, v7]) w := by
  have x0 := h.cell (k := 0) rfl
  have x1 := h.cell (k := 1) rfl
  have x2 := h.cell (k := 2) rfl
  have x3 := h.cell (k := 3) rfl
  have x4 := h.cell (k := 4) rfl
  have x5 := h.cell (k := 5) rfl
  have x6 := h.cell (k := 6) rfl
  have x7 := h.cell (k := 7) rfl
  clear h
  go_simp
theorem job_store {w : World} {b : Nat} {t : TypeId} {a0 a1 a2 a3 a4 a5 a6 a7 : Value} (hx : Blk w b t [a0, a1, a2, a3, a4, a5, a6, a7]) (v0 v1 v2 v3 v4 v5 v6 v7 : Value) :
    Blk ((((((((w.setCell ⟨b, 0, none⟩ v0).setCell ⟨b, 1, none⟩ v1).setCell ⟨b, 2, none⟩ v2).setCell ⟨b, 3, none⟩ v3).setCell ⟨b, 4, none⟩ v4).setCell ⟨b, 5, none⟩ v5).setCell ⟨b, 6, none⟩ v6).setCell ⟨b, 7, none⟩ v7) b t [v0, v1, v2, v3, v4, v5, v6, v7] ∧
    Chg (fun x => x = b) w ((((((((w.setCell ⟨b, 0, none⟩ v0).setCell ⟨b, 1, none⟩ v1).setCell ⟨b, 2, none⟩ v2).setCell ⟨b, 3, none⟩ v3).setCell ⟨b, 4, none⟩ v4).setCell ⟨b, 5, none⟩ v5).setCell ⟨b, 6, none⟩ v6).setCell ⟨b, 7, none⟩ v7) :=
  ⟨(((((((hx.set 0 v0).set 1 v1).set 2 v2).set 3 v3).set 4 v4).set 5 v5).set 6 v6).set 7 v7,
   Chg.trans (Chg.trans (Chg.trans (Chg.trans (Chg.trans (Chg.trans (Chg.trans (Chg.setCell w ⟨b, 0, none⟩ v0 rfl) (Chg.setCell _ ⟨b, 1, none⟩ v1 rfl)) (Chg.setCell _ ⟨b, 2, none⟩ v2 rfl)) (Chg.setCell _ ⟨b, 3, none⟩ v3 rfl)) (Chg.setCell _ ⟨b, 4, none⟩ v4 rfl)) (Chg.setCell _ ⟨b, 5, none⟩ v5 rfl)) (Chg.setCell _ ⟨b, 6, none⟩ v6 rfl)) (Chg.setCell _ ⟨b, 7, none⟩ v7 rfl)⟩
theorem size_setA (w : World) (a : Addr) (v : Value) : (w.setCell a v).heap.size = w.heap.size := by simp [World.setCell]
def CountR (p : Int) (B : Nat) (e : Ending) (w : World) : Prop :=
  ∃ c1 c2 c3, e = .returned (jobV (.slice none 0 0) c1 (.slice none 0 0) c2 (.slice none 0 0) c3 (countJ p)) ∧ recIns.Row w c1 (countJ p).mc ∧ recIns.Row w c2 (countJ p).jc ∧ recIns.Row w c3 (countJ p).tc
theorem CountR.job {p : Int} {B : Nat} {e : Ending} {w : World} (h : CountR p B e w) (hp : 0 ≤ p) (hp1 : p ≤ 100) (hE : EffM w) (hg : 1 < w.heap.size) (hG : GlobV w) :
    ∃ a1 k1 a2 k2 a3 k3, e = .returned (.agg #[.slice none 0 0, .slice a1 4 k1, .slice none 0 0, .slice a2 6 k2, .slice none 0 0, .slice a3 3 k3, .int .i64 p, .int .i64 100]) ∧ JobR w (.slice none 0 0) (.slice a1 4 k1) (.slice none 0 0) (.slice a2 6 k2) (.slice none 0 0) (.slice a3 3 k3) (countJ p) := by
  obtain ⟨c1, c2, c3, rfl, h1, h2, h3⟩ := h
  obtain ⟨a1, k1, rfl, -, -⟩ := recIns_open h1
  obtain ⟨a2, k2, rfl, -, -⟩ := recIns_open h2
  obtain ⟨a3, k3, rfl, -, -⟩ := recIns_open h3
  refine ⟨a1, k1, a2, k2, a3, k3, rfl, ⟨⟨Rec.Row.nil _, h1, Nat.zero_le _, (by show (4 : Nat) ≤ 5000; decide), fun s hs => (by cases hs), hE, hg⟩, ⟨Rec.Row.nil _, h2, Nat.zero_le _, (by show (6 : Nat) ≤ 5000; decide), fun s hs => (by cases hs), hE, hg⟩, ⟨Rec.Row.nil _, h3, Nat.zero_le _, (by show (3 : Nat) ≤ 5000; decide), fun s hs => (by cases hs), hE, hg⟩, ?_, ?_, (by show (-9223372036854775808 : Int) ≤ 100; decide), (by show (100 : Int) ≤ 9223372036854775807; decide), hG⟩⟩
  · show -9223372036854775808 ≤ p
    omega
  · show p ≤ 9223372036854775807
    omega
set_option maxRecDepth 100000 in
set_option maxHeartbeats 8000000 in
theorem Count_any (p : Int) (w : World) : Calls Tryz.prog 34 #[.int .i64 p] w fun e w' => CountR p w.heap.size e w' ∧ Below w.heap.size w w' := by
  obtain ⟨D, hD⟩ : ∃ D, D = w.heap.size := ⟨_, rfl⟩
  obtain ⟨W0, hW0⟩ : ∃ W0, W0 = w.alloc (.cells #[.slice none 0 0, .slice none 0 0, .slice none 0 0, .slice none 0 0, .slice none 0 0, .slice none 0 0, .int .i64 0, .int .i64 0] 27) := ⟨_, rfl⟩
  have hs0 : W0.heap.size = D + 1 := by rw [hW0, size_alV, hD]
  have hx : Blk W0 D 27 [.slice none 0 0, .slice none 0 0, .slice none 0 0, .slice none 0 0, .slice none 0 0, .slice none 0 0, .int .i64 0, .int .i64 0] := by rw [hD, hW0]; exact Blk.new w _ _
  have hb0 : Below w.heap.size w W0 := by rw [hW0]; exact b_alloc _ _
  go_enter Tryz.func34, Tryz.ntmps34
  go_upto_region 1 with fail
  rw [← hW0, ← hD]
  have x0 := hx.cell (k := 0) rfl
  have x1 := hx.cell (k := 1) rfl
  have x2 := hx.cell (k := 2) rfl
  have x3 := hx.cell (k := 3) rfl
  have x4 := hx.cell (k := 4) rfl
  have x5 := hx.cell (k := 5) rfl
  have x6 := hx.cell (k := 6) rfl
  have x7 := hx.cell (k := 7) rfl
  have f0 := hx.free (k := 0) (by simp)
  have f1 := hx.free (k := 1) (by simp)
  have f2 := hx.free (k := 2) (by simp)
  have f3 := hx.free (k := 3) (by simp)
  have f4 := hx.free (k := 4) (by simp)
  have f5 := hx.free (k := 5) (by simp)
  have f6 := hx.free (k := 6) (by simp)
  have f7 := hx.free (k := 7) (by simp)
  have hDl : D < W0.heap.size := hx.lt
  have HX := Lib.hid hx
  have HB0 := Lib.hid hb0
  have HD := Lib.hid hD
  have HS0 := Lib.hid hs0
  clear hx hb0 hD hW0
  go_wp2_with fail
  obtain ⟨hy, hc⟩ := job_store HX.out (.slice none 0 0) (.slice (some ⟨D + 1, 0, none⟩) 4 4) (.slice none 0 0) (.slice (some ⟨D + 1 + 1, 0, none⟩) 6 6) (.slice none 0 0) (.slice (some ⟨D + 1 + 1 + 1, 0, none⟩) 3 3) (.int .i64 p) (.int .i64 100)
  have hs1 : ((((((((W0.setCell ⟨D, 0, none⟩ (.slice none 0 0)).setCell ⟨D, 1, none⟩ (.slice (some ⟨D + 1, 0, none⟩) 4 4)).setCell ⟨D, 2, none⟩ (.slice none 0 0)).setCell ⟨D, 3, none⟩ (.slice (some ⟨D + 1 + 1, 0, none⟩) 6 6)).setCell ⟨D, 4, none⟩ (.slice none 0 0)).setCell ⟨D, 5, none⟩ (.slice (some ⟨D + 1 + 1 + 1, 0, none⟩) 3 3)).setCell ⟨D, 6, none⟩ (.int .i64 p)).setCell ⟨D, 7, none⟩ (.int .i64 100)).heap.size = D + 1 := by rw [size_setA, size_setA, size_setA, size_setA, size_setA, size_setA, size_setA, size_setA]; exact HS0.out
  obtain ⟨V0, hV0⟩ : ∃ V0, V0 = ((((((((W0.setCell ⟨D, 0, none⟩ (.slice none 0 0)).setCell ⟨D, 1, none⟩ (.slice (some ⟨D + 1, 0, none⟩) 4 4)).setCell ⟨D, 2, none⟩ (.slice none 0 0)).setCell ⟨D, 3, none⟩ (.slice (some ⟨D + 1 + 1, 0, none⟩) 6 6)).setCell ⟨D, 4, none⟩ (.slice none 0 0)).setCell ⟨D, 5, none⟩ (.slice (some ⟨D + 1 + 1 + 1, 0, none⟩) 3 3)).setCell ⟨D, 6, none⟩ (.int .i64 p)).setCell ⟨D, 7, none⟩ (.int .i64 100)) := ⟨_, rfl⟩
  rw [← hV0] at hy hc hs1 ⊢
  clear hV0 x0 x1 x2 x3 x4 x5 x6 x7 f0 f1 f2 f3 f4 f5 f6 f7 hDl
  obtain ⟨W1, hW1⟩ : ∃ W1, W1 = V0.alloc (.cells #[.int .u8 3, .int .u8 0, .int .u8 2, .int .u8 1, .int .u8 8, .int .u8 0, .int .u8 23, .int .u8 0] 92) := ⟨_, rfl⟩
  have hs2 : W1.heap.size = D + 1 + 1 := by rw [hW1, size_alV, hs1]
  have r1 := litC recIns V0 [(3, 0), (2, 1), (8, 0), (23, 0)] #[.int .u8 3, .int .u8 0, .int .u8 2, .int .u8 1, .int .u8 8, .int .u8 0, .int .u8 23, .int .u8 0] rfl 4 rfl (by omega)
  have hb1 : Below V0.heap.size V0 W1 := by rw [hW1]; exact b_alloc _ _
  rw [show recIns.e = 92 from rfl, ← hW1, hs1] at r1
  obtain ⟨W2, hW2⟩ : ∃ W2, W2 = W1.alloc (.cells #[.int .u8 3, .int .u8 0, .int .u8 7, .int .u8 0, .int .u8 3, .int .u8 1, .int .u8 7, .int .u8 0, .int .u8 9, .int .u8 0, .int .u8 8, .int .u8 0] 92) := ⟨_, rfl⟩
  have hs3 : W2.heap.size = D + 1 + 1 + 1 := by rw [hW2, size_alV, hs2]
  have r2 := litC recIns W1 [(3, 0), (7, 0), (3, 1), (7, 0), (9, 0), (8, 0)] #[.int .u8 3, .int .u8 0, .int .u8 7, .int .u8 0, .int .u8 3, .int .u8 1, .int .u8 7, .int .u8 0, .int .u8 9, .int .u8 0, .int .u8 8, .int .u8 0] rfl 6 rfl (by omega)
  have hb2 : Below W1.heap.size W1 W2 := by rw [hW2]; exact b_alloc _ _
  rw [show recIns.e = 92 from rfl, ← hW2, hs2] at r2
  obtain ⟨W3, hW3⟩ : ∃ W3, W3 = W2.alloc (.cells #[.int .u8 3, .int .u8 0, .int .u8 3, .int .u8 1, .int .u8 4, .int .u8 0] 92) := ⟨_, rfl⟩
  have r3 := litC recIns W2 [(3, 0), (3, 1), (4, 0)] #[.int .u8 3, .int .u8 0, .int .u8 3, .int .u8 1, .int .u8 4, .int .u8 0] rfl 3 rfl (by omega)
  have hb3 : Below W2.heap.size W2 W3 := by rw [hW3]; exact b_alloc _ _
  rw [show recIns.e = 92 from rfl, ← hW3, hs3] at r3
  rw [← hW1, ← hW2, ← hW3]
  have hy3 := ((hy.below hb1).below hb2).below hb3
  have hbb := bt (bt hb1 hb2) hb3
  refine bodyPost_ret (results_cellM rfl rfl (load_job hy3)) rfl ?_
  refine ⟨⟨_, _, _, rfl, (r1.below hb2).below hb3, r2.below hb3, r3⟩, ?_⟩
  exact HB0.out.trans ((hc.below (fun k hk => by rw [show k = D from hk, HD.out]; exact Nat.le_refl _) HB0.out.size).trans (hbb.mono (by rw [hs1, ← HD.out]; exact Nat.le_succ _)))
structure JobQ (w : World) (t1 c1 t2 c2 t3 c3 : Value) (j : Jb) : Prop where
  a : ProgR w t1 c1 j.mt j.mc
  b : ProgR w t2 c2 j.jt j.jc
  c : ProgR w t3 c3 j.tt j.tc
  p0 : -9223372036854775808 ≤ j.parts
  p1 : j.parts ≤ 9223372036854775807
  f0 : -9223372036854775808 ≤ j.fuel
  f1 : j.fuel ≤ 9223372036854775807
theorem JobQ.below {w w' : World} {t1 c1 t2 c2 t3 c3 : Value} {j : Jb} (h : JobQ w t1 c1 t2 c2 t3 c3 j) (hB : Below w.heap.size w w') : JobQ w' t1 c1 t2 c2 t3 c3 j := ⟨h.a.below hB, h.b.below hB, h.c.below hB, h.p0, h.p1, h.f0, h.f1⟩
def largeJ (j : Jb) : Bool := largeV j.mt j.mc || largeV j.jt j.jc || largeV j.tt j.tc
def slowJ (j : Jb) : Bool := decide (3000 < j.fuel) && decide (j.fuel ≤ 65536)
theorem largeJ_no {j : Jb} (h : largeJ j = false) : largeV j.mt j.mc = false ∧ largeV j.jt j.jc = false ∧ largeV j.tt j.tc = false := by
  unfold largeJ at h
  simp only [Bool.or_eq_false_iff] at h
  exact ⟨h.1.1, h.1.2, h.2⟩
theorem JobQ.job {w : World} {t1 c1 t2 c2 t3 c3 : Value} {j : Jb} (h : JobQ w t1 c1 t2 c2 t3 c3 j) (hl : largeJ j = false) (hE : EffM w) (hg : 1 < w.heap.size) (hG : GlobV w) : JobR w t1 c1 t2 c2 t3 c3 j := by
  obtain ⟨h1, h2, h3⟩ := largeJ_no hl
  exact ⟨h.a.ask h1 hE hg, h.b.ask h2 hE hg, h.c.ask h3 hE hg, h.p0, h.p1, h.f0, h.f1, hG⟩
end Go.Proofs.YtndagciefnddmaaGreatDoor
namespace Go.Proofs.YtndagciefnddmaaGreatDoor.Oct
end Go.Proofs.YtndagciefnddmaaGreatDoor.Oct
namespace Go.Proofs.YtndagciefnddmaaGreatDoor.Oct
def readT (l : List UInt8) : List UInt8 × Nat × Int :=
  if l.length < 2 then ([], 0, 6) else if l.length < 2 + val (l.take 2) then ([], 0, 6) else ((l.drop 2).take (val (l.take 2)), 2 + val (l.take 2), 0)
def texts : List (List UInt8) → List UInt8
  | [] => []
  | l :: r => num l.length 2 ++ l ++ texts r
def fits (r : List (List UInt8)) : Bool := r.all fun l => decide (l.length ≤ 65535)
def row (r : List (List UInt8)) : List UInt8 × Int :=
  if r.length ≤ 65535 then if fits r then (num r.length 2 ++ texts r, 0) else ([], 5) else ([], 5)
def readTexts : Nat → List UInt8 → Option (List (List UInt8))
  | 0, l => if l = [] then some [] else none
  | k + 1, l => if (readT l).2.2 = 0 then (readTexts k (l.drop (readT l).2.1)).map ((readT l).1 :: ·) else none
theorem readTexts_ok (k : Nat) (l : List UInt8) (h : (readT l).2.2 = 0) : readTexts (k + 1) l = (readTexts k (l.drop (readT l).2.1)).map ((readT l).1 :: ·) := if_pos h
theorem readTexts_no (k : Nat) (l : List UInt8) (h : ¬ (readT l).2.2 = 0) : readTexts (k + 1) l = none := if_neg h
def RrInv (l0 : List UInt8) (k0 m : Nat) (r : List (List UInt8)) (l : List UInt8) : Prop := readTexts k0 l0 = (readTexts m l).map (r ++ ·)
theorem RrInv.start (l0 : List UInt8) (k0 : Nat) : RrInv l0 k0 k0 [] l0 := by simp [RrInv]
theorem RrInv.step {l0 : List UInt8} {k0 m : Nat} {r : List (List UInt8)} {l : List UInt8} (h : RrInv l0 k0 (m + 1) r l) (ho : (readT l).2.2 = 0) : RrInv l0 k0 m (r ++ [(readT l).1]) (l.drop (readT l).2.1) := by
  unfold RrInv at h ⊢
  rw [h, readTexts_ok m l ho, Option.map_map]
  congr 1
  funext x
  simp
theorem RrInv.no {l0 : List UInt8} {k0 m : Nat} {r : List (List UInt8)} {l : List UInt8} (h : RrInv l0 k0 (m + 1) r l) (ho : ¬ (readT l).2.2 = 0) : readTexts k0 l0 = none := by
  rw [h, readTexts_no m l ho]; rfl
end Go.Proofs.YtndagciefnddmaaGreatDoor.Oct
namespace Go.Proofs.YtndagciefnddmaaGreatDoor
open Go.RowKit Oct
end Go.Proofs.YtndagciefnddmaaGreatDoor
namespace Go.Proofs.YtndagciefnddmaaGreatDoor
open Go.RowKit Oct
end Go.Proofs.YtndagciefnddmaaGreatDoor
namespace Go.Proofs.YtndagciefnddmaaGreatDoor
open Go.RowKit Oct
theorem list_ne_of {a b : List (List UInt8)} (k : Nat) (h : k < a.length) (h' : k < b.length) (hne : a[k] ≠ b[k]) : a ≠ b := by
  rintro rfl; exact hne rfl
theorem list_eq_of {a b : List (List UInt8)} (hl : a.length = b.length) (h : ∀ k (h : k < a.length) (h' : k < b.length), a[k] = b[k]) : a = b :=
  List.ext_getElem hl h
set_option maxRecDepth 100000 in
set_option maxHeartbeats 1000000 in
theorem Same_any (va vb : Value) (a b : List (List UInt8)) (w : World) (ha : Reads w va a.length (tcells a)) (hb : Reads w vb b.length (tcells b)) (hla : a.length ≤ 140737488355328) (hlb : b.length ≤ 140737488355328) :
    Calls Tryz.prog 15 #[va, vb] w fun e w' => e = .returned (.bool (decide (a = b))) ∧ Below w.heap.size w w' := by
  obtain ⟨aa, ca, rfl, _, hca⟩ := ha
  obtain ⟨ab, cb, rfl, _, hcb⟩ := hb
  by_cases hl : a.length = b.length
  · have hL := Lib.hid hl
    have t1 : ((a.length : Int) != (b.length : Int)) = false := by rw [bne_eq_false_iff_eq]; omega
    clear hl
    go_enter Tryz.func15, Tryz.ntmps15
    go_wp2
    go_loopw [5] (fun i wr => ∃ k : Nat, k ≤ a.length ∧ i = .int .i64 k ∧ Hid (∀ j (h : j < a.length) (h' : j < b.length), j < k → a[j] = b[j]) ∧ Below w.heap.size w wr) (fun i _ => a.length - (intOf i).toNat)
    case atStart => exact ⟨0, by omega, rfl, by intro j _ _ h; omega, Below.refl _ _⟩
    case round =>
      obtain ⟨k, hk, rfl, hH, hB⟩ := hrel
      by_cases h0 : k < a.length
      · have h0b : k < b.length := by have := hL.out; omega
        obtain ⟨b1, o1, rfl, hc1⟩ := hca k _ (tcells_at a k h0)
        obtain ⟨b2, o2, rfl, hc2⟩ := hcb k _ (tcells_at b k h0b)
        have hd1 := Below.keeps hB hc1
        have hd2 := Below.keeps hB hc2
        have kk1 : (k : Int) < (a.length : Int) := by omega
        have kk2 : (k : Int) < (b.length : Int) := by omega
        clear hca hcb
        by_cases he : a[k] = b[k]
        · have he2 : (a[k] == b[k]) = true := by simpa using he
          have HE := Lib.hid he
          clear he
          go_wp2
          go_quiet (fail)
          go_wp2
          go_roundw
          case rel =>
            refine ⟨k + 1, by omega, by go_num, ?_, bt hB (Below.drewN' _ _)⟩
            intro j h h' hj
            by_cases hjk : j = k
            · subst hjk; exact HE.out
            · exact hH.out j h h' (by omega)
          case measure => simp [intOf]; omega
        · have he2 : (a[k] == b[k]) = false := by simpa using he
          have HE := Lib.hid he
          clear he
          go_wp2
          go_quiet (fail)
          go_wp2
          go_ret
          exact ⟨by rw [decide_eq_false (list_ne_of k h0 h0b HE.out)]; rfl, bt hB (Below.drewN' _ _)⟩
      · obtain rfl : k = a.length := by omega
        go_wp2
        go_ret
        exact ⟨by rw [decide_eq_true (list_eq_of hL.out (fun j h h' => hH.out j h h' h))]; rfl, hB⟩
  · have t1 : ((a.length : Int) != (b.length : Int)) = true := by rw [bne_iff_ne]; omega
    go_enter Tryz.func15, Tryz.ntmps15
    go_wp2
    go_ret
    exact ⟨by rw [decide_eq_false (fun e => hl (by rw [e]))]; rfl, Below.refl _ _⟩
end Go.Proofs.YtndagciefnddmaaGreatDoor
namespace Go.Proofs.YtndagciefnddmaaGreatDoor
open Go.RowKit Oct
attribute [local irreducible] wpG
theorem recS_tcells : ∀ l : List (List UInt8), recS.cells l = tcells l
  | [] => rfl
  | x :: l => by rw [Rec.cells, recS_tcells l]; rfl
theorem same01_any (va vb : Value) (a b : List (List UInt8)) (w : World) (ha : recS.Row w va a) (hb : recS.Row w vb b) (hla : a.length ≤ 140737488355328) (hlb : b.length ≤ 140737488355328) :
    Calls Tryz.prog 15 #[va, vb] w fun e w' => e = .returned (.bool (decide (a = b))) ∧ Below w.heap.size w w' :=
  Same_any va vb a b w (by rw [← recS_tcells]; exact ha.1) (by rw [← recS_tcells]; exact hb.1) hla hlb
theorem RR.nil (w : World) : RR w (.slice none 0 0) [] := ⟨none, 0, rfl, Nat.le_refl _, fun _ => ⟨rfl, rfl⟩, fun k hk => absurd hk (Nat.not_lt_zero _)⟩
theorem RR.one (w : World) (l : List PR) (cs : Array Value) (hcs : cs = (pcells l).toArray) (n : Nat) (hn : n = l.length) (e e' : TypeId) :
    RR ((w.alloc (.cells cs e)).alloc (.cells #[.slice (some ⟨w.heap.size, 0, none⟩) n n] e')) (.slice (some ⟨w.heap.size + 1, 0, none⟩) 1 1) [l] := by
  subst hcs hn
  refine ⟨_, _, rfl, Nat.le_refl _, (by simp), ?_⟩
  intro k hk
  have hs : (w.alloc (.cells (pcells l).toArray e)).heap.size = w.heap.size + 1 := by simp
  have r1 := (RP.new w l e).below (b_alloc _ (.cells #[.slice (some ⟨w.heap.size, 0, none⟩) l.length l.length] e'))
  obtain rfl : k = 0 := by simp at hk; omega
  exact ⟨_, _, _, rfl, by rw [← hs, World.cell?_alloc_new]; rfl, r1⟩
theorem al20_1 : allJ (countJ 1) [[([97], [50]), ([98], [49])]] = ([[97, 50, 98, 49]], [], 0) := by decide +kernel
theorem al20_2 : allJ (countJ 1) [] = ([], [], 2) := by decide +kernel
theorem al20_3 : tellJ (countJ 1) [([], []), ([], [])] = ([], [], 2) := by decide +kernel
theorem al20_4 : tellJ (countJ 1) [([97], [50])] = ([97, 50], [], 0) := by decide +kernel
set_option maxRecDepth 100000 in
set_option maxHeartbeats 8000000 in
theorem alive20_any (w : World) (hE : EffM w) (hg : 1 < w.heap.size) (hG : GlobV w) (hdo : doesAt w) : Calls Tryz.prog 9 #[] w fun e w' => e = .returned (.bool true) ∧ Below w.heap.size w w' := by
  have HC := Lib.hid (Count_any 1 w)
  have HJ := Lib.hid (fun e w' (hB : Below w.heap.size w w') (hc : CountR 1 w.heap.size e w') => hc.job (by decide) (by decide) (hE.below hB hg) (Nat.lt_of_lt_of_le hg hB.size) (hG.below hB))
  have HDO := Lib.hid (fun w' (hB : Below w.heap.size w w') => hdo.below hB)
  clear hE hg hG hdo
  go_enter Tryz.func9, Tryz.ntmps9
  go_upto_region 2 with (go_at_call 34; refine HC.out.mono ?_; rintro e w1 ⟨hc, hB1⟩; obtain ⟨a1, k1, a2, k2, a3, k3, rfl, hj⟩ := HJ.out e w1 hB1 hc; have HB1 := Lib.hid hB1; have HJ1 := Lib.hid hj; clear hc hB1 hj HC HJ)
  obtain ⟨W2, hW2⟩ : ∃ W2, W2 = w1.alloc (.cells #[.slice none 0 0, .slice a1 4 k1, .slice none 0 0, .slice a2 6 k2, .slice none 0 0, .slice a3 3 k3, .int .i64 1, .int .i64 100] 27) := ⟨_, rfl⟩
  obtain ⟨B, hBn⟩ : ∃ B, B = w1.heap.size := ⟨_, rfl⟩
  have hb2 : Below w1.heap.size w1 W2 := by rw [hW2]; exact b_alloc _ _
  have hx : Blk W2 B 27 [.slice none 0 0, .slice a1 4 k1, .slice none 0 0, .slice a2 6 k2, .slice none 0 0, .slice a3 3 k3, .int .i64 1, .int .i64 100] := by rw [hW2, hBn]; exact Blk.new _ _ _
  have HX := Lib.hid hx
  have HJ2 := Lib.hid (HJ1.out.below hb2)
  have HB2 := Lib.hid (bt HB1.out hb2)
  rw [← hW2, ← hBn]
  clear hW2 hBn hb2 hx
  have HALL := Lib.hid (fun w' (hB : Below W2.heap.size W2 w') => show Calls Tryz.prog 13 #[.agg #[.slice none 0 0, .slice a1 4 k1, .slice none 0 0, .slice a2 6 k2, .slice none 0 0, .slice a3 3 k3, .int .i64 1, .int .i64 100], .slice (some ⟨w'.heap.size + 1, 0, none⟩) 1 1]
      ((w'.alloc (.cells #[.string ⟨#[97]⟩, .string ⟨#[50]⟩, .string ⟨#[98]⟩, .string ⟨#[49]⟩] 60)).alloc (.cells #[.slice (some ⟨w'.heap.size, 0, none⟩) 2 2] 28)) fun e w'' => (∃ ta tc, e = .returned (.tuple #[.slice ta 1 tc, .string ⟨#[]⟩, .int .i64 0]) ∧ recS.Row w'' (.slice ta 1 tc) [[97, 50, 98, 49]]) ∧ Below w'.heap.size w' w'' by
    have hbb := bt (b_alloc w' (.cells #[.string ⟨#[97]⟩, .string ⟨#[50]⟩, .string ⟨#[98]⟩, .string ⟨#[49]⟩] 60)) (b_alloc _ (.cells #[.slice (some ⟨w'.heap.size, 0, none⟩) 2 2] 28))
    have h := All20_any _ _ _ _ _ _ _ (countJ 1) [[([97], [50]), ([98], [49])]] _ (HJ2.out.below (bt hB hbb)) (HDO.out _ (bt HB2.out (bt hB hbb))) (RR.one w' [([97], [50]), ([98], [49])] #[.string ⟨#[97]⟩, .string ⟨#[50]⟩, .string ⟨#[98]⟩, .string ⟨#[49]⟩] rfl 2 rfl 60 28) (by decide) (by decide)
    rw [al20_1] at h
    refine h.mono ?_
    rintro e w'' ⟨⟨tv, rfl, ho⟩, hB2⟩
    obtain ⟨ta, tc, rfl⟩ := owns_slice ho
    exact ⟨⟨ta, tc, rfl, ho.row⟩, bt hbb hB2⟩)
  have HALL0 := Lib.hid (fun w' (hB : Below W2.heap.size W2 w') => show Calls Tryz.prog 13 #[.agg #[.slice none 0 0, .slice a1 4 k1, .slice none 0 0, .slice a2 6 k2, .slice none 0 0, .slice a3 3 k3, .int .i64 1, .int .i64 100], .slice none 0 0] w' fun e w'' => (∃ ta tc, e = .returned (.tuple #[.slice ta 0 tc, .string ⟨#[]⟩, .int .i64 2])) ∧ Below w'.heap.size w' w'' by
    have h := All20_any _ _ _ _ _ _ _ (countJ 1) [] _ (HJ2.out.below hB) (HDO.out _ (bt HB2.out hB)) (RR.nil w') (by decide) (by decide)
    rw [al20_2] at h
    refine h.mono ?_
    rintro e w'' ⟨⟨tv, rfl, ho⟩, hB2⟩
    obtain ⟨ta, tc, rfl⟩ := owns_slice ho
    exact ⟨⟨ta, tc, rfl⟩, hB2⟩)
  have HTE := Lib.hid (fun w' (hB : Below W2.heap.size W2 w') => show Calls Tryz.prog 10 #[.agg #[.slice none 0 0, .slice a1 4 k1, .slice none 0 0, .slice a2 6 k2, .slice none 0 0, .slice a3 3 k3, .int .i64 1, .int .i64 100], .slice (some ⟨w'.heap.size, 0, none⟩) 2 2]
      (w'.alloc (.cells #[.string ⟨#[]⟩, .string ⟨#[]⟩, .string ⟨#[]⟩, .string ⟨#[]⟩] 60)) fun e w'' => e = .returned (.tuple #[.string ⟨#[]⟩, .string ⟨#[]⟩, .int .i64 2]) ∧ Below w'.heap.size w' w'' by
    have hbb := b_alloc w' (.cells #[.string ⟨#[]⟩, .string ⟨#[]⟩, .string ⟨#[]⟩, .string ⟨#[]⟩] 60)
    have h := Tell20_any _ _ _ _ _ _ _ (countJ 1) [([], []), ([], [])] _ (HJ2.out.below (bt hB hbb)) (HDO.out _ (bt HB2.out (bt hB hbb))) (RP.new w' [([], []), ([], [])] 60) (by decide) (by decide)
    rw [al20_3] at h
    exact h.mono fun e w'' h => ⟨h.1, bt hbb h.2⟩)
  have HSZ := Lib.hid (fun w' (hB : Below W2.heap.size W2 w') => show Calls Tryz.prog 12 #[.agg #[.slice none 0 0, .slice a1 4 k1, .slice none 0 0, .slice a2 6 k2, .slice none 0 0, .slice a3 3 k3, .int .i64 1, .int .i64 100], .slice (some ⟨w'.heap.size, 0, none⟩) 1 1]
      (w'.alloc (.cells #[.string ⟨#[97]⟩, .string ⟨#[50]⟩] 60)) fun e w'' => e = .returned (.tuple #[.int .i64 2, .int .i64 0]) ∧ Below w'.heap.size w' w'' by
    have hbb := b_alloc w' (.cells #[.string ⟨#[97]⟩, .string ⟨#[50]⟩] 60)
    have h := Size20_any _ _ _ _ _ _ _ (countJ 1) [([97], [50])] _ (HJ2.out.below (bt hB hbb)) (HDO.out _ (bt HB2.out (bt hB hbb))) (RP.new w' [([97], [50])] 60) (by decide) (by decide)
    rw [al20_4] at h
    exact h.mono fun e w'' h => ⟨h.1, bt hbb h.2⟩)
  have HS := Lib.hid (fun w' (va : Value) (hv : recS.Row w' va [[97, 50, 98, 49]]) => show Calls Tryz.prog 15 #[va, .slice (some ⟨w'.heap.size, 0, none⟩) 1 1] (w'.alloc (.cells #[.string ⟨#[97, 50, 98, 49]⟩] 9)) fun e w'' => e = .returned (.bool true) ∧ Below w'.heap.size w' w'' by
    have hbb := b_alloc w' (.cells #[.string ⟨#[97, 50, 98, 49]⟩] 9)
    have h := same01_any va _ [[97, 50, 98, 49]] [[97, 50, 98, 49]] _ (hv.below hbb) (Rec.Row.new (R := recS) w' [[97, 50, 98, 49]] 9) (by decide) (by decide)
    rw [decide_eq_true rfl] at h
    exact h.mono fun e w'' h => ⟨h.1, bt hbb h.2⟩)
  have hx0 := HX.out
  have x0 := hx0.cell (k := 0) rfl
  have x1 := hx0.cell (k := 1) rfl
  have x2 := hx0.cell (k := 2) rfl
  have x3 := hx0.cell (k := 3) rfl
  have x4 := hx0.cell (k := 4) rfl
  have x5 := hx0.cell (k := 5) rfl
  have x6 := hx0.cell (k := 6) rfl
  have x7 := hx0.cell (k := 7) rfl
  have hBl := hx0.lt
  clear hx0
  go_wp2_with fail
  refine (HALL.out W2 (b_refl _)).mono ?_
  rintro e w3 ⟨⟨ta, tc, rfl, hr3⟩, hB⟩
  have HB3 := Lib.hid hB
  have HR3 := Lib.hid hr3
  have hx3 := HX.out.below hB
  clear hB hr3 x0 x1 x2 x3 x4 x5 x6 x7 hBl HALL
  have x0 := hx3.cell (k := 0) rfl
  have x1 := hx3.cell (k := 1) rfl
  have x2 := hx3.cell (k := 2) rfl
  have x3 := hx3.cell (k := 3) rfl
  have x4 := hx3.cell (k := 4) rfl
  have x5 := hx3.cell (k := 5) rfl
  have x6 := hx3.cell (k := 6) rfl
  have x7 := hx3.cell (k := 7) rfl
  clear hx3
  go_wp2_with fail
  refine (HALL0.out w3 HB3.out).mono ?_
  rintro e w4 ⟨⟨ta4, tc4, rfl⟩, hB⟩
  have HB4 := Lib.hid (bt HB3.out hB)
  have HR4 := Lib.hid (HR3.out.below hB)
  have hx4 := HX.out.below HB4.out
  clear hB x0 x1 x2 x3 x4 x5 x6 x7 HALL0
  have x0 := hx4.cell (k := 0) rfl
  have x1 := hx4.cell (k := 1) rfl
  have x2 := hx4.cell (k := 2) rfl
  have x3 := hx4.cell (k := 3) rfl
  have x4 := hx4.cell (k := 4) rfl
  have x5 := hx4.cell (k := 5) rfl
  have x6 := hx4.cell (k := 6) rfl
  have x7 := hx4.cell (k := 7) rfl
  have hBl := hx4.lt
  clear hx4
  go_wp2_with fail
  refine (HTE.out w4 HB4.out).mono ?_
  rintro e w5 ⟨rfl, hB⟩
  have HB5 := Lib.hid (bt HB4.out hB)
  have HR5 := Lib.hid (HR4.out.below hB)
  have hx5 := HX.out.below HB5.out
  clear hB x0 x1 x2 x3 x4 x5 x6 x7 HTE hBl
  have x0 := hx5.cell (k := 0) rfl
  have x1 := hx5.cell (k := 1) rfl
  have x2 := hx5.cell (k := 2) rfl
  have x3 := hx5.cell (k := 3) rfl
  have x4 := hx5.cell (k := 4) rfl
  have x5 := hx5.cell (k := 5) rfl
  have x6 := hx5.cell (k := 6) rfl
  have x7 := hx5.cell (k := 7) rfl
  have hBl := hx5.lt
  clear hx5
  go_wp2_with fail
  refine (HSZ.out w5 HB5.out).mono ?_
  rintro e w6 ⟨rfl, hB⟩
  have HB6 := Lib.hid (bt HB5.out hB)
  have HR6 := Lib.hid (HR5.out.below hB)
  clear hB x0 x1 x2 x3 x4 x5 x6 x7 HSZ hBl
  go_wp2_with fail
  refine (HS.out w6 _ HR6.out).mono ?_
  rintro e w7 ⟨rfl, hB⟩
  have HB7 := Lib.hid (bt HB6.out hB)
  clear hB
  go_wp2_with fail
  go_ret
  exact ⟨rfl, bt HB2.out HB7.out⟩
end Go.Proofs.YtndagciefnddmaaGreatDoor
namespace Go.Proofs.YtndagciefnddmaaGreatDoor
open Go.RowKit Oct
attribute [local irreducible] wpG
set_option maxRecDepth 100000 in
set_option maxHeartbeats 4000000 in
theorem Slow_any (t1 c1 t2 c2 t3 c3 : Value) (j : Jb) (w : World) (h : JobQ w t1 c1 t2 c2 t3 c3 j) :
    Calls Tryz.prog 7 #[jobV t1 c1 t2 c2 t3 c3 j] w fun e w' => e = .returned (.bool (slowJ j)) ∧ Below w.heap.size w w' := by
  obtain ⟨ta, tc, rfl, -, -⟩ := recS_open h.a.t
  obtain ⟨ca, cc, rfl, -, -⟩ := recIns_open h.a.c
  obtain ⟨ta2, tc2, rfl, -, -⟩ := recS_open h.b.t
  obtain ⟨ca2, cc2, rfl, -, -⟩ := recIns_open h.b.c
  obtain ⟨ta3, tc3, rfl, -, -⟩ := recS_open h.c.t
  obtain ⟨ca3, cc3, rfl, -, -⟩ := recIns_open h.c.c
  unfold jobV
  unfold slowJ
  clear h
  obtain ⟨F, hF⟩ : ∃ F, F = j.fuel := ⟨_, rfl⟩
  rw [← hF]
  clear hF
  by_cases h1 : (3000 : Int) < F
  · by_cases h2 : F ≤ 65536
    · have e : (decide ((3000 : Int) < F) && decide (F ≤ 65536)) = true := by simp [h1, h2]
      rw [e]
      go_enter Tryz.func7, Tryz.ntmps7
      go_wp2
      go_ret
      exact ⟨rfl, b_alloc _ _⟩
    · have e : (decide ((3000 : Int) < F) && decide (F ≤ 65536)) = false := by simp [h2]
      rw [e]
      go_enter Tryz.func7, Tryz.ntmps7
      go_wp2
      go_ret
      exact ⟨rfl, b_alloc _ _⟩
  · have e : (decide ((3000 : Int) < F) && decide (F ≤ 65536)) = false := by simp [h1]
    rw [e]
    go_enter Tryz.func7, Tryz.ntmps7
    go_wp2
    go_ret
    exact ⟨rfl, b_alloc _ _⟩
set_option maxRecDepth 100000 in
set_option maxHeartbeats 4000000 in
theorem Large15_any (t1 c1 t2 c2 t3 c3 : Value) (j : Jb) (w : World) (h : JobQ w t1 c1 t2 c2 t3 c3 j) :
    Calls Tryz.prog 6 #[jobV t1 c1 t2 c2 t3 c3 j] w fun e w' => e = .returned (.bool (largeJ j)) ∧ Below w.heap.size w w' := by
  have HA := Lib.hid (fun w' (hB : Below w.heap.size w w') => (h.a.below hB).large)
  have HB := Lib.hid (fun w' (hB : Below w.heap.size w w') => (h.b.below hB).large)
  have HC := Lib.hid (fun w' (hB : Below w.heap.size w w') => (h.c.below hB).large)
  obtain ⟨ta, tc, rfl, -, -⟩ := recS_open h.a.t
  obtain ⟨ca, cc, rfl, -, -⟩ := recIns_open h.a.c
  obtain ⟨ta2, tc2, rfl, -, -⟩ := recS_open h.b.t
  obtain ⟨ca2, cc2, rfl, -, -⟩ := recIns_open h.b.c
  obtain ⟨ta3, tc3, rfl, -, -⟩ := recS_open h.c.t
  obtain ⟨ca3, cc3, rfl, -, -⟩ := recIns_open h.c.c
  unfold jobV
  unfold largeJ
  clear h
  obtain ⟨W1, hW1⟩ : ∃ W1, W1 = w.alloc (.cells #[.slice ta j.mt.length tc, .slice ca j.mc.length cc, .slice ta2 j.jt.length tc2, .slice ca2 j.jc.length cc2, .slice ta3 j.tt.length tc3, .slice ca3 j.tc.length cc3, .int .i64 j.parts, .int .i64 j.fuel] 27) := ⟨_, rfl⟩
  have hb1 : Below w.heap.size w W1 := by rw [hW1]; exact b_alloc _ _
  obtain ⟨J, hJ⟩ : ∃ J, J = w.heap.size := ⟨_, rfl⟩
  have hx : Blk W1 J 27 [.slice ta j.mt.length tc, .slice ca j.mc.length cc, .slice ta2 j.jt.length tc2, .slice ca2 j.jc.length cc2, .slice ta3 j.tt.length tc3, .slice ca3 j.tc.length cc3, .int .i64 j.parts, .int .i64 j.fuel] := by rw [hJ, hW1]; exact Blk.new w _ _
  have x0 := hx.cell (k := 0) rfl
  have x1 := hx.cell (k := 1) rfl
  have HB1 := Lib.hid hb1
  have HX := Lib.hid hx
  obtain ⟨A, hA⟩ : ∃ A, A = largeV j.mt j.mc := ⟨_, rfl⟩
  obtain ⟨B, hB⟩ : ∃ B, B = largeV j.jt j.jc := ⟨_, rfl⟩
  obtain ⟨C, hC⟩ : ∃ C, C = largeV j.tt j.tc := ⟨_, rfl⟩
  rw [← hA] at HA
  rw [← hB] at HB
  rw [← hC] at HC
  rw [← hA, ← hB, ← hC]
  go_enter Tryz.func6, Tryz.ntmps6
  go_upto_region 1 with fail
  rw [← hW1, ← hJ]
  clear hW1 hJ hb1 hx hA hB hC
  cases A
  · cases B
    · cases C
      all_goals
        go_wp2_with (first | (go_at_call 33; refine (HC.out _ HB3.out).mono ?_; rintro e w4 ⟨rfl, hB4⟩; have HB4 := Lib.hid (bt HB3.out hB4); clear hB4) | (go_at_call 33; refine (HB.out _ HB2.out).mono ?_; rintro e w3 ⟨rfl, hB3⟩; have HX3 := Lib.hid (HX2.out.below hB3); have x4 := HX3.out.cell (k := 4) rfl; have x5 := HX3.out.cell (k := 5) rfl; have HB3 := Lib.hid (bt HB2.out hB3); clear hB3 x2 x3) | (go_at_call 33; refine (HA.out _ HB1.out).mono ?_; rintro e w2 ⟨rfl, hB2⟩; have HX2 := Lib.hid (HX.out.below hB2); have x2 := HX2.out.cell (k := 2) rfl; have x3 := HX2.out.cell (k := 3) rfl; have HB2 := Lib.hid (bt HB1.out hB2); clear hB2 x0 x1))
        go_ret
        exact ⟨rfl, HB4.out⟩
    · go_wp2_with (first | (go_at_call 33; refine (HB.out _ HB2.out).mono ?_; rintro e w3 ⟨rfl, hB3⟩; have HB3 := Lib.hid (bt HB2.out hB3); clear hB3 x2 x3) | (go_at_call 33; refine (HA.out _ HB1.out).mono ?_; rintro e w2 ⟨rfl, hB2⟩; have HX2 := Lib.hid (HX.out.below hB2); have x2 := HX2.out.cell (k := 2) rfl; have x3 := HX2.out.cell (k := 3) rfl; have HB2 := Lib.hid (bt HB1.out hB2); clear hB2 x0 x1))
      go_ret
      exact ⟨by simp, HB3.out⟩
  · go_wp2_with (go_at_call 33; refine (HA.out _ HB1.out).mono ?_; rintro e w2 ⟨rfl, hB2⟩; have HB2 := Lib.hid (bt HB1.out hB2); clear hB2 x0 x1)
    go_ret
    exact ⟨by simp, HB2.out⟩
end Go.Proofs.YtndagciefnddmaaGreatDoor
namespace Go.Proofs.YtndagciefnddmaaGreatDoor
open Go.RowKit Oct
attribute [local irreducible] wpG
theorem recKv_pcells : ∀ l : List PR, recKv.cells l = pcells l
  | [] => rfl
  | x :: l => by rw [Rec.cells, recKv_pcells l]; rfl
theorem recKv_rp {w : World} {v : Value} {l : List PR} (h : recKv.Row w v l) : RP w v l := ⟨by rw [← recKv_pcells]; exact h.1, h.2⟩
theorem rp_recKv {w : World} {v : Value} {l : List PR} (h : RP w v l) : recKv.Row w v l := ⟨by rw [recKv_pcells]; exact h.1, h.2⟩
theorem wpG_nilJP {P : Program} {ops : Array Oper} {C : World → Prop} {R : World → World → Prop} {F : Nat → Option (Known R)} {Q : Facts → Act → Prop} {k : Nat} {S : Facts} {a : Act} (h : Q S a) : wpG P ops C R F Q k [] S a := by unfold wpG; exact h
theorem wpList_guardJ {P : Program} {ops : Array Oper} {Q : Exit → Act → World → Prop} {rest : List Oper} {a : Act} {w : World} {dst : Option Tmp} {op : Op} {ty : TypeId} {pos : String} {after : Array Edge} {g : Nat × Bool}
    (hw : Region.wanted ⟨dst, op, ty, pos, after, some g⟩ (yielded ops a.tmps) = true) (h : wpList P ops Q (⟨dst, op, ty, pos, after, none⟩ :: rest) a w) : wpList P ops Q (⟨dst, op, ty, pos, after, some g⟩ :: rest) a w := by
  have hn : Region.wanted ⟨dst, op, ty, pos, after, none⟩ (yielded ops a.tmps) = true := rfl
  have e : ∀ next, Oper.wp P ⟨dst, op, ty, pos, after, some g⟩ a w next Q = Oper.wp P ⟨dst, op, ty, pos, after, none⟩ a w next Q := fun next => by
    unfold Oper.wp execOp Oper.upon
    rfl
  have e2 : Oper.asks P ⟨dst, op, ty, pos, after, some g⟩ a w = Oper.asks P ⟨dst, op, ty, pos, after, none⟩ a w := rfl
  simp only [wpList, hw, if_true, e, e2]
  simpa only [wpList, hn, if_true] using h
theorem long18_row {rows : List (List PR)} {row : List PR} (h : long18 (rows ++ [row]) = false) : rows.length ≤ 19 ∧ row.length ≤ 100 := by
  obtain ⟨h1, h2⟩ := long18_le _ h
  have := (h2 row (by simp)).1
  rw [List.length_append] at h1
  simp at h1
  exact ⟨by omega, this⟩
theorem rows_mem {rows : List (List PR)} {row : List PR} (h1 : ∀ r ∈ rows, r.length ≤ 4398046511104 ∧ ∀ p ∈ r, p.1.length ≤ 140737488355328 ∧ p.2.length ≤ 140737488355328) (h2 : row.length ≤ 4398046511104) (h3 : ∀ p ∈ row, p.1.length ≤ 140737488355328 ∧ p.2.length ≤ 140737488355328) :
    ∀ r ∈ rows ++ [row], r.length ≤ 140737488355328 ∧ ∀ p ∈ r, p.1.length ≤ 140737488355328 ∧ p.2.length ≤ 140737488355328 := by
  intro r hr
  rcases List.mem_append.1 hr with hr | hr
  · exact ⟨Nat.le_trans (h1 r hr).1 (by decide), (h1 r hr).2⟩
  · rw [List.mem_singleton.1 hr]
    exact ⟨Nat.le_trans h2 (by decide), h3⟩
theorem by24 {n : Nat} (h : n ≤ 5864062014634) : n * 24 ≤ 140737488355328 ∧ (n + 1) * 24 ≤ 140737488355328 := by omega
set_option maxRecDepth 100000 in
set_option maxHeartbeats 8000000 in
theorem ReduceTells_any (t1 c1 t2 c2 t3 c3 : Value) (j : Jb) (v1 : Value) (row : List PR) (v2 : Value) (rows : List (List PR)) (w : World) (hj : JobQ w t1 c1 t2 c2 t3 c3 j)
    (hr1 : RP w v1 row) (hl1 : row.length ≤ 4398046511104) (hm1 : ∀ p ∈ row, p.1.length ≤ 140737488355328 ∧ p.2.length ≤ 140737488355328)
    (hr2 : RR w v2 rows) (hl2 : rows.length ≤ 5864062014634) (hm2 : ∀ r ∈ rows, r.length ≤ 4398046511104 ∧ ∀ p ∈ r, p.1.length ≤ 140737488355328 ∧ p.2.length ≤ 140737488355328)
    (hE : EffM w) (hg : 1 < w.heap.size) (hG : GlobV w) (hdo : doesAt w) :
    Calls Tryz.prog 3 #[jobV t1 c1 t2 c2 t3 c3 j, v1, v2] w fun e w' => e = .returned (.bool true) ∧ Below w.heap.size w w' := by
  have HLA := Lib.hid (fun w' (hB : Below w.heap.size w w') => Large15_any t1 c1 t2 c2 t3 c3 j w' (hj.below hB))
  have HSL := Lib.hid (fun w' (hB : Below w.heap.size w w') => Slow_any t1 c1 t2 c2 t3 c3 j w' (hj.below hB))
  have HAV := Lib.hid (fun w' (hB : Below w.heap.size w w') => alive20_any w' (hE.below hB hg) (Nat.lt_of_lt_of_le hg hB.size) (hG.below hB) (hdo.below hB))
  have HLO := Lib.hid (fun (v : Value) w' (hr : RR w' v (rows ++ [row])) => Long18_any v (rows ++ [row]) w' hr (by rw [List.length_append]; simp; omega) (rows_mem hm2 hl1 hm1))
  have HJR := Lib.hid (fun (hl : largeJ j = false) => hj.job hl hE hg hG)
  have HTE := Lib.hid (fun (hl : largeJ j = false) (v : Value) w' (hB : Below w.heap.size w w') (hr : RP w' v row) => Tell20_any t1 c1 t2 c2 t3 c3 v j row w' ((HJR.out hl).below hB) (hdo.below hB) hr (Nat.le_trans hl1 (by decide)) hm1)
  have HRT := Lib.hid (fun (hl : largeJ j = false) (v : Value) w' (hB : Below w.heap.size w w') (hr : RP w' v row) => rTell20_any t1 c1 t2 c2 t3 c3 v j row w' ((HJR.out hl).below hB) hr (Nat.le_trans hl1 (by decide)) hm1)
  have HSZ := Lib.hid (fun (hl : largeJ j = false) (v : Value) w' (hB : Below w.heap.size w w') (hr : RP w' v row) => Size20_any t1 c1 t2 c2 t3 c3 v j row w' ((HJR.out hl).below hB) (hdo.below hB) hr (Nat.le_trans hl1 (by decide)) hm1)
  have HAL2 := Lib.hid (fun (hl : largeJ j = false) (v : Value) (h1 : rows.length ≤ 1000000) w' (hB : Below w.heap.size w w') (hr : RR w' v rows) => All20_any t1 c1 t2 c2 t3 c3 v j rows w' ((HJR.out hl).below hB) (hdo.below hB) hr h1 (fun r h => ⟨Nat.le_trans (hm2 r h).1 (by decide), (hm2 r h).2⟩))
  have HRA := Lib.hid (fun (hl : largeJ j = false) (v : Value) (h1 : rows.length ≤ 1000000) w' (hB : Below w.heap.size w w') (hr : RR w' v rows) => rAll20_any t1 c1 t2 c2 t3 c3 v j rows w' ((HJR.out hl).below hB) hr h1 (fun r h => ⟨Nat.le_trans (hm2 r h).1 (by decide), (hm2 r h).2⟩))
  obtain ⟨ta, tc, rfl, -, -⟩ := recS_open hj.a.t
  obtain ⟨ca, cc, rfl, -, -⟩ := recIns_open hj.a.c
  obtain ⟨ta2, tc2, rfl, -, -⟩ := recS_open hj.b.t
  obtain ⟨ca2, cc2, rfl, -, -⟩ := recIns_open hj.b.c
  obtain ⟨ta3, tc3, rfl, -, -⟩ := recS_open hj.c.t
  obtain ⟨ca3, cc3, rfl, -, -⟩ := recIns_open hj.c.c
  unfold jobV at HLA HSL HTE HRT HSZ HAL2 HRA ⊢
  obtain ⟨P, hP⟩ : ∃ P, P = j.parts := ⟨_, rfl⟩
  obtain ⟨F, hF⟩ : ∃ F, F = j.fuel := ⟨_, rfl⟩
  rw [← hP, ← hF] at HLA HSL HTE HRT HSZ HAL2 HRA ⊢
  clear hP hF
  obtain ⟨a1, k1, rfl, _, -⟩ := hr1.open
  obtain ⟨sl0, hsl0, hslr0⟩ := hr2.sl
  have HSR := Lib.hid hsl0
  have HSS := Lib.hid hslr0
  have hsn : sl0.length = rows.length := hslr0.1
  have HSN := Lib.hid hsn
  obtain ⟨a2, k2, rfl, _, _, -⟩ := id hr2
  obtain ⟨W1, hW1⟩ : ∃ W1, W1 = w.alloc (.cells #[.slice ta j.mt.length tc, .slice ca j.mc.length cc, .slice ta2 j.jt.length tc2, .slice ca2 j.jc.length cc2, .slice ta3 j.tt.length tc3, .slice ca3 j.tc.length cc3, .int .i64 P, .int .i64 F] 27) := ⟨_, rfl⟩
  have hb1 : Below w.heap.size w W1 := by rw [hW1]; exact b_alloc _ _
  obtain ⟨J, hJ⟩ : ∃ J, J = w.heap.size := ⟨_, rfl⟩
  have hx : Blk W1 J 27 [.slice ta j.mt.length tc, .slice ca j.mc.length cc, .slice ta2 j.jt.length tc2, .slice ca2 j.jc.length cc2, .slice ta3 j.tt.length tc3, .slice ca3 j.tc.length cc3, .int .i64 P, .int .i64 F] := by rw [hJ, hW1]; exact Blk.new w _ _
  have HB1 := Lib.hid hb1
  have HX1 := Lib.hid hx
  have HA1 := Lib.hid (hr1.below hb1)
  have HR1 := Lib.hid (hr2.below hb1)
  have x0 := HX1.out.cell (k := 0) rfl
  have x1 := HX1.out.cell (k := 1) rfl
  have x2 := HX1.out.cell (k := 2) rfl
  have x3 := HX1.out.cell (k := 3) rfl
  have x4 := HX1.out.cell (k := 4) rfl
  have x5 := HX1.out.cell (k := 5) rfl
  have x6 := HX1.out.cell (k := 6) rfl
  have x7 := HX1.out.cell (k := 7) rfl
  have HB24 := Lib.hid (by24 hl2)
  have h24 := by24 hl2
  go_enter Tryz.func3, Tryz.ntmps3
  go_upto_region 1 with fail
  rw [← hW1, ← hJ]
  have HRP0 := Lib.hid hr1
  have HRR0 := Lib.hid hr2
  clear hW1 hJ hb1 hx hj hr1 hr2 hl1 hm1 hl2 hm2 hE hg hG hdo hsl0 hslr0 hsn h24
  by_cases hla : largeJ j = true
  · rw [hla] at HLA
    clear hla
    go_wp2_with (first | (go_at_call 9; refine (HAV.out _ HB2.out).mono ?_; rintro e w3 ⟨rfl, hB3⟩; have HB3 := Lib.hid (bt HB2.out hB3); clear hB3) | (go_at_call 6; refine (HLA.out _ HB1.out).mono ?_; rintro e w2 ⟨rfl, hB2⟩; have HB2 := Lib.hid (bt HB1.out hB2); clear hB2 x0 x1 x2 x3 x4 x5 x6 x7))
    go_ret
    exact ⟨rfl, HB3.out⟩
  · have hlf : largeJ j = false := by cases q : largeJ j with
      | false => rfl
      | true => exact absurd q hla
    rw [hlf] at HLA
    go_wp2_with fail
    refine (HLA.out _ HB1.out).mono ?_
    rintro e w2 ⟨rfl, hB2⟩
    have HX2 := Lib.hid (HX1.out.below hB2)
    have HB2 := Lib.hid (bt HB1.out hB2)
    clear hB2 x0 x1 x2 x3 x4 x5 x6 x7 hla
    have x0 := HX2.out.cell (k := 0) rfl
    have x1 := HX2.out.cell (k := 1) rfl
    have x2 := HX2.out.cell (k := 2) rfl
    have x3 := HX2.out.cell (k := 3) rfl
    have x4 := HX2.out.cell (k := 4) rfl
    have x5 := HX2.out.cell (k := 5) rfl
    have x6 := HX2.out.cell (k := 6) rfl
    have x7 := HX2.out.cell (k := 7) rfl
    by_cases hs : slowJ j = true
    · rw [hs] at HSL
      clear hs hlf
      go_wp2_with (first | (go_at_call 9; refine (HAV.out _ HB3.out).mono ?_; rintro e w4 ⟨rfl, hB4⟩; have HB4 := Lib.hid (bt HB3.out hB4); clear hB4) | (go_at_call 7; refine (HSL.out _ HB2.out).mono ?_; rintro e w3 ⟨rfl, hB3⟩; have HB3 := Lib.hid (bt HB2.out hB3); clear hB3 x0 x1 x2 x3 x4 x5 x6 x7))
      go_ret
      exact ⟨rfl, HB4.out⟩
    · have hsf : slowJ j = false := by cases q : slowJ j with
        | false => rfl
        | true => exact absurd q hs
      rw [hsf] at HSL
      have HLF := Lib.hid hlf
      clear hs hsf hlf
      go_wp2_with fail
      refine (HSL.out _ HB2.out).mono ?_
      rintro e w3 ⟨rfl, hB3⟩
      have HX3 := Lib.hid (HX2.out.below hB3)
      have HB3 := Lib.hid (bt HB2.out hB3)
      clear hB3 x0 x1 x2 x3 x4 x5 x6 x7
      go_wp2_with (at_builtin; go_must (refine wpList_guardJ (by rfl) ?_; refine recSl.append w3 rfl _ _ 29 rfl Tryz.underlying29 w3.heap.size (.slice none 0 0) [] (Rec.Own.nil _ _) rfl (.slice a2 rows.length k2) sl0 (HSR.out.below HB3.out) rfl (by rw [List.length_nil, Nat.zero_add, HSN.out]; exact HB24.out.1) (Nat.le_refl _) ?_))
      intro v4 w4 hown4 hB4
      try rw [List.nil_append] at hown4
      obtain ⟨a4, k4, rfl⟩ := owns_slice hown4
      rw [HSN.out] at hown4
      have HO4 := Lib.hid hown4
      have HB34 := Lib.hid hB4
      rw [HSN.out]
      clear hown4 hB4
      go_wp2_with (at_builtin; go_must (refine wpList_guardJ (by rfl) ?_; refine recSl.append1 w4 (a1, row.length, k1) rfl _ _ 29 rfl Tryz.underlying29 w3.heap.size _ sl0 HO4.out rfl _ rfl _ rfl _ rfl (by rw [HSN.out]; exact HB24.out.2) HB34.out.size ?_))
      intro g5 k5 w5 hown5 hB5
      rw [HSN.out] at hown5 ⊢
      have HB35 := Lib.hid (HB34.out.trans hB5)
      have HB5 := Lib.hid (HB3.out.trans (HB35.out.mono HB3.out.size))
      have HX5 := Lib.hid (HX3.out.below HB35.out)
      have HRR5 := Lib.hid (recSl_rr hown5.row (SlR.snoc (HSS.out.below HB5.out) (HRP0.out.below HB5.out)))
      clear hown5 hB5
      by_cases hlo : long18 (rows ++ [row]) = true
      · rw [hlo] at HLO
        clear hlo
        go_wp2_with (first | (go_at_call 9; refine (HAV.out _ HB6.out).mono ?_; rintro e w7 ⟨rfl, hB7⟩; have HB7 := Lib.hid (bt HB6.out hB7); clear hB7) | (go_at_call 8; refine (HLO.out _ w5 HRR5.out).mono ?_; rintro e w6 ⟨rfl, hB6⟩; have HB6 := Lib.hid (bt HB5.out hB6); clear hB6))
        go_ret
        exact ⟨rfl, HB7.out⟩
      · have hlof : long18 (rows ++ [row]) = false := by cases q : long18 (rows ++ [row]) with
          | false => rfl
          | true => exact absurd q hlo
        rw [hlof] at HLO
        have HLR := Lib.hid (long18_row hlof)
        clear hlo hlof
        go_upto_region 3 with (go_at_call 8; refine (HLO.out _ w5 HRR5.out).mono ?_; rintro e w6 ⟨rfl, hB6⟩; have HX6 := Lib.hid (HX5.out.below hB6); have HB6 := Lib.hid (bt HB5.out hB6); clear hB6)
        have HGT := Lib.hid (HTE.out HLF.out)
        have HGR := Lib.hid (HRT.out HLF.out)
        have HGS := Lib.hid (HSZ.out HLF.out)
        have HGA := Lib.hid (fun v => HAL2.out HLF.out v (by have := HLR.out.1; omega))
        have HGB := Lib.hid (fun v => HRA.out HLF.out v (by have := HLR.out.1; omega))
        have HTL := Lib.hid (tellJ_len j row)
        have HALN := Lib.hid (allJ_len j rows)
        obtain ⟨R, hR⟩ : ∃ R, R = tellJ j row := ⟨_, rfl⟩
        obtain ⟨A, hA⟩ : ∃ A, A = allJ j rows := ⟨_, rfl⟩
        rw [← hR] at HGT HGR HGS HTL
        rw [← hA] at HGA HGB HALN
        clear hR hA HTE HRT HSZ HAL2 HRA HLO HRR5
        refine region_known [(0, .exact _ (.agg #[.slice ta j.mt.length tc, .slice ca j.mc.length cc, .slice ta2 j.jt.length tc2, .slice ca2 j.jc.length cc2, .slice ta3 j.tt.length tc3, .slice ca3 j.tc.length cc3, .int .i64 P, .int .i64 F])), (2, kOwnV recKv w6.heap.size row), (3, .exact _ (.tuple #[.string (bs R.1), .string (bs R.2.1), .int .i64 (R.2.2 : Int)]))] (by kernel_rfl) (by kernel_rfl) ?_
        (repeat (first | (refine wpG_skip (by kernel_rfl) (fun K hK => ?_); go_big_quiet_skip; refine wpQuiet_nil (hK _ ?_); clear hK K) | (refine wpG_quiet (by rfl) (by rfl) (fun K hK => ?_); go_big_quiet_want; go_big_quiet_op; go_big_quiet_on; refine wpQuiet_nil (hK _ ?_); clear hK K) | (refine wpG_nilOk rfl rfl rfl (by kernel_rfl) (fun K hK => ?_); go_simp; refine hK _ ?_; clear hK K)))
        refine wpG_exact rfl (by kernel_rfl) (fun w' G hB hS hG => ?_) (fun K hK => ?_)
        · have hx := HX6.out.below hB
          have y0 := hx.cell (k := 0) rfl
          have y1 := hx.cell (k := 1) rfl
          have y2 := hx.cell (k := 2) rfl
          have y3 := hx.cell (k := 3) rfl
          have y4 := hx.cell (k := 4) rfl
          have y5 := hx.cell (k := 5) rfl
          have y6 := hx.cell (k := 6) rfl
          have y7 := hx.cell (k := 7) rfl
          go_simp; exact hG _ (Bel.refl _)
        go_simp; refine hK _ ?_; clear hK K; (repeat (first | (refine wpG_skip (by kernel_rfl) (fun K hK => ?_); go_big_quiet_skip; refine wpQuiet_nil (hK _ ?_); clear hK K) | (refine wpG_quiet (by rfl) (by rfl) (fun K hK => ?_); go_big_quiet_want; go_big_quiet_op; go_big_quiet_on; refine wpQuiet_nil (hK _ ?_); clear hK K) | (refine wpG_nilOk rfl rfl rfl (by kernel_rfl) (fun K hK => ?_); go_simp; refine hK _ ?_; clear hK K)))
        refine wpG_known (kOwnV recKv w6.heap.size row) rfl (by kernel_rfl) (fun w' G hB hS hG => ?_) (fun x K hK => ?_)
        · exact recKv.grow_copy _ _ 28 rfl Tryz.underlying28 w6.heap.size rfl _ row (rp_recKv (HRP0.out.below (bt HB6.out hB))) rfl (by show row.length * 32 ≤ _; have := HLR.out.2; omega) hB.size (fun A C w'' ho hb => hG (A, C) w'' hb (fun φ h => by cases h; exact ho))
        obtain ⟨ad, c⟩ := x; go_simp; refine hK _ ?_; clear hK K; (repeat (first | (refine wpG_skip (by kernel_rfl) (fun K hK => ?_); go_big_quiet_skip; refine wpQuiet_nil (hK _ ?_); clear hK K) | (refine wpG_quiet (by rfl) (by rfl) (fun K hK => ?_); go_big_quiet_want; go_big_quiet_op; go_big_quiet_on; refine wpQuiet_nil (hK _ ?_); clear hK K) | (refine wpG_nilOk rfl rfl rfl (by kernel_rfl) (fun K hK => ?_); go_simp; refine hK _ ?_; clear hK K)))
        refine wpG_exact rfl (by kernel_rfl) (fun w' G hB hS hG => ?_) (fun K hK => ?_)
        · have hown0 : recKv.Own w' w6.heap.size (.slice ad row.length c) row := at0 hS (by kernel_rfl)
          have hown := recKv_rp hown0.row
          have hu := HGT.out _ w' (bt HB6.out hB) hown
          go_simp
          exact calls_told hG hu
        go_simp; refine hK _ ?_; clear hK K; (repeat (first | (refine wpG_skip (by kernel_rfl) (fun K hK => ?_); go_big_quiet_skip; refine wpQuiet_nil (hK _ ?_); clear hK K) | (refine wpG_quiet (by rfl) (by rfl) (fun K hK => ?_); go_big_quiet_want; go_big_quiet_op; go_big_quiet_on; refine wpQuiet_nil (hK _ ?_); clear hK K) | (refine wpG_nilOk rfl rfl rfl (by kernel_rfl) (fun K hK => ?_); go_simp; refine hK _ ?_; clear hK K)))
        refine wpG_nilJP ?_
        intro w7 hB7 hA7
        have HX7 := Lib.hid (HX6.out.below hB7)
        have HB7 := Lib.hid (bt HB6.out hB7)
        clear hA7 hB7
        have x0 := HX7.out.cell (k := 0) rfl
        have x1 := HX7.out.cell (k := 1) rfl
        have x2 := HX7.out.cell (k := 2) rfl
        have x3 := HX7.out.cell (k := 3) rfl
        have x4 := HX7.out.cell (k := 4) rfl
        have x5 := HX7.out.cell (k := 5) rfl
        have x6 := HX7.out.cell (k := 6) rfl
        have x7 := HX7.out.cell (k := 7) rfl
        go_wp2_with fail
        refine (HGR.out _ w7 HB7.out (HRP0.out.below HB7.out)).mono ?_
        rintro e w8 ⟨rfl, hB8⟩
        have HX8 := Lib.hid (HX7.out.below hB8)
        have HB8 := Lib.hid (bt HB7.out hB8)
        clear hB8 x0 x1 x2 x3 x4 x5 x6 x7
        have x0 := HX8.out.cell (k := 0) rfl
        have x1 := HX8.out.cell (k := 1) rfl
        have x2 := HX8.out.cell (k := 2) rfl
        have x3 := HX8.out.cell (k := 3) rfl
        have x4 := HX8.out.cell (k := 4) rfl
        have x5 := HX8.out.cell (k := 5) rfl
        have x6 := HX8.out.cell (k := 6) rfl
        have x7 := HX8.out.cell (k := 7) rfl
        go_wp2_with fail
        refine (HGS.out _ w8 HB8.out (HRP0.out.below HB8.out)).mono ?_
        rintro e w9 ⟨rfl, hB9⟩
        have HX9 := Lib.hid (HX8.out.below hB9)
        have HB9 := Lib.hid (bt HB8.out hB9)
        clear hB9 x0 x1 x2 x3 x4 x5 x6 x7
        have x0 := HX9.out.cell (k := 0) rfl
        have x1 := HX9.out.cell (k := 1) rfl
        have x2 := HX9.out.cell (k := 2) rfl
        have x3 := HX9.out.cell (k := 3) rfl
        have x4 := HX9.out.cell (k := 4) rfl
        have x5 := HX9.out.cell (k := 5) rfl
        have x6 := HX9.out.cell (k := 6) rfl
        have x7 := HX9.out.cell (k := 7) rfl
        go_wp2_with fail
        refine (HGA.out _ w9 HB9.out (HRR0.out.below HB9.out)).mono ?_
        rintro e w10 ⟨⟨tv, rfl, ho⟩, hB10⟩
        have HX10 := Lib.hid (HX9.out.below hB10)
        obtain ⟨ma, mk, rfl⟩ := owns_slice ho
        have HO10 := Lib.hid ho.row
        clear ho
        have HB10 := Lib.hid (bt HB9.out hB10)
        clear hB10 x0 x1 x2 x3 x4 x5 x6 x7
        have x0 := HX10.out.cell (k := 0) rfl
        have x1 := HX10.out.cell (k := 1) rfl
        have x2 := HX10.out.cell (k := 2) rfl
        have x3 := HX10.out.cell (k := 3) rfl
        have x4 := HX10.out.cell (k := 4) rfl
        have x5 := HX10.out.cell (k := 5) rfl
        have x6 := HX10.out.cell (k := 6) rfl
        have x7 := HX10.out.cell (k := 7) rfl
        go_wp2_with fail
        refine (HGB.out _ w10 HB10.out (HRR0.out.below HB10.out)).mono ?_
        rintro e w11 ⟨⟨tv, rfl, ho⟩, hB11⟩
        have HX11 := Lib.hid (HX10.out.below hB11)
        obtain ⟨mb, ml, rfl⟩ := owns_slice ho
        have HO11 := Lib.hid (HO10.out.below hB11)
        have HP11 := Lib.hid ho.row
        clear ho
        have HB11 := Lib.hid (bt HB10.out hB11)
        clear hB11 x0 x1 x2 x3 x4 x5 x6 x7
        go_wp2_with fail
        refine (same01_any _ _ A.1 A.1 w11 HO11.out HP11.out (by have := HALN.out.1; have := HLR.out.1; omega) (by have := HALN.out.1; have := HLR.out.1; omega)).mono ?_
        rw [decide_eq_true rfl]
        rintro e w12 ⟨rfl, hB12⟩
        have HB12 := Lib.hid (bt HB11.out hB12)
        clear hB12
        go_wp2_with (go_at_call 9; refine (HAV.out _ HB12.out).mono ?_; rintro e w13 ⟨rfl, hB13⟩; have HB13 := Lib.hid (bt HB12.out hB13); clear hB13)
        go_ret
        exact ⟨rfl, HB13.out⟩
end Go.Proofs.YtndagciefnddmaaGreatDoor
namespace Go.Proofs.YtndagciefnddmaaGreatDoor
open Go.ChangeShapes Go.WideShapes Go.ChangeAt Go.RowKit Oct
open Go.ChangeMaps (open_string shut_string)
section
variable {P : Program} {H : Type} {enc : TypeId × Value → H} {W : World} {base : Nat}
theorem add_cell {w : World} {a : Addr} {i : Nat} {u : Value} (h : w.cell? (a.add i) = some u) : a.add i = ⟨a.block, a.off + i, none⟩ := by
  unfold Addr.add at h ⊢
  split
  · rename_i hi
    rw [if_pos hi] at h
    subst hi
    cases a with
    | mk b o sp =>
      cases sp with
      | none => rfl
      | some x => exfalso; revert h; simp only [World.cell?]; split <;> simp
  · rfl
end
end Go.Proofs.YtndagciefnddmaaGreatDoor
namespace Go.Proofs.YtndagciefnddmaaGreatDoor
open Go.ChangeShapes Go.WideShapes Go.ChangeAt Go.RowKit Oct
open Go.ChangeMaps (open_string shut_string)
section
variable {P : Program} {H : Type} {enc : TypeId × Value → H} {W : World} {α β γ : Type}
def Opens (enc : TypeId × Value → H) (P : Program) (W : World) (t : TypeId) (mu : α → Nat) (He : List Value → α → Prop) : Prop :=
  ∀ n cs d ps, DataW.trod enc P W 0 (fun _ => true) true n t cs = some (d, ps) → (∀ x ∈ d.weights P t, x ≤ reachBytes) → ∃ x, He cs x ∧ mu x ≤ Rows.uptoBulk d
theorem bulk_range (D : Nat → DataW H) (f : Nat → α) (mu : α → Nat) : ∀ n, (∀ i, i < n → mu (f i) ≤ Rows.uptoBulk (D i)) → (((List.range n).map f).map mu).sum ≤ Rows.uptoBulkAll ((List.range n).map D)
  | 0, _ => by simp
  | n + 1, h => by
    have ih := bulk_range D f mu n (fun i hi => h i (by omega))
    have app : ∀ (l r : List (DataW H)), Rows.uptoBulkAll (l ++ r) = Rows.uptoBulkAll l + Rows.uptoBulkAll r := by
      intro l r
      induction l with
      | nil => simp [Rows.uptoBulkAll]
      | cons x l ih => simp only [List.cons_append, Rows.uptoBulkAll, ih]; omega
    have := h n (by omega)
    simp only [List.range_succ, List.map_append, List.sum_append, app, List.map_cons, List.map_nil, List.sum_cons, List.sum_nil, Rows.uptoBulkAll]
    omega
theorem Opens.imp {t : TypeId} {mu : α → Nat} {He He' : List Value → α → Prop} (h : Opens enc P W t mu He) (hi : ∀ cs x, He cs x → He' cs x) : Opens enc P W t mu He' := by
  intro n cs d ps hd hw
  obtain ⟨x, hx, hb⟩ := h n cs d ps hd hw
  exact ⟨x, hi _ _ hx, hb⟩
def SliceOf (W : World) (size : Nat) (He : List Value → α → Prop) (v : Value) (xs : List α) : Prop :=
  ∃ a cap, v = .slice a xs.length cap ∧ xs.length ≤ cap ∧ (a = none → xs.length = 0 ∧ cap = 0) ∧
    ∀ k (h : k < xs.length), ∃ b off cs, a = some ⟨b, off, none⟩ ∧ cs.length = size ∧ (∀ j u, cs[j]? = some u → W.cell? ⟨b, off + k * size + j, none⟩ = some u) ∧ He cs xs[k]
theorem weights_all_mem (e : TypeId) : ∀ (ds : List (DataW H)) (d : DataW H), d ∈ ds → ∀ x ∈ d.weights P e, x ∈ DataW.weightsAll P e ds
  | [], _, h => by simp at h
  | d0 :: ds, d, h => by
    intro x hx
    rw [DataW.weightsAll]
    rcases List.mem_cons.1 h with rfl | h
    · exact List.mem_append.2 (.inl hx)
    · exact List.mem_append.2 (.inr (weights_all_mem e ds d h x hx))
theorem opens_str {t : TypeId} (ht : P.underlying t = some .string) : Opens enc P W t (fun l : List UInt8 => l.length + 1) fun cs (l : List UInt8) => cs = [.string (bs l)] ∧ l.length ≤ 140737488355328 := by
  intro n cs d ps h hw
  obtain ⟨s, rfl, hx, _⟩ := DataW.trod_string ht h
  simp only [Prod.mk.injEq] at hx
  obtain ⟨rfl, rfl⟩ := hx
  have := hw s.data.toList.length (by simp [DataW.weights])
  have h2 := reachBytes_lt
  exact ⟨s.data.toList, ⟨by rw [bs_of], by omega⟩, by simp [Rows.uptoBulk]⟩
theorem opens_int {t : TypeId} {k : IntKind} (ht : P.underlying t = some (.int k)) : Opens enc P W t (fun _ => 1) fun cs (a : Int) => cs = [.int k a] ∧ (Lit.int k a).wf = true := by
  intro n cs d ps h hw
  obtain ⟨a, rfl, hx, hwf⟩ := DataW.trod_int ht h
  simp only [Prod.mk.injEq] at hx
  obtain ⟨rfl, rfl⟩ := hx
  exact ⟨a, ⟨rfl, hwf⟩, by simp [Rows.uptoBulk]⟩
theorem opens_struct2 {t : TypeId} {f0 f1 : Field} {c0 c1 : Nat} {m0 : α → Nat} {m1 : β → Nat} {H0 : List Value → α → Prop} {H1 : List Value → β → Prop} (ht : P.underlying t = some (.struct #[f0, f1])) (hc : P.cellsOf t = c0 + c1)
    (hc0 : P.cellsOf f0.type = c0) (hc1 : P.cellsOf f1.type = c1) (o0 : f0.offset = 0) (o1 : f1.offset = c0)
    (h0 : Opens enc P W f0.type m0 H0) (h1 : Opens enc P W f1.type m1 H1) : Opens enc P W t (fun p => m0 p.1 + m1 p.2 + 1) fun cs (p : α × β) => ∃ cs0 cs1, cs = cs0 ++ cs1 ∧ cs0.length = c0 ∧ cs1.length = c1 ∧ H0 cs0 p.1 ∧ H1 cs1 p.2 := by
  intro n cs d ps h hw
  obtain ⟨y0, y1, m, hx, hl, e0, e1⟩ := trod_struct2 ht h
  simp only [Prod.mk.injEq] at hx
  obtain ⟨rfl, rfl⟩ := hx
  have hw' : ∀ x, x ∈ y0.1.weights P f0.type ∨ x ∈ y1.1.weights P f1.type → x ≤ reachBytes := by
    intro x hx
    refine hw x ?_
    simp only [DataW.weights, ht, DataW.weightsEach, List.map_cons, List.mem_append]
    rcases hx with hx | hx
    · exact .inl hx
    · exact .inr (.inl hx)
  obtain ⟨x0, k0, b0⟩ := h0 _ _ _ _ e0 (fun x hx => hw' x (.inl hx))
  obtain ⟨x1, k1, b1⟩ := h1 _ _ _ _ e1 (fun x hx => hw' x (.inr hx))
  rw [o0, hc0, List.drop_zero] at k0
  rw [o1, hc1] at k1
  refine ⟨(x0, x1), ⟨cs.take c0, (cs.drop c0).take c1, ?_, ?_, ?_, k0, k1⟩, by simp only [Rows.uptoBulk, Rows.uptoBulkAll]; omega⟩
  · have : (cs.drop c0).take c1 = cs.drop c0 := List.take_of_length_le (by simp; omega)
    rw [this, List.take_append_drop]
  · simp; omega
  · simp; omega
theorem opens_slice {t e : TypeId} {size : Nat} {mu : α → Nat} {He : List Value → α → Prop} (ht : P.underlying t = some (.slice e)) (hc : P.cellsOf e = size) (hpos : 0 < size) (he : Opens enc P W e mu He) :
    Opens enc P W t (fun xs => (xs.map mu).sum + 1) fun cs (xs : List α) => ∃ v, cs = [v] ∧ SliceOf W size He v xs ∧ xs.length * P.bytesOf e ≤ reachBytes := by
  intro n cs d ps h hw
  rcases Deep.open_slice ht h with ⟨rfl, hx⟩ | ⟨a, len, cap, m, n', D, Pl, rfl, _, hl, hm, hmm, hx, hcell⟩
  · simp only [Prod.mk.injEq] at hx
    obtain ⟨rfl, _⟩ := hx
    exact ⟨[], ⟨_, rfl, ⟨none, 0, rfl, Nat.le_refl _, fun _ => ⟨rfl, rfl⟩, fun k hk => by simp at hk⟩, by simp⟩, by simp [Rows.uptoBulk]⟩
  · simp only [Prod.mk.injEq] at hx
    obtain ⟨rfl, _⟩ := hx
    simp only [if_true] at hmm
    subst hmm
    have hin : ∀ i, i < len → ∀ x ∈ (D i).weights P e, x ≤ reachBytes := by
      intro i hi x hx
      refine hw x ?_
      simp only [DataW.weights, ht]
      exact List.mem_cons.2 (.inr (List.mem_append.2 (.inl (weights_all_mem e _ (D i) (List.mem_map.2 ⟨i, by simpa using hi, rfl⟩) x hx))))
    have each : ∀ i, i < len → ∃ x : α, (∃ cs', W.cells? 0 (a.add (i * size)) size = some cs' ∧ He cs' x) ∧ mu x ≤ Rows.uptoBulk (D i) := by
      intro i hi
      obtain ⟨cs', h1, h2⟩ := hcell i (by omega)
      rw [hc] at h1
      obtain ⟨x, hx, hb⟩ := he _ _ _ _ h2 (hin i hi)
      exact ⟨x, ⟨cs', h1, hx⟩, hb⟩
    have hlen := hw ((len + (m - len)) * P.bytesOf e) (by simp [DataW.weights, ht])
    have hlb : len * P.bytesOf e ≤ (len + (m - len)) * P.bytesOf e := Nat.mul_le_mul_right _ (by omega)
    by_cases h0 : len = 0
    · subst h0
      exact ⟨[], ⟨_, rfl, ⟨some a, m, rfl, Nat.zero_le _, by simp, fun k hk => by simp at hk⟩, by simp⟩, by simp [Rows.uptoBulk]⟩
    obtain ⟨x0, _⟩ := each 0 (by omega)
    haveI : Inhabited α := ⟨x0⟩
    obtain ⟨f, hf⟩ := Deep.choose_lt each
    have haddr : a = ⟨a.block, a.off, none⟩ := by
      obtain ⟨⟨cs', h1, _⟩, _⟩ := hf 0 (by omega)
      obtain ⟨_, hl', hcs⟩ := World.cells?_some h1
      have h2 := hcs 0 (by omega)
      rw [Nat.zero_mul] at h2
      have h3 : ∃ u, cs'[0]? = some u := ⟨cs'[0]'(by omega), List.getElem?_eq_getElem _⟩
      obtain ⟨u, hu⟩ := h3
      rw [hu] at h2
      have := add_cell (a := a.add 0) (i := 0) h2
      simpa [Addr.add] using this
    have hbulk := bulk_range D f mu len (fun i hi => (hf i hi).2)
    refine ⟨(List.range len).map f, ⟨_, rfl, ⟨some a, m, by simp, by simpa using hl, by simp, ?_⟩, ?_⟩, by simp only [Rows.uptoBulk]; omega⟩
    · intro k hk
      have hk' : k < len := by simpa using hk
      obtain ⟨⟨cs', h1, hHe⟩, _⟩ := hf k hk'
      obtain ⟨_, hl', hcs⟩ := World.cells?_some h1
      refine ⟨a.block, a.off, cs', by rw [← haddr], hl', ?_, by simpa using hHe⟩
      intro j u hj
      have hjl : j < size := by
        rcases Nat.lt_or_ge j size with h | h
        · exact h
        · rw [List.getElem?_eq_none (by omega)] at hj; cases hj
      have h2 := hcs j hjl
      rw [haddr, hj, Addr.add_lit, Addr.add_lit] at h2
      rw [← h2]
    · simp only [List.length_map, List.length_range]; omega
theorem open_any {t j : Nat} {v : Value} {d : DataW H} {ps : List MemPlace} {ts : List TypeId} {ds : List (DataW H)} {mu : α → Nat} {He : List Value → α → Prop} (ho : Opens enc P W t mu He)
    (h : DataW.Trod enc P W 0 (fun _ => true) true t v d ps) (hsz : (DataW.weightsEach P ts ds).all (· ≤ reachBytes) = true) (hj : ts[j]? = some t) (hd : ds[j]? = some d) : ∃ x, He v.cells.toList x ∧ mu x ≤ Rows.uptoBulk d := by
  obtain ⟨fuel, hf⟩ := h
  refine ho _ _ _ _ hf fun x hx => ?_
  simpa using List.all_eq_true.1 hsz x (DataW.weights_mem_each hj hd x hx)
theorem cells_slice {base : Nat} {t e : TypeId} {v v' : Value} (ht : P.underlying t = some (.slice e)) (hv : Value.okWide P W .any base t v) (h : v.cells.toList = [v']) : v = v' := by
  obtain ⟨a0, len, cap, rfl⟩ := okWide_slice ht hv
  simpa [Value.cells] using h
end
end Go.Proofs.YtndagciefnddmaaGreatDoor
namespace Go.Proofs.YtndagciefnddmaaGreatDoor
open Go.ChangeShapes Go.WideShapes Go.ChangeAt Go.RowKit Oct
section
variable {H : Type} {enc : TypeId × Value → H} {W : World}
theorem rec_of {α : Type} (R : Rec α) {He : List Value → α → Prop} (hcs0 : ∀ cs x, He cs x → cs = R.cell x) {v : Value} {xs : List α} (h : SliceOf W R.n He v xs) : R.Row W v xs ∧ ∀ x ∈ xs, ∃ cs, He cs x := by
  obtain ⟨a, cap, rfl, hle, hn, hc⟩ := h
  have hpos := R.pos
  refine ⟨⟨⟨a, cap, rfl, hn, ?_⟩, a, cap, rfl, hle⟩, ?_⟩
  · intro j u hj
    have hjl : j < xs.length * R.n := by
      rcases Nat.lt_or_ge j (xs.length * R.n) with h | h
      · exact h
      · rw [List.getElem?_eq_none (by rw [Rec.cells_length]; exact h)] at hj; cases hj
    have hk : j / R.n < xs.length := Nat.div_lt_of_lt_mul (by rw [Nat.mul_comm]; exact hjl)
    obtain ⟨b, off, cs, ha, hl, hcell, hcs⟩ := hc (j / R.n) hk
    obtain rfl := hcs0 _ _ hcs
    refine ⟨b, off, ha, ?_⟩
    have hm : j % R.n < R.n := Nat.mod_lt _ hpos
    have hu : (R.cell xs[j / R.n])[j % R.n]? = some ((R.cell xs[j / R.n])[j % R.n]'(by rw [R.len]; exact hm)) := List.getElem?_eq_getElem _
    have h1 := R.cells_at xs (j / R.n) hk (j % R.n) _ hu
    have e : j / R.n * R.n + j % R.n = j := Nat.div_add_mod' j R.n
    rw [e, hj] at h1
    have h2 := hcell (j % R.n) _ hu
    rw [← Option.some.inj h1, Nat.add_assoc, e] at h2
    exact h2
  · intro p hp
    obtain ⟨k, hk, rfl⟩ := List.getElem_of_mem hp
    obtain ⟨_, _, cs, _, _, _, h⟩ := hc k hk
    exact ⟨cs, h⟩
end
end Go.Proofs.YtndagciefnddmaaGreatDoor
namespace Go.Proofs.YtndagciefnddmaaGreatDoor
open Go.ChangeShapes Go.WideShapes Go.ChangeAt Go.RowKit Oct
theorem u8_nat {a : Int} (h : (Lit.int .u8 a).wf = true) : ∃ r : UInt8, a = (r.toNat : Int) := by
  have h2 : 0 ≤ a ∧ a < 256 := by
    simp [Lit.wf, IntKind.min, IntKind.max, IntKind.signed, IntKind.bits] at h
    omega
  refine ⟨UInt8.ofNat a.toNat, ?_⟩
  rw [UInt8.toNat_ofNat']
  omega
section
variable {H : Type} {enc : TypeId × Value → H} {W : World}
theorem Opens.mapV {P : Program} {α β : Type} {t : TypeId} {mu : α → Nat} {mu' : β → Nat} {He : List Value → α → Prop} {He' : List Value → β → Prop} (h : Opens enc P W t mu He) (hi : ∀ cs x, He cs x → ∃ y, He' cs y ∧ mu' y ≤ mu x) : Opens enc P W t mu' He' := by
  intro n cs d ps hd hw
  obtain ⟨x, hx, hb⟩ := h n cs d ps hd hw
  obtain ⟨y, hy, hm⟩ := hi _ _ hx
  exact ⟨y, hy, Nat.le_trans hm hb⟩
theorem opens_ins : Opens enc Tryz.prog W 92 (fun _ : VI => 0) fun cs x => cs = recIns.cell x := by
  refine Opens.mapV (opens_struct2 (c0 := 1) (c1 := 1) Tryz.underlying92 (by kernel_rfl) (by kernel_rfl) (by kernel_rfl) rfl rfl (opens_int (k := .u8) Tryz.underlying5) (opens_int (k := .u8) Tryz.underlying5)) ?_
  rintro cs ⟨a, b⟩ ⟨cs0, cs1, rfl, _, _, ⟨rfl, h0⟩, rfl, h1⟩
  obtain ⟨r0, rfl⟩ := u8_nat h0
  obtain ⟨r1, rfl⟩ := u8_nat h1
  exact ⟨(r0, r1), rfl, Nat.zero_le _⟩
end
def laidV : List (String × DataW Unit) := [("unicode/utf8.acceptRanges", Rows.laid_unicode_utf8_acceptRanges), ("maslin/verify.effects" /- 1 -/, Rows.laid_maslin_verify_effects), ("unicode/utf8.first", Rows.laid_unicode_utf8_first)]
theorem laid_effs : Rows.laid_maslin_verify_effects (H := Unit) /- 1 238 -/ = .agg (effs.map fun e => .agg [.lit (.string e.1), .lit (.string e.2)]) := by kernel_rfl
theorem str_eqV {s : ByteArray} {l : List UInt8} (h : s.data.toList = l) : Value.string s = .string (bs l) := by subst h; rw [bs_of]
set_option maxRecDepth 100000 in
theorem eff_of_laid {W : World} (h : laidMetH Tryz.prog laidV W) : EffM W ∧ 1 < W.heap.size := by
  rw [MakeChecks.laidMetH_plain _ _ _ (by kernel_rfl)] at h
  obtain ⟨g, t, cs, fuel, p, hg, ht, hv, hd⟩ := Lib.laidMet.reads (n := "maslin/verify.effects") (d := Rows.laid_maslin_verify_effects) h (.tail _ (.head _))
  obtain rfl := Option.some.inj ((show Tryz.prog.globalNamed "maslin/verify.effects" = some 1 by kernel_rfl).symm.trans hg)
  obtain rfl := Option.some.inj ((show (Tryz.prog.globals[1]?).map (·.type) = some 238 by kernel_rfl).symm.trans ht)
  rw [laid_effs] at hd
  obtain ⟨xs, m, _, ex, _, hl, hel⟩ := DataW.trod_array Tryz.underlying238 hd
  have c2 : Tryz.prog.cellsOf 237 = 2 := by kernel_rfl
  have c1 : Tryz.prog.cellsOf 9 = 1 := by kernel_rfl
  have e3 : xs.map (·.1) = effs.map fun e => .agg [.lit (.string e.1), .lit (.string e.2)] := (DataW.agg.inj (Prod.mk.inj ex).1).symm
  have key : EffM W := by
    intro k hk
    have hE := hel k hk
    rw [c2, List.getElem?_eq_getElem (by omega)] at hE
    have hlen : effs.length = 24 := effs_len
    have e4 : (xs.map (·.1))[k]? = (effs.map fun e => (DataW.agg [.lit (.string e.1), .lit (.string e.2)] : DataW Unit))[k]? := by rw [e3]
    rw [List.getElem?_map, List.getElem?_map, List.getElem?_eq_getElem (by omega : k < xs.length), List.getElem?_eq_getElem (by omega : k < effs.length)] at e4
    obtain ⟨y0, y1, n, hx, _, t0, t1⟩ := trod_struct2 Tryz.underlying237 hE
    obtain ⟨s0, q0, hy0, _⟩ := DataW.trod_string Tryz.underlying9 t0
    obtain ⟨s1, q1, hy1, _⟩ := DataW.trod_string Tryz.underlying9 t1
    rw [hx, hy0, hy1] at e4
    simp only [Option.map_some, Option.some.injEq, DataW.agg.injEq, List.cons.injEq, DataW.lit.injEq, Lit.string.injEq, and_true] at e4
    have hd' : effs.getD k ([], []) = effs[k]'(by omega) := by rw [List.getD, List.getElem?_eq_getElem (by omega : k < effs.length)]; rfl
    rw [World.var?_cell hg hv, World.var?_cell hg hv, hd']
    rw [c1] at q0 q1
    have p0 : cs.toList[k * 2]? = some (.string s0) := by
      have : ((((cs.toList.drop (k * 2)).take 2).drop 0).take 1)[0]? = some (.string s0) := by rw [q0]; rfl
      simpa using this
    have p1 : cs.toList[k * 2 + 1]? = some (.string s1) := by
      have : ((((cs.toList.drop (k * 2)).take 2).drop 1).take 1)[0]? = some (.string s1) := by rw [q1]; rfl
      simpa using this
    refine ⟨?_, ?_⟩
    · rw [← str_eqV e4.1]; simpa using p0
    · rw [← str_eqV e4.2]; simpa using p1
  refine ⟨key, ?_⟩
  have := (key 0 (by decide)).1
  rcases Nat.lt_or_ge 1 W.heap.size with hn | hn
  · exact hn
  · exfalso
    rw [World.cell?, Array.getElem?_eq_none hn] at this
    cases this
end Go.Proofs.YtndagciefnddmaaGreatDoor
namespace Go.Proofs.YtndagciefnddmaaGreatDoor
open Go.ChangeShapes Go.WideShapes Go.ChangeAt Go.RowKit Oct
section
variable {H : Type} {enc : TypeId × Value → H} {W : World}
theorem handed_met_shaped {a : Assume} {C : Checked} {os : Os} {f : FuncId} {fn : Func} {s : ChangeSpec} {conds : List PathCond} {apart fresh handsOn again : Bool} {X : World → Array Value → Prop}
    (hX : ∀ (w w' : World) (args : Array Value), w.heap = w'.heap → X w args → X w' args)
    (own : ownKnob C.prog.godebug = none) (started : os.Started) (noInit : C.prog.inits.idxOf? f = none) (hfn : C.prog.funcs[f]? = some fn)
    (witness : ∃ (w : World) (tape : Tape) (i : Input), w.os = os ∧ (w.forCall tape i).Shaped C.prog ∧ i.vars = [] ∧ Input.okWide C.prog (w.forCall tape i) .any w.heap.size f i ∧
      ((s.pre enc C.prog fn conds apart (w.forCall tape i).memory i.args ∧ X (w.forCall tape i).memory i.args) ∧ sizedMet enc C.prog fn (OpenSpec.ofChange s) apart (w.forCall tape i).memory i.args) ∧ a.holds C.prog (lone (Frame.enter C.prog f i.args .normal) [] (w.forCall tape i)))
    (contract : ∀ (W : World) (base : Nat) (args : Array Value) (ds gs : List (DataW H)) (before : List MemPlace),
      (∀ (j : Nat) t v, fn.params[j]? = some t → args[j]? = some v → Value.okWide C.prog W .any base t v) →
      DataW.Whole enc C.prog fn.params.toList s.vars apart W args.toList ds gs before →
      (DataW.weightsEach C.prog (fn.params.toList ++ s.plain.varTypes C.prog) (ds ++ gs)).all (· ≤ reachBytes) = true → X W args → W.ShapedOpen C.prog →
      Calls C.prog f args W fun e W' => ∃ v, e = .returned v ∧ s.post enc C.prog fn apart fresh handsOn again W args v W') :
    ReturnsInHanded a C os f .any (fun w args => (s.pre enc C.prog fn conds apart w args ∧ X w args) ∧ sizedMet enc C.prog fn (OpenSpec.ofChange s) apart w args) (s.post enc C.prog fn apart fresh handsOn again) := by
  refine returnsInHanded_of_calls own started noInit witness ?_
  intro w tape i _ hsh _ hok hpre _
  obtain ⟨_, _, _, fn', hfn', _, _, _, _, hval⟩ := hok
  have e : fn' = fn := Option.some.inj (hfn'.symm.trans hfn)
  subst e
  obtain ⟨⟨⟨ds, gs, before, hw, _⟩, hx⟩, hz⟩ := hpre
  have hw' := DataW.Whole.of_heap (w' := w.forCall tape i) (by rfl) hw
  refine (contract (w.forCall tape i) w.heap.size i.args ds gs before hval hw' (hz.weights hw) (hX _ _ _ (by rfl) hx) hsh).mono fun e W' ⟨v, he, hp⟩ => ?_
  subst he
  exact ChangeSpec.post_blind hp
end
theorem errRow (u : TypeId) (h : Tryz.prog.typeName? 3 u = some "*errors.errorString") : u = 280 :=
  have hs : "*" ++ "errors.errorString" = "*errors.errorString" := by decide
  typeName_ptr_named (nm := "errors.errorString") (by rw [hs]; kernel_rfl) (by kernel_rfl) (by decide) u (by rw [hs]; exact h)
end Go.Proofs.YtndagciefnddmaaGreatDoor
namespace Go.Proofs.YtndagciefnddmaaGreatDoor
open Go.ChangeShapes Go.WideShapes Go.ChangeAt Go.RowKit Oct
section
variable {H : Type} {enc : TypeId × Value → H} {W : World}
def PairAt (cs : List Value) (p : PR) : Prop := cs = [.string (bs p.1), .string (bs p.2)] ∧ p.1.length ≤ 140737488355328 ∧ p.2.length ≤ 140737488355328
theorem opens_pair : Opens enc Tryz.prog W 60 (fun p => p.1.length + 1 + (p.2.length + 1) + 1) PairAt := by
  refine Opens.imp (opens_struct2 (c0 := 1) (c1 := 1) Tryz.underlying60 (by kernel_rfl) (by kernel_rfl) (by kernel_rfl) rfl rfl (opens_str Tryz.underlying9) (opens_str Tryz.underlying9)) ?_
  rintro cs p ⟨cs0, cs1, rfl, _, _, ⟨rfl, h0⟩, rfl, h1⟩
  exact ⟨rfl, h0, h1⟩
theorem rp_of {v : Value} {xs : List PR} (h : SliceOf W 2 PairAt v xs) : RP W v xs ∧ ∀ p ∈ xs, p.1.length ≤ 140737488355328 ∧ p.2.length ≤ 140737488355328 := by
  obtain ⟨a, cap, rfl, hle, hn, hc⟩ := h
  refine ⟨⟨⟨a, cap, rfl, hn, ?_⟩, a, cap, rfl, hle⟩, ?_⟩
  · intro j u hj
    have hjl : j < xs.length * 2 := by
      rcases Nat.lt_or_ge j (xs.length * 2) with h | h
      · exact h
      · rw [List.getElem?_eq_none (by rw [pcells_length]; exact h)] at hj; cases hj
    have hk : j / 2 < xs.length := by omega
    obtain ⟨b, off, cs, ha, _, hcell, hcs, _⟩ := hc (j / 2) hk
    subst hcs
    refine ⟨b, off, ha, ?_⟩
    rcases Nat.mod_two_eq_zero_or_one j with hm | hm
    · have e : j = j / 2 * 2 := by omega
      rw [e, pcells_key xs _ hk] at hj
      have := hcell 0 _ rfl
      rw [e, ← hj]
      exact this
    · have e : j = j / 2 * 2 + 1 := by omega
      rw [e, pcells_val xs _ hk] at hj
      have := hcell 1 _ rfl
      rw [e, ← hj, ← Nat.add_assoc]
      exact this
  · intro p hp
    obtain ⟨k, hk, rfl⟩ := List.getElem_of_mem hp
    obtain ⟨_, _, _, _, _, _, _, h⟩ := hc k hk
    exact h
def RowAt (W : World) (cs : List Value) (l : List PR) : Prop := ∃ v, cs = [v] ∧ RP W v l ∧ l.length ≤ 4398046511104 ∧ ∀ p ∈ l, p.1.length ≤ 140737488355328 ∧ p.2.length ≤ 140737488355328
def bulkP (l : List PR) : Nat := (l.map fun p : PR => p.1.length + 1 + (p.2.length + 1) + 1).sum + 1
theorem opens_pairs : Opens enc Tryz.prog W 28 bulkP (RowAt W) := by
  refine Opens.imp (opens_slice (size := 2) Tryz.underlying28 (by kernel_rfl) (by decide) opens_pair) ?_
  rintro cs l ⟨v, rfl, hs, hb⟩
  have hby : Tryz.prog.bytesOf 60 = 32 := by kernel_rfl
  rw [hby] at hb
  have h2 := reachBytes_lt
  obtain ⟨h1, h3⟩ := rp_of hs
  exact ⟨v, rfl, h1, by omega, h3⟩
set_option maxRecDepth 100000 in
theorem open_pairs {base j : Nat} {v : Value} {d : DataW H} {ps : List MemPlace} {ts : List TypeId} {ds : List (DataW H)}
    (hv : Value.okWide Tryz.prog W .any base 28 v) (h : DataW.Trod enc Tryz.prog W 0 (fun _ => true) true 28 v d ps) (hsz : (DataW.weightsEach Tryz.prog ts ds).all (· ≤ reachBytes) = true) (hj : ts[j]? = some 28) (hd : ds[j]? = some d) :
    ∃ l : List PR, RP W v l ∧ l.length ≤ 4398046511104 ∧ ∀ p ∈ l, p.1.length ≤ 140737488355328 ∧ p.2.length ≤ 140737488355328 := by
  obtain ⟨l, ⟨v', hcs, h1, h2, h3⟩, _⟩ := open_any opens_pairs h hsz hj hd
  obtain rfl := cells_slice Tryz.underlying28 hv hcs
  exact ⟨l, h1, h2, h3⟩
end
end Go.Proofs.YtndagciefnddmaaGreatDoor
namespace Go.Proofs.YtndagciefnddmaaGreatDoor
open Go.ChangeShapes Go.WideShapes Go.ChangeAt Go.RowKit Oct
def laidG : List (String × DataW Unit) := [("math/bits.deBruijn32tab", Rows.laid_math_bits_deBruijn32tab), ("math/bits.deBruijn64tab", Rows.laid_math_bits_deBruijn64tab), ("internal/strconv.uint64pow10", Rows.laid_internal_strconv_uint64pow10), ("unicode/utf8.acceptRanges", Rows.laid_unicode_utf8_acceptRanges), ("strconv.ErrRange", Rows.laid_strconv_ErrRange), ("strconv.ErrSyntax", Rows.laid_strconv_ErrSyntax), ("maslin/verify.effects", Rows.laid_maslin_verify_effects), ("maslin/vm.does" /- 0 -/, Rows.laid_maslin_vm_does), ("unicode/utf8.first", Rows.laid_unicode_utf8_first)]
def laidGP : List (String × DataW Unit) := [("math/bits.deBruijn32tab", Rows.laid_math_bits_deBruijn32tab), ("math/bits.deBruijn64tab", Rows.laid_math_bits_deBruijn64tab), ("internal/strconv.uint64pow10", Rows.laid_internal_strconv_uint64pow10), ("unicode/utf8.acceptRanges", Rows.laid_unicode_utf8_acceptRanges), ("strconv.ErrRange", Rows.laid_strconv_ErrRange), ("strconv.ErrSyntax", Rows.laid_strconv_ErrSyntax), ("maslin/verify.effects", Rows.laid_maslin_verify_effects), ("unicode/utf8.first" /- 0 -/, Rows.laid_unicode_utf8_first)]
theorem laidG_plain {W : World} (h : laidMetH Tryz.prog laidG W) : laidMet Tryz.prog laidGP W := by
  have h1 := (laidMetH_iff.1 h).1
  rw [show (laidG.filter fun x => x.2.handleName?.isNone) = laidGP from rfl] at h1
  exact h1
theorem laidG_effs {W : World} (h : laidMetH Tryz.prog laidG W) : EffM W ∧ 1 < W.heap.size := by
  have h1 := h.filter fun x => x.1 == "unicode/utf8.acceptRanges" || x.1 == "maslin/verify.effects" || x.1 == "unicode/utf8.first"
  rw [show (laidG.filter fun x => x.1 == "unicode/utf8.acceptRanges" || x.1 == "maslin/verify.effects" || x.1 == "unicode/utf8.first") = laidV from rfl] at h1
  exact eff_of_laid h1
theorem laidG_pow : Rows.laid_internal_strconv_uint64pow10 (H := Unit) /- 0 -/ = Lib.tabData .u64 Lib.pow10Tab := by kernel_rfl
set_option maxRecDepth 100000 in
theorem laidG_glob {W : World} (h0 : laidMetH Tryz.prog laidG W) (hsh : W.ShapedOpen Tryz.prog) : GlobV W := by
  have h := laidG_plain h0
  refine ⟨?_, ?_, ?_, ?_⟩
  · have h2 := h.tail.tail
    rw [laidG_pow] at h2
    exact Lib.tabIs_of_head (g := 2) (t := 256) (e := 110) (n := 20) (by kernel_rfl) (by kernel_rfl) Tryz.underlying256 Tryz.underlying110 (by kernel_rfl) (by kernel_rfl) h2
  · have hg : Tryz.prog.globalNamed "strconv.ErrSyntax" = some 3 := by kernel_rfl
    obtain ⟨a, s, hv, _, _, _⟩ := laid_sentinel h.tail.tail.tail.tail.tail hg (by kernel_rfl) Tryz.underlying100 errRow Tryz.underlying280 Tryz.underlying282 rfl rfl Tryz.underlying9 (by kernel_rfl) (by kernel_rfl)
    exact ⟨_, _, by rw [World.var?_cell hg hv]; rfl⟩
  · have hg : Tryz.prog.globalNamed "strconv.ErrRange" = some 4 := by kernel_rfl
    obtain ⟨a, s, hv, _, _, _⟩ := laid_sentinel h.tail.tail.tail.tail hg (by kernel_rfl) Tryz.underlying100 errRow Tryz.underlying280 Tryz.underlying282 rfl rfl Tryz.underlying9 (by kernel_rfl) (by kernel_rfl)
    exact ⟨_, _, by rw [World.var?_cell hg hv]; rfl⟩
  · exact cell_of_shapedOpen_int (zero := #[.int .i64 0]) (t := 3) hsh (of_decide_eq_true (by kernel_rfl)) (by kernel_rfl) rfl (by kernel_rfl) (by kernel_rfl) Tryz.underlying3
def toksG : List (DataW (List UInt8)) := [.nil, .held [40, 42, 109, 97, 115, 108, 105, 110, 47, 118, 109, 46, 109, 97, 99, 104, 105, 110, 101, 41, 46, 116, 101, 120, 116], .held [40, 42, 109, 97, 115, 108, 105, 110, 47, 118, 109, 46, 109, 97, 99, 104, 105, 110, 101, 41, 46, 110, 117, 109], .held [40, 42, 109, 97, 115, 108, 105, 110, 47, 118, 109, 46, 109, 97, 99, 104, 105, 110, 101, 41, 46, 105, 110, 112, 117, 116], .held [40, 42, 109, 97, 115, 108, 105, 110, 47, 118, 109, 46, 109, 97, 99, 104, 105, 110, 101, 41, 46, 99, 97, 116], .held [40, 42, 109, 97, 115, 108, 105, 110, 47, 118, 109, 46, 109, 97, 99, 104, 105, 110, 101, 41, 46, 115, 105, 122, 101], .held [40, 42, 109, 97, 115, 108, 105, 110, 47, 118, 109, 46, 109, 97, 99, 104, 105, 110, 101, 41, 46, 112, 97, 114, 116], .held [40, 42, 109, 97, 115, 108, 105, 110, 47, 118, 109, 46, 109, 97, 99, 104, 105, 110, 101, 41, 46, 112, 97, 114, 115, 101], .held [40, 42, 109, 97, 115, 108, 105, 110, 47, 118, 109, 46, 109, 97, 99, 104, 105, 110, 101, 41, 46, 115, 104, 111, 119], .held [40, 42, 109, 97, 115, 108, 105, 110, 47, 118, 109, 46, 109, 97, 99, 104, 105, 110, 101, 41, 46, 97, 100, 100], .held [40, 42, 109, 97, 115, 108, 105, 110, 47, 118, 109, 46, 109, 97, 99, 104, 105, 110, 101, 41, 46, 109, 117, 108], .held [40, 42, 109, 97, 115, 108, 105, 110, 47, 118, 109, 46, 109, 97, 99, 104, 105, 110, 101, 41, 46, 108, 101, 115, 115], .held [40, 42, 109, 97, 115, 108, 105, 110, 47, 118, 109, 46, 109, 97, 99, 104, 105, 110, 101, 41, 46, 115, 97, 109, 101], .held [40, 42, 109, 97, 115, 108, 105, 110, 47, 118, 109, 46, 109, 97, 99, 104, 105, 110, 101, 41, 46, 110, 111, 116], .held [40, 42, 109, 97, 115, 108, 105, 110, 47, 118, 109, 46, 109, 97, 99, 104, 105, 110, 101, 41, 46, 100, 114, 111, 112], .held [40, 42, 109, 97, 115, 108, 105, 110, 47, 118, 109, 46, 109, 97, 99, 104, 105, 110, 101, 41, 46, 100, 117, 112], .held [40, 42, 109, 97, 115, 108, 105, 110, 47, 118, 109, 46, 109, 97, 99, 104, 105, 110, 101, 41, 46, 115, 119, 97, 112], .held [40, 42, 109, 97, 115, 108, 105, 110, 47, 118, 109, 46, 109, 97, 99, 104, 105, 110, 101, 41, 46, 103, 101, 116], .held [40, 42, 109, 97, 115, 108, 105, 110, 47, 118, 109, 46, 109, 97, 99, 104, 105, 110, 101, 41, 46, 115, 101, 116], .held [40, 42, 109, 97, 115, 108, 105, 110, 47, 118, 109, 46, 109, 97, 99, 104, 105, 110, 101, 41, 46, 98, 114, 97, 110, 99, 104], .held [40, 42, 109, 97, 115, 108, 105, 110, 47, 118, 109, 46, 109, 97, 99, 104, 105, 110, 101, 41, 46, 116, 117, 114, 110], .held [40, 42, 109, 97, 115, 108, 105, 110, 47, 118, 109, 46, 109, 97, 99, 104, 105, 110, 101, 41, 46, 101, 110, 100], .held [40, 42, 109, 97, 115, 108, 105, 110, 47, 118, 109, 46, 109, 97, 99, 104, 105, 110, 101, 41, 46, 101, 97, 99, 104], .held [40, 42, 109, 97, 115, 108, 105, 110, 47, 118, 109, 46, 109, 97, 99, 104, 105, 110, 101, 41, 46, 101, 109, 105, 116]] /- 0 -/
set_option maxRecDepth 100000 in
theorem laidG_does {W : World} (h : laidMetH Tryz.prog laidG W) : doesAt W := by
  obtain ⟨g, t, cs, fuel, p, hg, ht, hv, hd⟩ := h.funcs (n := "maslin/vm.does") (List.mem_cons_of_mem _ (List.mem_cons_of_mem _ (List.mem_cons_of_mem _ (List.mem_cons_of_mem _ (List.mem_cons_of_mem _ (List.mem_cons_of_mem _ (List.mem_cons_of_mem _ (List.mem_cons_self ..))))))))
  obtain rfl := Option.some.inj ((show Tryz.prog.globalNamed "maslin/vm.does" = some 0 by kernel_rfl).symm.trans hg)
  obtain rfl := Option.some.inj ((show (Tryz.prog.globals[0]?).map (·.type) = some 204 by kernel_rfl).symm.trans ht)
  have hd' : DataW.trod (funcToken Tryz.prog) Tryz.prog W 0 (fun _ => true) true fuel 204 cs.toList = some (.agg toksG, p) := hd
  obtain ⟨xs, m, _, ex, _, hl, hel⟩ := DataW.trod_array Tryz.underlying204 hd'
  have c1 : Tryz.prog.cellsOf 203 = 1 := by kernel_rfl
  have e3 : xs.map (·.1) = toksG := (DataW.agg.inj (Prod.mk.inj ex).1).symm
  have key : ∀ k b r f0, k < 24 → toksG[k]? = some (.held (b :: r)) → ((List.range Tryz.prog.funcs.size).filter fun f => (Tryz.prog.funcs[f]?).any (·.name.toUTF8.data.toList == b :: r)) = [f0] → W.cell? ⟨0, k, none⟩ = some (.func (.func f0) #[] #[]) := by
    intro k b r f0 hk ht1 hone
    have hE := hel k hk
    rw [c1, Nat.mul_one, List.getElem?_eq_getElem (by omega)] at hE
    have e4 : (xs.map (·.1))[k]? = toksG[k]? := by rw [e3]
    rw [List.getElem?_map, List.getElem?_eq_getElem (by omega : k < xs.length), ht1] at e4
    simp only [Option.map_some, Option.some.injEq] at e4
    obtain ⟨⟨x, q⟩, hx⟩ : ∃ y, xs[k] = y := ⟨_, rfl⟩
    rw [hx] at hE e4
    simp only at e4
    subst e4
    have hlen : ((cs.toList.drop k).take 1) ≠ [] := by
      intro h0
      rw [h0] at hE
      cases m with
      | zero => simp [DataW.trod] at hE
      | succ n => simp [DataW.trod, Tryz.underlying203] at hE
    obtain ⟨v, hv1⟩ : ∃ v, (cs.toList.drop k).take 1 = [v] := by
      cases h1 : cs.toList.drop k with
      | nil => rw [h1] at hlen; simp at hlen
      | cons a l => exact ⟨a, by simp⟩
    rw [hv1] at hE
    obtain rfl := func_of_trod (f0 := f0) Tryz.underlying203 hone hE
    rw [World.var?_cell hg hv]
    have : ((cs.toList.drop k).take 1)[0]? = some (.func (.func f0) #[] #[]) := by rw [hv1]; rfl
    simpa using this
  intro k h1 h2
  rcases (by omega : k = 1 ∨ k = 2 ∨ k = 3 ∨ k = 4 ∨ k = 5 ∨ k = 6 ∨ k = 7 ∨ k = 8 ∨ k = 9 ∨ k = 10 ∨ k = 11 ∨ k = 12 ∨ k = 13 ∨ k = 14 ∨ k = 15 ∨ k = 16 ∨ k = 17 ∨ k = 18 ∨ k = 19 ∨ k = 20 ∨ k = 21 ∨ k = 22 ∨ k = 23) with rfl | rfl | rfl | rfl | rfl | rfl | rfl | rfl | rfl | rfl | rfl | rfl | rfl | rfl | rfl | rfl | rfl | rfl | rfl | rfl | rfl | rfl | rfl
  · exact key 1 _ _ _ (by decide) rfl (by kernel_rfl)
  · exact key 2 _ _ _ (by decide) rfl (by kernel_rfl)
  · exact key 3 _ _ _ (by decide) rfl (by kernel_rfl)
  · exact key 4 _ _ _ (by decide) rfl (by kernel_rfl)
  · exact key 5 _ _ _ (by decide) rfl (by kernel_rfl)
  · exact key 6 _ _ _ (by decide) rfl (by kernel_rfl)
  · exact key 7 _ _ _ (by decide) rfl (by kernel_rfl)
  · exact key 8 _ _ _ (by decide) rfl (by kernel_rfl)
  · exact key 9 _ _ _ (by decide) rfl (by kernel_rfl)
  · exact key 10 _ _ _ (by decide) rfl (by kernel_rfl)
  · exact key 11 _ _ _ (by decide) rfl (by kernel_rfl)
  · exact key 12 _ _ _ (by decide) rfl (by kernel_rfl)
  · exact key 13 _ _ _ (by decide) rfl (by kernel_rfl)
  · exact key 14 _ _ _ (by decide) rfl (by kernel_rfl)
  · exact key 15 _ _ _ (by decide) rfl (by kernel_rfl)
  · exact key 16 _ _ _ (by decide) rfl (by kernel_rfl)
  · exact key 17 _ _ _ (by decide) rfl (by kernel_rfl)
  · exact key 18 _ _ _ (by decide) rfl (by kernel_rfl)
  · exact key 19 _ _ _ (by decide) rfl (by kernel_rfl)
  · exact key 20 _ _ _ (by decide) rfl (by kernel_rfl)
  · exact key 21 _ _ _ (by decide) rfl (by kernel_rfl)
  · exact key 22 _ _ _ (by decide) rfl (by kernel_rfl)
  · exact key 23 _ _ _ (by decide) rfl (by kernel_rfl)
end Go.Proofs.YtndagciefnddmaaGreatDoor
