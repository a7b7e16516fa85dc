/- Lemmas for JobRuns, part 16: walks of the functions that it reaches, and the plain laws behind them. -/
import Derived.Lib.MinMaxS
import Derived.Maps.RangeWalk
import Derived.Lib.QuietBelow
import Derived.Test.YtndagciefnddmaaGreatDoorJobRunsK1
import Derived.Test.YtndagciefnddmaaGreatDoorJobRunsK2
import Derived.Test.YtndagciefnddmaaGreatDoorJobRunsK5
import Derived.Test.YtndagciefnddmaaGreatDoorJobRunsK6
import Derived.Test.YtndagciefnddmaaGreatDoorJobRunsK7
import Derived.Test.YtndagciefnddmaaGreatDoorJobRunsK8
import Derived.Test.YtndagciefnddmaaGreatDoorJobRunsK10
import Derived.Test.YtndagciefnddmaaGreatDoorJobRunsK14
import Derived.Test.YtndagciefnddmaaGreatDoorJobRunsK15
set_option linter.unusedSimpArgs false
set_option linter.unusedVariables false
namespace Go.Proofs.YtndagciefnddmaaGreatDoor
open Go.RowKit Oct
attribute [local irreducible] wpG
def sd (d : Bool) (v u : Value) : Value := bif d then v else u
@[go_sem] theorem sd_true (v u : Value) : sd true v u = v := rfl
@[go_sem] theorem sd_false (v u : Value) : sd false v u = u := rfl
theorem wp_calm {P : Program} {c : Code} {Q : Exit → Act → World → Prop} {a : Act} {w : World} (h : c.wp P (fun e a w => match e with | .normal => Q .normal a w | _ => False) a w) : c.wp P Q a w := by
  refine wp_mono h fun e a w hq => ?_
  cases e <;> first | exact hq | exact hq.elim
def WX6 (w wx : World) (tv : Value) (r0 r1 : List UInt8) (d : Bool) : Prop :=
  Blk wx w.heap.size 25 [tv, .slice none 0 0] ∧ Blk wx (w.heap.size + 1) 33 [.int .i64 0] ∧ Below w.heap.size w wx ∧ Blk wx (w.heap.size + 2) 146 [.string (bs (bif d then r1 else r0))]
theorem WX6.start {w wr : World} {tv : Value} {r0 r1 : List UInt8} (hp : Blk wr w.heap.size 25 [tv, .slice none 0 0]) (he : Blk wr (w.heap.size + 1) 33 [.int .i64 0]) (hb : Below w.heap.size w wr)
    (hr : Blk wr (w.heap.size + 2) 146 [.string (bs r0)]) : WX6 w wr.drew tv r0 r1 false := ⟨hp.below (b_drew wr), he.below (b_drew wr), bt hb (b_drew wr), hr.below (b_drew wr)⟩
theorem WX6.rd {w wx : World} {tv : Value} {r0 r1 : List UInt8} {d : Bool} (h : WX6 w wx tv r0 r1 d) : Blk wx (w.heap.size + 2) 146 [.string (bs (bif d then r1 else r0))] := h.2.2.2
theorem WX6.step {w wx w' : World} {tv : Value} {r0 r1 : List UInt8} (h : WX6 w wx tv r0 r1 false) (hr : Blk w' (w.heap.size + 2) 146 [.string (bs r1)]) (hc : Chg (fun x => x = w.heap.size + 2) wx w') : WX6 w w' tv r0 r1 true :=
  ⟨h.1.chg hc (by omega), h.2.1.chg hc (by omega), h.2.2.1.trans (hc.below (fun j (hj : j = w.heap.size + 2) => by omega) h.2.2.1.size), hr⟩
def OKT (w wx : World) (B : Nat) (tv : Value) (r : List UInt8) (acc : List (List UInt8)) : Prop :=
  Blk wx w.heap.size 25 [tv, .slice none 0 0] ∧ recS.Own wx B tv acc ∧ Blk wx (w.heap.size + 1) 33 [.int .i64 0] ∧ Blk wx (w.heap.size + 2) 146 [.string (bs r)] ∧ Below w.heap.size w wx ∧ B ≤ wx.heap.size
section
variable {w wx w' : World} {B : Nat} {tv tv' : Value} {r r' : List UInt8} {acc acc' : List (List UInt8)}
theorem OKT.drew (h : OKT w wx B tv r acc) : OKT w wx.drew B tv r acc := ⟨h.1.below (b_drew wx), h.2.1.below (b_drew wx), h.2.2.1.below (b_drew wx), h.2.2.2.1.below (b_drew wx), bt h.2.2.2.2.1 (b_drew wx), Nat.le_trans h.2.2.2.2.2 (b_drew wx).size⟩
theorem OKT.read (h : OKT w wx B tv r acc) (hB : w.heap.size + 3 ≤ B) (hr : Blk w' (w.heap.size + 2) 146 [.string (bs r')]) (hc : Chg (fun x => x = w.heap.size + 2) wx w') : OKT w w' B tv r' acc :=
  ⟨h.1.chg hc (by omega), h.2.1.chgV hc (fun k hk (e : k = w.heap.size + 2) => by have := (Rec.Own.ltV h.2.1 k hk).1; omega), h.2.2.1.chg hc (by omega), hr, h.2.2.2.2.1.trans (hc.below (fun j (hj : j = w.heap.size + 2) => by omega) h.2.2.2.2.1.size), Nat.le_trans h.2.2.2.2.2 hc.size⟩
theorem OKT.appP (h : OKT w wx B tv r acc) (hB : w.heap.size + 3 ≤ B) (hc : Chg (fun k => tv.ownBlock = some k) wx w') : Blk w' w.heap.size 25 [tv, .slice none 0 0] :=
  h.1.chg hc (fun e => by have := (Rec.Own.ltV h.2.1 _ e).1; omega)
theorem OKT.app (h : OKT w wx B tv r acc) (hB : w.heap.size + 3 ≤ B) (ho : recS.Own w' B tv' acc') (hc : Chg (fun k => tv.ownBlock = some k) wx w') : OKT w (w'.setCell ⟨w.heap.size, 0, none⟩ tv') B tv' r acc' := by
  have g : Chg (fun x => x = w.heap.size) w' (w'.setCell ⟨w.heap.size, 0, none⟩ tv') := Chg.set1R
  have hb : Below w.heap.size w w' := h.2.2.2.2.1.trans (hc.below (fun j hj => by have := (Rec.Own.ltV h.2.1 j hj).1; omega) h.2.2.2.2.1.size)
  refine ⟨(h.appP hB hc).set 0 tv', ho.chgV g (fun k hk (e : k = w.heap.size) => by have := (Rec.Own.ltV ho k hk).1; omega), ?_, ?_, hb.trans (g.below (fun j (hj : j = w.heap.size) => by omega) hb.size), Nat.le_trans h.2.2.2.2.2 (Nat.le_trans hc.size g.size)⟩
  · exact (h.2.2.1.chg hc (fun e => by have := (Rec.Own.ltV h.2.1 _ e).1; omega)).chg g (by omega)
  · exact (h.2.2.2.1.chg hc (fun e => by have := (Rec.Own.ltV h.2.1 _ e).1; omega)).chg g (by omega)
end
def OKI (w wx : World) (B C : Nat) (tv cv : Value) (r : List UInt8) (t : List (List UInt8)) (acc : List VI) : Prop :=
  Blk wx w.heap.size 25 [tv, cv] ∧ recS.Own wx B tv t ∧ recIns.Own wx C cv acc ∧ Blk wx (w.heap.size + 1) 33 [.int .i64 0] ∧ Blk wx (w.heap.size + 2) 146 [.string (bs r)] ∧ Below w.heap.size w wx ∧ C ≤ wx.heap.size ∧ (∀ k, tv.ownBlock = some k → k < C)
section
variable {w wx w' : World} {B C : Nat} {tv cv cv' : Value} {r r' : List UInt8} {t : List (List UInt8)} {acc acc' : List VI}
theorem OKT.code (h : OKT w wx B tv r t) : OKI w wx B wx.heap.size tv (.slice none 0 0) r t [] := ⟨h.1, h.2.1, Rec.Own.nil _ _, h.2.2.1, h.2.2.2.1, h.2.2.2.2.1, Nat.le_refl _, fun k hk => (Rec.Own.ltV h.2.1 k hk).2⟩
theorem OKI.drew (h : OKI w wx B C tv cv r t acc) : OKI w wx.drew B C tv cv r t acc := ⟨h.1.below (b_drew wx), h.2.1.below (b_drew wx), h.2.2.1.below (b_drew wx), h.2.2.2.1.below (b_drew wx), h.2.2.2.2.1.below (b_drew wx), bt h.2.2.2.2.2.1 (b_drew wx), Nat.le_trans h.2.2.2.2.2.2.1 (b_drew wx).size, h.2.2.2.2.2.2.2⟩
theorem OKI.read (h : OKI w wx B C tv cv r t acc) (hB : w.heap.size + 3 ≤ B) (hBC : w.heap.size + 3 ≤ C) (hr : Blk w' (w.heap.size + 2) 146 [.string (bs r')]) (hc : Chg (fun x => x = w.heap.size + 2) wx w') : OKI w w' B C tv cv r' t acc :=
  ⟨h.1.chg hc (by omega), h.2.1.chgV hc (fun k hk (e : k = w.heap.size + 2) => by have := (Rec.Own.ltV h.2.1 k hk).1; omega), h.2.2.1.chgV hc (fun k hk (e : k = w.heap.size + 2) => by have := (Rec.Own.ltV h.2.2.1 k hk).1; omega), h.2.2.2.1.chg hc (by omega), hr,
    h.2.2.2.2.2.1.trans (hc.below (fun j (hj : j = w.heap.size + 2) => by omega) h.2.2.2.2.2.1.size), Nat.le_trans h.2.2.2.2.2.2.1 hc.size, h.2.2.2.2.2.2.2⟩
theorem OKI.appP (h : OKI w wx B C tv cv r t acc) (hBC : w.heap.size + 3 ≤ C) (hc : Chg (fun k => cv.ownBlock = some k) wx w') : Blk w' w.heap.size 25 [tv, cv] :=
  h.1.chg hc (fun e => by have := (Rec.Own.ltV h.2.2.1 _ e).1; omega)
theorem OKI.app (h : OKI w wx B C tv cv r t acc) (hB : w.heap.size + 3 ≤ B) (hBC : w.heap.size + 3 ≤ C) (ho : recIns.Own w' C cv' acc') (hc : Chg (fun k => cv.ownBlock = some k) wx w') : OKI w (w'.setCell ⟨w.heap.size, 1, none⟩ cv') B C tv cv' r t acc' := by
  have g : Chg (fun x => x = w.heap.size) w' (w'.setCell ⟨w.heap.size, 1, none⟩ cv') := Chg.set1R
  have hb : Below w.heap.size w w' := h.2.2.2.2.2.1.trans (hc.below (fun j hj => by have := (Rec.Own.ltV h.2.2.1 j hj).1; omega) h.2.2.2.2.2.1.size)
  refine ⟨(h.appP hBC hc).set 1 cv', (h.2.1.chgV hc (fun k hk e => ?_)).chgV g (fun k hk (e : k = w.heap.size) => by have := (Rec.Own.ltV h.2.1 k hk).1; omega), ho.chgV g (fun k hk (e : k = w.heap.size) => by have := (Rec.Own.ltV ho k hk).1; omega), ?_, ?_, hb.trans (g.below (fun j (hj : j = w.heap.size) => by omega) hb.size), Nat.le_trans h.2.2.2.2.2.2.1 (Nat.le_trans hc.size g.size), h.2.2.2.2.2.2.2⟩
  · have h1 := h.2.2.2.2.2.2.2 k hk
    have h2 := (Rec.Own.ltV h.2.2.1 k e).1
    omega
  · exact (h.2.2.2.1.chg hc (fun e => by have := (Rec.Own.ltV h.2.2.1 _ e).1; omega)).chg g (by omega)
  · exact (h.2.2.2.2.1.chg hc (fun e => by have := (Rec.Own.ltV h.2.2.1 _ e).1; omega)).chg g (by omega)
end
section
variable {w wx : World} {B C : Nat} {tv cv : Value} {r : List UInt8} {t : List (List UInt8)} {acc : List VI}
theorem OKI.below (h : OKI w wx B C tv cv r t acc) {w' : World} (hb : Below wx.heap.size wx w') : OKI w w' B C tv cv r t acc := ⟨h.1.below hb, h.2.1.below hb, h.2.2.1.below hb, h.2.2.2.1.below hb, h.2.2.2.2.1.below hb, bt h.2.2.2.2.2.1 hb, Nat.le_trans h.2.2.2.2.2.2.1 hb.size, h.2.2.2.2.2.2.2⟩
theorem fin_chg (w wx : World) (x y z : Value) : Chg (fun j => j = w.heap.size ∨ j = w.heap.size + 1) wx (((wx.setCell ⟨w.heap.size, 0, none⟩ x).setCell ⟨w.heap.size, 1, none⟩ y).setCell ⟨w.heap.size + 1, 0, none⟩ z) :=
  ((Chg.setCell _ _ _ (.inl rfl)).trans (Chg.setCell _ _ _ (.inl rfl))).trans (Chg.setCell _ _ _ (.inr rfl))
theorem OKI.fin (h : OKI w wx B C tv cv r t acc) (x y z : Value) : Blk (((wx.setCell ⟨w.heap.size, 0, none⟩ x).setCell ⟨w.heap.size, 1, none⟩ y).setCell ⟨w.heap.size + 1, 0, none⟩ z) w.heap.size 25 [x, y] ∧
    Blk (((wx.setCell ⟨w.heap.size, 0, none⟩ x).setCell ⟨w.heap.size, 1, none⟩ y).setCell ⟨w.heap.size + 1, 0, none⟩ z) (w.heap.size + 1) 33 [z] ∧ Below w.heap.size w (((wx.setCell ⟨w.heap.size, 0, none⟩ x).setCell ⟨w.heap.size, 1, none⟩ y).setCell ⟨w.heap.size + 1, 0, none⟩ z) :=
  ⟨((h.1.set 0 x).set 1 y).chg (Chg.set1R (b := w.heap.size + 1) (k := 0) (v := z)) (by omega), (h.2.2.2.1.chg ((Chg.set1R (w := wx) (b := w.heap.size) (k := 0) (v := x)).trans (Chg.set1R (k := 1) (v := y))) (by omega)).set 0 z,
    h.2.2.2.2.2.1.trans ((fin_chg w wx x y z).below (fun j hj => by rcases hj with rfl | rfl <;> omega) h.2.2.2.2.2.1.size)⟩
theorem OKI.own (h : OKI w wx B C tv cv r t acc) (hB : w.heap.size + 3 ≤ B) (hC : w.heap.size + 3 ≤ C) (x y z : Value) : recS.Own (((wx.setCell ⟨w.heap.size, 0, none⟩ x).setCell ⟨w.heap.size, 1, none⟩ y).setCell ⟨w.heap.size + 1, 0, none⟩ z) w.heap.size tv t ∧
    recIns.Own (((wx.setCell ⟨w.heap.size, 0, none⟩ x).setCell ⟨w.heap.size, 1, none⟩ y).setCell ⟨w.heap.size + 1, 0, none⟩ z) w.heap.size cv acc :=
  ⟨(h.2.1.chgV (fin_chg w wx x y z) (fun k hk e => by have := (Rec.Own.ltV h.2.1 k hk).1; rcases e with rfl | rfl <;> omega)).mono (by omega), (h.2.2.1.chgV (fin_chg w wx x y z) (fun k hk e => by have := (Rec.Own.ltV h.2.2.1 k hk).1; rcases e with rfl | rfl <;> omega)).mono (by omega)⟩
end
theorem take2_ok (R : Nat) (a b : UInt8) (s : List UInt8) (w : World) (h : Blk w R 146 [.string (bs (a :: b :: s))]) (hs : s.length ≤ 90000) :
    Calls Tryz.prog 82 #[.pointer (some ⟨R, 0, none⟩), .int .i64 2] w fun e w' => e = .returned (.string (bs [a, b])) ∧ Blk w' R 146 [.string (bs s)] ∧ Chg (fun x => x = R) w w' :=
  take_ok R (a :: b :: s) 2 w h (by simp) (by simp; omega)
theorem step_callW {P : Program} {o : Oper} {a : Act} {w : World} {K : Act → World → Prop} {Q : Exit → Act → World → Prop} {R : Ending → World → Prop} (f : FuncId) (vals : Array Value)
    (hrun : (execOp a.eval o).run P w = .ok (.enter f vals) w) (hc : Calls P f vals w R)
    (h : ∀ e w', R e w' → match e with | .returned v => K (a.put o.dst v) w' | .panicked ch => Q (.panic ch) a w' | .outgrown => LetsOut Q) : Oper.wp P o a w K Q := by
  unfold Oper.wp
  rw [hrun]
  refine Calls.mono hc ?_
  intro e w' hR
  have := h e w' hR
  cases e <;> exact this
def goneI (r : List UInt8) (k : Nat) (acc : List VI) : Option (List VI × List UInt8) := (takeI k r).map fun p => (acc ++ p.1, p.2)
theorem goneI_zero (r : List UInt8) (acc : List VI) : goneI r 0 acc = some (acc, r) := by unfold goneI; rw [takeI]; simp
theorem goneI_bad {r : List UInt8} {k : Nat} {acc : List VI} (h : r.length < 2) : goneI r (k + 1) acc = none := by
  match r, h with
  | [], _ => rfl
  | [a], _ => rfl
theorem goneI_ok {a b : UInt8} {r : List UInt8} {k : Nat} {acc : List VI} : goneI (a :: b :: r) (k + 1) acc = goneI r k (acc ++ [(a, b)]) := by
  unfold goneI
  rw [takeI]
  cases takeI k r with
  | none => rfl
  | some p => simp
theorem getC_code {n a b : UInt8} {s r : List UInt8} {t : List (List UInt8)} (h : takeT n.toNat s = some (t, a :: b :: r)) :
    getC (n :: s) = match takeI (a.toNat + 256 * b.toNat) r with | some (c, r') => if r' = [] ∧ mayV t c = true then some (t, c) else none | none => none := by
  unfold getC
  rw [parseC, h]
  dsimp only
  cases takeI (a.toNat + 256 * b.toNat) r <;> rfl
theorem getC_noI {n a b : UInt8} {s r : List UInt8} {t : List (List UInt8)} (h : takeT n.toNat s = some (t, a :: b :: r)) (hi : goneI r (a.toNat + 256 * b.toNat) [] = none) : getC (n :: s) = none := by
  rw [getC_code h]
  unfold goneI at hi
  cases hh : takeI (a.toNat + 256 * b.toNat) r with
  | none => rfl
  | some p => rw [hh] at hi; cases hi
theorem getC_isI {n a b : UInt8} {s r r' : List UInt8} {t : List (List UInt8)} {c : List VI} (h : takeT n.toNat s = some (t, a :: b :: r)) (hi : goneI r (a.toNat + 256 * b.toNat) [] = some (c, r')) : getC (n :: s) = if r' = [] ∧ mayV t c = true then some (t, c) else none := by
  rw [getC_code h]
  unfold goneI at hi
  cases hh : takeI (a.toNat + 256 * b.toNat) r with
  | none => rw [hh] at hi; cases hi
  | some p =>
    rw [hh] at hi
    simp only [Option.map_some, List.nil_append, Option.some.injEq] at hi
    obtain ⟨p1, p2⟩ := p
    cases hi
    rfl
theorem GetR_none {w w' : World} {s : List UInt8} (h : getC s = none) : GetR w w' s (.returned (.tuple #[.agg #[.slice none 0 0, .slice none 0 0], .int .i64 7])) := by unfold GetR; rw [h]
theorem GetR_some {w w' : World} {s : List UInt8} {t : List (List UInt8)} {c : List VI} {tv cv : Value} (h : getC s = some (t, c)) (ht : recS.Own w' w.heap.size tv t) (hc : recIns.Own w' w.heap.size cv c) : GetR w w' s (.returned (.tuple #[.agg #[tv, cv], .int .i64 0])) := by unfold GetR; rw [h]; exact ⟨_, _, rfl, ht, hc⟩
set_option maxRecDepth 100000 in
set_option maxHeartbeats 16000000 in
theorem Get_any (s : List UInt8) (w : World) (hs : s.length ≤ 10000) :
    Calls Tryz.prog 63 #[.string (bs s)] w fun e w' => GetR w w' s e ∧ Below w.heap.size w w' := by
  cases s with
  | nil => exact Get_nil w
  | cons n s =>
    have hmf : ∀ (fn : Fn) (first cap : Array Value) (w : World), (Instr.makeFunc fn first cap).run Tryz.prog w = .ok (.func fn first cap) w := fun _ _ _ _ => rfl
    obtain ⟨W3, hW3⟩ : ∃ W3, W3 = ((w.alloc (.cells #[.slice none 0 0, .slice none 0 0] 25)).alloc (.cells #[.int .i64 0] 33)).alloc (.cells #[.string (bs (n :: s))] 146) := ⟨_, rfl⟩
    have hp : Blk W3 w.heap.size 25 [.slice none 0 0, .slice none 0 0] := by rw [hW3]; exact ((Blk.new w _ _).below (b_alloc _ _)).below (b_alloc _ _)
    have he : Blk W3 (w.heap.size + 1) 33 [.int .i64 0] := by
      rw [hW3]
      have := (Blk.new (w.alloc (.cells #[.slice none 0 0, .slice none 0 0] 25)) [.int .i64 0] 33)
      rw [size_alV] at this
      exact this.below (b_alloc _ _)
    have hr : Blk W3 (w.heap.size + 2) 146 [.string (bs (n :: s))] := by
      rw [hW3]
      have := Blk.new ((w.alloc (.cells #[.slice none 0 0, .slice none 0 0] 25)).alloc (.cells #[.int .i64 0] 33)) [.string (bs (n :: s))] 146
      rw [size_alV, size_alV] at this
      exact this
    have hb3 : Below w.heap.size w W3 := by rw [hW3]; exact bt (b_alloc _ _) (bt (b_alloc _ _) (b_alloc _ _))
    have HP := Lib.hid hp
    have HE := Lib.hid he
    have HR := Lib.hid hr
    have HB3 := Lib.hid hb3
    clear hp he hr hb3
    have hs2 : s.length ≤ 10000 := by simp at hs; omega
    have HN := Lib.hid (num_ok _ n s W3 HR.out (by omega))
    have HG0 := Lib.hid (show takeT n.toNat s = goneC s n.toNat [] by unfold goneC; cases takeT n.toNat s <;> simp)
    have hn256 := n.toNat_lt
    clear hs
    go_enter_defers Tryz.func63, Tryz.ntmps63
    go_upto_region 3 with fail
    rw [← hW3]
    clear hW3
    go_wp2_with fail
    refine HN.out.mono ?_
    rintro e w4 ⟨rfl, hr4, hc4⟩
    have HR4 := Lib.hid hr4
    have HP4 := Lib.hid (HP.out.chg hc4 (by show ¬ (w.heap.size = w.heap.size + 2); omega))
    have HE4 := Lib.hid (HE.out.chg hc4 (by show ¬ (w.heap.size + 1 = w.heap.size + 2); omega))
    have HB4 := Lib.hid (HB3.out.trans (hc4.below (fun j (hj : j = w.heap.size + 2) => by omega) HB3.out.size))
    have hsz4 : w.heap.size + 3 ≤ w4.heap.size := by
      have := HR4.out.lt
      omega
    clear hr4 hc4 HN HP HE HR HB3
    go_wp2_with fail
    go_loopw [5] (fun v wr => ∃ (k : Nat) (acc : List (List UInt8)) (r : List UInt8) (tv : Value), v = .int .i64 (k : Int) ∧ k ≤ 256 ∧ r.length ≤ 10000 ∧ acc.length + k ≤ 256 ∧ Hid (takeT n.toNat s = goneC r k acc) ∧ Hid (Blk wr w.heap.size 25 [tv, .slice none 0 0]) ∧ Hid (recS.Own wr w4.heap.size tv acc) ∧ Hid (Blk wr (w.heap.size + 1) 33 [.int .i64 0]) ∧ Hid (Blk wr (w.heap.size + 2) 146 [.string (bs r)]) ∧ Hid (Below w.heap.size w wr) ∧ w4.heap.size ≤ wr.heap.size ∧ Hid (∀ x ∈ acc, x.length ≤ 255)) (fun v _ => (intOf v).toNat)
    case atStart => exact ⟨n.toNat, [], s, _, rfl, by omega, hs2, by simp; omega, HG0.out, HP4.out, Rec.Own.nil _ _, HE4.out, HR4.out, HB4.out, Nat.le_refl _, fun x hx => by cases hx⟩
    case round =>
      obtain ⟨k, acc, r, tv, rfl, hk, hrl, hac, HT, HP, HO, HE, HR, HB, hsz, HL⟩ := hrel
      obtain ⟨at_, ct, rfl⟩ := owns_slice HO.out
      by_cases h0 : 0 < k
      · have t0 : (0 : Int) < (k : Int) := by omega
        obtain ⟨k', rfl⟩ : ∃ k', k = k' + 1 := ⟨k - 1, by omega⟩
        cases r with
        | nil =>
          have HGN := Lib.hid (show getC (n :: s) = none from getC_bad (by rw [HT.out]; exact goneC_nil _ _))
          go_upto_region 6 with fail
          have hI0 : ∃ I : Array Bool → Act → World → Prop, I = (fun listed ax wx => ∃ d0 d1 d2 d3 d8 : Bool, listed = #[d0, d1, d2, d3, false, false, false, false, d8, false] ∧ ax = { tmps := List.toArray ((.string (bs (n :: s))) :: (undef) :: (.pointer (some ⟨w.heap.size, 0, none⟩)) :: (.pointer (some ⟨w.heap.size + 1, 0, none⟩)) :: (.pointer (some ⟨w.heap.size + 1 + 1, 0, none⟩)) :: ((.int .i64 ((k' + 1 : Nat) : Int))) :: (undef) :: (undef) :: (.func (.func 80) #[] #[.pointer (some ⟨w.heap.size, 0, none⟩), .pointer (some ⟨w.heap.size + 1, 0, none⟩)]) :: (.string (bs (n :: s))) :: (.agg #[.string (bs (n :: s))]) :: (.pointer (some ⟨w.heap.size + 1 + 1, 0, none⟩)) :: (.pointer (some ⟨w.heap.size + 1 + 1, 0, none⟩)) :: (.int .i64 (n.toNat : Int)) :: ((.int .i64 ((k' + 1 : Nat) : Int))) :: (.bool true) :: (u16) :: (u17) :: (sd d0 (.pointer (some ⟨w.heap.size, 0, none⟩)) u18) :: (sd d1 (.slice at_ acc.length ct) u19) :: (sd d2 (.pointer (some ⟨w.heap.size + 1 + 1, 0, none⟩)) u20) :: (sd d3 (.pointer (some ⟨w.heap.size + 1 + 1, 0, none⟩)) u21) :: (u22) :: (u23) :: (u24) :: (u25) :: (sd d8 (.pointer (some ⟨w.heap.size, 0, none⟩)) u26) :: (undef) :: (undef) :: (undef) :: (undef) :: (undef) :: (undef) :: (undef) :: (undef) :: (undef) :: (undef) :: (undef) :: (undef) :: (undef) :: (undef) :: (undef) :: (undef) :: (undef) :: (undef) :: (undef) :: (undef) :: (undef) :: (undef) :: (undef) :: (undef) :: (undef) :: (undef) :: (undef) :: (undef) :: (undef) :: (undef) :: (undef) :: (undef) :: (undef) :: (undef) :: (undef) :: []), defers := [{ target := Target.fn (Fn.func 80) #[.pointer (some ⟨w.heap.size, 0, none⟩), .pointer (some ⟨w.heap.size + 1, 0, none⟩)], args := #[] }] } ∧ Hid (WX6 w wx (.slice at_ acc.length ct) [] [] false)) := ⟨_, rfl⟩
          obtain ⟨INV, hINV⟩ := hI0
          have HINV := Lib.hid hINV
          clear hINV
          refine region_inv INV (by kernel_rfl) (by kernel_rfl) (by rw [HINV.out]; exact ⟨false, false, false, false, false, rfl, rfl, WX6.start HP.out HE.out HB.out HR.out⟩) ?_ ?_
          · intro listed ax wx hI hs hall
            rw [HINV.out] at hI
            obtain ⟨d0, d1, d2, d3, d8, rfl, rfl, hBI⟩ := hI
            have := hall 5 (by decide)
            simp at this
          refine ⟨fun listed ax wx hI hd hdep => ?_, fun listed ax wx hI hd hdep => ?_, fun listed ax wx hI hd hdep => ?_, fun listed ax wx hI hd hdep => ?_, fun listed ax wx hI hd hdep => ?_, fun listed ax wx hI hd hdep => ?_, fun listed ax wx hI hd hdep => ?_, fun listed ax wx hI hd hdep => ?_, fun listed ax wx hI hd hdep => ?_, fun listed ax wx hI hd hdep => ?_, True.intro⟩
          · rw [HINV.out] at hI
            obtain ⟨d0, d1, d2, d3, d8, rfl, rfl, hBI⟩ := hI
            obtain rfl : d0 = false := by simpa using hd
            clear hdep
            clear hd
            rw [if_pos (by rfl)]
            unfold Oper.wp
            go_simp
            rw [HINV.out]
            exact ⟨true, d1, d2, d3, d8, rfl, rfl, hBI⟩
          · rw [HINV.out] at hI
            obtain ⟨d0, d1, d2, d3, d8, rfl, rfl, hBI⟩ := hI
            obtain rfl : d1 = false := by simpa using hd
            simp [Region.binds] at hdep
            have e0 : d0 = true := by simp [hdep]
            clear hdep
            simp only [e0] at hBI ⊢
            clear hd
            rw [if_pos (by rfl)]
            unfold Oper.wp
            have y0 := hBI.out.1.cell (k := 0) rfl
            go_simp
            rw [HINV.out]
            exact ⟨true, true, d2, d3, d8, rfl, rfl, hBI⟩
          · rw [HINV.out] at hI
            obtain ⟨d0, d1, d2, d3, d8, rfl, rfl, hBI⟩ := hI
            obtain rfl : d2 = false := by simpa using hd
            clear hdep
            clear hd
            rw [if_pos (by rfl)]
            unfold Oper.wp
            go_simp
            rw [HINV.out]
            exact ⟨d0, d1, true, d3, d8, rfl, rfl, hBI⟩
          · rw [HINV.out] at hI
            obtain ⟨d0, d1, d2, d3, d8, rfl, rfl, hBI⟩ := hI
            obtain rfl : d3 = false := by simpa using hd
            clear hdep
            clear hd
            rw [if_pos (by rfl)]
            unfold Oper.wp
            go_simp
            rw [HINV.out]
            exact ⟨d0, d1, d2, true, d8, rfl, rfl, hBI⟩
          · rw [HINV.out] at hI
            obtain ⟨d0, d1, d2, d3, d8, rfl, rfl, hBI⟩ := hI
            simp [Region.binds] at hdep
            have e3 : d3 = true := by simp [hdep]
            clear hdep
            simp only [e3] at hBI ⊢
            clear hd
            rw [if_pos (by rfl)]
            refine step_callW 81 #[.pointer (some ⟨w.heap.size + 2, 0, none⟩)] (by go_simp) (num_bad _ wx hBI.out.rd) ?_
            rintro e w6 ⟨rfl, rfl⟩
            exact get_caught HGN.out hBI.out.1 hBI.out.2.1 (by omega) (Nat.le_refl _) (by omega) hBI.out.2.2.1 rfl rfl
          · rw [HINV.out] at hI
            obtain ⟨d0, d1, d2, d3, d8, rfl, rfl, hBI⟩ := hI
            simp [Region.binds] at hdep
          · rw [HINV.out] at hI
            obtain ⟨d0, d1, d2, d3, d8, rfl, rfl, hBI⟩ := hI
            simp [Region.binds] at hdep
          · rw [HINV.out] at hI
            obtain ⟨d0, d1, d2, d3, d8, rfl, rfl, hBI⟩ := hI
            simp [Region.binds] at hdep
          · rw [HINV.out] at hI
            obtain ⟨d0, d1, d2, d3, d8, rfl, rfl, hBI⟩ := hI
            obtain rfl : d8 = false := by simpa using hd
            clear hdep
            clear hd
            rw [if_pos (by rfl)]
            unfold Oper.wp
            go_simp
            rw [HINV.out]
            exact ⟨d0, d1, d2, d3, true, rfl, rfl, hBI⟩
          · rw [HINV.out] at hI
            obtain ⟨d0, d1, d2, d3, d8, rfl, rfl, hBI⟩ := hI
            simp [Region.binds] at hdep
        | cons c r =>
          by_cases hcr : c.toNat ≤ r.length
          · have hrl2 : r.length ≤ 10000 := by simp at hrl; omega
            have hc256 := c.toNat_lt
            have HT2 := Lib.hid (show takeT n.toNat s = goneC (r.drop c.toNat) k' (acc ++ [r.take c.toNat]) by rw [HT.out]; exact goneC_ok hcr)
            have HD := Lib.hid (OKT.drew ⟨HP.out, HO.out, HE.out, HR.out, HB.out, hsz⟩)
            have HN := Lib.hid (num_ok _ c r wr.drew HD.out.2.2.2.1 (by omega))
            have c0 := HD.out.1.cell (k := 0) rfl
            have HL2 := Lib.hid (show ∀ x ∈ acc ++ [r.take c.toNat], x.length ≤ 255 from fun x hx => by
              rcases List.mem_append.1 hx with h | h
              · exact HL.out x h
              · rw [List.mem_singleton.1 h, List.length_take]; omega)
            go_upto_region 6 with fail
            refine wp_calm ?_
            go_region_law (first | (refine step_call rfl 81 #[.pointer (some ⟨w.heap.size + 2, 0, none⟩)] (by go_simp) HN.out ?_; rintro e w6 ⟨rfl, hr6, hc6⟩; have H6 := Lib.hid (HD.out.read hsz4 hr6 hc6); have c6 := H6.out.1.cell (k := 0) rfl; clear hr6 hc6) | (refine step_call rfl 82 #[.pointer (some ⟨w.heap.size + 2, 0, none⟩), .int .i64 (c.toNat : Int)] (by go_simp) (take_ok _ r c.toNat w6 H6.out.2.2.2.1 hcr (by omega)) ?_; rintro e w7 ⟨rfl, hr7, hc7⟩; have H7 := Lib.hid (H6.out.read hsz4 hr7 hc7); have c7 := H7.out.1.cell (k := 0) rfl; have l7 := H7.out.1.lt; clear hr7 hc7) | (refine recS.step_append1V w7 (r.take c.toNat) rfl _ _ 22 rfl Tryz.underlying22 w4.heap.size (.slice at_ acc.length ct) acc rfl H7.out.2.1 _ rfl _ rfl _ rfl (by show (acc.length + 1) * 16 ≤ _; omega) H7.out.2.2.2.2.2 ?_; intro g gc w8 hown8 hc8 _; have hp8 := H7.out.appP hsz4 hc8; have c8 := hp8.cell (k := 0) rfl; have f8 := hp8.free (k := 0) (by simp); have H9 := Lib.hid (H7.out.app hsz4 hown8 hc8); clear hown8 hc8 hp8))
            all_goals
              dsimp only
              (try go_frame)
              go_wp2
              refine ⟨⟨k', acc ++ [r.take c.toNat], r.drop c.toNat, _, by go_num, by omega, by rw [List.length_drop]; omega, by rw [List.length_append, List.length_singleton]; omega, HT2.out, H9.out.1, H9.out.2.1, H9.out.2.2.1, H9.out.2.2.2.1, H9.out.2.2.2.2.1, H9.out.2.2.2.2.2, HL2.out⟩, by simp [intOf]⟩
          · have HGN := Lib.hid (show getC (n :: s) = none from getC_bad (by rw [HT.out]; exact goneC_bad hcr))
            go_upto_region 6 with fail
            have hI0 : ∃ I : Array Bool → Act → World → Prop, I = (fun listed ax wx => ∃ d0 d1 d2 d3 d4 d8 : Bool, listed = #[d0, d1, d2, d3, d4, false, false, false, d8, false] ∧ ax = { tmps := List.toArray ((.string (bs (n :: s))) :: (undef) :: (.pointer (some ⟨w.heap.size, 0, none⟩)) :: (.pointer (some ⟨w.heap.size + 1, 0, none⟩)) :: (.pointer (some ⟨w.heap.size + 1 + 1, 0, none⟩)) :: ((.int .i64 ((k' + 1 : Nat) : Int))) :: (undef) :: (undef) :: (.func (.func 80) #[] #[.pointer (some ⟨w.heap.size, 0, none⟩), .pointer (some ⟨w.heap.size + 1, 0, none⟩)]) :: (.string (bs (n :: s))) :: (.agg #[.string (bs (n :: s))]) :: (.pointer (some ⟨w.heap.size + 1 + 1, 0, none⟩)) :: (.pointer (some ⟨w.heap.size + 1 + 1, 0, none⟩)) :: (.int .i64 (n.toNat : Int)) :: ((.int .i64 ((k' + 1 : Nat) : Int))) :: (.bool true) :: (u16) :: (u17) :: (sd d0 (.pointer (some ⟨w.heap.size, 0, none⟩)) u18) :: (sd d1 (.slice at_ acc.length ct) u19) :: (sd d2 (.pointer (some ⟨w.heap.size + 1 + 1, 0, none⟩)) u20) :: (sd d3 (.pointer (some ⟨w.heap.size + 1 + 1, 0, none⟩)) u21) :: (sd d4 (.int .i64 (c.toNat : Int)) u22) :: (u23) :: (u24) :: (u25) :: (sd d8 (.pointer (some ⟨w.heap.size, 0, none⟩)) u26) :: (undef) :: (undef) :: (undef) :: (undef) :: (undef) :: (undef) :: (undef) :: (undef) :: (undef) :: (undef) :: (undef) :: (undef) :: (undef) :: (undef) :: (undef) :: (undef) :: (undef) :: (undef) :: (undef) :: (undef) :: (undef) :: (undef) :: (undef) :: (undef) :: (undef) :: (undef) :: (undef) :: (undef) :: (undef) :: (undef) :: (undef) :: (undef) :: (undef) :: (undef) :: (undef) :: []), defers := [{ target := Target.fn (Fn.func 80) #[.pointer (some ⟨w.heap.size, 0, none⟩), .pointer (some ⟨w.heap.size + 1, 0, none⟩)], args := #[] }] } ∧ Hid (WX6 w wx (.slice at_ acc.length ct) (c :: r) r d4)) := ⟨_, rfl⟩
            obtain ⟨INV, hINV⟩ := hI0
            have HINV := Lib.hid hINV
            clear hINV
            refine region_inv INV (by kernel_rfl) (by kernel_rfl) (by rw [HINV.out]; exact ⟨false, false, false, false, false, false, rfl, rfl, WX6.start HP.out HE.out HB.out HR.out⟩) ?_ ?_
            · intro listed ax wx hI hs hall
              rw [HINV.out] at hI
              obtain ⟨d0, d1, d2, d3, d4, d8, rfl, rfl, hBI⟩ := hI
              have := hall 5 (by decide)
              simp at this
            refine ⟨fun listed ax wx hI hd hdep => ?_, fun listed ax wx hI hd hdep => ?_, fun listed ax wx hI hd hdep => ?_, fun listed ax wx hI hd hdep => ?_, fun listed ax wx hI hd hdep => ?_, fun listed ax wx hI hd hdep => ?_, fun listed ax wx hI hd hdep => ?_, fun listed ax wx hI hd hdep => ?_, fun listed ax wx hI hd hdep => ?_, fun listed ax wx hI hd hdep => ?_, True.intro⟩
            · rw [HINV.out] at hI
              obtain ⟨d0, d1, d2, d3, d4, d8, rfl, rfl, hBI⟩ := hI
              obtain rfl : d0 = false := by simpa using hd
              clear hdep
              clear hd
              rw [if_pos (by rfl)]
              unfold Oper.wp
              go_simp
              rw [HINV.out]
              exact ⟨true, d1, d2, d3, d4, d8, rfl, rfl, hBI⟩
            · rw [HINV.out] at hI
              obtain ⟨d0, d1, d2, d3, d4, d8, rfl, rfl, hBI⟩ := hI
              obtain rfl : d1 = false := by simpa using hd
              simp [Region.binds] at hdep
              have e0 : d0 = true := by simp [hdep]
              clear hdep
              simp only [e0] at hBI ⊢
              clear hd
              rw [if_pos (by rfl)]
              unfold Oper.wp
              have y0 := hBI.out.1.cell (k := 0) rfl
              go_simp
              rw [HINV.out]
              exact ⟨true, true, d2, d3, d4, d8, rfl, rfl, hBI⟩
            · rw [HINV.out] at hI
              obtain ⟨d0, d1, d2, d3, d4, d8, rfl, rfl, hBI⟩ := hI
              obtain rfl : d2 = false := by simpa using hd
              clear hdep
              clear hd
              rw [if_pos (by rfl)]
              unfold Oper.wp
              go_simp
              rw [HINV.out]
              exact ⟨d0, d1, true, d3, d4, d8, rfl, rfl, hBI⟩
            · rw [HINV.out] at hI
              obtain ⟨d0, d1, d2, d3, d4, d8, rfl, rfl, hBI⟩ := hI
              obtain rfl : d3 = false := by simpa using hd
              clear hdep
              clear hd
              rw [if_pos (by rfl)]
              unfold Oper.wp
              go_simp
              rw [HINV.out]
              exact ⟨d0, d1, d2, true, d4, d8, rfl, rfl, hBI⟩
            · rw [HINV.out] at hI
              obtain ⟨d0, d1, d2, d3, d4, d8, rfl, rfl, hBI⟩ := hI
              obtain rfl : d4 = false := by simpa using hd
              simp [Region.binds] at hdep
              have e3 : d3 = true := by simp [hdep]
              clear hdep
              simp only [e3] at hBI ⊢
              clear hd
              rw [if_pos (by rfl)]
              refine step_callW 81 #[.pointer (some ⟨w.heap.size + 2, 0, none⟩)] (by go_simp) (num_ok _ c r wx hBI.out.rd (by simp at hrl; omega)) ?_
              rintro e w6 ⟨rfl, hr6, hc6⟩
              show INV _ _ _
              rw [HINV.out]
              exact ⟨d0, d1, d2, true, true, d8, rfl, rfl, hBI.out.step hr6 hc6⟩
            · rw [HINV.out] at hI
              obtain ⟨d0, d1, d2, d3, d4, d8, rfl, rfl, hBI⟩ := hI
              simp [Region.binds] at hdep
              have e2 : d2 = true := by simp [hdep]
              have e4 : d4 = true := by simp [hdep]
              clear hdep
              simp only [e2, e4] at hBI ⊢
              clear hd
              rw [if_pos (by rfl)]
              refine step_callW 82 #[.pointer (some ⟨w.heap.size + 2, 0, none⟩), .int .i64 (c.toNat : Int)] (by go_simp) (take_bad _ r c.toNat wx hBI.out.rd (by omega) (by have := c.toNat_lt; omega)) ?_
              rintro e w6 ⟨rfl, rfl⟩
              exact get_caught HGN.out hBI.out.1 hBI.out.2.1 (by omega) (Nat.le_refl _) (by omega) hBI.out.2.2.1 rfl rfl
            · rw [HINV.out] at hI
              obtain ⟨d0, d1, d2, d3, d4, d8, rfl, rfl, hBI⟩ := hI
              simp [Region.binds] at hdep
            · rw [HINV.out] at hI
              obtain ⟨d0, d1, d2, d3, d4, d8, rfl, rfl, hBI⟩ := hI
              simp [Region.binds] at hdep
            · rw [HINV.out] at hI
              obtain ⟨d0, d1, d2, d3, d4, d8, rfl, rfl, hBI⟩ := hI
              obtain rfl : d8 = false := by simpa using hd
              clear hdep
              clear hd
              rw [if_pos (by rfl)]
              unfold Oper.wp
              go_simp
              rw [HINV.out]
              exact ⟨d0, d1, d2, d3, d4, true, rfl, rfl, hBI⟩
            · rw [HINV.out] at hI
              obtain ⟨d0, d1, d2, d3, d4, d8, rfl, rfl, hBI⟩ := hI
              simp [Region.binds] at hdep
      · obtain rfl : k = 0 := by omega
        have hT := HT.out
        rw [goneC_zero] at hT
        have HT0 := Lib.hid hT
        have HO0 := Lib.hid (show OKT w wr w4.heap.size _ r acc from ⟨HP.out, HO.out, HE.out, HR.out, HB.out, hsz⟩)
        clear hT HT h0
        cases r with
        | nil =>
          have HGN := Lib.hid (getC_short HT0.out (by simp))
          have HN := Lib.hid (num_bad _ wr HR.out)
          go_wp2_with fail
          refine HN.out.mono ?_
          rintro e w5 ⟨rfl, rfl⟩
          go_wp2_with fail
          exact get_caught HGN.out HP.out HE.out (by omega) (Nat.le_refl _) (by omega) HB.out rfl rfl
        | cons a r =>
          have hrl1 : r.length ≤ 10000 := by simp at hrl; omega
          have HN := Lib.hid (num_ok _ a r wr HR.out (by omega))
          have ha256 := a.toNat_lt
          clear HP HE HR HB HO hrl
          go_wp2_with fail
          refine HN.out.mono ?_
          rintro e w5 ⟨rfl, hr5, hc5⟩
          have H5 := Lib.hid (HO0.out.read hsz4 hr5 hc5)
          clear hr5 hc5 HN HO0
          cases r with
          | nil =>
            have HGN := Lib.hid (getC_short HT0.out (by simp))
            have HN := Lib.hid (num_bad _ w5 H5.out.2.2.2.1)
            go_wp2_with fail
            refine HN.out.mono ?_
            rintro e w6 ⟨rfl, rfl⟩
            go_wp2_with fail
            exact get_caught HGN.out H5.out.1 H5.out.2.2.1 (by omega) (Nat.le_refl _) (by omega) H5.out.2.2.2.2.1 rfl rfl
          | cons b r0 =>
            have hrl2 : r0.length ≤ 10000 := by simp at hrl1; omega
            have HN := Lib.hid (num_ok _ b r0 w5 H5.out.2.2.2.1 (by omega))
            have hb256 := b.toNat_lt
            clear hrl1
            obtain ⟨N, hN⟩ : ∃ N, N = a.toNat + 256 * b.toNat := ⟨_, rfl⟩
            have hNl : N ≤ 65535 := by omega
            have ew : (a.toNat : Int) + 256 * (b.toNat : Int) = (N : Int) := by omega
            have q1 : (0 : Int) ≤ (b.toNat : Int) := by omega
            have q2 : (b.toNat : Int) ≤ 255 := by omega
            have q3 : (0 : Int) ≤ (a.toNat : Int) := by omega
            have q4 : (a.toNat : Int) ≤ 255 := by omega
            have HNN := Lib.hid hN
            clear hN
            go_wp2_with fail
            refine HN.out.mono ?_
            rintro e w6 ⟨rfl, hr6, hc6⟩
            have H6 := Lib.hid (H5.out.read hsz4 hr6 hc6).code
            have hsz6 : w.heap.size + 3 ≤ w6.heap.size := by have := (H5.out.read hsz4 hr6 hc6).2.2.2.2.2; omega
            clear hr6 hc6 HN H5
            go_wp2_with fail
            go_loopw [6] (fun v wr => ∃ (k : Nat) (acc2 : List VI) (r : List UInt8) (cv : Value), v = .int .i64 (k : Int) ∧ k ≤ 65535 ∧ r.length ≤ 10000 ∧ acc2.length + k ≤ 65535 ∧ Hid (goneI r0 (a.toNat + 256 * b.toNat) [] = goneI r k acc2) ∧ Hid (OKI w wr w4.heap.size w6.heap.size (.slice at_ acc.length ct) cv r acc acc2)) (fun v _ => (intOf v).toNat)
            case atStart => exact ⟨N, [], r0, _, rfl, hNl, hrl2, by simp; omega, by unfold Hid; rw [HNN.out], H6.out⟩
            case round =>
              obtain ⟨k, acc2, r, cv, rfl, hk, hrl, hac2, HI, HO⟩ := hrel
              obtain ⟨ac_, cc, rfl⟩ := owns_slice HO.out.2.2.1
              by_cases h0 : 0 < k
              · have t0 : (0 : Int) < (k : Int) := by omega
                obtain ⟨k', rfl⟩ : ∃ k', k = k' + 1 := ⟨k - 1, by omega⟩
                by_cases h2 : r.length < 2
                · have HGN := Lib.hid (getC_noI HT0.out (by rw [HI.out]; exact goneI_bad h2))
                  have HN := Lib.hid (take_bad _ r 2 wr HO.out.2.2.2.2.1 h2 (by omega))
                  clear h2
                  go_wp2_with fail
                  refine HN.out.mono ?_
                  rintro e w7 ⟨rfl, rfl⟩
                  go_wp2_with fail
                  exact get_caught HGN.out HO.out.1 HO.out.2.2.2.1 (by omega) (Nat.le_refl _) (by omega) HO.out.2.2.2.2.2.1 rfl rfl
                · obtain ⟨x, y, r2, rfl⟩ : ∃ x y r2, r = x :: y :: r2 := by
                    match r, h2 with
                    | [], h => exact absurd (by simp) h
                    | [a], h => exact absurd (by simp) h
                    | x :: y :: r2, _ => exact ⟨x, y, r2, rfl⟩
                  have hrl3 : r2.length ≤ 10000 := by simp at hrl; omega
                  have HN := Lib.hid (take2_ok _ x y r2 wr HO.out.2.2.2.2.1 (by omega))
                  have HI2 := Lib.hid (HI.out.trans goneI_ok)
                  clear h2 hrl
                  go_wp2_with fail
                  refine HN.out.mono ?_
                  rintro e w7 ⟨rfl, hr7, hc7⟩
                  have H7 := Lib.hid (HO.out.read hsz4 hsz6 hr7 hc7).drew
                  have c7 := (HO.out.read hsz4 hsz6 hr7 hc7).1.cell (k := 1) rfl
                  have l7 := (HO.out.read hsz4 hsz6 hr7 hc7).1.lt
                  clear hr7 hc7 HN
                  go_upto_region 12 with fail
                  refine wp_calm ?_
                  go_region_law (refine recIns.step_append1V w7.drew (x, y) rfl _ _ 23 rfl Tryz.underlying23 w6.heap.size (.slice ac_ acc2.length cc) acc2 rfl H7.out.2.2.1 _ rfl _ rfl _ rfl (by show (acc2.length + 1) * 2 ≤ _; omega) H7.out.2.2.2.2.2.2.1 ?_; intro g gc w8 hown8 hc8 _; have hp8 := H7.out.appP hsz6 hc8; have c8 := hp8.cell (k := 1) rfl; have f8 := hp8.free (k := 1) (by simp); have H9 := Lib.hid (H7.out.app hsz4 hsz6 hown8 hc8); clear hown8 hc8 hp8)
                  all_goals
                    dsimp only
                    (try go_frame)
                    go_wp2
                    refine ⟨⟨k', acc2 ++ [(x, y)], r2, _, by go_num, by omega, hrl3, by rw [List.length_append, List.length_singleton]; omega, HI2.out, H9.out⟩, by simp [intOf]⟩
              · obtain rfl : k = 0 := by omega
                have hI := HI.out
                rw [goneI_zero] at hI
                have HGI := Lib.hid (getC_isI HT0.out hI)
                clear hI
                have c0 := HO.out.1.cell (k := 0) rfl
                have c1 := HO.out.1.cell (k := 1) rfl
                have f0 := HO.out.1.free (k := 0) (by simp)
                have f1 := HO.out.1.free (k := 1) (by simp)
                have d0 := HO.out.2.2.2.1.cell (k := 0) rfl
                have g0 := HO.out.2.2.2.1.free (k := 0) (by simp)
                have r0_ := HO.out.2.2.2.2.1.cell (k := 0) rfl
                cases r with
                | nil =>
                  have HCK := Lib.hid (CCheck_any _ _ acc acc2 wr HO.out.2.1.row HO.out.2.2.1.row (by omega) (by omega) (fun x hx => Nat.le_trans (HL.out x hx) (by decide)))
                  by_cases hm : mayV acc acc2 = true
                  · rw [if_pos hm] at HCK
                    rw [if_pos ⟨rfl, hm⟩] at HGI
                    clear hm
                    go_wp2_with fail
                    refine HCK.out.mono ?_
                    rintro e w8 ⟨rfl, hB⟩
                    have H8 := Lib.hid (HO.out.below hB)
                    clear c0 c1 f0 f1 d0 g0 r0_ hB
                    have c0 := H8.out.1.cell (k := 0) rfl
                    have c1 := H8.out.1.cell (k := 1) rfl
                    have f0 := H8.out.1.free (k := 0) (by simp)
                    have f1 := H8.out.1.free (k := 1) (by simp)
                    have d0 := H8.out.2.2.2.1.cell (k := 0) rfl
                    have g0 := H8.out.2.2.2.1.free (k := 0) (by simp)
                    go_wp2_with fail
                    obtain ⟨h1, h2, h3⟩ := H8.out.fin (.slice at_ acc.length ct) (.slice ac_ acc2.length cc) (.int .i64 0)
                    obtain ⟨h4, h5⟩ := H8.out.own hsz4 hsz6 (.slice at_ acc.length ct) (.slice ac_ acc2.length cc) (.int .i64 0)
                    exact get_done h1 h2 h3 rfl rfl (GetR_some HGI.out h4 h5)
                  · rw [if_neg hm] at HCK
                    rw [if_neg (fun h => hm h.2)] at HGI
                    clear hm
                    go_wp2_with fail
                    refine HCK.out.mono ?_
                    rintro e w8 ⟨rfl, hB⟩
                    have H8 := Lib.hid (HO.out.below hB)
                    clear c0 c1 f0 f1 d0 g0 r0_ hB
                    have c0 := H8.out.1.cell (k := 0) rfl
                    have c1 := H8.out.1.cell (k := 1) rfl
                    have f0 := H8.out.1.free (k := 0) (by simp)
                    have f1 := H8.out.1.free (k := 1) (by simp)
                    have d0 := H8.out.2.2.2.1.cell (k := 0) rfl
                    have g0 := H8.out.2.2.2.1.free (k := 0) (by simp)
                    go_wp2_with fail
                    obtain ⟨h1, h2, h3⟩ := H8.out.fin (.slice none 0 0) (.slice none 0 0) (.int .i64 7)
                    exact get_done h1 h2 h3 rfl rfl (GetR_none HGI.out)
                | cons c r =>
                  rw [if_neg (fun h => by cases h.1)] at HGI
                  go_wp2_with fail
                  obtain ⟨h1, h2, h3⟩ := HO.out.fin (.slice none 0 0) (.slice none 0 0) (.int .i64 7)
                  exact get_done h1 h2 h3 rfl rfl (GetR_none HGI.out)
end Go.Proofs.YtndagciefnddmaaGreatDoor
namespace Go.Proofs.YtndagciefnddmaaGreatDoor
open Go.RowKit Oct
attribute [local irreducible] wpG
theorem mod4J {n : Nat} (h : n < 4294967296) : n % 256 ^ 4 = n := by
  have e : (256 : Nat) ^ 4 = 4294967296 := by decide
  rw [e]
  exact Nat.mod_eq_of_lt h
set_option maxRecDepth 100000 in
set_option maxHeartbeats 4000000 in
theorem jtake_any (M R : List UInt8) (w : World) (hM : M.length ≤ 2000) (hR : R.length ≤ 10000) :
    Calls Tryz.prog 62 #[.string (bs (num M.length 4 ++ (M ++ R)))] w fun e w' => e = .returned (.tuple #[.string (bs M), .string (bs R), .bool true]) ∧ Below w.heap.size w w' := by
  obtain ⟨s, hs⟩ : ∃ s, s = num M.length 4 ++ (M ++ R) := ⟨_, rfl⟩
  have hl : s.length = 4 + M.length + R.length := by rw [hs, List.length_append, List.length_append, num_length]; omega
  have h4 : s.take 4 = num M.length 4 := by rw [hs]; exact List.take_left' (num_length _ _)
  have HG := Lib.hid (show Calls Tryz.prog 61 #[.string (bs (s.take 4))] w fun e w' => e = .returned (.tuple #[.int .u64 (M.length : Int), .int .i64 0]) ∧ w = w' by
    have h := Get01_any (bs (s.take 4)) w (by rw [bs_size, h4, num_length]; decide)
    rw [show (bs (s.take 4)).data.toList = num M.length 4 by rw [h4]; simp [bs], get_ok (num M.length 4) (by rw [num_length]; decide) (by rw [num_length]; decide), val_num, mod4J (Nat.lt_of_le_of_lt hM (by decide))] at h
    exact h)
  have HD := Lib.hid (show s.drop 4 = M ++ R by rw [hs]; exact List.drop_left' (num_length _ _))
  have HE1 := Lib.hid (show (s.drop 4).take (4 + M.length - 4) = M by rw [HD.out, Nat.add_sub_cancel_left]; exact List.take_left)
  have HE2 := Lib.hid (show s.drop (4 + M.length) = R by rw [← List.drop_drop, HD.out]; exact List.drop_left)
  have i1 : (s.length : Int) = 4 + (M.length : Int) + (R.length : Int) := by omega
  have i2 : (M.length : Int) ≤ 2000 := by omega
  have i3 : (R.length : Int) ≤ 10000 := by omega
  have i4 : ¬ (s.length : Int) < 4 := by omega
  have aw : IntKind.u64.wrap ((s.length : Int) - 4) = (s.length : Int) - 4 := by simp [IntKind.wrap, IntKind.bits, IntKind.signed]; omega
  have i5 : ¬ (s.length : Int) - 4 < (M.length : Int) := by omega
  rw [← hs]
  clear hs hl h4 hM hR
  go_enter Tryz.func62, Tryz.ntmps62
  go_wp2_with (go_at_call 61; refine HG.out.mono ?_; rintro e w1 ⟨rfl, rfl⟩)
  go_quiet (fail)
  go_wp2_with fail
  go_ret3
  rw [HE1.out, HE2.out]
  exact ⟨rfl, Below.drewN' _ _⟩
end Go.Proofs.YtndagciefnddmaaGreatDoor
namespace Go.Proofs.YtndagciefnddmaaGreatDoor
open Go.RowKit Oct
attribute [local irreducible] wpG
def jobRun (j : Jb) (texts : List (List UInt8)) (code : List VI) (role : UInt8) (ins : List (List UInt8)) : Nat × List (List UInt8 × List UInt8) × List UInt8 := if mayJ j = true then vmV texts code role ins j.fuel else (2, [], [])
def JRes (B : Nat) (r : Nat × List (List UInt8 × List UInt8) × List UInt8) (e : Ending) (w : World) : Prop :=
  ∃ a c n, e = .returned (.tuple #[.agg #[.slice a r.2.1.length c, .string (bs r.2.2), .int .i64 n], .int .i64 (r.1 : Int)]) ∧ recKv.Row w (.slice a r.2.1.length c) r.2.1 ∧ ∀ k, (Value.slice a r.2.1.length c).ownBlock = some k → B ≤ k
set_option maxRecDepth 100000 in
set_option maxHeartbeats 8000000 in
theorem jrun_any (J : Nat) (tt : TypeId) (t1 c1 t2 c2 t3 c3 tv cv iv : Value) (j : Jb) (texts : List (List UInt8)) (code : List VI) (role : UInt8) (ins : List (List UInt8)) (w : World) (h : JobR w t1 c1 t2 c2 t3 c3 j) (hJ : Blk w J tt [t1, c1, t2, c2, t3, c3, .int .i64 j.parts, .int .i64 j.fuel])
    (hA : AskV w tv cv texts code) (hi : recS.Row w iv ins) (hil : ins.length ≤ 10) (his : ∀ s ∈ ins, s.length ≤ 140737488355328) (hdo : doesAt w) :
    Calls Tryz.prog 47 #[.pointer (some ⟨J, 0, none⟩), .agg #[tv, cv], .int .u8 (role.toNat : Int), iv] w fun e w' => JRes w.heap.size (jobRun j texts code role ins) e w' ∧ Below w.heap.size w w' := by
  have HMAY := Lib.hid (fun w' (hB : Below w.heap.size w w') => jmay_any t1 c1 t2 c2 t3 c3 j w' (h.below hB))
  have HRUN := Lib.hid (fun w' (hB : Below w.heap.size w w') => Run_any tv cv iv texts code role ins j.fuel w' (hA.below hB) (hi.below hB) hil hA.lc his h.f0 h.f1 (h.g.below hB) (hdo.below hB))
  obtain ⟨ta, tc, rfl, -, -⟩ := recS_open h.a.t
  obtain ⟨ca, cc, rfl, -, -⟩ := recIns_open h.a.c
  obtain ⟨ta2, tc2, rfl, -, -⟩ := recS_open h.b.t
  obtain ⟨ca2, cc2, rfl, -, -⟩ := recIns_open h.b.c
  obtain ⟨ta3, tc3, rfl, -, -⟩ := recS_open h.c.t
  obtain ⟨ca3, cc3, rfl, -, -⟩ := recIns_open h.c.c
  obtain ⟨at_, ct, rfl, -, -⟩ := recS_open hA.t
  obtain ⟨ac, cc', rfl, -, -⟩ := recIns_open hA.c
  obtain ⟨ai, ci, rfl, -, -⟩ := recS_open hi
  unfold jobV at HMAY
  have HJR := Lib.hid (show mayJ j = true → jobRun j texts code role ins = vmV texts code role ins j.fuel from fun h => if_pos h)
  have HJN := Lib.hid (show ¬ mayJ j = true → jobRun j texts code role ins = (2, [], []) from fun h => if_neg h)
  obtain ⟨B4, hB4⟩ : ∃ B4, B4 = w.heap.size := ⟨_, rfl⟩
  obtain ⟨W1, hW1⟩ : ∃ W1, W1 = (w.alloc (.cells #[.slice at_ texts.length ct, .slice ac code.length cc'] 25)).alloc (.cells #[.slice none 0 0, .string ⟨#[]⟩, .int .i64 0] 88) := ⟨_, rfl⟩
  have hb1 : Below w.heap.size w W1 := by rw [hW1]; exact bt (b_alloc _ _) (b_alloc _ _)
  have hs1 : (w.alloc (.cells #[.slice at_ texts.length ct, .slice ac code.length cc'] 25)).heap.size = B4 + 1 := by rw [hB4]; exact size_alV _ _
  have hx : Blk W1 B4 25 [.slice at_ texts.length ct, .slice ac code.length cc'] := by rw [hB4, hW1]; exact (Blk.new w _ _).below (b_alloc _ _)
  have hy : Blk W1 (B4 + 1) 88 [.slice none 0 0, .string ⟨#[]⟩, .int .i64 0] := by rw [hW1, ← hs1]; exact Blk.new _ _ _
  have hsz : W1.heap.size = B4 + 2 := by rw [hW1, size_alV, hs1]
  have hj1 := hJ.below hb1
  have j0 := hj1.cell (k := 0) rfl
  have j1 := hj1.cell (k := 1) rfl
  have j2 := hj1.cell (k := 2) rfl
  have j3 := hj1.cell (k := 3) rfl
  have j4 := hj1.cell (k := 4) rfl
  have j5 := hj1.cell (k := 5) rfl
  have j6 := hj1.cell (k := 6) rfl
  have j7 := hj1.cell (k := 7) rfl
  have HB1 := Lib.hid hb1
  have HX := Lib.hid hx
  have HY := Lib.hid hy
  have HB4 := Lib.hid hB4
  have HSZ := Lib.hid hsz
  have HJ1 := Lib.hid hj1
  go_enter Tryz.func47, Tryz.ntmps47
  go_upto_region 1 with fail
  rw [← hW1, ← hB4]
  clear hW1 hB4 h hJ hA hi hb1 hx hy hs1 hsz his hdo hj1
  by_cases hyes : mayJ j = true
  · have HRV := Lib.hid (HJR.out hyes)
    rw [hyes] at HMAY
    obtain ⟨V, hV⟩ : ∃ V, V = vmV texts code role ins j.fuel := ⟨_, rfl⟩
    rw [← hV] at HRUN HRV
    clear hyes hV HJR HJN
    go_upto_region 3 with (go_at_call 58; refine (HMAY.out _ HB1.out).mono ?_; rintro e w2 ⟨rfl, hB2⟩)
    have HB2 := Lib.hid (bt HB1.out hB2)
    have HY2 := Lib.hid (HY.out.below hB2)
    have HS2 := Lib.hid (show B4 + 2 ≤ w2.heap.size by rw [← HSZ.out]; exact hB2.size)
    have x0 := (HX.out.below hB2).cell (k := 0) rfl
    have x1 := (HX.out.below hB2).cell (k := 1) rfl
    have j7 := (HJ1.out.below hB2).cell (k := 7) rfl
    have hJl : J < w2.heap.size := (HJ1.out.below hB2).lt
    have hBl : B4 < w2.heap.size := lt_of_cell x0
    have HG := Lib.hid (HRUN.out w2.drew (bt HB2.out (b_drew _)))
    clear j0 j1 j2 j3 j4 j5 j6 hB2 HY HX HJ1 HMAY HRUN
    go_region_law (refine step_callM rfl 66 #[.agg #[.slice at_ texts.length ct, .slice ac code.length cc'], .int .u8 (role.toNat : Int), .slice ai ins.length ci, .int .i64 j.fuel] (by go_simp) HG.out ?_; rintro e w7 ⟨⟨pv, n, rfl, hrow, hown⟩, hB7⟩; obtain ⟨pa, pc, rfl, -, -⟩ := Rec.Row.open hrow; have hyU := HY2.out.below (bt (b_drew w2) hB7); have y0 := hyU.cell (k := 0) rfl; have y1 := hyU.cell (k := 1) rfl; have y2 := hyU.cell (k := 2) rfl; have k0 := hyU.free (k := 0) (by simp); have k1 := hyU.free (k := 1) (by simp); have k2 := hyU.free (k := 2) (by simp); have HYU := Lib.hid hyU; have HROW := Lib.hid hrow; have HOWN := Lib.hid hown; have HB7 := Lib.hid (bt HB2.out (bt (b_drew w2) hB7)); clear hB7 hyU hrow hown)
    all_goals
      go_wp2_with fail
      obtain ⟨hy3, hc3⟩ := ran_store HYU.out (.slice pa V.2.1.length pc) (.string (bs V.2.2)) (.int .i64 n)
      refine bodyPost_ret (results_cell_tmpM rfl rfl (load_ran (hy3.cell (k := 0) rfl) (hy3.cell (k := 1) rfl) (hy3.cell (k := 2) rfl))) rfl ?_
      rw [HRV.out]
      refine ⟨⟨_, _, _, rfl, HROW.out.chgN hc3 (fun b hb e => ?_), fun k hk => Nat.le_trans HB2.out.size (HOWN.out k hk)⟩, HB7.out.trans (hc3.below (fun k hk => by rw [show k = B4 + 1 from hk, HB4.out]; exact Nat.le_succ _) HB7.out.size)⟩
      have h1 : w2.heap.size ≤ b := HOWN.out b hb
      rw [show b = B4 + 1 from e] at h1
      have := HS2.out
      omega
  · have HN := Lib.hid (HJN.out hyes)
    have hno : mayJ j = false := by cases h : mayJ j with
      | false => rfl
      | true => exact absurd h hyes
    rw [hno] at HMAY
    clear hyes hno HRUN HJR HJN
    go_wp2_with (go_at_call 58; refine (HMAY.out _ HB1.out).mono ?_; rintro e w2 ⟨rfl, hB2⟩; have hyU := HY.out.below hB2; have y0 := hyU.cell (k := 0) rfl; have y1 := hyU.cell (k := 1) rfl; have y2 := hyU.cell (k := 2) rfl; have k0 := hyU.free (k := 0) (by simp); have k1 := hyU.free (k := 1) (by simp); have k2 := hyU.free (k := 2) (by simp); have HYU := Lib.hid hyU; have HB2 := Lib.hid (bt HB1.out hB2); clear hyU hB2)
    obtain ⟨hy3, hc3⟩ := ran_store HYU.out (.slice none 0 0) (.string ⟨#[]⟩) (.int .i64 0)
    refine bodyPost_ret (results_cell_tmpM rfl rfl (load_ran (hy3.cell (k := 0) rfl) (hy3.cell (k := 1) rfl) (hy3.cell (k := 2) rfl))) rfl ?_
    rw [HN.out]
    exact ⟨⟨_, _, _, rfl, Rec.Row.nil _, fun k hk => by cases hk⟩, HB2.out.trans (hc3.below (fun k hk => by rw [show k = B4 + 1 from hk, HB4.out]; exact Nat.le_succ _) HB2.out.size)⟩
end Go.Proofs.YtndagciefnddmaaGreatDoor
namespace Go.Proofs.YtndagciefnddmaaGreatDoor
open Go.RowKit Oct
attribute [local irreducible] wpG
set_option maxRecDepth 100000 in
set_option maxHeartbeats 8000000 in
theorem jMap_any (t1 c1 t2 c2 t3 c3 : Value) (j : Jb) (s : List UInt8) (w : World) (h : JobR w t1 c1 t2 c2 t3 c3 j) (hdo : doesAt w) (hs : s.length ≤ 140737488355328) :
    Calls Tryz.prog 26 #[jobV t1 c1 t2 c2 t3 c3 j, .string (bs s)] w fun e w' => (∃ pv, e = .returned (.tuple #[pv, .int .i64 ((jobRun j j.mt j.mc 1 [s]).1 : Int)]) ∧ recKv.Row w' pv (jobRun j j.mt j.mc 1 [s]).2.1) ∧ Below w.heap.size w w' := by
  have HR := Lib.hid (fun w' (H : Nat) (ty : TypeId) iv (hB : Below w.heap.size w w') (hH : Blk w' H ty [t1, c1, t2, c2, t3, c3, .int .i64 j.parts, .int .i64 j.fuel]) (hi : recS.Row w' iv [s]) => jrun_any H ty t1 c1 t2 c2 t3 c3 t1 c1 iv j j.mt j.mc 1 [s] w' (h.below hB) hH (h.below hB).a hi (by simp) (fun x hx => by rw [List.mem_singleton.1 hx]; exact hs) (hdo.below hB))
  obtain ⟨ta, tc, rfl, -, -⟩ := recS_open h.a.t
  obtain ⟨ca, cc, rfl, -, -⟩ := recIns_open h.a.c
  obtain ⟨ta2, tc2, rfl, -, -⟩ := recS_open h.b.t
  obtain ⟨ca2, cc2, rfl, -, -⟩ := recIns_open h.b.c
  obtain ⟨ta3, tc3, rfl, -, -⟩ := recS_open h.c.t
  obtain ⟨ca3, cc3, rfl, -, -⟩ := recIns_open h.c.c
  unfold jobV
  obtain ⟨V, hV⟩ : ∃ V, V = jobRun j j.mt j.mc 1 [s] := ⟨_, rfl⟩
  rw [← hV] at HR ⊢
  clear hV h hdo
  go_enter Tryz.func26, Tryz.ntmps26
  go_upto_region 1 with fail
  obtain ⟨W1, hW1⟩ : ∃ W1, W1 = w.alloc (.cells #[.slice ta j.mt.length tc, .slice ca j.mc.length cc, .slice ta2 j.jt.length tc2, .slice ca2 j.jc.length cc2, .slice ta3 j.tt.length tc3, .slice ca3 j.tc.length cc3, .int .i64 j.parts, .int .i64 j.fuel] 27) := ⟨_, rfl⟩
  have hb1 : Below w.heap.size w W1 := by rw [hW1]; exact b_alloc _ _
  have hx : Blk W1 w.heap.size 27 [.slice ta j.mt.length tc, .slice ca j.mc.length cc, .slice ta2 j.jt.length tc2, .slice ca2 j.jc.length cc2, .slice ta3 j.tt.length tc3, .slice ca3 j.tc.length cc3, .int .i64 j.parts, .int .i64 j.fuel] := by rw [hW1]; exact Blk.new w _ _
  have x0 := hx.cell (k := 0) rfl
  have x1 := hx.cell (k := 1) rfl
  have x2 := hx.cell (k := 2) rfl
  have x3 := hx.cell (k := 3) rfl
  have x4 := hx.cell (k := 4) rfl
  have x5 := hx.cell (k := 5) rfl
  have x6 := hx.cell (k := 6) rfl
  have x7 := hx.cell (k := 7) rfl
  have hbl : w.heap.size < W1.heap.size := hx.lt
  rw [← hW1]
  have HB1 := Lib.hid hb1
  have HX := Lib.hid hx
  clear hW1 hb1 hx
  go_upto_region 2 with fail
  obtain ⟨H, hH⟩ : ∃ H, H = W1.heap.size := ⟨_, rfl⟩
  obtain ⟨W2, hW2⟩ : ∃ W2, W2 = W1.alloc (.cells #[.slice ta j.mt.length tc, .slice ca j.mc.length cc, .slice ta2 j.jt.length tc2, .slice ca2 j.jc.length cc2, .slice ta3 j.tt.length tc3, .slice ca3 j.tc.length cc3, .int .i64 j.parts, .int .i64 j.fuel] 86) := ⟨_, rfl⟩
  have hb2 : Below W1.heap.size W1 W2 := by rw [hW2]; exact b_alloc _ _
  have hh : Blk W2 H 86 [.slice ta j.mt.length tc, .slice ca j.mc.length cc, .slice ta2 j.jt.length tc2, .slice ca2 j.jc.length cc2, .slice ta3 j.tt.length tc3, .slice ca3 j.tc.length cc3, .int .i64 j.parts, .int .i64 j.fuel] := by rw [hH, hW2]; exact Blk.new W1 _ _
  have hx2 := HX.out.below hb2
  replace x0 := hx2.cell (k := 0) rfl
  replace x1 := hx2.cell (k := 1) rfl
  have hbl2 : w.heap.size < W2.heap.size := hx2.lt
  rw [← hW2, ← hH]
  have HB2 := Lib.hid (bt HB1.out hb2)
  have HH := Lib.hid hh
  clear hW2 hH hb2 hh hx2 x2 x3 x4 x5 x6 x7
  go_wp2_with (go_at_call 47; refine (HR.out _ H 86 _ (bt HB2.out (b_alloc _ _)) (HH.out.below (b_alloc _ _)) (Rec.Row.new (R := recS) W2 [s] 9)).mono ?_; rintro e w3 ⟨⟨pa, pc, n, rfl, hrow, -⟩, hB3⟩; have HROW := Lib.hid hrow; have HB3 := Lib.hid (bt (bt HB2.out (b_alloc _ _)) hB3); clear hrow hB3)
  go_ret2
  exact ⟨⟨_, rfl, HROW.out.below (b_alloc _ _)⟩, bt HB3.out (b_alloc _ _)⟩
set_option maxRecDepth 100000 in
set_option maxHeartbeats 8000000 in
theorem jJoin_any (t1 c1 t2 c2 t3 c3 : Value) (j : Jb) (s s2 : List UInt8) (w : World) (h : JobR w t1 c1 t2 c2 t3 c3 j) (hdo : doesAt w) (hs : s.length ≤ 140737488355328) (hs2 : s2.length ≤ 140737488355328) :
    Calls Tryz.prog 27 #[jobV t1 c1 t2 c2 t3 c3 j, .string (bs s), .string (bs s2)] w fun e w' => e = .returned (.tuple #[.string (bs (jobRun j j.jt j.jc 2 [s, s2]).2.2), .int .i64 ((jobRun j j.jt j.jc 2 [s, s2]).1 : Int)]) ∧ Below w.heap.size w w' := by
  have HR := Lib.hid (fun w' (H : Nat) (ty : TypeId) iv (hB : Below w.heap.size w w') (hH : Blk w' H ty [t1, c1, t2, c2, t3, c3, .int .i64 j.parts, .int .i64 j.fuel]) (hi : recS.Row w' iv [s, s2]) => jrun_any H ty t1 c1 t2 c2 t3 c3 t2 c2 iv j j.jt j.jc 2 [s, s2] w' (h.below hB) hH (h.below hB).b hi (by simp) (fun x hx => by rcases List.mem_cons.1 hx with rfl | hx; exact hs; rw [List.mem_singleton.1 hx]; exact hs2) (hdo.below hB))
  obtain ⟨ta, tc, rfl, -, -⟩ := recS_open h.a.t
  obtain ⟨ca, cc, rfl, -, -⟩ := recIns_open h.a.c
  obtain ⟨ta2, tc2, rfl, -, -⟩ := recS_open h.b.t
  obtain ⟨ca2, cc2, rfl, -, -⟩ := recIns_open h.b.c
  obtain ⟨ta3, tc3, rfl, -, -⟩ := recS_open h.c.t
  obtain ⟨ca3, cc3, rfl, -, -⟩ := recIns_open h.c.c
  unfold jobV
  obtain ⟨V, hV⟩ : ∃ V, V = jobRun j j.jt j.jc 2 [s, s2] := ⟨_, rfl⟩
  rw [← hV] at HR ⊢
  clear hV h hdo
  go_enter Tryz.func27, Tryz.ntmps27
  go_upto_region 1 with fail
  obtain ⟨W1, hW1⟩ : ∃ W1, W1 = w.alloc (.cells #[.slice ta j.mt.length tc, .slice ca j.mc.length cc, .slice ta2 j.jt.length tc2, .slice ca2 j.jc.length cc2, .slice ta3 j.tt.length tc3, .slice ca3 j.tc.length cc3, .int .i64 j.parts, .int .i64 j.fuel] 27) := ⟨_, rfl⟩
  have hb1 : Below w.heap.size w W1 := by rw [hW1]; exact b_alloc _ _
  have hx : Blk W1 w.heap.size 27 [.slice ta j.mt.length tc, .slice ca j.mc.length cc, .slice ta2 j.jt.length tc2, .slice ca2 j.jc.length cc2, .slice ta3 j.tt.length tc3, .slice ca3 j.tc.length cc3, .int .i64 j.parts, .int .i64 j.fuel] := by rw [hW1]; exact Blk.new w _ _
  have x0 := hx.cell (k := 0) rfl
  have x1 := hx.cell (k := 1) rfl
  have x2 := hx.cell (k := 2) rfl
  have x3 := hx.cell (k := 3) rfl
  have x4 := hx.cell (k := 4) rfl
  have x5 := hx.cell (k := 5) rfl
  have x6 := hx.cell (k := 6) rfl
  have x7 := hx.cell (k := 7) rfl
  have hbl : w.heap.size < W1.heap.size := hx.lt
  rw [← hW1]
  have HB1 := Lib.hid hb1
  have HX := Lib.hid hx
  clear hW1 hb1 hx
  go_upto_region 2 with fail
  obtain ⟨H, hH⟩ : ∃ H, H = W1.heap.size := ⟨_, rfl⟩
  obtain ⟨W2, hW2⟩ : ∃ W2, W2 = W1.alloc (.cells #[.slice ta j.mt.length tc, .slice ca j.mc.length cc, .slice ta2 j.jt.length tc2, .slice ca2 j.jc.length cc2, .slice ta3 j.tt.length tc3, .slice ca3 j.tc.length cc3, .int .i64 j.parts, .int .i64 j.fuel] 86) := ⟨_, rfl⟩
  have hb2 : Below W1.heap.size W1 W2 := by rw [hW2]; exact b_alloc _ _
  have hh : Blk W2 H 86 [.slice ta j.mt.length tc, .slice ca j.mc.length cc, .slice ta2 j.jt.length tc2, .slice ca2 j.jc.length cc2, .slice ta3 j.tt.length tc3, .slice ca3 j.tc.length cc3, .int .i64 j.parts, .int .i64 j.fuel] := by rw [hH, hW2]; exact Blk.new W1 _ _
  have hx2 := HX.out.below hb2
  have x0 := hx2.cell (k := 2) rfl
  have x1 := hx2.cell (k := 3) rfl
  have hbl2 : w.heap.size < W2.heap.size := hx2.lt
  rw [← hW2, ← hH]
  have HB2 := Lib.hid (bt HB1.out hb2)
  have HH := Lib.hid hh
  clear hW2 hH hb2 hh hx2 x2 x3 x4 x5 x6 x7
  go_wp2_with (go_at_call 47; refine (HR.out _ H 86 _ (bt HB2.out (b_alloc _ _)) (HH.out.below (b_alloc _ _)) (Rec.Row.new (R := recS) W2 [s, s2] 9)).mono ?_; rintro e w3 ⟨⟨pa, pc, n, rfl, hrow, -⟩, hB3⟩; have HROW := Lib.hid hrow; have HB3 := Lib.hid (bt (bt HB2.out (b_alloc _ _)) hB3); clear hrow hB3)
  go_ret2
  exact ⟨rfl, bt HB3.out (b_alloc _ _)⟩
set_option maxRecDepth 100000 in
set_option maxHeartbeats 8000000 in
theorem jTell_any (t1 c1 t2 c2 t3 c3 : Value) (j : Jb) (s s2 : List UInt8) (w : World) (h : JobR w t1 c1 t2 c2 t3 c3 j) (hdo : doesAt w) (hs : s.length ≤ 140737488355328) (hs2 : s2.length ≤ 140737488355328) :
    Calls Tryz.prog 28 #[jobV t1 c1 t2 c2 t3 c3 j, .string (bs s), .string (bs s2)] w fun e w' => e = .returned (.tuple #[.string (bs (jobRun j j.tt j.tc 3 [s, s2]).2.2), .int .i64 ((jobRun j j.tt j.tc 3 [s, s2]).1 : Int)]) ∧ Below w.heap.size w w' := by
  have HR := Lib.hid (fun w' (H : Nat) (ty : TypeId) iv (hB : Below w.heap.size w w') (hH : Blk w' H ty [t1, c1, t2, c2, t3, c3, .int .i64 j.parts, .int .i64 j.fuel]) (hi : recS.Row w' iv [s, s2]) => jrun_any H ty t1 c1 t2 c2 t3 c3 t3 c3 iv j j.tt j.tc 3 [s, s2] w' (h.below hB) hH (h.below hB).c hi (by simp) (fun x hx => by rcases List.mem_cons.1 hx with rfl | hx; exact hs; rw [List.mem_singleton.1 hx]; exact hs2) (hdo.below hB))
  obtain ⟨ta, tc, rfl, -, -⟩ := recS_open h.a.t
  obtain ⟨ca, cc, rfl, -, -⟩ := recIns_open h.a.c
  obtain ⟨ta2, tc2, rfl, -, -⟩ := recS_open h.b.t
  obtain ⟨ca2, cc2, rfl, -, -⟩ := recIns_open h.b.c
  obtain ⟨ta3, tc3, rfl, -, -⟩ := recS_open h.c.t
  obtain ⟨ca3, cc3, rfl, -, -⟩ := recIns_open h.c.c
  unfold jobV
  obtain ⟨V, hV⟩ : ∃ V, V = jobRun j j.tt j.tc 3 [s, s2] := ⟨_, rfl⟩
  rw [← hV] at HR ⊢
  clear hV h hdo
  go_enter Tryz.func28, Tryz.ntmps28
  go_upto_region 1 with fail
  obtain ⟨W1, hW1⟩ : ∃ W1, W1 = w.alloc (.cells #[.slice ta j.mt.length tc, .slice ca j.mc.length cc, .slice ta2 j.jt.length tc2, .slice ca2 j.jc.length cc2, .slice ta3 j.tt.length tc3, .slice ca3 j.tc.length cc3, .int .i64 j.parts, .int .i64 j.fuel] 27) := ⟨_, rfl⟩
  have hb1 : Below w.heap.size w W1 := by rw [hW1]; exact b_alloc _ _
  have hx : Blk W1 w.heap.size 27 [.slice ta j.mt.length tc, .slice ca j.mc.length cc, .slice ta2 j.jt.length tc2, .slice ca2 j.jc.length cc2, .slice ta3 j.tt.length tc3, .slice ca3 j.tc.length cc3, .int .i64 j.parts, .int .i64 j.fuel] := by rw [hW1]; exact Blk.new w _ _
  have x0 := hx.cell (k := 0) rfl
  have x1 := hx.cell (k := 1) rfl
  have x2 := hx.cell (k := 2) rfl
  have x3 := hx.cell (k := 3) rfl
  have x4 := hx.cell (k := 4) rfl
  have x5 := hx.cell (k := 5) rfl
  have x6 := hx.cell (k := 6) rfl
  have x7 := hx.cell (k := 7) rfl
  have hbl : w.heap.size < W1.heap.size := hx.lt
  rw [← hW1]
  have HB1 := Lib.hid hb1
  have HX := Lib.hid hx
  clear hW1 hb1 hx
  go_upto_region 2 with fail
  obtain ⟨H, hH⟩ : ∃ H, H = W1.heap.size := ⟨_, rfl⟩
  obtain ⟨W2, hW2⟩ : ∃ W2, W2 = W1.alloc (.cells #[.slice ta j.mt.length tc, .slice ca j.mc.length cc, .slice ta2 j.jt.length tc2, .slice ca2 j.jc.length cc2, .slice ta3 j.tt.length tc3, .slice ca3 j.tc.length cc3, .int .i64 j.parts, .int .i64 j.fuel] 86) := ⟨_, rfl⟩
  have hb2 : Below W1.heap.size W1 W2 := by rw [hW2]; exact b_alloc _ _
  have hh : Blk W2 H 86 [.slice ta j.mt.length tc, .slice ca j.mc.length cc, .slice ta2 j.jt.length tc2, .slice ca2 j.jc.length cc2, .slice ta3 j.tt.length tc3, .slice ca3 j.tc.length cc3, .int .i64 j.parts, .int .i64 j.fuel] := by rw [hH, hW2]; exact Blk.new W1 _ _
  have hx2 := HX.out.below hb2
  have x0 := hx2.cell (k := 4) rfl
  have x1 := hx2.cell (k := 5) rfl
  have hbl2 : w.heap.size < W2.heap.size := hx2.lt
  rw [← hW2, ← hH]
  have HB2 := Lib.hid (bt HB1.out hb2)
  have HH := Lib.hid hh
  clear hW2 hH hb2 hh hx2 x2 x3 x4 x5 x6 x7
  go_wp2_with (go_at_call 47; refine (HR.out _ H 86 _ (bt HB2.out (b_alloc _ _)) (HH.out.below (b_alloc _ _)) (Rec.Row.new (R := recS) W2 [s, s2] 9)).mono ?_; rintro e w3 ⟨⟨pa, pc, n, rfl, hrow, -⟩, hB3⟩; have HROW := Lib.hid hrow; have HB3 := Lib.hid (bt (bt HB2.out (b_alloc _ _)) hB3); clear hrow hB3)
  go_ret2
  exact ⟨rfl, bt HB3.out (b_alloc _ _)⟩
end Go.Proofs.YtndagciefnddmaaGreatDoor
namespace Go.Proofs.YtndagciefnddmaaGreatDoor
open Go.RowKit Oct
def lt (a b : List UInt8) : Bool := Op.bytesLess a b
end Go.Proofs.YtndagciefnddmaaGreatDoor
namespace Go.Proofs.YtndagciefnddmaaGreatDoor
open Go.RowKit Oct
theorem lt_iff (a b : List UInt8) : lt a b = true ↔ a < b := by simp [lt, Proofs.bytesLess_eq]
theorem lt_trans' {a b c : List UInt8} (h1 : lt a b = true) (h2 : lt b c = true) : lt a c = true := by
  rw [lt_iff] at *; exact List.lt_trans h1 h2
theorem lt_irr (a : List UInt8) : lt a a = false := by
  cases h : lt a a
  · rfl
  · rw [lt_iff] at h; exact absurd h (List.lt_irrefl a)
theorem lt_asymm' {a b : List UInt8} (h : lt a b = true) : lt b a = false := by
  cases h2 : lt b a
  · rfl
  · rw [← lt_irr a, lt_trans' h h2]
theorem gt_eq (a b : List UInt8) : (!(lt a b || a == b)) = lt b a := by
  cases h1 : lt a b
  · cases h2 : a == b
    · have n1 : ¬ a < b := by rw [← lt_iff, h1]; simp
      have n2 : a ≠ b := by intro e; simp [e] at h2
      cases h3 : lt b a
      · have n3 : ¬ b < a := by rw [← lt_iff, h3]; simp
        exact absurd (List.le_antisymm (List.not_lt.1 n3) (List.not_lt.1 n1)) n2
      · rfl
    · have e : a = b := by simpa using h2
      rw [e, lt_irr]; rfl
  · rw [lt_asymm' h1]; rfl
def ins (p : PR) : List PR → List PR
  | [] => [p]
  | x :: l => if lt p.1 x.1 then p :: x :: l else x :: ins p l
end Go.Proofs.YtndagciefnddmaaGreatDoor
namespace Go.Proofs.YtndagciefnddmaaGreatDoor
open Go.RowKit Oct
theorem lt3 (a b : List UInt8) : (lt a b = true ∧ lt b a = false ∧ (a == b) = false ∧ (b == a) = false) ∨ (lt a b = false ∧ lt b a = true ∧ (a == b) = false ∧ (b == a) = false) ∨ (a = b ∧ lt a b = false ∧ lt b a = false ∧ (a == b) = true ∧ (b == a) = true) := by
  by_cases e : a = b
  · subst e
    simp [lt_irr]
  · have h1 : (a == b) = false := by simpa using e
    have h2 : (b == a) = false := by simpa using fun h => e h.symm
    have := gt_eq a b
    rw [h1, Bool.or_false] at this
    cases h : lt a b
    · rw [h] at this
      exact .inr (.inl ⟨rfl, this.symm, h1, h2⟩)
    · exact .inl ⟨rfl, lt_asymm' h, h1, h2⟩
end Go.Proofs.YtndagciefnddmaaGreatDoor
namespace Go.Proofs.YtndagciefnddmaaGreatDoor
open Go.RowKit Oct
theorem pr_ne_of {a b : List PR} (k : Nat) (h : k < a.length) (h' : k < b.length) (hne : a[k] ≠ b[k]) : a ≠ b := by
  rintro rfl; exact hne rfl
theorem pr_eq (p q : PR) : (p.1 == q.1 && p.2 == q.2) = decide (p = q) := by
  rw [Bool.eq_iff_iff]; simp [Prod.ext_iff]
end Go.Proofs.YtndagciefnddmaaGreatDoor
namespace Go.Proofs.YtndagciefnddmaaGreatDoor
open Go.RowKit Oct
set_option maxRecDepth 100000 in
set_option maxHeartbeats 1000000 in
theorem same14_any (va vb : Value) (a b : List PR) (w : World) (ha : RP w va a) (hb : RP w vb b) (hla : a.length ≤ 140737488355328) (hlb : b.length ≤ 140737488355328) :
    Calls Tryz.prog 22 #[va, vb] w fun e w' => e = .returned (.bool (decide (a = b))) ∧ Below w.heap.size w w' := by
  obtain ⟨aa, ca, rfl, _, hca⟩ := ha.open
  obtain ⟨ab, cb, rfl, _, hcb⟩ := hb.open
  by_cases hl : a.length = b.length
  · have hL := Lib.hid hl
    have t1 : ((a.length : Int) != (b.length : Int)) = false := by rw [bne_eq_false_iff_eq]; omega
    clear hl
    go_enter Tryz.func22, Tryz.ntmps22
    go_wp2
    go_loopw [5] (fun i wr => ∃ k : Nat, k ≤ a.length ∧ i = .int .i64 k ∧ Hid (∀ j (h : j < a.length) (h' : j < b.length), j < k → a[j] = b[j]) ∧ Below w.heap.size w wr) (fun i _ => a.length - (intOf i).toNat)
    case atStart => exact ⟨0, by omega, rfl, by intro j _ _ h; omega, Below.refl _ _⟩
    case round =>
      obtain ⟨k, hk, rfl, hH, hB⟩ := hrel
      by_cases h0 : k < a.length
      · have h0b : k < b.length := by have := hL.out; omega
        obtain ⟨b1, o1, rfl, hc1, hc2⟩ := hca k h0
        obtain ⟨b2, o2, rfl, hc3, hc4⟩ := hcb k h0b
        have hd1 := Below.keeps hB hc1
        have hd2 := Below.keeps hB hc2
        have hd3 := Below.keeps hB hc3
        have hd4 := Below.keeps hB hc4
        have kk1 : (k : Int) < (a.length : Int) := by omega
        have kk2 : (k : Int) < (b.length : Int) := by omega
        clear hca hcb
        by_cases he : a[k] = b[k]
        · have he2 : (a[k].1 == b[k].1) = true := by simp [he]
          have he3 : (a[k].2 == b[k].2) = true := by simp [he]
          have HE := Lib.hid he
          clear he
          go_wp2
          go_quiet (fail)
          go_wp2
          go_roundw
          case rel =>
            refine ⟨k + 1, by omega, by go_num, ?_, bt hB (Below.drewN' _ _)⟩
            intro j h h' hj
            by_cases hjk : j = k
            · subst hjk; exact HE.out
            · exact hH.out j h h' (by omega)
          case measure => simp [intOf]; omega
        · have HE := Lib.hid he
          have he4 := pr_eq a[k] b[k]
          rw [decide_eq_false he] at he4
          clear he
          cases he2 : (a[k].1 == b[k].1)
          · go_wp2
            go_quiet (fail)
            go_wp2
            go_ret
            exact ⟨by rw [decide_eq_false (pr_ne_of k h0 h0b HE.out)]; rfl, bt hB (Below.drewN' _ _)⟩
          · have he3 : (a[k].2 == b[k].2) = false := by rw [he2, Bool.true_and] at he4; exact he4
            clear he4
            go_wp2
            go_quiet (fail)
            go_wp2
            go_ret
            exact ⟨by rw [decide_eq_false (pr_ne_of k h0 h0b HE.out)]; rfl, bt hB (Below.drewN' _ _)⟩
      · obtain rfl : k = a.length := by omega
        go_wp2
        go_ret
        exact ⟨by rw [decide_eq_true (List.ext_getElem hL.out (fun j h h' => hH.out j h h' h))]; rfl, hB⟩
  · have t1 : ((a.length : Int) != (b.length : Int)) = true := by rw [bne_iff_ne]; omega
    go_enter Tryz.func22, Tryz.ntmps22
    go_wp2
    go_ret
    exact ⟨by rw [decide_eq_false (fun e => hl (by rw [e]))]; rfl, Below.refl _ _⟩
end Go.Proofs.YtndagciefnddmaaGreatDoor
namespace Go.Proofs.YtndagciefnddmaaGreatDoor
open Go.RowKit Oct
theorem jobRun_may {j : Jb} (h : mayJ j = true) (texts : List (List UInt8)) (code : List VI) (role : UInt8) (ins : List (List UInt8)) : jobRun j texts code role ins = vmV texts code role ins j.fuel := if_pos h
end Go.Proofs.YtndagciefnddmaaGreatDoor
namespace Go.Proofs.YtndagciefnddmaaGreatDoor
open Go.RowKit Oct
attribute [local irreducible] wpG
end Go.Proofs.YtndagciefnddmaaGreatDoor
namespace Go.Proofs.YtndagciefnddmaaGreatDoor
open Go.RowKit Oct
theorem OP.empty (w : World) : OP (w.alloc (.cells #[] 60)) w.heap.size (.slice (some ⟨w.heap.size, 0, none⟩) 0 0) [] :=
  ⟨rfl, .inr ⟨w.heap.size, 0, #[], rfl, Nat.le_refl _, by show (w.heap.push _)[w.heap.size]? = _; simp, Nat.le_refl _, by decide, rfl, rfl⟩⟩
end Go.Proofs.YtndagciefnddmaaGreatDoor
namespace Go.Proofs.YtndagciefnddmaaGreatDoor
open Go.RowKit Oct
theorem OP.mono {w : World} {base base' : Nat} {v : Value} {l : List PR} (h : OP w base v l) (hb : base' ≤ base) : OP w base' v l := owns_mono h hb
end Go.Proofs.YtndagciefnddmaaGreatDoor
namespace Go.Proofs.YtndagciefnddmaaGreatDoor
open Go.RowKit Oct
def RR (w : World) (v : Value) (rows : List (List PR)) : Prop := ∃ a cap, v = .slice a rows.length cap ∧ rows.length ≤ cap ∧ (a = none → rows.length = 0 ∧ cap = 0) ∧
  ∀ k (hk : k < rows.length), ∃ b off u, a = some ⟨b, off, none⟩ ∧ w.cell? ⟨b, off + k, none⟩ = some u ∧ RP w u rows[k]
theorem RR.below {w w' : World} {v : Value} {rows : List (List PR)} (h : RR w v rows) (hB : Below w.heap.size w w') : RR w' v rows := by
  obtain ⟨a, cap, hv, hle, hn, hc⟩ := h
  refine ⟨a, cap, hv, hle, hn, fun k hk => ?_⟩
  obtain ⟨b, off, u, ha, hu, hr⟩ := hc k hk
  exact ⟨b, off, u, ha, Below.keeps hB hu, hr.below hB⟩
end Go.Proofs.YtndagciefnddmaaGreatDoor
namespace Go.Proofs.YtndagciefnddmaaGreatDoor
open Go.RowKit Oct
end Go.Proofs.YtndagciefnddmaaGreatDoor
namespace Go.Proofs.YtndagciefnddmaaGreatDoor
open Go.RowKit Oct
def countJ (p : Int) : Jb := ⟨[], [(3, 0), (2, 1), (8, 0), (23, 0)], [], [(3, 0), (7, 0), (3, 1), (7, 0), (9, 0), (8, 0)], [], [(3, 0), (3, 1), (4, 0)], p, 100⟩
def recSl : Rec (Option Addr × Nat × Nat) where
  cell x := [.slice x.1 x.2.1 x.2.2]
  e := 28
  n := 1
  bytes := 24
  z := .slice none 0 0
  len _ := rfl
  one _ u hu := by rw [List.mem_singleton.1 hu]; rfl
  info := by kernel_rfl
  zs := rfl
  pos := by decide
  bpos := by decide
def slV (x : Option Addr × Nat × Nat) : Value := .slice x.1 x.2.1 x.2.2
def SlR (w : World) (sl : List (Option Addr × Nat × Nat)) (rows : List (List PR)) : Prop := sl.length = rows.length ∧ ∀ k (h : k < sl.length) (h' : k < rows.length), RP w (slV sl[k]) rows[k]
theorem SlR.below {w w' : World} {sl : List (Option Addr × Nat × Nat)} {rows : List (List PR)} (h : SlR w sl rows) (hB : Below w.heap.size w w') : SlR w' sl rows := ⟨h.1, fun k h1 h2 => (h.2 k h1 h2).below hB⟩
theorem SlR.snoc {w : World} {sl : List (Option Addr × Nat × Nat)} {rows : List (List PR)} (h : SlR w sl rows) {x : Option Addr × Nat × Nat} {r : List PR} (hx : RP w (slV x) r) : SlR w (sl ++ [x]) (rows ++ [r]) := by
  refine ⟨by rw [List.length_append, List.length_append, h.1]; rfl, fun k h1 h2 => ?_⟩
  have hl := h.1
  by_cases hk : k < sl.length
  · rw [List.getElem_append_left hk, List.getElem_append_left (by omega)]; exact h.2 k hk (by omega)
  · rw [List.length_append] at h1
    simp only [List.length_cons, List.length_nil] at h1
    have hk2 : k = sl.length := by omega
    subst hk2
    rw [List.getElem_append_right (Nat.le_refl _), List.getElem_append_right (by omega)]
    simpa [hl] using hx
theorem RR.sl {w : World} {v : Value} {rows : List (List PR)} (h : RR w v rows) : ∃ sl, recSl.Row w v sl ∧ SlR w sl rows := by
  obtain ⟨a, cap, rfl, hle, hn, hc⟩ := h
  have hex : ∀ k (hk : k < rows.length), ∃ x : Option Addr × Nat × Nat, ∃ b off, a = some ⟨b, off, none⟩ ∧ w.cell? ⟨b, off + k, none⟩ = some (slV x) ∧ RP w (slV x) rows[k] := fun k hk => by
    obtain ⟨b, off, u, ha, hu, hr⟩ := hc k hk
    obtain ⟨a', c', rfl, _⟩ := hr.open
    exact ⟨(a', rows[k].length, c'), b, off, ha, hu, hr⟩
  let f : Nat → Option Addr × Nat × Nat := fun k => if hk : k < rows.length then Classical.choose (hex k hk) else (none, 0, 0)
  have hf : ∀ k (hk : k < rows.length), ∃ b off, a = some ⟨b, off, none⟩ ∧ w.cell? ⟨b, off + k, none⟩ = some (slV (f k)) ∧ RP w (slV (f k)) rows[k] := fun k hk => by
    show ∃ b off, a = some ⟨b, off, none⟩ ∧ w.cell? ⟨b, off + k, none⟩ = some (slV (if hk : k < rows.length then Classical.choose (hex k hk) else (none, 0, 0))) ∧ RP w (slV (if hk : k < rows.length then Classical.choose (hex k hk) else (none, 0, 0))) rows[k]
    rw [dif_pos hk]
    exact Classical.choose_spec (hex k hk)
  have hlen : ((List.range rows.length).map f).length = rows.length := by simp
  refine ⟨(List.range rows.length).map f, ⟨?_, a, cap, by rw [hlen], by rw [hlen]; exact hle⟩, hlen, fun k h1 h2 => ?_⟩
  · rw [hlen]
    refine ⟨a, cap, rfl, fun ha => ?_, fun j u hj => ?_⟩
    · have := hn ha
      first | exact this | exact ⟨by omega, by omega⟩ | exact this.1
    · have hjl : j < rows.length := by
        rcases Nat.lt_or_ge j rows.length with h | h
        · exact h
        · rw [List.getElem?_eq_none (by rw [Rec.cells_length, hlen]; show rows.length * 1 ≤ j; omega)] at hj; cases hj
      have hat := recSl.cells_at ((List.range rows.length).map f) j (by omega) 0 (slV (f j)) (by simp [recSl, slV])
      rw [show j * recSl.n + 0 = j from by show j * 1 + 0 = j; omega] at hat
      rw [hat] at hj
      cases hj
      obtain ⟨b, off, ha, hu, _⟩ := hf j hjl
      exact ⟨b, off, ha, hu⟩
  · obtain ⟨_, _, _, _, hr⟩ := hf k h2
    simpa using hr
end Go.Proofs.YtndagciefnddmaaGreatDoor
namespace Go.Proofs.YtndagciefnddmaaGreatDoor
open Go.RowKit Oct
attribute [local irreducible] wpG
end Go.Proofs.YtndagciefnddmaaGreatDoor
namespace Go.Proofs.YtndagciefnddmaaGreatDoor
open Go.RowKit Oct
attribute [local irreducible] wpG
end Go.Proofs.YtndagciefnddmaaGreatDoor
namespace Go.Proofs.YtndagciefnddmaaGreatDoor
open Go.RowKit Oct
attribute [local irreducible] wpG
theorem litC {α : Type} (R : Rec α) (w : World) (l : List α) (cs : Array Value) (hcs : cs = (R.cells l).toArray) (n : Nat) (hn : n = l.length) (hm : n ≤ 1000) : R.Row (w.alloc (.cells cs R.e)) (.slice (some ⟨w.heap.size, 0, none⟩) n n) l := by
  subst hn hcs
  refine Rec.Own.row (base := w.heap.size) ⟨by rw [Rec.cells_length], .inr ⟨w.heap.size, l.length, (R.cells l).toArray, rfl, Nat.le_refl _, ?_, Nat.le_refl _, Nat.le_trans hm (by decide), ?_, ?_⟩⟩
  · show (w.heap.push _)[w.heap.size]? = _
    rw [Array.getElem?_push_size]
  · rw [List.size_toArray, Rec.cells_length]
  · show (R.cells l).take (l.length * R.n) = _
    rw [List.take_of_length_le (by rw [Rec.cells_length]; exact Nat.le_refl _)]
end Go.Proofs.YtndagciefnddmaaGreatDoor
namespace Go.Proofs.YtndagciefnddmaaGreatDoor
open Go.RowKit Oct
attribute [local irreducible] wpG
theorem load_job {w : World} {b : Nat} {v0 v1 v2 v3 v4 v5 v6 v7 : Value} (h : Blk w b 27 [v0, v1, v2, v3, v4, v5, v6, v7]) : (loadVar 27 ⟨b, 0, none⟩).run Tryz.prog w = .ok (.agg #[v0, v1, v2, v3, v4, v5, v6, v7]) w := by
  have x0 := h.cell (k := 0) rfl
  have x1 := h.cell (k := 1) rfl
  have x2 := h.cell (k := 2) rfl
  have x3 := h.cell (k := 3) rfl
  have x4 := h.cell (k := 4) rfl
  have x5 := h.cell (k := 5) rfl
  have x6 := h.cell (k := 6) rfl
  have x7 := h.cell (k := 7) rfl
  clear h
  go_simp
theorem job_store {w : World} {b : Nat} {t : TypeId} {a0 a1 a2 a3 a4 a5 a6 a7 : Value} (hx : Blk w b t [a0, a1, a2, a3, a4, a5, a6, a7]) (v0 v1 v2 v3 v4 v5 v6 v7 : Value) :
    Blk ((((((((w.setCell ⟨b, 0, none⟩ v0).setCell ⟨b, 1, none⟩ v1).setCell ⟨b, 2, none⟩ v2).setCell ⟨b, 3, none⟩ v3).setCell ⟨b, 4, none⟩ v4).setCell ⟨b, 5, none⟩ v5).setCell ⟨b, 6, none⟩ v6).setCell ⟨b, 7, none⟩ v7) b t [v0, v1, v2, v3, v4, v5, v6, v7] ∧
    Chg (fun x => x = b) w ((((((((w.setCell ⟨b, 0, none⟩ v0).setCell ⟨b, 1, none⟩ v1).setCell ⟨b, 2, none⟩ v2).setCell ⟨b, 3, none⟩ v3).setCell ⟨b, 4, none⟩ v4).setCell ⟨b, 5, none⟩ v5).setCell ⟨b, 6, none⟩ v6).setCell ⟨b, 7, none⟩ v7) :=
  ⟨(((((((hx.set 0 v0).set 1 v1).set 2 v2).set 3 v3).set 4 v4).set 5 v5).set 6 v6).set 7 v7,
   Chg.trans (Chg.trans (Chg.trans (Chg.trans (Chg.trans (Chg.trans (Chg.trans (Chg.setCell w ⟨b, 0, none⟩ v0 rfl) (Chg.setCell _ ⟨b, 1, none⟩ v1 rfl)) (Chg.setCell _ ⟨b, 2, none⟩ v2 rfl)) (Chg.setCell _ ⟨b, 3, none⟩ v3 rfl)) (Chg.setCell _ ⟨b, 4, none⟩ v4 rfl)) (Chg.setCell _ ⟨b, 5, none⟩ v5 rfl)) (Chg.setCell _ ⟨b, 6, none⟩ v6 rfl)) (Chg.setCell _ ⟨b, 7, none⟩ v7 rfl)⟩
theorem size_setA (w : World) (a : Addr) (v : Value) : (w.setCell a v).heap.size = w.heap.size := by simp [World.setCell]
def CountR (p : Int) (B : Nat) (e : Ending) (w : World) : Prop :=
  ∃ c1 c2 c3, e = .returned (jobV (.slice none 0 0) c1 (.slice none 0 0) c2 (.slice none 0 0) c3 (countJ p)) ∧ recIns.Row w c1 (countJ p).mc ∧ recIns.Row w c2 (countJ p).jc ∧ recIns.Row w c3 (countJ p).tc
theorem CountR.job {p : Int} {B : Nat} {e : Ending} {w : World} (h : CountR p B e w) (hp : 0 ≤ p) (hp1 : p ≤ 100) (hE : EffM w) (hg : 1 < w.heap.size) (hG : GlobV w) :
    ∃ a1 k1 a2 k2 a3 k3, e = .returned (.agg #[.slice none 0 0, .slice a1 4 k1, .slice none 0 0, .slice a2 6 k2, .slice none 0 0, .slice a3 3 k3, .int .i64 p, .int .i64 100]) ∧ JobR w (.slice none 0 0) (.slice a1 4 k1) (.slice none 0 0) (.slice a2 6 k2) (.slice none 0 0) (.slice a3 3 k3) (countJ p) := by
  obtain ⟨c1, c2, c3, rfl, h1, h2, h3⟩ := h
  obtain ⟨a1, k1, rfl, -, -⟩ := recIns_open h1
  obtain ⟨a2, k2, rfl, -, -⟩ := recIns_open h2
  obtain ⟨a3, k3, rfl, -, -⟩ := recIns_open h3
  refine ⟨a1, k1, a2, k2, a3, k3, rfl, ⟨⟨Rec.Row.nil _, h1, Nat.zero_le _, (by show (4 : Nat) ≤ 5000; decide), fun s hs => (by cases hs), hE, hg⟩, ⟨Rec.Row.nil _, h2, Nat.zero_le _, (by show (6 : Nat) ≤ 5000; decide), fun s hs => (by cases hs), hE, hg⟩, ⟨Rec.Row.nil _, h3, Nat.zero_le _, (by show (3 : Nat) ≤ 5000; decide), fun s hs => (by cases hs), hE, hg⟩, ?_, ?_, (by show (-9223372036854775808 : Int) ≤ 100; decide), (by show (100 : Int) ≤ 9223372036854775807; decide), hG⟩⟩
  · show -9223372036854775808 ≤ p
    omega
  · show p ≤ 9223372036854775807
    omega
set_option maxRecDepth 100000 in
set_option maxHeartbeats 8000000 in
theorem Count_any (p : Int) (w : World) : Calls Tryz.prog 34 #[.int .i64 p] w fun e w' => CountR p w.heap.size e w' ∧ Below w.heap.size w w' := by
  obtain ⟨D, hD⟩ : ∃ D, D = w.heap.size := ⟨_, rfl⟩
  obtain ⟨W0, hW0⟩ : ∃ W0, W0 = w.alloc (.cells #[.slice none 0 0, .slice none 0 0, .slice none 0 0, .slice none 0 0, .slice none 0 0, .slice none 0 0, .int .i64 0, .int .i64 0] 27) := ⟨_, rfl⟩
  have hs0 : W0.heap.size = D + 1 := by rw [hW0, size_alV, hD]
  have hx : Blk W0 D 27 [.slice none 0 0, .slice none 0 0, .slice none 0 0, .slice none 0 0, .slice none 0 0, .slice none 0 0, .int .i64 0, .int .i64 0] := by rw [hD, hW0]; exact Blk.new w _ _
  have hb0 : Below w.heap.size w W0 := by rw [hW0]; exact b_alloc _ _
  go_enter Tryz.func34, Tryz.ntmps34
  go_upto_region 1 with fail
  rw [← hW0, ← hD]
  have x0 := hx.cell (k := 0) rfl
  have x1 := hx.cell (k := 1) rfl
  have x2 := hx.cell (k := 2) rfl
  have x3 := hx.cell (k := 3) rfl
  have x4 := hx.cell (k := 4) rfl
  have x5 := hx.cell (k := 5) rfl
  have x6 := hx.cell (k := 6) rfl
  have x7 := hx.cell (k := 7) rfl
  have f0 := hx.free (k := 0) (by simp)
  have f1 := hx.free (k := 1) (by simp)
  have f2 := hx.free (k := 2) (by simp)
  have f3 := hx.free (k := 3) (by simp)
  have f4 := hx.free (k := 4) (by simp)
  have f5 := hx.free (k := 5) (by simp)
  have f6 := hx.free (k := 6) (by simp)
  have f7 := hx.free (k := 7) (by simp)
  have hDl : D < W0.heap.size := hx.lt
  have HX := Lib.hid hx
  have HB0 := Lib.hid hb0
  have HD := Lib.hid hD
  have HS0 := Lib.hid hs0
  clear hx hb0 hD hW0
  go_wp2_with fail
  obtain ⟨hy, hc⟩ := job_store HX.out (.slice none 0 0) (.slice (some ⟨D + 1, 0, none⟩) 4 4) (.slice none 0 0) (.slice (some ⟨D + 1 + 1, 0, none⟩) 6 6) (.slice none 0 0) (.slice (some ⟨D + 1 + 1 + 1, 0, none⟩) 3 3) (.int .i64 p) (.int .i64 100)
  have hs1 : ((((((((W0.setCell ⟨D, 0, none⟩ (.slice none 0 0)).setCell ⟨D, 1, none⟩ (.slice (some ⟨D + 1, 0, none⟩) 4 4)).setCell ⟨D, 2, none⟩ (.slice none 0 0)).setCell ⟨D, 3, none⟩ (.slice (some ⟨D + 1 + 1, 0, none⟩) 6 6)).setCell ⟨D, 4, none⟩ (.slice none 0 0)).setCell ⟨D, 5, none⟩ (.slice (some ⟨D + 1 + 1 + 1, 0, none⟩) 3 3)).setCell ⟨D, 6, none⟩ (.int .i64 p)).setCell ⟨D, 7, none⟩ (.int .i64 100)).heap.size = D + 1 := by rw [size_setA, size_setA, size_setA, size_setA, size_setA, size_setA, size_setA, size_setA]; exact HS0.out
  obtain ⟨V0, hV0⟩ : ∃ V0, V0 = ((((((((W0.setCell ⟨D, 0, none⟩ (.slice none 0 0)).setCell ⟨D, 1, none⟩ (.slice (some ⟨D + 1, 0, none⟩) 4 4)).setCell ⟨D, 2, none⟩ (.slice none 0 0)).setCell ⟨D, 3, none⟩ (.slice (some ⟨D + 1 + 1, 0, none⟩) 6 6)).setCell ⟨D, 4, none⟩ (.slice none 0 0)).setCell ⟨D, 5, none⟩ (.slice (some ⟨D + 1 + 1 + 1, 0, none⟩) 3 3)).setCell ⟨D, 6, none⟩ (.int .i64 p)).setCell ⟨D, 7, none⟩ (.int .i64 100)) := ⟨_, rfl⟩
  rw [← hV0] at hy hc hs1 ⊢
  clear hV0 x0 x1 x2 x3 x4 x5 x6 x7 f0 f1 f2 f3 f4 f5 f6 f7 hDl
  obtain ⟨W1, hW1⟩ : ∃ W1, W1 = V0.alloc (.cells #[.int .u8 3, .int .u8 0, .int .u8 2, .int .u8 1, .int .u8 8, .int .u8 0, .int .u8 23, .int .u8 0] 92) := ⟨_, rfl⟩
  have hs2 : W1.heap.size = D + 1 + 1 := by rw [hW1, size_alV, hs1]
  have r1 := litC recIns V0 [(3, 0), (2, 1), (8, 0), (23, 0)] #[.int .u8 3, .int .u8 0, .int .u8 2, .int .u8 1, .int .u8 8, .int .u8 0, .int .u8 23, .int .u8 0] rfl 4 rfl (by omega)
  have hb1 : Below V0.heap.size V0 W1 := by rw [hW1]; exact b_alloc _ _
  rw [show recIns.e = 92 from rfl, ← hW1, hs1] at r1
  obtain ⟨W2, hW2⟩ : ∃ W2, W2 = W1.alloc (.cells #[.int .u8 3, .int .u8 0, .int .u8 7, .int .u8 0, .int .u8 3, .int .u8 1, .int .u8 7, .int .u8 0, .int .u8 9, .int .u8 0, .int .u8 8, .int .u8 0] 92) := ⟨_, rfl⟩
  have hs3 : W2.heap.size = D + 1 + 1 + 1 := by rw [hW2, size_alV, hs2]
  have r2 := litC recIns W1 [(3, 0), (7, 0), (3, 1), (7, 0), (9, 0), (8, 0)] #[.int .u8 3, .int .u8 0, .int .u8 7, .int .u8 0, .int .u8 3, .int .u8 1, .int .u8 7, .int .u8 0, .int .u8 9, .int .u8 0, .int .u8 8, .int .u8 0] rfl 6 rfl (by omega)
  have hb2 : Below W1.heap.size W1 W2 := by rw [hW2]; exact b_alloc _ _
  rw [show recIns.e = 92 from rfl, ← hW2, hs2] at r2
  obtain ⟨W3, hW3⟩ : ∃ W3, W3 = W2.alloc (.cells #[.int .u8 3, .int .u8 0, .int .u8 3, .int .u8 1, .int .u8 4, .int .u8 0] 92) := ⟨_, rfl⟩
  have r3 := litC recIns W2 [(3, 0), (3, 1), (4, 0)] #[.int .u8 3, .int .u8 0, .int .u8 3, .int .u8 1, .int .u8 4, .int .u8 0] rfl 3 rfl (by omega)
  have hb3 : Below W2.heap.size W2 W3 := by rw [hW3]; exact b_alloc _ _
  rw [show recIns.e = 92 from rfl, ← hW3, hs3] at r3
  rw [← hW1, ← hW2, ← hW3]
  have hy3 := ((hy.below hb1).below hb2).below hb3
  have hbb := bt (bt hb1 hb2) hb3
  refine bodyPost_ret (results_cellM rfl rfl (load_job hy3)) rfl ?_
  refine ⟨⟨_, _, _, rfl, (r1.below hb2).below hb3, r2.below hb3, r3⟩, ?_⟩
  exact HB0.out.trans ((hc.below (fun k hk => by rw [show k = D from hk, HD.out]; exact Nat.le_refl _) HB0.out.size).trans (hbb.mono (by rw [hs1, ← HD.out]; exact Nat.le_succ _)))
structure JobQ (w : World) (t1 c1 t2 c2 t3 c3 : Value) (j : Jb) : Prop where
  a : ProgR w t1 c1 j.mt j.mc
  b : ProgR w t2 c2 j.jt j.jc
  c : ProgR w t3 c3 j.tt j.tc
  p0 : -9223372036854775808 ≤ j.parts
  p1 : j.parts ≤ 9223372036854775807
  f0 : -9223372036854775808 ≤ j.fuel
  f1 : j.fuel ≤ 9223372036854775807
theorem JobQ.below {w w' : World} {t1 c1 t2 c2 t3 c3 : Value} {j : Jb} (h : JobQ w t1 c1 t2 c2 t3 c3 j) (hB : Below w.heap.size w w') : JobQ w' t1 c1 t2 c2 t3 c3 j := ⟨h.a.below hB, h.b.below hB, h.c.below hB, h.p0, h.p1, h.f0, h.f1⟩
def largeJ (j : Jb) : Bool := largeV j.mt j.mc || largeV j.jt j.jc || largeV j.tt j.tc
def slowJ (j : Jb) : Bool := decide (3000 < j.fuel) && decide (j.fuel ≤ 65536)
theorem largeJ_no {j : Jb} (h : largeJ j = false) : largeV j.mt j.mc = false ∧ largeV j.jt j.jc = false ∧ largeV j.tt j.tc = false := by
  unfold largeJ at h
  simp only [Bool.or_eq_false_iff] at h
  exact ⟨h.1.1, h.1.2, h.2⟩
theorem JobQ.job {w : World} {t1 c1 t2 c2 t3 c3 : Value} {j : Jb} (h : JobQ w t1 c1 t2 c2 t3 c3 j) (hl : largeJ j = false) (hE : EffM w) (hg : 1 < w.heap.size) (hG : GlobV w) : JobR w t1 c1 t2 c2 t3 c3 j := by
  obtain ⟨h1, h2, h3⟩ := largeJ_no hl
  exact ⟨h.a.ask h1 hE hg, h.b.ask h2 hE hg, h.c.ask h3 hE hg, h.p0, h.p1, h.f0, h.f1, hG⟩
end Go.Proofs.YtndagciefnddmaaGreatDoor
