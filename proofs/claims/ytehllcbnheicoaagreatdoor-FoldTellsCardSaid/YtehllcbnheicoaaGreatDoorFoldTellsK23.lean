/- Lemmas for FoldTells, part 23: walks of the functions that it reaches, and the plain laws behind them. -/
import Derived.Test.YtehllcbnheicoaaGreatDoorFoldTellsK22
set_option linter.unusedSimpArgs false
set_option linter.unusedVariables false
set_option maxRecDepth 100000
set_option maxHeartbeats 16000000
namespace Go.Proofs.YtehllcbnheicoaaGreatDoor
open Go.RowKit Oct
attribute [local irreducible] wpG
section
variable {base G : Nat} {w w' w3 : World} {f : Rf} {at_ : Int} {st rg : List RV} {los : List Lo} {pr : List (List UInt8 × List UInt8)} {sv sv' lv lv' prv prv' : Value} {X : List (Pt base)}
@[go_sem] theorem field_rv1 (v0 v1 v2 : Value) (w : World) : (Instr.field 234 (.agg #[v0,v1,v2]) 1).run Tryz.prog w = .ok v1 w:=by kernel_rfl
@[go_sem] theorem field_rv2 (v0 v1 v2 : Value) (w : World) : (Instr.field 234 (.agg #[v0,v1,v2]) 2).run Tryz.prog w = .ok v2 w:=by kernel_rfl
def rvCells (v : RV) : List Value:=[.bool v.1,.int .i64 v.2.1,.string (bs v.2.2)]
theorem RM.at1 {v : RV} {D : Nat} {hD : base ≤ D} (h : RM base w G f at_ st rg los pr sv lv prv (X ++ [blkPt D hD 234 (rvCells v)])) : w.cell? ⟨D,0,none⟩ = some (.bool v.1) ∧ w.cell? ⟨D,1,none⟩ = some (.int .i64 v.2.1) ∧ w.cell? ⟨D,2,none⟩ = some (.string (bs v.2.2)) ∧ D < w.heap.size:=by
 have hb : Blk w D 234 (rvCells v):=h.loc (p:=blkPt D hD 234 (rvCells v)) (by simp)
 exact ⟨hb.cell (k:=0) rfl,hb.cell (k:=1) rfl,hb.cell (k:=2) rfl,hb.lt⟩
theorem rnumbers_none (n : Nat) (y : UInt8) (w : World) (hn : n ≠ 8 ∧ n ≠ 13 ∧ n ≠ 9 ∧ n ≠ 10 ∧ n ≠ 11) :
  Calls Tryz.prog 181 #[.pointer (some ⟨G,0,none⟩),.agg #[.int .u8 (n : Int),.int .u8 (y.toNat : Int)]] w fun e w' => e = .returned (.tuple #[]) ∧ Below w.heap.size w w':=by
 have t1 : ((n : Int) == 8) = false:=by rw [beq_eq_false_iff_ne]; omega
 have t2 : ((n : Int) == 13) = false:=by rw [beq_eq_false_iff_ne]; omega
 have t3 : ((n : Int) == 9) = false:=by rw [beq_eq_false_iff_ne]; omega
 have t4 : ((n : Int) == 10) = false:=by rw [beq_eq_false_iff_ne]; omega
 have t5 : ((n : Int) == 11) = false:=by rw [beq_eq_false_iff_ne]; omega
 clear hn
 go_enter Tryz.func181,Tryz.ntmps181
 go_wp2_with fail
 refine bodyPost_end (results_none rfl _ _ _) rfl ?_
 exact ⟨rfl,b_alloc _ _⟩
theorem rshow_any (y : UInt8) (a : RV) (h : RM base w G f at_ (a :: st) rg los pr sv lv prv X) (hl : st.length ≤ 900) (ha : vOk a.2) (hG : ∀ w',Below base w w' → GlobV w') :
  Calls Tryz.prog 181 #[.pointer (some ⟨G,0,none⟩),.agg #[.int .u8 8,.int .u8 (y.toNat : Int)]] w fun e w' => e = .returned (.tuple #[]) ∧ (∃ sv',RM base w' G f at_ ((true,0,Lib.itoa a.2.1) :: st) rg los pr sv' lv prv X) ∧ Below base w w':=by
 obtain ⟨W1,hW1⟩ : ∃ W1,W1 = w.alloc (.cells #[.int .u8 8,.int .u8 (y.toNat : Int)] 97):=⟨_,rfl⟩
 have hb1 : Below w.heap.size w W1:=by rw [hW1]; exact b_alloc _ _
 have hx : Blk W1 w.heap.size 97 [.int .u8 8,.int .u8 (y.toNat : Int)]:=by rw [hW1]; exact Blk.new w _ _
 have x0:=hx.cell (k:=0) rfl
 have HP:=Lib.hid (rpop_any a (h.below hb1) (by omega))
 have HB1:=Lib.hid (hb1.mono h.size)
 have HG:=Lib.hid hG
 obtain ⟨v0,v1,-⟩:=ha
 clear h hb1 hx hG
 go_enter Tryz.func181,Tryz.ntmps181
 go_upto_region 1 with fail
 rw [← hW1]
 clear hW1
 go_wp2_with (first | (go_at_call 200; refine (rpush_any (true,0,Lib.itoa a.2.1) HM4.out (by omega)).mono ?_; rintro r w5 ⟨rfl,⟨sv5,hm⟩,hB⟩; have HM5:=Lib.hid hm; have HB5:=Lib.hid (HB4.out.trans hB); clear hm hB) | (go_at_call 201; refine (rtext_any (Lib.itoa a.2.1) _).mono ?_; rintro r w4 ⟨rfl,hB⟩; have HM4:=Lib.hid (HM3.out.below hB); have HB4:=Lib.hid (HB3.out.trans (hB.mono HM3.out.size)); clear hB) | (go_at_call 203; refine (fmt_bel v0 v1 (HG.out _ (HB1.out.trans HB.out)).tab).mono ?_; rintro r w3 ⟨rfl,hB⟩; have HM3:=Lib.hid (HM.out.below hB); have HB3:=Lib.hid (HB.out.trans (hB.mono HM.out.size)); clear hB) | (go_at_call 154; refine HP.out.mono ?_; rintro r w2 ⟨rfl,⟨sv,hm⟩,hB⟩; unfold rvV; have HM:=Lib.hid hm; have HB:=Lib.hid hB; clear hm hB))
 refine bodyPost_end (results_none rfl _ _ _) rfl ?_
 exact ⟨rfl,⟨_,HM5.out⟩,HB1.out.trans HB5.out⟩
theorem rnot_any (y : UInt8) (a : RV) (h : RM base w G f at_ (a :: st) rg los pr sv lv prv X) (hl : st.length ≤ 900) :
  Calls Tryz.prog 181 #[.pointer (some ⟨G,0,none⟩),.agg #[.int .u8 13,.int .u8 (y.toNat : Int)]] w fun e w' => e = .returned (.tuple #[]) ∧ (∃ sv',RM base w' G f at_ ((false,bitM (a.2.1 == 0)) :: st) rg los pr sv' lv prv X) ∧ Below base w w':=by
 obtain ⟨W1,hW1⟩ : ∃ W1,W1 = w.alloc (.cells #[.int .u8 13,.int .u8 (y.toNat : Int)] 97):=⟨_,rfl⟩
 have hb1 : Below w.heap.size w W1:=by rw [hW1]; exact b_alloc _ _
 have hx : Blk W1 w.heap.size 97 [.int .u8 13,.int .u8 (y.toNat : Int)]:=by rw [hW1]; exact Blk.new w _ _
 have x0:=hx.cell (k:=0) rfl
 have HP:=Lib.hid (rpop_any a (h.below hb1) (by omega))
 have HB1:=Lib.hid (hb1.mono h.size)
 clear h hb1 hx
 go_enter Tryz.func181,Tryz.ntmps181
 go_upto_region 1 with fail
 rw [← hW1]
 clear hW1
 go_wp2_with (first | (go_at_call 200; refine (rpush_any (false,bitM (a.2.1 == 0)) HM4.out (by omega)).mono ?_; rintro r w5 ⟨rfl,⟨sv5,hm⟩,hB⟩; have HM5:=Lib.hid hm; have HB5:=Lib.hid (HB4.out.trans hB); clear hm hB) | (go_at_call 204; refine (rbit_any (a.2.1 == 0) _).mono ?_; rintro r w4 ⟨rfl,hB⟩; have HM4:=Lib.hid (HM.out.below hB); have HB4:=Lib.hid (HB.out.trans (hB.mono HM.out.size)); clear hB) | (go_at_call 154; refine HP.out.mono ?_; rintro r w2 ⟨rfl,⟨sv,hm⟩,hB⟩; unfold rvV; have HM:=Lib.hid hm; have HB:=Lib.hid hB; clear hm hB))
 refine bodyPost_end (results_none rfl _ _ _) rfl ?_
 exact ⟨rfl,⟨_,HM5.out⟩,HB1.out.trans HB5.out⟩
theorem radd_any (y : UInt8) (a b : RV) (h : RM base w G f at_ (b :: a :: st) rg los pr sv lv prv X) (hl : st.length ≤ 900) :
  Calls Tryz.prog 181 #[.pointer (some ⟨G,0,none⟩),.agg #[.int .u8 9,.int .u8 (y.toNat : Int)]] w fun e w' => e = .returned (.tuple #[]) ∧ (∃ sv',RM base w' G f at_ ((false,wrap64 (a.2.1 + b.2.1),[]) :: st) rg los pr sv' lv prv X) ∧ Below base w w':=by
 obtain ⟨W1,hW1⟩ : ∃ W1,W1 = w.alloc (.cells #[.int .u8 9,.int .u8 (y.toNat : Int)] 97):=⟨_,rfl⟩
 have hb1 : Below w.heap.size w W1:=by rw [hW1]; exact b_alloc _ _
 have hx : Blk W1 w.heap.size 97 [.int .u8 9,.int .u8 (y.toNat : Int)]:=by rw [hW1]; exact Blk.new w _ _
 have x0:=hx.cell (k:=0) rfl
 have HP:=Lib.hid (rpop_any b (h.below hb1) (by simp; omega))
 have HB1:=Lib.hid (hb1.mono h.size)
 clear h hb1 hx
 go_enter Tryz.func181,Tryz.ntmps181
 go_upto_region 1 with fail
 rw [← hW1]
 clear hW1
 go_upto_region 8 with (go_at_call 154; refine HP.out.mono ?_; rintro r w2 ⟨rfl,⟨sv,hm⟩,hB⟩; unfold rvV; have HM:=Lib.hid hm; have HB:=Lib.hid (HB1.out.trans hB); clear hm hB)
 obtain ⟨D,hD⟩ : ∃ D,D = w2.heap.size:=⟨_,rfl⟩
 obtain ⟨W2,hW2⟩ : ∃ W2,W2 = w2.alloc (.cells (rvCells b).toArray 234):=⟨_,rfl⟩
 have hDb : base ≤ D:=by rw [hD]; exact HM.out.size
 have hm2 : RM base W2 G f at_ (a :: st) rg los pr sv lv prv (X ++ [blkPt D hDb 234 (rvCells b)]):=by subst hD; rw [hW2]; exact HM.out.add (rvCells b) 234
 have HB2:=Lib.hid (show Below base w W2 by rw [hW2]; exact HB.out.trans ((b_alloc _ _).mono HM.out.size))
 have HP2:=Lib.hid (rpop_any a hm2 (by omega))
 have hg : w2.alloc (.cells #[.bool b.1,.int .i64 b.2.1,.string (bs b.2.2)] 234) = W2:=hW2.symm
 rw [hg,← hD]
 clear hg hW2 hD hm2 HM HB
 go_wp2_with (first | (go_at_call 200; refine (rpush_any (false,wrap64 (a.2.1 + b.2.1),[]) HM5.out.drop (by omega)).mono ?_; rintro r w6 ⟨rfl,⟨sv6,hm⟩,hB⟩; have HM6:=Lib.hid hm; have HB6:=Lib.hid (HB5.out.trans hB); clear hm hB) | (go_at_call 202; refine (rnum_any (wrap64 (a.2.1 + b.2.1)) _).mono ?_; rintro r w5 ⟨rfl,hB⟩; have hB9:=bt (b_alloc _ _) hB; have HM5:=Lib.hid (HM3.out.below hB9); have HB5:=Lib.hid (HB3.out.trans (hB9.mono HM3.out.size)); clear hB hB9) | (go_at_call 154; refine HP2.out.mono ?_; rintro r w3 ⟨rfl,⟨sv3,hm⟩,hB⟩; unfold rvV; obtain ⟨d0,d1,d2,ld⟩:=hm.at1; have HM3:=Lib.hid hm; have HB3:=Lib.hid (HB2.out.trans hB); clear hm hB))
 refine bodyPost_end (results_none rfl _ _ _) rfl ?_
 exact ⟨rfl,⟨_,HM6.out⟩,HB6.out⟩
theorem rmul_any (y : UInt8) (a b : RV) (h : RM base w G f at_ (b :: a :: st) rg los pr sv lv prv X) (hl : st.length ≤ 900) :
  Calls Tryz.prog 181 #[.pointer (some ⟨G,0,none⟩),.agg #[.int .u8 10,.int .u8 (y.toNat : Int)]] w fun e w' => e = .returned (.tuple #[]) ∧ (∃ sv',RM base w' G f at_ ((false,wrap64 (a.2.1 * b.2.1),[]) :: st) rg los pr sv' lv prv X) ∧ Below base w w':=by
 obtain ⟨W1,hW1⟩ : ∃ W1,W1 = w.alloc (.cells #[.int .u8 10,.int .u8 (y.toNat : Int)] 97):=⟨_,rfl⟩
 have hb1 : Below w.heap.size w W1:=by rw [hW1]; exact b_alloc _ _
 have hx : Blk W1 w.heap.size 97 [.int .u8 10,.int .u8 (y.toNat : Int)]:=by rw [hW1]; exact Blk.new w _ _
 have x0:=hx.cell (k:=0) rfl
 have HP:=Lib.hid (rpop_any b (h.below hb1) (by simp; omega))
 have HB1:=Lib.hid (hb1.mono h.size)
 clear h hb1 hx
 go_enter Tryz.func181,Tryz.ntmps181
 go_upto_region 1 with fail
 rw [← hW1]
 clear hW1
 go_upto_region 12 with (go_at_call 154; refine HP.out.mono ?_; rintro r w2 ⟨rfl,⟨sv,hm⟩,hB⟩; unfold rvV; have HM:=Lib.hid hm; have HB:=Lib.hid (HB1.out.trans hB); clear hm hB)
 obtain ⟨D,hD⟩ : ∃ D,D = w2.heap.size:=⟨_,rfl⟩
 obtain ⟨W2,hW2⟩ : ∃ W2,W2 = w2.alloc (.cells (rvCells b).toArray 234):=⟨_,rfl⟩
 have hDb : base ≤ D:=by rw [hD]; exact HM.out.size
 have hm2 : RM base W2 G f at_ (a :: st) rg los pr sv lv prv (X ++ [blkPt D hDb 234 (rvCells b)]):=by subst hD; rw [hW2]; exact HM.out.add (rvCells b) 234
 have HB2:=Lib.hid (show Below base w W2 by rw [hW2]; exact HB.out.trans ((b_alloc _ _).mono HM.out.size))
 have HP2:=Lib.hid (rpop_any a hm2 (by omega))
 have hg : w2.alloc (.cells #[.bool b.1,.int .i64 b.2.1,.string (bs b.2.2)] 234) = W2:=hW2.symm
 rw [hg,← hD]
 clear hg hW2 hD hm2 HM HB
 go_wp2_with (first | (go_at_call 200; refine (rpush_any (false,wrap64 (a.2.1 * b.2.1),[]) HM5.out.drop (by omega)).mono ?_; rintro r w6 ⟨rfl,⟨sv6,hm⟩,hB⟩; have HM6:=Lib.hid hm; have HB6:=Lib.hid (HB5.out.trans hB); clear hm hB) | (go_at_call 202; refine (rnum_any (wrap64 (a.2.1 * b.2.1)) _).mono ?_; rintro r w5 ⟨rfl,hB⟩; have hB9:=bt (b_alloc _ _) hB; have HM5:=Lib.hid (HM3.out.below hB9); have HB5:=Lib.hid (HB3.out.trans (hB9.mono HM3.out.size)); clear hB hB9) | (go_at_call 154; refine HP2.out.mono ?_; rintro r w3 ⟨rfl,⟨sv3,hm⟩,hB⟩; unfold rvV; obtain ⟨d0,d1,d2,ld⟩:=hm.at1; have HM3:=Lib.hid hm; have HB3:=Lib.hid (HB2.out.trans hB); clear hm hB))
 refine bodyPost_end (results_none rfl _ _ _) rfl ?_
 exact ⟨rfl,⟨_,HM6.out⟩,HB6.out⟩
theorem rless_any (y : UInt8) (a b : RV) (h : RM base w G f at_ (b :: a :: st) rg los pr sv lv prv X) (hl : st.length ≤ 900) :
  Calls Tryz.prog 181 #[.pointer (some ⟨G,0,none⟩),.agg #[.int .u8 11,.int .u8 (y.toNat : Int)]] w fun e w' => e = .returned (.tuple #[]) ∧ (∃ sv',RM base w' G f at_ ((false,bitM (decide (a.2.1 < b.2.1))) :: st) rg los pr sv' lv prv X) ∧ Below base w w':=by
 obtain ⟨W1,hW1⟩ : ∃ W1,W1 = w.alloc (.cells #[.int .u8 11,.int .u8 (y.toNat : Int)] 97):=⟨_,rfl⟩
 have hb1 : Below w.heap.size w W1:=by rw [hW1]; exact b_alloc _ _
 have hx : Blk W1 w.heap.size 97 [.int .u8 11,.int .u8 (y.toNat : Int)]:=by rw [hW1]; exact Blk.new w _ _
 have x0:=hx.cell (k:=0) rfl
 have HP:=Lib.hid (rpop_any b (h.below hb1) (by simp; omega))
 have HB1:=Lib.hid (hb1.mono h.size)
 clear h hb1 hx
 go_enter Tryz.func181,Tryz.ntmps181
 go_upto_region 1 with fail
 rw [← hW1]
 clear hW1
 go_upto_region 16 with (go_at_call 154; refine HP.out.mono ?_; rintro r w2 ⟨rfl,⟨sv,hm⟩,hB⟩; unfold rvV; have HM:=Lib.hid hm; have HB:=Lib.hid (HB1.out.trans hB); clear hm hB)
 obtain ⟨D,hD⟩ : ∃ D,D = w2.heap.size:=⟨_,rfl⟩
 obtain ⟨W2,hW2⟩ : ∃ W2,W2 = w2.alloc (.cells (rvCells b).toArray 234):=⟨_,rfl⟩
 have hDb : base ≤ D:=by rw [hD]; exact HM.out.size
 have hm2 : RM base W2 G f at_ (a :: st) rg los pr sv lv prv (X ++ [blkPt D hDb 234 (rvCells b)]):=by subst hD; rw [hW2]; exact HM.out.add (rvCells b) 234
 have HB2:=Lib.hid (show Below base w W2 by rw [hW2]; exact HB.out.trans ((b_alloc _ _).mono HM.out.size))
 have HP2:=Lib.hid (rpop_any a hm2 (by omega))
 have hg : w2.alloc (.cells #[.bool b.1,.int .i64 b.2.1,.string (bs b.2.2)] 234) = W2:=hW2.symm
 rw [hg,← hD]
 clear hg hW2 hD hm2 HM HB
 go_wp2_with (first | (go_at_call 200; refine (rpush_any (false,bitM (decide (a.2.1 < b.2.1))) HM5.out.drop (by omega)).mono ?_; rintro r w6 ⟨rfl,⟨sv6,hm⟩,hB⟩; have HM6:=Lib.hid hm; have HB6:=Lib.hid (HB5.out.trans hB); clear hm hB) | (go_at_call 204; refine (rbit_any (decide (a.2.1 < b.2.1)) _).mono ?_; rintro r w5 ⟨rfl,hB⟩; have hB9:=bt (b_alloc _ _) hB; have HM5:=Lib.hid (HM3.out.below hB9); have HB5:=Lib.hid (HB3.out.trans (hB9.mono HM3.out.size)); clear hB hB9) | (go_at_call 154; refine HP2.out.mono ?_; rintro r w3 ⟨rfl,⟨sv3,hm⟩,hB⟩; unfold rvV; obtain ⟨d0,d1,d2,ld⟩:=hm.at1; have HM3:=Lib.hid hm; have HB3:=Lib.hid (HB2.out.trans hB); clear hm hB))
 refine bodyPost_end (results_none rfl _ _ _) rfl ?_
 exact ⟨rfl,⟨_,HM6.out⟩,HB6.out⟩
end
end Go.Proofs.YtehllcbnheicoaaGreatDoor
namespace Go.Proofs.YtehllcbnheicoaaGreatDoor
open Go.RowKit Oct
attribute [local irreducible] wpG
section
variable {base G : Nat} {w w' w3 : World} {f : Rf} {at_ : Int} {st rg : List RV} {los : List Lo} {pr : List (List UInt8 × List UInt8)} {sv sv' lv lv' prv prv' : Value} {X : List (Pt base)}
theorem RM.atB {v : RV} {D : Nat} {hD : base ≤ D} (h : RM base w G f at_ st rg los pr sv lv prv X) (hm : blkPt D hD 234 (rvCells v) ∈ X) : w.cell? ⟨D,0,none⟩ = some (.bool v.1) ∧ w.cell? ⟨D,1,none⟩ = some (.int .i64 v.2.1) ∧ w.cell? ⟨D,2,none⟩ = some (.string (bs v.2.2)) ∧ D < w.heap.size:=by
 have hb : Blk w D 234 (rvCells v):=h.loc hm
 exact ⟨hb.cell (k:=0) rfl,hb.cell (k:=1) rfl,hb.cell (k:=2) rfl,hb.lt⟩
theorem RM.newP (h : RM base w G f at_ st rg los pr sv lv prv X) {l : List (List UInt8 × List UInt8)} (hc : Chg (fun k => prv.ownBlock = some k) w w3) (hg : ∀ k,prv'.ownBlock = some k → prv.ownBlock = some k ∨ w.heap.size ≤ k) (ho : recKq.Own w3 base prv' l) :
  RM base (w3.setCell ⟨G,32,none⟩ prv') G f at_ st rg los l sv lv prv' X ∧ Below base w (w3.setCell ⟨G,32,none⟩ prv') ∧ w3.frozen? ⟨G,32,none⟩ = false ∧ w3.cell? ⟨G,32,none⟩ = some prv:=by
 have s1:=h.sep.upd (i:=4) rfl hc (fun k hk => hk) (ownPt recKq prv' l) ho hg
 have hs : Chg (fun k => k = G) w3 (w3.setCell ⟨G,32,none⟩ prv'):=Chg.setCell _ _ _ rfl
 have b3 : Blk w3 G 238 (rCells f at_ sv rg lv prv):=s1.get (i:=0) rfl
 have hcs : (rCells f at_ sv rg lv prv).set 32 prv' = rCells f at_ sv rg lv prv':=by
  obtain ⟨a,b,c,d,e,f',g,j,hr⟩:=eightR h.rl
  rw [hr]; rfl
 have hb:=b3.set 32 prv'
 rw [hcs] at hb
 have s2:=s1.upd (i:=0) rfl hs (fun k hk => hk) (blkPt G h.gb 238 (rCells f at_ sv rg lv prv')) hb (fun k hk => .inl hk)
 exact ⟨⟨h.gb,h.rl,s2⟩,(h.sep.updB (i:=4) rfl hc (fun k hk => hk) h.size).trans (hs.below (fun k hk => by have:=h.gb; omega) (Nat.le_trans h.size hc.size)),by obtain ⟨a,b,c,d,e,f',g,j,hr⟩:=eightR h.rl; rw [hr] at b3; exact b3.free (k:=32) (by show 32 < 33; decide),by obtain ⟨a,b,c,d,e,f',g,j,hr⟩:=eightR h.rl; rw [hr] at b3; exact b3.cell (k:=32) rfl⟩
theorem rtexts_none (n : Nat) (y : UInt8) (w : World) (hn : n ≠ 4 ∧ n ≠ 5 ∧ n ≠ 6 ∧ n ≠ 7 ∧ n ≠ 12 ∧ n ≠ 23) :
  Calls Tryz.prog 182 #[.pointer (some ⟨G,0,none⟩),.agg #[.int .u8 (n : Int),.int .u8 (y.toNat : Int)]] w fun e w' => e = .returned (.int .i64 0) ∧ Below w.heap.size w w':=by
 have t1 : ((n : Int) == 4) = false:=by rw [beq_eq_false_iff_ne]; omega
 have t2 : ((n : Int) == 5) = false:=by rw [beq_eq_false_iff_ne]; omega
 have t3 : ((n : Int) == 6) = false:=by rw [beq_eq_false_iff_ne]; omega
 have t4 : ((n : Int) == 7) = false:=by rw [beq_eq_false_iff_ne]; omega
 have t5 : ((n : Int) == 12) = false:=by rw [beq_eq_false_iff_ne]; omega
 have t6 : ((n : Int) == 23) = false:=by rw [beq_eq_false_iff_ne]; omega
 clear hn
 go_enter Tryz.func182,Tryz.ntmps182
 go_wp2_with fail
 go_ret
 exact ⟨rfl,b_alloc _ _⟩
theorem rlen_any (y : UInt8) (a : RV) (h : RM base w G f at_ (a :: st) rg los pr sv lv prv X) (hl : st.length ≤ 900) (ha : a.2.2.length ≤ 1024) :
  Calls Tryz.prog 182 #[.pointer (some ⟨G,0,none⟩),.agg #[.int .u8 5,.int .u8 (y.toNat : Int)]] w fun e w' => e = .returned (.int .i64 0) ∧ (∃ sv',RM base w' G f at_ ((false,(a.2.2.length : Int),[]) :: st) rg los pr sv' lv prv X) ∧ Below base w w':=by
 obtain ⟨W1,hW1⟩ : ∃ W1,W1 = w.alloc (.cells #[.int .u8 5,.int .u8 (y.toNat : Int)] 97):=⟨_,rfl⟩
 have hb1 : Below w.heap.size w W1:=by rw [hW1]; exact b_alloc _ _
 have hx : Blk W1 w.heap.size 97 [.int .u8 5,.int .u8 (y.toNat : Int)]:=by rw [hW1]; exact Blk.new w _ _
 have x0:=hx.cell (k:=0) rfl
 have HP:=Lib.hid (rpop_any a (h.below hb1) (by omega))
 have HB1:=Lib.hid (hb1.mono h.size)
 have hal : (a.2.2.length : Int) ≤ 1024:=by omega
 clear h hb1 hx
 go_enter Tryz.func182,Tryz.ntmps182
 go_upto_region 1 with fail
 rw [← hW1]
 clear hW1
 go_wp2_with (first | (go_at_call 200; refine (rpush_any (false,(a.2.2.length : Int),[]) HM4.out (by omega)).mono ?_; rintro r w5 ⟨rfl,⟨sv5,hm⟩,hB⟩; have HM5:=Lib.hid hm; have HB5:=Lib.hid (HB4.out.trans hB); clear hm hB) | (go_at_call 202; refine (rnum_any (a.2.2.length : Int) _).mono ?_; rintro r w4 ⟨rfl,hB⟩; have HM4:=Lib.hid (HM.out.below hB); have HB4:=Lib.hid (HB.out.trans (hB.mono HM.out.size)); clear hB) | (go_at_call 154; refine HP.out.mono ?_; rintro r w2 ⟨rfl,⟨sv,hm⟩,hB⟩; unfold rvV; have HM:=Lib.hid hm; have HB:=Lib.hid hB; clear hm hB))
 go_ret
 exact ⟨rfl,⟨_,HM5.out⟩,HB1.out.trans HB5.out⟩
theorem rparseOp_any (y : UInt8) (a : RV) (h : RM base w G f at_ (a :: st) rg los pr sv lv prv X) (hl : st.length ≤ 900) (ha : a.2.2.length ≤ 1024) (hG : ∀ w',Below base w w' → GlobV w') :
  Calls Tryz.prog 182 #[.pointer (some ⟨G,0,none⟩),.agg #[.int .u8 7,.int .u8 (y.toNat : Int)]] w fun e w' => e = .returned (.int .i64 0) ∧ (∃ sv',RM base w' G f at_ ((false,parseM a.2.2,[]) :: st) rg los pr sv' lv prv X) ∧ Below base w w':=by
 obtain ⟨W1,hW1⟩ : ∃ W1,W1 = w.alloc (.cells #[.int .u8 7,.int .u8 (y.toNat : Int)] 97):=⟨_,rfl⟩
 have hb1 : Below w.heap.size w W1:=by rw [hW1]; exact b_alloc _ _
 have hx : Blk W1 w.heap.size 97 [.int .u8 7,.int .u8 (y.toNat : Int)]:=by rw [hW1]; exact Blk.new w _ _
 have x0:=hx.cell (k:=0) rfl
 have HP:=Lib.hid (rpop_any a (h.below hb1) (by omega))
 have HB1:=Lib.hid (hb1.mono h.size)
 have HG:=Lib.hid hG
 clear h hb1 hx hG
 go_enter Tryz.func182,Tryz.ntmps182
 go_upto_region 1 with fail
 rw [← hW1]
 clear hW1
 go_wp2_with (first | (go_at_call 200; refine (rpush_any (false,parseM a.2.2,[]) HM4.out (by omega)).mono ?_; rintro r w5 ⟨rfl,⟨sv5,hm⟩,hB⟩; have HM5:=Lib.hid hm; have HB5:=Lib.hid (HB4.out.trans hB); clear hm hB) | (go_at_call 202; refine (rnum_any (parseM a.2.2) _).mono ?_; rintro r w4 ⟨rfl,hB⟩; have HM4:=Lib.hid (HM3.out.below hB); have HB4:=Lib.hid (HB3.out.trans (hB.mono HM3.out.size)); clear hB) | (go_at_call 206; refine (rparse_any a.2.2 _ ha (HG.out _ (HB1.out.trans HB.out))).mono ?_; rintro r w3 ⟨rfl,hB⟩; have HM3:=Lib.hid (HM.out.below hB); have HB3:=Lib.hid (HB.out.trans (hB.mono HM.out.size)); clear hB) | (go_at_call 154; refine HP.out.mono ?_; rintro r w2 ⟨rfl,⟨sv,hm⟩,hB⟩; unfold rvV; have HM:=Lib.hid hm; have HB:=Lib.hid hB; clear hm hB))
 go_ret
 exact ⟨rfl,⟨_,HM5.out⟩,HB1.out.trans HB5.out⟩
theorem rsame_any (y : UInt8) (a b : RV) (h : RM base w G f at_ (b :: a :: st) rg los pr sv lv prv X) (hl : st.length ≤ 900) :
  Calls Tryz.prog 182 #[.pointer (some ⟨G,0,none⟩),.agg #[.int .u8 12,.int .u8 (y.toNat : Int)]] w fun e w' => e = .returned (.int .i64 0) ∧ (∃ sv',RM base w' G f at_ ((false,bitM (a.2.2 == b.2.2)) :: st) rg los pr sv' lv prv X) ∧ Below base w w':=by
 obtain ⟨W1,hW1⟩ : ∃ W1,W1 = w.alloc (.cells #[.int .u8 12,.int .u8 (y.toNat : Int)] 97):=⟨_,rfl⟩
 have hb1 : Below w.heap.size w W1:=by rw [hW1]; exact b_alloc _ _
 have hx : Blk W1 w.heap.size 97 [.int .u8 12,.int .u8 (y.toNat : Int)]:=by rw [hW1]; exact Blk.new w _ _
 have x0:=hx.cell (k:=0) rfl
 have HP:=Lib.hid (rpop_any b (h.below hb1) (by simp; omega))
 have HB1:=Lib.hid (hb1.mono h.size)
 clear h hb1 hx
 go_enter Tryz.func182,Tryz.ntmps182
 go_upto_region 1 with fail
 rw [← hW1]
 clear hW1
 go_upto_region 18 with (go_at_call 154; refine HP.out.mono ?_; rintro r w2 ⟨rfl,⟨sv,hm⟩,hB⟩; unfold rvV; have HM:=Lib.hid hm; have HB:=Lib.hid (HB1.out.trans hB); clear hm hB)
 obtain ⟨D,hD⟩ : ∃ D,D = w2.heap.size:=⟨_,rfl⟩
 obtain ⟨W2,hW2⟩ : ∃ W2,W2 = w2.alloc (.cells (rvCells b).toArray 234):=⟨_,rfl⟩
 have hDb : base ≤ D:=by rw [hD]; exact HM.out.size
 have hm2 : RM base W2 G f at_ (a :: st) rg los pr sv lv prv (X ++ [blkPt D hDb 234 (rvCells b)]):=by subst hD; rw [hW2]; exact HM.out.add (rvCells b) 234
 have HB2:=Lib.hid (show Below base w W2 by rw [hW2]; exact HB.out.trans ((b_alloc _ _).mono HM.out.size))
 have HP2:=Lib.hid (rpop_any a hm2 (by omega))
 have hg : w2.alloc (.cells #[.bool b.1,.int .i64 b.2.1,.string (bs b.2.2)] 234) = W2:=hW2.symm
 rw [hg,← hD]
 clear hg hW2 hD hm2 HM HB
 go_wp2_with (first | (go_at_call 200; refine (rpush_any (false,bitM (a.2.2 == b.2.2)) HM5.out.drop (by omega)).mono ?_; rintro r w6 ⟨rfl,⟨sv6,hm⟩,hB⟩; have HM6:=Lib.hid hm; have HB6:=Lib.hid (HB5.out.trans hB); clear hm hB) | (go_at_call 204; refine (rbit_any (a.2.2 == b.2.2) _).mono ?_; rintro r w5 ⟨rfl,hB⟩; have hB9:=bt (b_alloc _ _) hB; have HM5:=Lib.hid (HM3.out.below hB9); have HB5:=Lib.hid (HB3.out.trans (hB9.mono HM3.out.size)); clear hB hB9) | (go_at_call 154; refine HP2.out.mono ?_; rintro r w3 ⟨rfl,⟨sv3,hm⟩,hB⟩; unfold rvV; obtain ⟨d0,d1,d2,ld⟩:=hm.at1; have HM3:=Lib.hid hm; have HB3:=Lib.hid (HB2.out.trans hB); clear hm hB))
 go_ret
 exact ⟨rfl,⟨_,HM6.out⟩,HB6.out⟩
theorem rcat_any (y : UInt8) (a b : RV) (h : RM base w G f at_ (b :: a :: st) rg los pr sv lv prv X) (hl : st.length ≤ 900) (ha : a.2.2.length ≤ 1024) (hb : b.2.2.length ≤ 1024) (hab : ¬ 1024 < a.2.2.length + b.2.2.length) :
  Calls Tryz.prog 182 #[.pointer (some ⟨G,0,none⟩),.agg #[.int .u8 4,.int .u8 (y.toNat : Int)]] w fun e w' => e = .returned (.int .i64 0) ∧ (∃ sv',RM base w' G f at_ ((true,0,a.2.2 ++ b.2.2) :: st) rg los pr sv' lv prv X) ∧ Below base w w':=by
 obtain ⟨W1,hW1⟩ : ∃ W1,W1 = w.alloc (.cells #[.int .u8 4,.int .u8 (y.toNat : Int)] 97):=⟨_,rfl⟩
 have hb1 : Below w.heap.size w W1:=by rw [hW1]; exact b_alloc _ _
 have hx : Blk W1 w.heap.size 97 [.int .u8 4,.int .u8 (y.toNat : Int)]:=by rw [hW1]; exact Blk.new w _ _
 have x0:=hx.cell (k:=0) rfl
 have HP:=Lib.hid (rpop_any b (h.below hb1) (by simp; omega))
 have HB1:=Lib.hid (hb1.mono h.size)
 have q1 : ¬ (1024 : Int) < (a.2.2.length : Int) + (b.2.2.length : Int):=by omega
 have q2 : (a.2.2.length : Int) ≤ 1024:=by omega
 have q3 : (b.2.2.length : Int) ≤ 1024:=by omega
 clear h hb1 hx
 go_enter Tryz.func182,Tryz.ntmps182
 go_upto_region 1 with fail
 rw [← hW1]
 clear hW1
 go_upto_region 4 with (go_at_call 154; refine HP.out.mono ?_; rintro r w2 ⟨rfl,⟨sv,hm⟩,hB⟩; unfold rvV; have HM:=Lib.hid hm; have HB:=Lib.hid (HB1.out.trans hB); clear hm hB)
 obtain ⟨D,hD⟩ : ∃ D,D = w2.heap.size:=⟨_,rfl⟩
 obtain ⟨W2,hW2⟩ : ∃ W2,W2 = w2.alloc (.cells (rvCells b).toArray 234):=⟨_,rfl⟩
 have hDb : base ≤ D:=by rw [hD]; exact HM.out.size
 have hm2 : RM base W2 G f at_ (a :: st) rg los pr sv lv prv (X ++ [blkPt D hDb 234 (rvCells b)]):=by subst hD; rw [hW2]; exact HM.out.add (rvCells b) 234
 have HB2:=Lib.hid (show Below base w W2 by rw [hW2]; exact HB.out.trans ((b_alloc _ _).mono HM.out.size))
 have HP2:=Lib.hid (rpop_any a hm2 (by omega))
 have hg : w2.alloc (.cells #[.bool b.1,.int .i64 b.2.1,.string (bs b.2.2)] 234) = W2:=hW2.symm
 rw [hg,← hD]
 clear hg hW2 hD hm2 HM HB
 go_wp2_with (first | (go_at_call 200; refine (rpush_any (true,0,a.2.2 ++ b.2.2) HM5.out.drop (by omega)).mono ?_; rintro r w6 ⟨rfl,⟨sv6,hm⟩,hB⟩; have HM6:=Lib.hid hm; have HB6:=Lib.hid (HB5.out.trans hB); clear hm hB) | (go_at_call 201; refine (rtext_any (a.2.2 ++ b.2.2) _).mono ?_; rintro r w5 ⟨rfl,hB⟩; have hB9:=bt (b_alloc _ _) hB; have HM5:=Lib.hid (HM3.out.below hB9); have HB5:=Lib.hid (HB3.out.trans (hB9.mono HM3.out.size)); clear hB hB9) | (go_at_call 154; refine HP2.out.mono ?_; rintro r w3 ⟨rfl,⟨sv3,hm⟩,hB⟩; unfold rvV; obtain ⟨d0,d1,d2,ld⟩:=hm.at1; have HM3:=Lib.hid hm; have HB3:=Lib.hid (HB2.out.trans hB); clear hm hB))
 go_ret
 exact ⟨rfl,⟨_,HM6.out⟩,HB6.out⟩
theorem rcat_long (y : UInt8) (a b : RV) (h : RM base w G f at_ (b :: a :: st) rg los pr sv lv prv X) (hl : st.length ≤ 900) (ha : a.2.2.length ≤ 1024) (hb : b.2.2.length ≤ 1024) (hab : 1024 < a.2.2.length + b.2.2.length) :
  Calls Tryz.prog 182 #[.pointer (some ⟨G,0,none⟩),.agg #[.int .u8 4,.int .u8 (y.toNat : Int)]] w fun e w' => e = .returned (.int .i64 5) ∧ Below base w w':=by
 obtain ⟨W1,hW1⟩ : ∃ W1,W1 = w.alloc (.cells #[.int .u8 4,.int .u8 (y.toNat : Int)] 97):=⟨_,rfl⟩
 have hb1 : Below w.heap.size w W1:=by rw [hW1]; exact b_alloc _ _
 have hx : Blk W1 w.heap.size 97 [.int .u8 4,.int .u8 (y.toNat : Int)]:=by rw [hW1]; exact Blk.new w _ _
 have x0:=hx.cell (k:=0) rfl
 have HP:=Lib.hid (rpop_any b (h.below hb1) (by simp; omega))
 have HB1:=Lib.hid (hb1.mono h.size)
 have q1 : (1024 : Int) < (a.2.2.length : Int) + (b.2.2.length : Int):=by omega
 have q2 : (a.2.2.length : Int) ≤ 1024:=by omega
 have q3 : (b.2.2.length : Int) ≤ 1024:=by omega
 clear h hb1 hx
 go_enter Tryz.func182,Tryz.ntmps182
 go_upto_region 1 with fail
 rw [← hW1]
 clear hW1
 go_upto_region 4 with (go_at_call 154; refine HP.out.mono ?_; rintro r w2 ⟨rfl,⟨sv,hm⟩,hB⟩; unfold rvV; have HM:=Lib.hid hm; have HB:=Lib.hid (HB1.out.trans hB); clear hm hB)
 obtain ⟨D,hD⟩ : ∃ D,D = w2.heap.size:=⟨_,rfl⟩
 obtain ⟨W2,hW2⟩ : ∃ W2,W2 = w2.alloc (.cells (rvCells b).toArray 234):=⟨_,rfl⟩
 have hDb : base ≤ D:=by rw [hD]; exact HM.out.size
 have hm2 : RM base W2 G f at_ (a :: st) rg los pr sv lv prv (X ++ [blkPt D hDb 234 (rvCells b)]):=by subst hD; rw [hW2]; exact HM.out.add (rvCells b) 234
 have HB2:=Lib.hid (show Below base w W2 by rw [hW2]; exact HB.out.trans ((b_alloc _ _).mono HM.out.size))
 have HP2:=Lib.hid (rpop_any a hm2 (by omega))
 have hg : w2.alloc (.cells #[.bool b.1,.int .i64 b.2.1,.string (bs b.2.2)] 234) = W2:=hW2.symm
 rw [hg,← hD]
 clear hg hW2 hD hm2 HM HB
 go_wp2_with (go_at_call 154; refine HP2.out.mono ?_; rintro r w3 ⟨rfl,⟨sv3,hm⟩,hB⟩; unfold rvV; obtain ⟨d0,d1,d2,ld⟩:=hm.at1; have HM3:=Lib.hid hm; have HB3:=Lib.hid (HB2.out.trans hB); clear hm hB)
 go_ret
 exact ⟨rfl,HB3.out.trans ((b_alloc _ _).mono HM3.out.size)⟩
end
end Go.Proofs.YtehllcbnheicoaaGreatDoor
namespace Go.Proofs.YtehllcbnheicoaaGreatDoor
open Go.RowKit Oct
attribute [local irreducible] wpG
section
variable {base G : Nat} {w w' w3 : World} {f : Mf} {at_ : Int} {st rg : List MV} {eos : List Eo} {pr : List (List UInt8 × List UInt8)} {tr : List Int} {stv opv opv' prv trv trv' : Value} {X : List (Pt base)}
theorem MR.newO (h : MR base w G f at_ st rg eos pr tr stv opv prv trv X) {l : List Eo} (hc : Chg (fun k => opv.ownBlock = some k) w w3) (hg : ∀ k,opv'.ownBlock = some k → opv.ownBlock = some k ∨ w.heap.size ≤ k) (ho : recEa.Own w3 base opv' l)
  (hb : (∀ e ∈ l,boxOk base w3 e) ∧ l.Pairwise fun e f => ∀ k,eoIn k e → ¬ eoIn k f) (hf : ∀ e ∈ l,∀ k,eoIn k e → (∃ e' ∈ eos,eoIn k e')) :
  MR base (w3.setCell ⟨G,23,none⟩ opv') G f at_ st rg l pr tr stv opv' prv trv X ∧ Below base w (w3.setCell ⟨G,23,none⟩ opv') ∧ w3.frozen? ⟨G,23,none⟩ = false ∧ w3.cell? ⟨G,23,none⟩ = some opv:=by
 have s1:=h.sep.upd (i:=2) rfl hc (fun k hk => hk) (ownPt recEa opv' l) ho hg
 have s15:=s1.same (i:=3) (p:=boxPt eos) rfl (boxPt l) hb (fun k hk => by
  obtain ⟨e,he,hk⟩:=hk
  exact hf e he k hk)
 have hs : Chg (fun k => k = G) w3 (w3.setCell ⟨G,23,none⟩ opv'):=Chg.setCell _ _ _ rfl
 have b3 : Blk w3 G 227 (mCells f at_ stv rg opv prv f.tx f.sn trv):=s15.get (i:=0) rfl
 have hcs : (mCells f at_ stv rg opv prv f.tx f.sn trv).set 23 opv' = mCells f at_ stv rg opv' prv f.tx f.sn trv:=by
  obtain ⟨a,b,c,d,e,f',g,j,hr⟩:=eightM h.rl
  rw [hr]; rfl
 have hbk:=b3.set 23 opv'
 rw [hcs] at hbk
 have s2:=s15.upd (i:=0) rfl hs (fun k hk => hk) (blkPt G h.gb 227 (mCells f at_ stv rg opv' prv f.tx f.sn trv)) hbk (fun k hk => .inl hk)
 exact ⟨⟨h.gb,h.rl,s2⟩,(h.sep.updB (i:=2) rfl hc (fun k hk => hk) h.size).trans (hs.below (fun k hk => by have:=h.gb; omega) (Nat.le_trans h.size hc.size)),by obtain ⟨a,b,c,d,e,f',g,j,hr⟩:=eightM h.rl; rw [hr] at b3; exact b3.free (k:=23) (by show 23 < 28; decide),by obtain ⟨a,b,c,d,e,f',g,j,hr⟩:=eightM h.rl; rw [hr] at b3; exact b3.cell (k:=23) rfl⟩
theorem MR.newT (h : MR base w G f at_ st rg eos pr tr stv opv prv trv X) {l : List Int} (hc : Chg (fun k => trv.ownBlock = some k) w w3) (hg : ∀ k,trv'.ownBlock = some k → trv.ownBlock = some k ∨ w.heap.size ≤ k) (ho : recJ.Own w3 base trv' l) :
  MR base (w3.setCell ⟨G,27,none⟩ trv') G f at_ st rg eos pr l stv opv prv trv' X ∧ Below base w (w3.setCell ⟨G,27,none⟩ trv') ∧ w3.frozen? ⟨G,27,none⟩ = false ∧ w3.cell? ⟨G,27,none⟩ = some trv:=by
 have s1:=h.sep.upd (i:=5) rfl hc (fun k hk => hk) (ownPt recJ trv' l) ho hg
 have hs : Chg (fun k => k = G) w3 (w3.setCell ⟨G,27,none⟩ trv'):=Chg.setCell _ _ _ rfl
 have b3 : Blk w3 G 227 (mCells f at_ stv rg opv prv f.tx f.sn trv):=s1.get (i:=0) rfl
 have hcs : (mCells f at_ stv rg opv prv f.tx f.sn trv).set 27 trv' = mCells f at_ stv rg opv prv f.tx f.sn trv':=by
  obtain ⟨a,b,c,d,e,f',g,j,hr⟩:=eightM h.rl
  rw [hr]; rfl
 have hbk:=b3.set 27 trv'
 rw [hcs] at hbk
 have s2:=s1.upd (i:=0) rfl hs (fun k hk => hk) (blkPt G h.gb 227 (mCells f at_ stv rg opv prv f.tx f.sn trv')) hbk (fun k hk => .inl hk)
 exact ⟨⟨h.gb,h.rl,s2⟩,(h.sep.updB (i:=5) rfl hc (fun k hk => hk) h.size).trans (hs.below (fun k hk => by have:=h.gb; omega) (Nat.le_trans h.size hc.size)),by obtain ⟨a,b,c,d,e,f',g,j,hr⟩:=eightM h.rl; rw [hr] at b3; exact b3.free (k:=27) (by show 27 < 28; decide),by obtain ⟨a,b,c,d,e,f',g,j,hr⟩:=eightM h.rl; rw [hr] at b3; exact b3.cell (k:=27) rfl⟩
theorem Sep.merge {A B : List (Pt base)} {p q : Pt base} (h : Sep base w (A ++ p :: B ++ [q])) (r : Pt base) (hr : r.P w) (hf : ∀ k,r.fp k → p.fp k ∨ q.fp k) : Sep base w (A ++ r :: B):=by
 obtain ⟨h1,h2⟩:=h
 obtain ⟨hab,-,hq⟩:=List.pairwise_append.1 h2
 obtain ⟨hA,hpB,hAp⟩:=List.pairwise_append.1 hab
 obtain ⟨hp,hB⟩:=List.pairwise_cons.1 hpB
 refine ⟨fun x hx => ?_,List.pairwise_append.2 ⟨hA,List.pairwise_cons.2 ⟨fun b hb k hk hk' => ?_,hB⟩,fun a ha b hb k hk hk' => ?_⟩⟩
 ·rcases List.mem_append.1 hx with hx | hx
  ·exact h1 x (by simp [hx])
  ·rcases List.mem_cons.1 hx with rfl | hx
   ·exact hr
   ·exact h1 x (by simp [hx])
 ·rcases hf k hk with hk | hk
  ·exact hp b hb k hk hk'
  ·exact hq b (by simp [hb]) q (by simp) k hk' hk
 ·rcases List.mem_cons.1 hb with rfl | hb
  ·rcases hf k hk' with hk' | hk'
   ·exact hAp a ha p (by simp) k hk hk'
   ·exact hq a (by simp [ha]) q (by simp) k hk hk'
  ·exact hAp a ha b (by simp [hb]) k hk hk'
theorem MR.newO2 {e : Eo} (h : MR base w G f at_ st rg eos pr tr stv opv prv trv (X ++ [boxPt [e]])) (hc : Chg (fun k => opv.ownBlock = some k) w w3) (hg : ∀ k,opv'.ownBlock = some k → opv.ownBlock = some k ∨ w.heap.size ≤ k) (ho : recEa.Own w3 base opv' (eos ++ [e])) :
  MR base (w3.setCell ⟨G,23,none⟩ opv') G f at_ st rg (eos ++ [e]) pr tr stv opv' prv trv X ∧ Below base w (w3.setCell ⟨G,23,none⟩ opv') ∧ w3.frozen? ⟨G,23,none⟩ = false ∧ w3.cell? ⟨G,23,none⟩ = some opv:=by
 have s1:=h.sep.upd (i:=2) rfl hc (fun k hk => hk) (ownPt recEa opv' (eos ++ [e])) ho hg
 have hbe:=s1.get (i:=3) (p:=boxPt eos) rfl
 have hb1 : (boxPt (base:=base) [e]).P w3:=s1.1 (boxPt [e]) (by simp)
 have hap : ∀ k,(boxPt (base:=base) eos).fp k → ¬ (boxPt (base:=base) [e]).fp k:=by
  have hl : (blkPt G h.gb 227 (mCells f at_ stv rg opv prv f.tx f.sn trv) :: ownPt recMV stv st.reverse :: ownPt recEa opv' (eos ++ [e]) :: boxPt eos :: ownPt recKv prv pr :: ownPt recJ trv tr :: (X ++ [boxPt [e]]))[6 + X.length]? = some (boxPt (base:=base) [e]):=by
   rw [Nat.add_comm]
   show (X ++ [boxPt [e]])[X.length]? = _
   simp
  exact s1.apart (i:=3) (j:=6 + X.length) (p:=boxPt eos) rfl hl (by omega)
 have s15 : Sep base w3 ([blkPt G h.gb 227 (mCells f at_ stv rg opv prv f.tx f.sn trv),ownPt recMV stv st.reverse,ownPt recEa opv' (eos ++ [e])] ++ boxPt (eos ++ [e]) :: (ownPt recKv prv pr :: ownPt recJ trv tr :: X)):=by
  refine Sep.merge (p:=boxPt eos) (q:=boxPt [e]) s1 (boxPt (eos ++ [e])) ⟨fun x hx => ?_,List.pairwise_append.2 ⟨hbe.2,List.pairwise_singleton _ _,fun a ha b hb k hk hk' => ?_⟩⟩ (fun k hk => ?_)
  ·rcases List.mem_append.1 hx with hx | hx
   ·exact hbe.1 x hx
   ·exact hb1.1 x hx
  ·exact hap k ⟨a,ha,hk⟩ ⟨b,hb,hk'⟩
  ·obtain ⟨x,hx,hk⟩:=hk
   rcases List.mem_append.1 hx with hx | hx
   ·exact .inl ⟨x,hx,hk⟩
   ·exact .inr ⟨x,hx,hk⟩
 have hs : Chg (fun k => k = G) w3 (w3.setCell ⟨G,23,none⟩ opv'):=Chg.setCell _ _ _ rfl
 have b3 : Blk w3 G 227 (mCells f at_ stv rg opv prv f.tx f.sn trv):=s15.get (i:=0) rfl
 have hcs : (mCells f at_ stv rg opv prv f.tx f.sn trv).set 23 opv' = mCells f at_ stv rg opv' prv f.tx f.sn trv:=by
  obtain ⟨a,b,c,d,e,f',g,j,hr⟩:=eightM h.rl
  rw [hr]; rfl
 have hbk:=b3.set 23 opv'
 rw [hcs] at hbk
 have s2:=s15.upd (i:=0) rfl hs (fun k hk => hk) (blkPt G h.gb 227 (mCells f at_ stv rg opv' prv f.tx f.sn trv)) hbk (fun k hk => .inl hk)
 exact ⟨⟨h.gb,h.rl,s2⟩,(h.sep.updB (i:=2) rfl hc (fun k hk => hk) h.size).trans (hs.below (fun k hk => by have:=h.gb; omega) (Nat.le_trans h.size hc.size)),by obtain ⟨a,b,c,d,e,f',g,j,hr⟩:=eightM h.rl; rw [hr] at b3; exact b3.free (k:=23) (by show 23 < 28; decide),by obtain ⟨a,b,c,d,e,f',g,j,hr⟩:=eightM h.rl; rw [hr] at b3; exact b3.cell (k:=23) rfl⟩
end
end Go.Proofs.YtehllcbnheicoaaGreatDoor
