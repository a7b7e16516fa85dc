/- Lemmas for FoldTells, part 26: walks of the functions that it reaches, and the plain laws behind them. -/
import Derived.Deep.MidRow
import Derived.Test.YtehllcbnheicoaaGreatDoorFoldTellsK23
set_option linter.unusedSimpArgs false
set_option linter.unusedVariables false
set_option maxRecDepth 100000
set_option maxHeartbeats 16000000
namespace Go.Proofs.YtehllcbnheicoaaGreatDoor
open Go.RowKit Oct
attribute [local irreducible] wpG
section
variable {base G : Nat} {w w' w3 : World} {f : Rf} {at_ : Int} {st rg : List RV} {los : List Lo} {pr : List (List UInt8 × List UInt8)} {tv cv iv ev ow sv sv' lv lv' prv prv' : Value} {X : List (Pt base)}
theorem rany_none (n : Nat) (y : UInt8) (w : World) (hn : n ≠ 1 ∧ n ≠ 2 ∧ n ≠ 3 ∧ n ≠ 14 ∧ n ≠ 15 ∧ n ≠ 16 ∧ n ≠ 17 ∧ n ≠ 18) :
  Calls Tryz.prog 180 #[.pointer (some ⟨G,0,none⟩),.agg #[.int .u8 (n : Int),.int .u8 (y.toNat : Int)]] w fun e w' => e = .returned (.tuple #[]) ∧ Below w.heap.size w w':=by
 have t1 : ((n : Int) == 1) = false:=by rw [beq_eq_false_iff_ne]; omega
 have t2 : ((n : Int) == 2) = false:=by rw [beq_eq_false_iff_ne]; omega
 have t3 : ((n : Int) == 3) = false:=by rw [beq_eq_false_iff_ne]; omega
 have t4 : ((n : Int) == 14) = false:=by rw [beq_eq_false_iff_ne]; omega
 have t5 : ((n : Int) == 15) = false:=by rw [beq_eq_false_iff_ne]; omega
 have t6 : ((n : Int) == 16) = false:=by rw [beq_eq_false_iff_ne]; omega
 have t7 : ((n : Int) == 17) = false:=by rw [beq_eq_false_iff_ne]; omega
 have t8 : ((n : Int) == 18) = false:=by rw [beq_eq_false_iff_ne]; omega
 clear hn
 go_enter Tryz.func180,Tryz.ntmps180
 go_wp2_with fail
 refine bodyPost_end (results_none rfl _ _ _) rfl ?_
 exact ⟨rfl,b_alloc _ _⟩
theorem rtextOp_any (y : UInt8) (h : RM base w G ⟨tv,cv,iv,ev,ow⟩ at_ st rg los pr sv lv prv X) (hl : st.length ≤ 900) {l : List (List UInt8)} (ht : recS.Row w tv l) (hy : y.toNat < l.length) (hl2 : l.length ≤ 1000) :
  Calls Tryz.prog 180 #[.pointer (some ⟨G,0,none⟩),.agg #[.int .u8 1,.int .u8 (y.toNat : Int)]] w fun e w' => e = .returned (.tuple #[]) ∧ (∃ sv',RM base w' G ⟨tv,cv,iv,ev,ow⟩ at_ ((true,0,l.getD y.toNat []) :: st) rg los pr sv' lv prv X) ∧ Below base w w':=by
 obtain ⟨W1,hW1⟩ : ∃ W1,W1 = w.alloc (.cells #[.int .u8 1,.int .u8 (y.toNat : Int)] 97):=⟨_,rfl⟩
 have hb1 : Below w.heap.size w W1:=by rw [hW1]; exact b_alloc _ _
 obtain ⟨D,hD⟩ : ∃ D,D = w.heap.size:=⟨_,rfl⟩
 have hx : Blk W1 D 97 [.int .u8 1,.int .u8 (y.toNat : Int)]:=by rw [hD,hW1]; exact Blk.new w _ _
 have x0:=hx.cell (k:=0) rfl
 have x1:=hx.cell (k:=1) rfl
 obtain ⟨a,n,rfl,-,hc⟩:=recS_open (ht.below hb1)
 obtain ⟨b,off,rfl,d0⟩:=hc y.toNat hy
 have hg : l.getD y.toNat [] = l[y.toNat]:=by rw [List.getD_eq_getElem?_getD,List.getElem?_eq_getElem hy]; rfl
 obtain ⟨u,hu⟩ : ∃ u,u = l[y.toNat]:=⟨_,rfl⟩
 rw [← hu] at d0 hg
 have h1:=h.below hb1
 have c0 : W1.cell? ⟨G,0,none⟩ = some (.slice (some ⟨b,off,none⟩) l.length n):=h1.cell (k:=0) rfl
 have i0 : (0 : Int) ≤ (y.toNat : Int):=by omega
 have i1 : (y.toNat : Int) < (l.length : Int):=by omega
 have i2 : (l.length : Int) ≤ 1000:=by omega
 have HG:=Lib.hid hg
 have H1:=Lib.hid h1
 have HB1:=Lib.hid (hb1.mono h.size)
 have HS:=Lib.hid h.size
 clear h h1 hg ht hc hu hb1 hx
 go_enter Tryz.func180,Tryz.ntmps180
 go_upto_region 1 with fail
 rw [← hW1,← hD]
 clear hW1 hD
 go_wp2_with fail
 go_region_law (first | (refine step_callM rfl 200 #[.pointer (some ⟨G,0,none⟩),rvV (true,0,u)] (by go_simp) (rpush_any (true,0,u) (H1.out.below HB4.out) (by omega)) ?_; rintro r w5 ⟨rfl,⟨sv5,hm⟩,hB⟩; have HM5:=Lib.hid hm; have HB5:=Lib.hid ((HB1.out.trans (HB4.out.mono H1.out.size)).trans hB); clear hm hB) | (refine step_callM rfl 201 #[.string (bs u)] (by go_simp) (rtext_any u W1.drew) ?_; rintro r w4 ⟨rfl,hB⟩; have HB4:=Lib.hid (bt (b_drew W1) hB); clear hB))
 all_goals
  (try simp only [List.getElem_toArray,List.getElem_cons_succ,List.getElem_cons_zero])
  (try go_frame)
  go_wp2_with fail
  refine bodyPost_end (results_none rfl _ _ _) rfl ?_
  rw [HG.out]
  exact ⟨rfl,⟨_,HM5.out⟩,HB5.out⟩
theorem rinputOp_any (y : UInt8) (h : RM base w G ⟨tv,cv,iv,ev,ow⟩ at_ st rg los pr sv lv prv X) (hl : st.length ≤ 900) {l : List (List UInt8)} (ht : recS.Row w iv l) (hy : y.toNat < l.length) (hl2 : l.length ≤ 1000) :
  Calls Tryz.prog 180 #[.pointer (some ⟨G,0,none⟩),.agg #[.int .u8 3,.int .u8 (y.toNat : Int)]] w fun e w' => e = .returned (.tuple #[]) ∧ (∃ sv',RM base w' G ⟨tv,cv,iv,ev,ow⟩ at_ ((true,0,l.getD y.toNat []) :: st) rg los pr sv' lv prv X) ∧ Below base w w':=by
 obtain ⟨W1,hW1⟩ : ∃ W1,W1 = w.alloc (.cells #[.int .u8 3,.int .u8 (y.toNat : Int)] 97):=⟨_,rfl⟩
 have hb1 : Below w.heap.size w W1:=by rw [hW1]; exact b_alloc _ _
 obtain ⟨D,hD⟩ : ∃ D,D = w.heap.size:=⟨_,rfl⟩
 have hx : Blk W1 D 97 [.int .u8 3,.int .u8 (y.toNat : Int)]:=by rw [hD,hW1]; exact Blk.new w _ _
 have x0:=hx.cell (k:=0) rfl
 have x1:=hx.cell (k:=1) rfl
 obtain ⟨a,n,rfl,-,hc⟩:=recS_open (ht.below hb1)
 obtain ⟨b,off,rfl,d0⟩:=hc y.toNat hy
 have hg : l.getD y.toNat [] = l[y.toNat]:=by rw [List.getD_eq_getElem?_getD,List.getElem?_eq_getElem hy]; rfl
 obtain ⟨u,hu⟩ : ∃ u,u = l[y.toNat]:=⟨_,rfl⟩
 rw [← hu] at d0 hg
 have h1:=h.below hb1
 have c0 : W1.cell? ⟨G,2,none⟩ = some (.slice (some ⟨b,off,none⟩) l.length n):=h1.cell (k:=2) rfl
 have i0 : (0 : Int) ≤ (y.toNat : Int):=by omega
 have i1 : (y.toNat : Int) < (l.length : Int):=by omega
 have i2 : (l.length : Int) ≤ 1000:=by omega
 have HG:=Lib.hid hg
 have H1:=Lib.hid h1
 have HB1:=Lib.hid (hb1.mono h.size)
 have HS:=Lib.hid h.size
 clear h h1 hg ht hc hu hb1 hx
 go_enter Tryz.func180,Tryz.ntmps180
 go_upto_region 1 with fail
 rw [← hW1,← hD]
 clear hW1 hD
 go_wp2_with fail
 go_region_law (first | (refine step_callM rfl 200 #[.pointer (some ⟨G,0,none⟩),rvV (true,0,u)] (by go_simp) (rpush_any (true,0,u) (H1.out.below HB4.out) (by omega)) ?_; rintro r w5 ⟨rfl,⟨sv5,hm⟩,hB⟩; have HM5:=Lib.hid hm; have HB5:=Lib.hid ((HB1.out.trans (HB4.out.mono H1.out.size)).trans hB); clear hm hB) | (refine step_callM rfl 201 #[.string (bs u)] (by go_simp) (rtext_any u W1.drew) ?_; rintro r w4 ⟨rfl,hB⟩; have HB4:=Lib.hid (bt (b_drew W1) hB); clear hB))
 all_goals
  (try simp only [List.getElem_toArray,List.getElem_cons_succ,List.getElem_cons_zero])
  (try go_frame)
  go_wp2_with fail
  refine bodyPost_end (results_none rfl _ _ _) rfl ?_
  rw [HG.out]
  exact ⟨rfl,⟨_,HM5.out⟩,HB5.out⟩
theorem rnumOp_any (y : UInt8) (h : RM base w G f at_ st rg los pr sv lv prv X) (hl : st.length ≤ 900) :
  Calls Tryz.prog 180 #[.pointer (some ⟨G,0,none⟩),.agg #[.int .u8 2,.int .u8 (y.toNat : Int)]] w fun e w' => e = .returned (.tuple #[]) ∧ (∃ sv',RM base w' G f at_ ((false,(y.toNat : Int),[]) :: st) rg los pr sv' lv prv X) ∧ Below base w w':=by
 obtain ⟨W1,hW1⟩ : ∃ W1,W1 = w.alloc (.cells #[.int .u8 2,.int .u8 (y.toNat : Int)] 97):=⟨_,rfl⟩
 have hb1 : Below w.heap.size w W1:=by rw [hW1]; exact b_alloc _ _
 obtain ⟨D1,hD1⟩ : ∃ D1,D1 = w.heap.size:=⟨_,rfl⟩
 have hx : Blk W1 D1 97 [.int .u8 2,.int .u8 (y.toNat : Int)]:=by rw [hD1,hW1]; exact Blk.new w _ _
 have x0:=hx.cell (k:=0) rfl
 have x1:=hx.cell (k:=1) rfl
 have HB1:=Lib.hid (hb1.mono h.size)
 have H1:=Lib.hid (h.below hb1)
 have cw : wrap64 (y.toNat : Int) = (y.toNat : Int):=by have:=y.toNat_lt; unfold wrap64; omega
 have HCW:=Lib.hid cw
 clear h hb1 hx
 go_enter Tryz.func180,Tryz.ntmps180
 go_upto_region 1 with fail
 rw [← hW1,← hD1]
 clear hW1 hD1
 go_wp2_with (first | (go_at_call 200; refine (rpush_any (false,(y.toNat : Int),[]) HM4.out (by omega)).mono ?_; rintro r w5 ⟨rfl,⟨sv5,hm⟩,hB⟩; have HM5:=Lib.hid hm; have HB5:=Lib.hid (HB4.out.trans hB); clear hm hB) | (go_at_call 202; refine (rnum_any (y.toNat : Int) _).mono ?_; rintro r w4 ⟨rfl,hB⟩; have HM4:=Lib.hid (H1.out.below hB); have HB4:=Lib.hid (HB1.out.trans (hB.mono H1.out.size)); clear hB))
 refine bodyPost_end (results_none rfl _ _ _) rfl ?_
 exact ⟨rfl,⟨_,HM5.out⟩,HB5.out⟩
theorem rdropOp_any (y : UInt8) (a : RV) (h : RM base w G f at_ (a :: st) rg los pr sv lv prv X) (hl : st.length ≤ 900) :
  Calls Tryz.prog 180 #[.pointer (some ⟨G,0,none⟩),.agg #[.int .u8 14,.int .u8 (y.toNat : Int)]] w fun e w' => e = .returned (.tuple #[]) ∧ (∃ sv',RM base w' G f at_ st rg los pr sv' lv prv X) ∧ Below base w w':=by
 obtain ⟨W1,hW1⟩ : ∃ W1,W1 = w.alloc (.cells #[.int .u8 14,.int .u8 (y.toNat : Int)] 97):=⟨_,rfl⟩
 have hb1 : Below w.heap.size w W1:=by rw [hW1]; exact b_alloc _ _
 obtain ⟨D1,hD1⟩ : ∃ D1,D1 = w.heap.size:=⟨_,rfl⟩
 have hx : Blk W1 D1 97 [.int .u8 14,.int .u8 (y.toNat : Int)]:=by rw [hD1,hW1]; exact Blk.new w _ _
 have x0:=hx.cell (k:=0) rfl
 have x1:=hx.cell (k:=1) rfl
 have HB1:=Lib.hid (hb1.mono h.size)
 have HP:=Lib.hid (rpop_any a (h.below hb1) (by omega))
 clear h hb1 hx
 go_enter Tryz.func180,Tryz.ntmps180
 go_upto_region 1 with fail
 rw [← hW1,← hD1]
 clear hW1 hD1
 go_wp2_with (go_at_call 154; refine HP.out.mono ?_; rintro r w2 ⟨rfl,⟨sv,hm⟩,hB⟩; unfold rvV; have HM:=Lib.hid hm; have HB:=Lib.hid hB; clear hm hB)
 refine bodyPost_end (results_none rfl _ _ _) rfl ?_
 exact ⟨rfl,⟨_,HM.out⟩,HB1.out.trans HB.out⟩
theorem rdupOp_any (y : UInt8) (a : RV) (h : RM base w G f at_ (a :: st) rg los pr sv lv prv X) (hl : st.length ≤ 900) :
  Calls Tryz.prog 180 #[.pointer (some ⟨G,0,none⟩),.agg #[.int .u8 15,.int .u8 (y.toNat : Int)]] w fun e w' => e = .returned (.tuple #[]) ∧ (∃ sv',RM base w' G f at_ (a :: a :: st) rg los pr sv' lv prv X) ∧ Below base w w':=by
 obtain ⟨W1,hW1⟩ : ∃ W1,W1 = w.alloc (.cells #[.int .u8 15,.int .u8 (y.toNat : Int)] 97):=⟨_,rfl⟩
 have hb1 : Below w.heap.size w W1:=by rw [hW1]; exact b_alloc _ _
 obtain ⟨D1,hD1⟩ : ∃ D1,D1 = w.heap.size:=⟨_,rfl⟩
 have hx : Blk W1 D1 97 [.int .u8 15,.int .u8 (y.toNat : Int)]:=by rw [hD1,hW1]; exact Blk.new w _ _
 have x0:=hx.cell (k:=0) rfl
 have x1:=hx.cell (k:=1) rfl
 have HB1:=Lib.hid (hb1.mono h.size)
 have HP:=Lib.hid (rpop_any a (h.below hb1) (by omega))
 clear h hb1 hx
 go_enter Tryz.func180,Tryz.ntmps180
 go_upto_region 1 with fail
 rw [← hW1,← hD1]
 clear hW1 hD1
 go_upto_region 12 with (go_at_call 154; refine HP.out.mono ?_; rintro r w2 ⟨rfl,⟨sv,hm⟩,hB⟩; unfold rvV; have HM:=Lib.hid hm; have HB:=Lib.hid (HB1.out.trans hB); clear hm hB)
 obtain ⟨D,hD⟩ : ∃ D,D = w2.heap.size:=⟨_,rfl⟩
 obtain ⟨W2,hW2⟩ : ∃ W2,W2 = w2.alloc (.cells (rvCells a).toArray 234):=⟨_,rfl⟩
 have hDb : base ≤ D:=by rw [hD]; exact HM.out.size
 have hm2 : RM base W2 G f at_ (st) rg los pr sv lv prv (X ++ [blkPt D hDb 234 (rvCells a)]):=by subst hD; rw [hW2]; exact HM.out.add (rvCells a) 234
 have HB2:=Lib.hid (show Below base w W2 by rw [hW2]; exact HB.out.trans ((b_alloc _ _).mono HM.out.size))
 have hg : w2.alloc (.cells #[.bool a.1,.int .i64 a.2.1,.string (bs a.2.2)] 234) = W2:=hW2.symm
 rw [hg,← hD]
 clear hg hW2 hD HM HB
 obtain ⟨d0,d1,d2,ld⟩:=hm2.atB (D:=D) (hD:=hDb) (v:=a) (by simp)
 have HM2:=Lib.hid hm2
 clear hm2
 go_upto_region 13 with (go_at_call 200; refine (rpush_any a HM2.out (by omega)).mono ?_; rintro r w3 ⟨rfl,⟨sv3,hm⟩,hB⟩; have HM3:=Lib.hid hm; have HB3:=Lib.hid (HB2.out.trans hB); clear hm hB)
 clear d0 d1 d2 ld
 obtain ⟨d0,d1,d2,ld⟩:=HM3.out.atB (D:=D) (hD:=hDb) (v:=a) (by simp)
 go_wp2_with (go_at_call 200; refine (rpush_any a HM3.out (by simp; omega)).mono ?_; rintro r w4 ⟨rfl,⟨sv4,hm⟩,hB⟩; have HM4:=Lib.hid hm; have HB4:=Lib.hid (HB3.out.trans hB); clear hm hB)
 refine bodyPost_end (results_none rfl _ _ _) rfl ?_
 exact ⟨rfl,⟨_,HM4.out.drop⟩,HB4.out⟩
theorem rswapOp_any (y : UInt8) (a b : RV) (h : RM base w G f at_ (b :: a :: st) rg los pr sv lv prv X) (hl : st.length ≤ 900) :
  Calls Tryz.prog 180 #[.pointer (some ⟨G,0,none⟩),.agg #[.int .u8 16,.int .u8 (y.toNat : Int)]] w fun e w' => e = .returned (.tuple #[]) ∧ (∃ sv',RM base w' G f at_ (a :: b :: st) rg los pr sv' lv prv X) ∧ Below base w w':=by
 obtain ⟨W1,hW1⟩ : ∃ W1,W1 = w.alloc (.cells #[.int .u8 16,.int .u8 (y.toNat : Int)] 97):=⟨_,rfl⟩
 have hb1 : Below w.heap.size w W1:=by rw [hW1]; exact b_alloc _ _
 obtain ⟨D1,hD1⟩ : ∃ D1,D1 = w.heap.size:=⟨_,rfl⟩
 have hx : Blk W1 D1 97 [.int .u8 16,.int .u8 (y.toNat : Int)]:=by rw [hD1,hW1]; exact Blk.new w _ _
 have x0:=hx.cell (k:=0) rfl
 have x1:=hx.cell (k:=1) rfl
 have HB1:=Lib.hid (hb1.mono h.size)
 have HP:=Lib.hid (rpop_any b (h.below hb1) (by simp; omega))
 clear h hb1 hx
 go_enter Tryz.func180,Tryz.ntmps180
 go_upto_region 1 with fail
 rw [← hW1,← hD1]
 clear hW1 hD1
 go_upto_region 16 with (go_at_call 154; refine HP.out.mono ?_; rintro r w2 ⟨rfl,⟨sv,hm⟩,hB⟩; unfold rvV; have HM:=Lib.hid hm; have HB:=Lib.hid (HB1.out.trans hB); clear hm hB)
 obtain ⟨D,hD⟩ : ∃ D,D = w2.heap.size:=⟨_,rfl⟩
 obtain ⟨W2,hW2⟩ : ∃ W2,W2 = w2.alloc (.cells (rvCells b).toArray 234):=⟨_,rfl⟩
 have hDb : base ≤ D:=by rw [hD]; exact HM.out.size
 have hm2 : RM base W2 G f at_ (a :: st) rg los pr sv lv prv (X ++ [blkPt D hDb 234 (rvCells b)]):=by subst hD; rw [hW2]; exact HM.out.add (rvCells b) 234
 have HB2:=Lib.hid (show Below base w W2 by rw [hW2]; exact HB.out.trans ((b_alloc _ _).mono HM.out.size))
 have hg : w2.alloc (.cells #[.bool b.1,.int .i64 b.2.1,.string (bs b.2.2)] 234) = W2:=hW2.symm
 rw [hg,← hD]
 clear hg hW2 hD HM HB
 have HP2:=Lib.hid (rpop_any a hm2 (by omega))
 clear hm2
 go_upto_region 17 with (go_at_call 154; refine HP2.out.mono ?_; rintro r w3 ⟨rfl,⟨sv3,hm⟩,hB⟩; unfold rvV; have HM3:=Lib.hid hm; have HB3:=Lib.hid (HB2.out.trans hB); clear hm hB)
 obtain ⟨D3,hD3⟩ : ∃ D3,D3 = w3.heap.size:=⟨_,rfl⟩
 obtain ⟨W3,hW3⟩ : ∃ W3,W3 = w3.alloc (.cells (rvCells a).toArray 234):=⟨_,rfl⟩
 have hD3b : base ≤ D3:=by rw [hD3]; exact HM3.out.size
 have hm3 : RM base W3 G f at_ st rg los pr sv3 lv prv ((X ++ [blkPt D hDb 234 (rvCells b)]) ++ [blkPt D3 hD3b 234 (rvCells a)]):=by subst hD3; rw [hW3]; exact HM3.out.add (rvCells a) 234
 have HB4:=Lib.hid (show Below base w W3 by rw [hW3]; exact HB3.out.trans ((b_alloc _ _).mono HM3.out.size))
 have hg : w3.alloc (.cells #[.bool a.1,.int .i64 a.2.1,.string (bs a.2.2)] 234) = W3:=hW3.symm
 rw [hg,← hD3]
 clear hg hW3 hD3 HM3 HB3
 obtain ⟨d0,d1,d2,ld⟩:=hm3.atB (D:=D) (hD:=hDb) (v:=b) (by simp)
 have HM3:=Lib.hid hm3
 clear hm3
 go_upto_region 18 with (go_at_call 200; refine (rpush_any b HM3.out (by omega)).mono ?_; rintro r w5 ⟨rfl,⟨sv5,hm⟩,hB⟩; have HM5:=Lib.hid hm; have HB5:=Lib.hid (HB4.out.trans hB); clear hm hB)
 clear d0 d1 d2 ld
 obtain ⟨e0,e1,e2,le⟩:=HM5.out.atB (D:=D3) (hD:=hD3b) (v:=a) (by simp)
 go_wp2_with (go_at_call 200; refine (rpush_any a HM5.out (by simp; omega)).mono ?_; rintro r w6 ⟨rfl,⟨sv6,hm⟩,hB⟩; have HM6:=Lib.hid hm; have HB6:=Lib.hid (HB5.out.trans hB); clear hm hB)
 refine bodyPost_end (results_none rfl _ _ _) rfl ?_
 exact ⟨rfl,⟨_,HM6.out.drop.drop⟩,HB6.out⟩
theorem rgetOp_any (y : UInt8) (hy : y.toNat < 8) (h : RM base w G f at_ st rg los pr sv lv prv X) (hl : st.length ≤ 900) :
  Calls Tryz.prog 180 #[.pointer (some ⟨G,0,none⟩),.agg #[.int .u8 17,.int .u8 (y.toNat : Int)]] w fun e w' => e = .returned (.tuple #[]) ∧ (∃ sv',RM base w' G f at_ (rg.getD y.toNat (false,0,[]) :: st) rg los pr sv' lv prv X) ∧ Below base w w':=by
 obtain ⟨W1,hW1⟩ : ∃ W1,W1 = w.alloc (.cells #[.int .u8 17,.int .u8 (y.toNat : Int)] 97):=⟨_,rfl⟩
 have hb1 : Below w.heap.size w W1:=by rw [hW1]; exact b_alloc _ _
 obtain ⟨D1,hD1⟩ : ∃ D1,D1 = w.heap.size:=⟨_,rfl⟩
 have hx : Blk W1 D1 97 [.int .u8 17,.int .u8 (y.toNat : Int)]:=by rw [hD1,hW1]; exact Blk.new w _ _
 have x0:=hx.cell (k:=0) rfl
 have x1:=hx.cell (k:=1) rfl
 have HB1:=Lib.hid (hb1.mono h.size)
 have H1:=Lib.hid (h.below hb1)
 obtain ⟨q0,q1,q2⟩:=H1.out.reg hy
 have hGl : G < W1.heap.size:=H1.out.blk.lt
 have i0 : (0 : Int) ≤ (y.toNat : Int):=by omega
 have i1 : (y.toNat : Int) < 8:=by omega
 obtain ⟨v,hv⟩ : ∃ v,v = rg.getD y.toNat (false,0,[]):=⟨_,rfl⟩
 rw [← hv] at q0 q1 q2
 have HV:=Lib.hid hv
 clear h hb1 hx hv
 go_enter Tryz.func180,Tryz.ntmps180
 go_upto_region 1 with fail
 rw [← hW1,← hD1]
 clear hW1 hD1
 go_wp2_with fail
 go_region_law (refine step_callM rfl 200 #[.pointer (some ⟨G,0,none⟩),rvV v] (by go_simp; rfl) (rpush_any v (H1.out.below (b_drew W1)) (by omega)) ?_; rintro r w5 ⟨rfl,⟨sv5,hm⟩,hB⟩; have HM5:=Lib.hid hm; have HB5:=Lib.hid ((HB1.out.trans ((b_drew W1).mono H1.out.size)).trans hB); clear hm hB)
 all_goals
  (try simp only [List.getElem_toArray,List.getElem_cons_succ,List.getElem_cons_zero])
  (try go_frame)
  go_wp2_with fail
  refine bodyPost_end (results_none rfl _ _ _) rfl ?_
  rw [← HV.out]
  exact ⟨rfl,⟨_,HM5.out⟩,HB5.out⟩
end
end Go.Proofs.YtehllcbnheicoaaGreatDoor
namespace Go.Proofs.YtehllcbnheicoaaGreatDoor
open Go.RowKit Oct
attribute [local irreducible] wpG
theorem blk_storeN {P : Program} {ops : Array Oper} {rest : List Oper} {op : Oper} {a : Act} {w : World} {Q : Exit → Act → World → Prop} (b : Nat) (cs cs' : List Value) {t : TypeId} (h : Blk w b t cs) (hgd : op.guard = none) (ty : TypeId) (x y : Operand) (ho : op.op = .store ty x y) (hx : a.eval x = .pointer (some ⟨b,0,none⟩))
  (hy : a.eval y = .agg cs'.toArray) (hi : (P.info? ty).map (·.size) = some cs'.length) (hl : cs.length = cs'.length) (h1 : cs'.toArray.all (·.oneCell') = true)
  (k : ∀ w',Hid (w.setRow b cs'.toArray = w') → wpList P ops Q rest (a.put op.dst undef) w') : wpList P ops Q (op :: rest) a w :=
 blk_store b cs cs' h hgd ty x y ho hx hy hi hl h1 (k _ rfl)
def setL : List Value → Nat → List Value → List Value
 | cs,_,[] => cs
 | cs,o,v :: r => setL (cs.set o v) (o + 1) r
theorem Blk.setCells {b : Nat} {t : TypeId} : ∀ (vs : List Value) (o : Nat) (w : World) (cs : List Value),Blk w b t cs → Blk (w.setCells b o vs) b t (setL cs o vs)
 | [],_,_,_,h => h
 | v :: r,o,w,cs,h => Blk.setCells r (o + 1) (w.setCell ⟨b,o,none⟩ v) (cs.set o v) (h.set o v)
theorem Chg.setCells {b : Nat} : ∀ (vs : List Value) (o : Nat) (w : World),Chg (fun k => k = b) w (w.setCells b o vs)
 | [],_,_ => Chg.refl _ _
 | v :: r,o,w => by
  have h1 : Chg (fun k => k = b) w (w.setCell ⟨b,o,none⟩ v):=Chg.setCell w ⟨b,o,none⟩ v rfl
  exact h1.trans (Chg.setCells r (o + 1) _)
theorem setL_regs {f : Rf} {at_ : Int} {sv lv prv : Value} {rg rg' : List RV} (h : rg.length = 8) (h' : rg'.length = 8) : setL (rCells f at_ sv rg lv prv) 7 (recVa.cells rg') = rCells f at_ sv rg' lv prv:=by
 obtain ⟨a,b,c,d,e,g,i,j,rfl⟩:=eightR h
 obtain ⟨a',b',c',d',e',g',i',j',rfl⟩:=eightR h'
 kernel_rfl
theorem regs_len {rg : List RV} (h : rg.length = 8) : (recVa.cells rg).length = 24:=by rw [Rec.cells_length,h]; rfl
theorem regs_one (rg : List RV) : (recVa.cells rg).toArray.all (·.oneCell') = true:=all_oneCell_toArray (recVa.cells_one rg)
def zreg : List Value:=[.bool false,.int .i64 0,.string ⟨#[]⟩,.bool false,.int .i64 0,.string ⟨#[]⟩,.bool false,.int .i64 0,.string ⟨#[]⟩,.bool false,.int .i64 0,.string ⟨#[]⟩,.bool false,.int .i64 0,.string ⟨#[]⟩,.bool false,.int .i64 0,.string ⟨#[]⟩,.bool false,.int .i64 0,.string ⟨#[]⟩,.bool false,.int .i64 0,.string ⟨#[]⟩]
theorem regs_size {rg : List RV} (h : rg.length = 8) : (Tryz.prog.info? 235).map (·.size) = some (recVa.cells rg).length:=by rw [regs_len h]; kernel_rfl
theorem set_regs {rg : List RV} {i : Nat} (hi : i < rg.length) (v : RV) : (((recVa.cells rg).set (i * 3) (.bool v.1)).set (i * 3 + 1) (.int .i64 v.2.1)).set (i * 3 + 2) (.string (bs v.2.2)) = recVa.cells (rg.set i v):=by
 induction rg generalizing i with
 | nil => simp at hi
 | cons x rg ih =>
  cases i with
  | zero => rfl
  | succ i =>
   have e0 : (i + 1) * 3 = i * 3 + 3:=by omega
   have:=ih (i:=i) (by simpa using hi)
   rw [e0]
   show (((_ :: _ :: _ :: recVa.cells rg).set (i * 3 + 3) _).set (i * 3 + 3 + 1) _).set (i * 3 + 3 + 2) _ = _ :: _ :: _ :: recVa.cells (rg.set i v)
   rw [← this]
   rfl
theorem mv3 {w : World} {T : Nat} {t : TypeId} {rg : List RV} (hb : Blk w T t (recVa.cells rg)) (i : Nat) (v : RV) (hi : i < rg.length) :
  Blk (((w.setCell ⟨T,i * 3,none⟩ (.bool v.1)).setCell ⟨T,i * 3 + 1,none⟩ (.int .i64 v.2.1)).setCell ⟨T,i * 3 + 2,none⟩ (.string (bs v.2.2))) T t (recVa.cells (rg.set i v)) ∧
  Chg (fun k => k = T) w (((w.setCell ⟨T,i * 3,none⟩ (.bool v.1)).setCell ⟨T,i * 3 + 1,none⟩ (.int .i64 v.2.1)).setCell ⟨T,i * 3 + 2,none⟩ (.string (bs v.2.2))):=by
 refine ⟨?_,Chg.trans (Chg.trans (Chg.setCell w ⟨T,i * 3,none⟩ _ rfl) (Chg.setCell _ ⟨T,i * 3 + 1,none⟩ _ rfl)) (Chg.setCell _ ⟨T,i * 3 + 2,none⟩ _ rfl)⟩
 have:=((hb.set (i * 3) (.bool v.1)).set (i * 3 + 1) (.int .i64 v.2.1)).set (i * 3 + 2) (.string (bs v.2.2))
 rw [set_regs hi v] at this
 exact this
section
variable {base G : Nat} {w w' w3 : World} {f : Rf} {at_ : Int} {st rg rg' : List RV} {los : List Lo} {pr : List (List UInt8 × List UInt8)} {tv cv iv ev ow sv sv' lv lv' prv prv' : Value} {X : List (Pt base)}
theorem RM.regRange (h : RM base w G f at_ st rg los pr sv lv prv X) : w.rangeAt G 7 (recVa.cells rg):=by
 intro j v hv
 refine h.blk.cell (k:=7 + j) ?_
 unfold rCells
 rw [List.getElem?_append_right (by simp)]
 rw [List.getElem?_append_left (by have:=(List.getElem?_eq_some_iff.1 hv).1; simp; omega)]
 rw [← hv]
 congr 1
 simp
theorem RM.regThere (h : RM base w G f at_ st rg los pr sv lv prv X) (n : Nat) (hn : n ≤ 24) : w.there G 7 n:=by
 intro j hj
 have hr:=h.regRange
 have hl:=regs_len h.rl
 refine ⟨?_,h.free (by omega)⟩
 rw [hr j _ (List.getElem?_eq_getElem (by omega))]
 rfl
theorem RM.newR (h : RM base w G f at_ st rg los pr sv lv prv X) (h8 : rg'.length = 8) : RM base (w.setCells G 7 (recVa.cells rg')) G f at_ st rg' los pr sv lv prv X ∧ Below base w (w.setCells G 7 (recVa.cells rg')):=by
 have hs:=Chg.setCells (b:=G) (recVa.cells rg') 7 w
 have hb:=Blk.setCells (recVa.cells rg') 7 w _ h.blk
 rw [setL_regs h.rl h8] at hb
 have s2:=h.sep.upd (i:=0) rfl hs (fun k hk => hk) (blkPt G h.gb 238 (rCells f at_ sv rg' lv prv)) hb (fun k hk => .inl hk)
 exact ⟨⟨h.gb,h8,s2⟩,h.sep.updB (i:=0) rfl hs (fun k hk => hk) h.size⟩
theorem rsetOp_any (y : UInt8) (hy : y.toNat < 8) (a : RV) (h : RM base w G f at_ (a :: st) rg los pr sv lv prv X) (hl : st.length ≤ 900) :
  Calls Tryz.prog 180 #[.pointer (some ⟨G,0,none⟩),.agg #[.int .u8 18,.int .u8 (y.toNat : Int)]] w fun e w' => e = .returned (.tuple #[]) ∧ (∃ sv',RM base w' G f at_ st (rg.set y.toNat a) los pr sv' lv prv X) ∧ Below base w w':=by
 obtain ⟨W1,hW1⟩ : ∃ W1,W1 = w.alloc (.cells #[.int .u8 18,.int .u8 (y.toNat : Int)] 97):=⟨_,rfl⟩
 have hb1 : Below w.heap.size w W1:=by rw [hW1]; exact b_alloc _ _
 obtain ⟨D1,hD1⟩ : ∃ D1,D1 = w.heap.size:=⟨_,rfl⟩
 have hx : Blk W1 D1 97 [.int .u8 18,.int .u8 (y.toNat : Int)]:=by rw [hD1,hW1]; exact Blk.new w _ _
 have hD1b : base ≤ D1:=by rw [hD1]; exact h.size
 have x0:=hx.cell (k:=0) rfl
 have HB1:=Lib.hid (hb1.mono h.size)
 have hm1 : RM base W1 G f at_ (a :: st) rg los pr sv lv prv (X ++ [blkPt D1 hD1b 97 [.int .u8 18,.int .u8 (y.toNat : Int)]]):=by subst hD1; rw [hW1]; exact h.add _ _
 have HRL:=Lib.hid h.rl
 have HM1:=Lib.hid hm1
 obtain ⟨T,hT⟩ : ∃ T,T = W1.heap.size:=⟨_,rfl⟩
 have hTb : base ≤ T:=by rw [hT]; exact hm1.size
 obtain ⟨W2,hW2⟩ : ∃ W2,W2 = W1.alloc (.cells zreg.toArray 235):=⟨_,rfl⟩
 have hz : Blk W2 T 235 zreg:=by rw [hT,hW2]; exact Blk.new W1 _ _
 have hm2 : RM base W2 G f at_ (a :: st) rg los pr sv lv prv ((X ++ [blkPt D1 hD1b 97 [.int .u8 18,.int .u8 (y.toNat : Int)]]) ++ [blkPt T hTb 235 zreg]):=by subst hT; rw [hW2]; exact hm1.add zreg _
 have hB2 : Below base W1 W2:=by rw [hW2]; exact (b_alloc _ _).mono hm1.size
 have HZ:=Lib.hid hz
 have HM2:=Lib.hid hm2
 have HB2:=Lib.hid hB2
 have HT:=Lib.hid hT
 have HW2:=Lib.hid hW2
 clear h hb1 hx hm1 hz hm2 hB2 hT hW2
 go_enter Tryz.func180,Tryz.ntmps180
 go_upto_region 1 with fail
 rw [← hW1,← hD1]
 clear hW1 hD1
 go_upto_region 23 with (first | (refine wpList_load_mid rfl _ _ rfl G 7 rfl (recVa.cells rg) (.array 8 234) HM1.out.regRange Tryz.underlying235 rfl (regs_size HRL.out) ?_) | (refine blk_storeN W1.heap.size zreg (recVa.cells rg) (by have h:=HZ.out; rw [HW2.out,HT.out] at h; exact h) rfl _ _ _ rfl rfl rfl (regs_size HRL.out) (regs_len HRL.out).symm (regs_one rg) ?_; intro W3 HW3))
 have hrow : Blk W3 T 235 (recVa.cells rg):=by
  have h1:=HZ.out.row (recVa.cells rg)
  rw [HW2.out,HT.out] at h1
  rw [HT.out,← HW3.out]
  exact h1
 have hc3 : Chg (fun k => k = T) W2 W3:=by
  have h1:=chg_setRow (X:=fun k => k = T) W2 T (recVa.cells rg).toArray rfl
  rw [HT.out] at h1 ⊢
  rw [HW2.out] at h1 ⊢
  rw [← HW3.out]
  exact h1
 obtain ⟨hm3,hb3⟩:=HM2.out.updX (i:=X.length + 1) (p:=blkPt T hTb 235 zreg) (by simp) hc3 (fun k hk => hk) (blkPt T hTb 235 (recVa.cells rg)) hrow (fun k hk => hk)
 have hset : ((X ++ [blkPt D1 hD1b 97 [.int .u8 18,.int .u8 (y.toNat : Int)]]) ++ [blkPt T hTb 235 zreg]).set (X.length + 1) (blkPt T hTb 235 (recVa.cells rg)) = (X ++ [blkPt D1 hD1b 97 [.int .u8 18,.int .u8 (y.toNat : Int)]]) ++ [blkPt T hTb 235 (recVa.cells rg)]:=by
  rw [List.set_append_right _ _ (by simp)]
  simp
 rw [hset] at hm3
 have HB3:=Lib.hid ((HB1.out.trans HB2.out).trans hb3)
 have hD : Blk W3 D1 97 [.int .u8 18,.int .u8 (y.toNat : Int)]:=hm3.loc (p:=blkPt D1 hD1b 97 [.int .u8 18,.int .u8 (y.toNat : Int)]) (by simp)
 have x1:=hD.cell (k:=1) rfl
 have HM3:=Lib.hid hm3
 have HP:=Lib.hid (rpop_any a (hm3.below (b_drew W3)) (by omega))
 rw [← HT.out]
 clear hrow hc3 hb3 hset hD hm3 HW3 HW2 HT HZ HM2 HB2 x0
 have i0 : (0 : Int) ≤ (y.toNat : Int):=by omega
 have i1 : (y.toNat : Int) < 8:=by omega
 have hyl : y.toNat < rg.length:=by rw [HRL.out]; exact hy
 obtain ⟨i,hi⟩ : ∃ i,i = y.toNat:=⟨_,rfl⟩
 have HI:=Lib.hid hi
 rw [← hi] at x1 i0 i1 hyl
 have HYL:=Lib.hid hyl
 clear hi hyl
 (try go_frame)
 go_region_law (refine step_callM rfl 154 #[.pointer (some ⟨G,0,none⟩)] (by go_simp) HP.out ?_; rintro r w4 ⟨rfl,⟨sv4,hm⟩,hB⟩; unfold rvV; have hD4 : Blk w4 D1 97 [.int .u8 18,.int .u8 (y.toNat : Int)]:=hm.loc (p:=blkPt D1 hD1b 97 [.int .u8 18,.int .u8 (y.toNat : Int)]) (by simp); have x1' : w4.cell? ⟨D1,1,none⟩ = some (.int .u8 (i : Int)):=(by rw [HI.out]; exact hD4.cell (k:=1) rfl); clear hD4; have hb : Blk w4 T 235 (recVa.cells rg):=hm.loc (p:=blkPt T hTb 235 (recVa.cells rg)) (by simp); have y0 : ∃ u,w4.cell? ⟨T,i * 3,none⟩ = some u:=⟨_,hb.cell (recVa.cells_at rg i HYL.out 0 _ rfl)⟩; obtain ⟨u0,y0⟩:=y0; have y1 : ∃ u,w4.cell? ⟨T,i * 3 + 1,none⟩ = some u:=⟨_,hb.cell (recVa.cells_at rg i HYL.out 1 _ rfl)⟩; obtain ⟨u1,y1⟩:=y1; have y2 : ∃ u,w4.cell? ⟨T,i * 3 + 2,none⟩ = some u:=⟨_,hb.cell (recVa.cells_at rg i HYL.out 2 _ rfl)⟩; obtain ⟨u2,y2⟩:=y2; have k0:=hb.free (k:=i * 3) (by rw [regs_len HRL.out]; have:=HYL.out; have:=HRL.out; omega); have k1:=hb.free (k:=i * 3 + 1) (by rw [regs_len HRL.out]; have:=HYL.out; have:=HRL.out; omega); have k2:=hb.free (k:=i * 3 + 2) (by rw [regs_len HRL.out]; have:=HYL.out; have:=HRL.out; omega); have HM4:=Lib.hid hm; have HB4:=Lib.hid ((HB3.out.trans ((b_drew W3).mono HM3.out.size)).trans hB); have HBK:=Lib.hid hb; clear hm hB hb)
 all_goals
  (try simp only [List.getElem_toArray,List.getElem_cons_succ,List.getElem_cons_zero])
  (try go_frame)
  have HQ:=mv3 HBK.out i a HYL.out
  obtain ⟨W5,hW5⟩ : ∃ W5,W5 = ((w4.setCell ⟨T,i * 3,none⟩ (.bool a.1)).setCell ⟨T,i * 3 + 1,none⟩ (.int .i64 a.2.1)).setCell ⟨T,i * 3 + 2,none⟩ (.string (bs a.2.2)):=⟨_,rfl⟩
  rw [← hW5] at HQ ⊢
  obtain ⟨hq1,hq2⟩:=HQ
  obtain ⟨hm5,hb5⟩:=HM4.out.updX (i:=X.length + 1) (p:=blkPt T hTb 235 (recVa.cells rg)) (by simp) hq2 (fun k hk => hk) (blkPt T hTb 235 (recVa.cells (rg.set i a))) hq1 (fun k hk => hk)
  have hset : ((X ++ [blkPt D1 hD1b 97 [.int .u8 18,.int .u8 (y.toNat : Int)]]) ++ [blkPt T hTb 235 (recVa.cells rg)]).set (X.length + 1) (blkPt T hTb 235 (recVa.cells (rg.set i a))) = (X ++ [blkPt D1 hD1b 97 [.int .u8 18,.int .u8 (y.toNat : Int)]]) ++ [blkPt T hTb 235 (recVa.cells (rg.set i a))]:=by
   rw [List.set_append_right _ _ (by simp)]
   simp
  rw [hset] at hm5
  have hrl : (rg.set i a).length = 8:=by rw [List.length_set]; exact HRL.out
  have HM5:=Lib.hid hm5
  have HQ1:=Lib.hid hq1
  have HB5:=Lib.hid (HB4.out.trans hb5)
  have HRL5:=Lib.hid hrl
  have HTH:=Lib.hid (hm5.regThere (recVa.cells (rg.set i a)).length (by rw [regs_len hrl]; exact Nat.le_refl _))
  clear hm5 hq1 hb5 hrl hset hq2 hW5 y0 y1 y2 k0 k1 k2 x1'
  go_wp2_with (first | (refine blk_load T (recVa.cells (rg.set i a)) HQ1.out (.array 8 234) rfl _ _ rfl rfl Tryz.underlying235 rfl (regs_size HRL5.out) ?_) | (refine wpList_store_mid rfl _ _ _ rfl G 7 (recVa.cells (rg.set i a)).toArray rfl rfl (by simpa using HTH.out) (by simpa using regs_size HRL5.out) (regs_one _) ?_))
  obtain ⟨hm6,hb6⟩:=HM5.out.newR HRL5.out
  refine bodyPost_end (results_none rfl _ _ _) rfl ?_
  rw [← HI.out]
  exact ⟨rfl,⟨_,hm6.drop.drop⟩,HB5.out.trans hb6⟩
end
end Go.Proofs.YtehllcbnheicoaaGreatDoor
