/- Lemmas for FoldTells, part 18: walks of the functions that it reaches, and the plain laws behind them. -/
import Derived.Test.YtehllcbnheicoaaGreatDoorFoldTellsK7
import Derived.Test.YtehllcbnheicoaaGreatDoorFoldTellsK17
set_option linter.unusedSimpArgs false
set_option linter.unusedVariables false
set_option maxRecDepth 100000
set_option maxHeartbeats 16000000
namespace Go.Proofs.YtehllcbnheicoaaGreatDoor
open Go.RowKit Oct
theorem wpG_nilN {P : Program} {ops : Array Oper} {C : World → Prop} {R : World → World → Prop} {F : Nat → Option (Known R)} {Q : Facts → Act → Prop} {k : Nat} {S : Facts} {a : Act} (h : Q S a) : wpG P ops C R F Q k [] S a:=h
attribute [local irreducible] wpG
theorem results_cellN {P : Program} {fn : Func} {p : Tmp} {ty : TypeId} {tmps : Array Value} {w : World} {v : Value} {b : Nat} (hr : fn.results = #[.cell p ty]) (hp : tmps.getD p undef = .pointer (some ⟨b,0,none⟩))
  (hl : (loadVar ty ⟨b,0,none⟩).run P w = .ok v w) : (results fn tmps).run P w = .ok v w:=by
 simp only [Array.getD_eq_getD_getElem?] at hp ⊢
 simp [results,hr,Sem.run_bind,Result.andThen,hp,asAddr,hl]
theorem load_rv {w : World} {b : Nat} {v0 v1 v2 : Value} (h0 : w.cell? ⟨b,0,none⟩ = some v0) (h1 : w.cell? ⟨b,1,none⟩ = some v1) (h2 : w.cell? ⟨b,2,none⟩ = some v2) : (loadVar 234 ⟨b,0,none⟩).run Tryz.prog w = .ok (.agg #[v0,v1,v2]) w:=by
 go_simp
theorem rv_store {w : World} {b : Nat} {t : TypeId} {a0 a1 a2 : Value} (hx : Blk w b t [a0,a1,a2]) (v0 v1 v2 : Value) :
  Blk (((w.setCell ⟨b,0,none⟩ v0).setCell ⟨b,1,none⟩ v1).setCell ⟨b,2,none⟩ v2) b t [v0,v1,v2] ∧ Chg (fun x => x = b) w (((w.setCell ⟨b,0,none⟩ v0).setCell ⟨b,1,none⟩ v1).setCell ⟨b,2,none⟩ v2) :=
 ⟨((hx.set 0 v0).set 1 v1).set 2 v2,Chg.trans (Chg.trans (Chg.setCell w ⟨b,0,none⟩ v0 rfl) (Chg.setCell _ ⟨b,1,none⟩ v1 rfl)) (Chg.setCell _ ⟨b,2,none⟩ v2 rfl)⟩
theorem pre_setN {α : Type} (X Y Z : List α) (q : α) : X <+: (X ++ Y ++ Z).set X.length q:=by
 rw [List.append_assoc,List.set_append_right _ _ (Nat.le_refl _)]
 exact List.prefix_append _ _
section
variable {base G : Nat} {w w' w3 : World} {f : Rf} {at_ : Int} {st rg : List RV} {los : List Lo} {pr : List (List UInt8 × List UInt8)} {sv sv' lv lv' prv prv' : Value} {X : List (Pt base)}
theorem rpop_any (v : RV) (h : RM base w G f at_ (v :: st) rg los pr sv lv prv X) (hl : st.length ≤ 1000) :
  Calls Tryz.prog 154 #[.pointer (some ⟨G,0,none⟩)] w fun e w' => e = .returned (rvV v) ∧ (∃ sv',RM base w' G f at_ st rg los pr sv' lv prv X) ∧ Below base w w':=by
 obtain ⟨⟨ab,cb,hsv⟩,_,_⟩:=h.slices
 rw [List.length_cons] at hsv
 subst hsv
 have HH:=Lib.hid h
 obtain ⟨R,hR⟩ : ∃ R,R = w.heap.size:=⟨_,rfl⟩
 obtain ⟨W1,hW1⟩ : ∃ W1,W1 = w.alloc (.cells #[.bool false,.int .i64 0,.string ⟨#[]⟩] 234):=⟨_,rfl⟩
 have hRb : base ≤ R:=by rw [hR]; exact HH.out.size
 have hm1 : RM base W1 G f at_ (v :: st) rg los pr (.slice ab (st.length + 1) cb) lv prv (X ++ [blkPt R hRb 234 [.bool false,.int .i64 0,.string ⟨#[]⟩]]):=by subst hR; rw [hW1]; exact HH.out.add _ _
 have HB1:=Lib.hid (show Below w.heap.size w W1 by rw [hW1]; exact b_alloc _ _)
 clear h
 go_enter Tryz.func154,Tryz.ntmps154
 go_upto_region 1 with fail
 rw [← hW1,← hR]
 clear hW1 hR
 obtain ⟨g,rfl,-,e0,e1,e2⟩:=hm1.top
 have c6 : W1.cell? ⟨G,6,none⟩ = some (.slice (some ⟨g,0,none⟩) (st.length + 1) cb):=hm1.cell (k:=6) rfl
 have hGl : G < W1.heap.size:=hm1.blk.lt
 have hgl : g < W1.heap.size:=lt_of_cell e0
 have hl1 : ((st.length : Int) + 1) - 1 = (st.length : Int):=by omega
 have hl2 : (0 : Int) ≤ (st.length : Int):=by omega
 have hl3 : (st.length : Int) < (st.length : Int) + 1:=by omega
 have hl4 : (st.length : Int) ≤ 1000:=by omega
 have HM1:=Lib.hid hm1
 clear hm1
 go_region
 obtain ⟨T,hT⟩ : ∃ T,T = W1.heap.size:=⟨_,rfl⟩
 have hTb : base ≤ T:=by rw [hT]; exact HM1.out.size
 obtain ⟨W2,hW2⟩ : ∃ W2,W2 = (W1.alloc (.cells #[.bool v.1,.int .i64 v.2.1,.string (bs v.2.2)] 234)).drew:=⟨_,rfl⟩
 have hm2 : RM base W2 G f at_ (v :: st) rg los pr (.slice (some ⟨g,0,none⟩) (st.length + 1) cb) lv prv (X ++ [blkPt R hRb 234 [.bool false,.int .i64 0,.string ⟨#[]⟩]] ++ [blkPt T hTb 234 [.bool v.1,.int .i64 v.2.1,.string (bs v.2.2)]]):=by
  subst hT; rw [hW2]; exact (HM1.out.add [.bool v.1,.int .i64 v.2.1,.string (bs v.2.2)] 234).below (b_drew _)
 have HB2:=Lib.hid (show Below w.heap.size w W2 by rw [hW2]; exact bt HB1.out (bt (b_alloc _ _) (b_drew _)))
 rw [← hW2,← hT]
 clear hW2 hT e0 e1 e2 c6 hGl hgl HM1
 have c6 : W2.cell? ⟨G,6,none⟩ = some (.slice (some ⟨g,0,none⟩) (st.length + 1) cb):=hm2.cell (k:=6) rfl
 have f6:=hm2.free (k:=6) (by decide)
 have hGl : G < W2.heap.size:=hm2.blk.lt
 have ho : recVa.Own W2 base (.slice (some ⟨g,0,none⟩) (v :: st).reverse.length cb) (v :: st).reverse:=by rw [List.length_reverse]; exact hm2.os
 have hrun:=ho.shortRun 232 Tryz.underlying232 (by intro wx; kernel_rfl) st.length (by simp)
 rw [List.length_reverse,List.length_cons] at hrun
 have hsh : recVa.Own W2.drew base (.slice (some ⟨g,0,none⟩) st.length cb) st.reverse:=by
  have:=(ho.below (b_drew W2)).short st.length (by simp)
  rwa [List.reverse_cons,List.take_append_of_le_length (by simp),List.take_of_length_le (by simp)] at this
 have hn:=(hm2.below (b_drew W2)).newS (sv':=.slice (some ⟨g,0,none⟩) st.length cb) (l:=st) (Chg.refl _ _) (fun k hk => by cases hk; exact .inl rfl) hsh
 have HN:=Lib.hid hn
 clear ho hsh hn hm2
 go_wp2_with fail
 go_region
 obtain ⟨W3,hW3⟩ : ∃ W3,W3 = (W2.setCell ⟨G,6,none⟩ (.slice (some ⟨g,0,none⟩) st.length cb)).drew:=⟨_,rfl⟩
 have hm3 : RM base W3 G f at_ st rg los pr (.slice (some ⟨g,0,none⟩) st.length cb) lv prv (X ++ [blkPt R hRb 234 [.bool false,.int .i64 0,.string ⟨#[]⟩]] ++ [blkPt T hTb 234 [.bool v.1,.int .i64 v.2.1,.string (bs v.2.2)]]):=by rw [hW3]; exact HN.out.1
 have hb3 : Below base w W3:=by rw [hW3]; exact ((bt HB2.out (b_drew W2)).mono HH.out.size).trans HN.out.2.1
 rw [← hW3]
 clear hW3 HN c6 f6 hGl hrun HB2
 have hTk : Blk W3 T 234 [.bool v.1,.int .i64 v.2.1,.string (bs v.2.2)]:=hm3.loc (p:=blkPt T hTb 234 [.bool v.1,.int .i64 v.2.1,.string (bs v.2.2)]) (by simp)
 have hRk : Blk W3 R 234 [.bool false,.int .i64 0,.string ⟨#[]⟩]:=hm3.loc (p:=blkPt R hRb 234 [.bool false,.int .i64 0,.string ⟨#[]⟩]) (by simp)
 have t0:=hTk.cell (k:=0) rfl
 have t1:=hTk.cell (k:=1) rfl
 have t2:=hTk.cell (k:=2) rfl
 have r0:=hRk.cell (k:=0) rfl
 have r1:=hRk.cell (k:=1) rfl
 have r2:=hRk.cell (k:=2) rfl
 have k0:=hRk.free (k:=0) (by simp)
 have k1:=hRk.free (k:=1) (by simp)
 have k2:=hRk.free (k:=2) (by simp)
 have HM3:=Lib.hid hm3
 have HB3:=Lib.hid hb3
 have HRK:=Lib.hid hRk
 clear hm3 hb3 hRk hTk
 go_wp2_with fail
 obtain ⟨hy,hc⟩:=rv_store HRK.out (.bool v.1) (.int .i64 v.2.1) (.string (bs v.2.2))
 refine bodyPost_ret (results_cellN rfl rfl (load_rv (hy.cell (k:=0) rfl) (hy.cell (k:=1) rfl) (hy.cell (k:=2) rfl))) rfl ?_
 obtain ⟨hm4,hb4⟩:=HM3.out.updX (i:=X.length) (p:=blkPt R hRb 234 [.bool false,.int .i64 0,.string ⟨#[]⟩]) (by simp) hc (fun k hk => hk) (blkPt R hRb 234 [.bool v.1,.int .i64 v.2.1,.string (bs v.2.2)]) hy (fun k hk => hk)
 exact ⟨rfl,⟨_,hm4.pre (pre_setN X _ _ _)⟩,HB3.out.trans hb4⟩
theorem rpush_any (v : RV) (h : RM base w G f at_ st rg los pr sv lv prv X) (hl : st.length ≤ 1000) :
  Calls Tryz.prog 200 #[.pointer (some ⟨G,0,none⟩),rvV v] w fun e w' => e = .returned (.tuple #[]) ∧ (∃ sv',RM base w' G f at_ (v :: st) rg los pr sv' lv prv X) ∧ Below base w w':=by
 obtain ⟨⟨ab,cb,rfl⟩,_,_⟩:=h.slices
 obtain ⟨W1,hW1⟩ : ∃ W1,W1 = w.alloc (.cells #[.bool v.1,.int .i64 v.2.1,.string (bs v.2.2)] 234):=⟨_,rfl⟩
 have hb1 : Below w.heap.size w W1:=by rw [hW1]; exact b_alloc _ _
 have hx : Blk W1 w.heap.size 234 [.bool v.1,.int .i64 v.2.1,.string (bs v.2.2)]:=by rw [hW1]; exact Blk.new w _ _
 obtain ⟨D,hD⟩ : ∃ D,D = w.heap.size:=⟨_,rfl⟩
 rw [← hD] at hx
 have HS:=Lib.hid h.size
 have h1:=h.below hb1
 have c6:=h1.cell (k:=6) rfl
 have x0:=hx.cell (k:=0) rfl
 have x1:=hx.cell (k:=1) rfl
 have x2:=hx.cell (k:=2) rfl
 have HB1:=Lib.hid (hb1.mono h.size)
 have H1:=Lib.hid h1
 have HOS:=Lib.hid h1.os
 have hlr : st.reverse.length = st.length:=List.length_reverse
 obtain ⟨xs,hxs⟩ : ∃ xs,xs = st.reverse:=⟨_,rfl⟩
 rw [← hxs] at HOS hlr
 rw [← hlr] at c6
 have HXS:=Lib.hid hxs
 have HLR:=Lib.hid hlr
 have hl2 : xs.length ≤ 1000:=by omega
 clear h h1 hb1 hx hxs hlr
 unfold rvV
 go_enter Tryz.func200,Tryz.ntmps200
 go_upto_region 1 with fail
 rw [← hW1,← hD]
 clear hW1 hD
 refine region_relA recVa xs v 11 [(4,.exact _ (.slice ab xs.length cb)),(5,kOwnA recVa W1.heap.size xs v),(6,.exact _ (.agg #[.bool v.1,.int .i64 v.2.1,.string (bs v.2.2)])),(7,kOneA recVa W1.heap.size xs v),(8,kOwnB recVa W1.heap.size xs v)] (by kernel_rfl) (by kernel_rfl) ?_
 simp only [List.take_succ_cons,List.take_zero,List.drop_succ_cons,List.drop_zero]
 (repeat (first | (refine wpG_skip (by kernel_rfl) (fun K hK => ?_); go_big_quiet_skip; refine wpQuiet_nil (hK _ ?_); clear hK K) | (refine wpG_quiet (by rfl) (by rfl) (fun K hK => ?_); go_big_quiet_want; go_big_quiet_op; go_big_quiet_on; refine wpQuiet_nil (hK _ ?_); clear hK K) | (refine wpG_nilOk rfl rfl rfl (by kernel_rfl) (fun K hK => ?_); go_simp; refine hK _ ?_; clear hK K)))
 refine wpG_exact rfl (by kernel_rfl) (fun w' G hB hS hG => ?_) (fun K hK => ?_)
 ·have y:=Below.keeps hB c6
  go_simp; exact hG _ (RelA.refl _)
 go_simp; refine hK _ ?_; clear hK K; (repeat (first | (refine wpG_skip (by kernel_rfl) (fun K hK => ?_); go_big_quiet_skip; refine wpQuiet_nil (hK _ ?_); clear hK K) | (refine wpG_quiet (by rfl) (by rfl) (fun K hK => ?_); go_big_quiet_want; go_big_quiet_op; go_big_quiet_on; refine wpQuiet_nil (hK _ ?_); clear hK K) | (refine wpG_nilOk rfl rfl rfl (by kernel_rfl) (fun K hK => ?_); go_simp; refine hK _ ?_; clear hK K)))
 refine wpG_known (kOwnA recVa W1.heap.size xs v) rfl (by kernel_rfl) (fun w' G hB hS hG => ?_) (fun x K hK => ?_)
 ·refine recVa.grow_copy _ _ 232 rfl Tryz.underlying232 W1.heap.size rfl _ xs (show recVa.Row w' (.slice ab xs.length cb) xs from by rw [HLR.out]; exact (HOS.out.below hB).row) rfl (by show xs.length * 32 ≤ _; omega) hB.size (fun A C w'' ho hb => hG (A,C) w'' (RelA.of_bel hB.size hb) (fun φ h => by cases h; exact ho))
 obtain ⟨ad,c⟩:=x; go_simp; refine hK _ ?_; clear hK K; (repeat (first | (refine wpG_skip (by kernel_rfl) (fun K hK => ?_); go_big_quiet_skip; refine wpQuiet_nil (hK _ ?_); clear hK K) | (refine wpG_quiet (by rfl) (by rfl) (fun K hK => ?_); go_big_quiet_want; go_big_quiet_op; go_big_quiet_on; refine wpQuiet_nil (hK _ ?_); clear hK K) | (refine wpG_nilOk rfl rfl rfl (by kernel_rfl) (fun K hK => ?_); go_simp; refine hK _ ?_; clear hK K)))
 refine wpG_exact rfl (by kernel_rfl) (fun w' G hB hS hG => ?_) (fun K hK => ?_)
 ·have y0:=Below.keeps hB x0
  have y1:=Below.keeps hB x1
  have y2:=Below.keeps hB x2
  go_simp; exact hG _ (RelA.refl _)
 go_simp; refine hK _ ?_; clear hK K; (repeat (first | (refine wpG_skip (by kernel_rfl) (fun K hK => ?_); go_big_quiet_skip; refine wpQuiet_nil (hK _ ?_); clear hK K) | (refine wpG_quiet (by rfl) (by rfl) (fun K hK => ?_); go_big_quiet_want; go_big_quiet_op; go_big_quiet_on; refine wpQuiet_nil (hK _ ?_); clear hK K) | (refine wpG_nilOk rfl rfl rfl (by kernel_rfl) (fun K hK => ?_); go_simp; refine hK _ ?_; clear hK K)))
 refine wpG_known (kOneA recVa W1.heap.size xs v) rfl (by kernel_rfl) (fun w' G hB hS hG => ?_) (fun (bb : Nat) K hK => ?_)
 ·go_simp; exact one_newA hG rfl hB.size
 go_simp; refine hK _ ?_; clear hK K; (repeat (first | (refine wpG_skip (by kernel_rfl) (fun K hK => ?_); go_big_quiet_skip; refine wpQuiet_nil (hK _ ?_); clear hK K) | (refine wpG_quiet (by rfl) (by rfl) (fun K hK => ?_); go_big_quiet_want; go_big_quiet_op; go_big_quiet_on; refine wpQuiet_nil (hK _ ?_); clear hK K) | (refine wpG_nilOk rfl rfl rfl (by kernel_rfl) (fun K hK => ?_); go_simp; refine hK _ ?_; clear hK K)))
 refine wpG_known (kOwnB recVa W1.heap.size xs v) rfl (by kernel_rfl) (fun w' G hB hS hG => ?_) (fun y K hK => ?_)
 ·have hown : recVa.Own w' W1.heap.size (.slice ad xs.length c) xs:=at1 hS (by kernel_rfl)
  have hone : w'.heap[bb]? = some (.cells (recVa.cell v).toArray recVa.e (0,0)):=at0 hS (by kernel_rfl)
  exact recVa.grow_app1 _ _ 232 rfl Tryz.underlying232 W1.heap.size _ xs v hown rfl bb rfl hone (by show (xs.length + 1) * 32 ≤ _; omega) hB.size (fun A C w'' ho hr => hG (A,C) w'' hr (fun φ h => by cases h; exact ho))
 obtain ⟨ad2,c2⟩:=y
 go_simp; refine hK _ ?_; clear hK K; (repeat (first | (refine wpG_skip (by kernel_rfl) (fun K hK => ?_); go_big_quiet_skip; refine wpQuiet_nil (hK _ ?_); clear hK K) | (refine wpG_quiet (by rfl) (by rfl) (fun K hK => ?_); go_big_quiet_want; go_big_quiet_op; go_big_quiet_on; refine wpQuiet_nil (hK _ ?_); clear hK K) | (refine wpG_nilOk rfl rfl rfl (by kernel_rfl) (fun K hK => ?_); go_simp; refine hK _ ?_; clear hK K)))
 refine wpG_nilN ?_
 intro w5 hB5 hA5
 have ho5 : recVa.Own w5 W1.heap.size (.slice ad2 (xs.length + 1) c2) (xs ++ [v]):=all0 hA5
 have hn:=H1.out.newS (w3:=w5) (sv':=.slice ad2 (xs.length + 1) c2) (l:=v :: st) (Chg.of_below hB5) (fun k hk => .inr (Rec.Own.ltV ho5 k hk).1) (by rw [List.reverse_cons,← HXS.out]; exact ho5.baseLe H1.out.size)
 have c6:=hn.2.2.1
 have f6:=hn.2.2.2
 have HN:=Lib.hid hn
 clear hn ho5 hB5 hA5 x0 x1 x2
 go_wp2_with fail
 refine bodyPost_end (results_none rfl _ _ _) rfl ?_
 exact ⟨rfl,⟨_,HN.out.1⟩,HB1.out.trans HN.out.2.1⟩
end
end Go.Proofs.YtehllcbnheicoaaGreatDoor
namespace Go.Proofs.YtehllcbnheicoaaGreatDoor
def insN : List Nat:=[0,0,0,0,2,1,3,1,1,2,2,2,2,1,1,1,2,0,1,1,0,0,1,2]
def outN : List Nat:=[0,1,1,1,1,1,1,1,1,1,1,1,1,1,0,2,2,1,0,0,0,0,0,0]
def givesLen (n : Nat) (g : List UInt8) : Nat:=g.foldr (fun c a => (if c = 49 then min 1 n else if c = 50 then min 1 (n - 1) else 1) + a) 0
theorem givesM_len (top : List UInt8) : ∀ g : List UInt8,(givesV top g).length = givesLen top.length g
 | [] => rfl
 | c :: g => by
  have ih:=givesM_len top g
  show (List.flatMap _ (c :: g)).length = _
  rw [List.flatMap_cons,List.length_append]
  show _ + (givesV top g).length = _
  rw [ih]
  show _ = (if c = 49 then min 1 top.length else if c = 50 then min 1 (top.length - 1) else 1) + givesLen top.length g
  congr 1
  split
  ·simp
  ·split
   ·simp
   ·simp
theorem effs_tab : ∀ n : Nat,n < 24 → ∀ r : List UInt8,r = [84] ∨ r = [78] → (replV (effs.getD n ([],[])).1 r).length = insN.getD n 0 ∧ givesLen (insN.getD n 0) (replV (effs.getD n ([],[])).2 r) = outN.getD n 0:=by
 intro n hn r hr
 have h : ∀ n : Nat,n < 24 → ((replV (effs.getD n ([],[])).1 [84]).length = insN.getD n 0 ∧ givesLen (insN.getD n 0) (replV (effs.getD n ([],[])).2 [84]) = outN.getD n 0) ∧ ((replV (effs.getD n ([],[])).1 [78]).length = insN.getD n 0 ∧ givesLen (insN.getD n 0) (replV (effs.getD n ([],[])).2 [78]) = outN.getD n 0):=by decide
 rcases hr with rfl | rfl
 ·exact (h n hn).1
 ·exact (h n hn).2
theorem regM_two (a : UInt8) : regV a = [84] ∨ regV a = [78]:=by unfold regV; split <;> simp
theorem valuesM_len {k : List UInt8} {x : VI} (hx : x.1.toNat < 24) (h0 : (valuesV k x).1 = 0) : insN.getD x.1.toNat 0 ≤ k.length ∧ (valuesV k x).2.length = k.length - insN.getD x.1.toNat 0 + outN.getD x.1.toNat 0:=by
 obtain ⟨e1,e2⟩:=effs_tab x.1.toNat hx (regV x.2) (regM_two x.2)
 have e1' : (effV x).1.length = insN.getD x.1.toNat 0:=e1
 have e2' : givesLen (insN.getD x.1.toNat 0) (effV x).2 = outN.getD x.1.toNat 0:=e2
 unfold valuesV at h0 ⊢
 split at h0
 ·simp at h0
 rename_i hl
 rw [if_neg hl]
 split at h0
 ·simp at h0
 rename_i hf
 rw [if_neg hf]
 split at h0
 ·simp at h0
 rename_i hm
 rw [if_neg hm]
 refine ⟨by omega,?_⟩
 rw [List.length_append,givesM_len,List.length_take,List.length_drop,e1']
 rw [show k.length - (k.length - insN.getD x.1.toNat 0) = insN.getD x.1.toNat 0 by omega,e2']
 omega
structure OneOk (nt inp : Nat) (role : UInt8) (i : Nat) (x : VI) (s s' : Vs) : Prop where
 th : thereV nt inp role s.blocks x = 0
 vl : (valuesV s.kinds x).1 = 0
 pl : opensV x.1 = false → x.1 ≠ 21 → s'.kinds = (valuesV s.kinds x).2
 k19 : x.1 = 19 → s'.kinds = (valuesV s.kinds x).2
 k22 : x.1 = 22 → s'.kinds = (valuesV s.kinds x).2 ++ [84]
 k20 : x.1 = 20 → ∃ r b,s.blocks = r ++ [b] ∧ b.op = 19 ∧ b.did = false ∧ s'.kinds = b.opn
 k21 : x.1 = 21 → s'.kinds = s.kinds
theorem oneV_ok {nt inp : Nat} {role : UInt8} {i : Nat} {x : VI} {s : Vs} (h0 : (oneV nt inp role i x s).1 = 0) : OneOk nt inp role i x s (oneV nt inp role i x s).2:=by
 have ht:=oneV_there h0
 unfold oneV at h0 ⊢
 rw [if_neg (by rw [ht]; simp)] at h0 ⊢
 split at h0
 ·rename_i hv; exact absurd h0 hv
 rename_i hv
 rw [if_neg hv]
 have hv0 : (valuesV s.kinds x).1 = 0:=by simpa using hv
 clear hv
 have h20 : x.1 = 20 → elseBad s.blocks.getLast? = false:=by
  intro e
  unfold thereV at ht
  rw [if_neg (by rw [e]; rintro (⟨h,-⟩ | ⟨h,-⟩ | ⟨h | h,-⟩) <;> exact absurd h (by decide)),if_neg (by rw [e]; rintro ⟨h,-⟩; exact absurd h (by decide))] at ht
  cases hb : elseBad s.blocks.getLast? with
  | false => rfl
  | true => rw [if_pos ⟨e,hb⟩] at ht; cases ht
 refine ⟨ht,hv0,?_,?_,?_,?_,?_⟩
 ·intro ho h21
  unfold opensV at ho
  simp at ho
  unfold turnsV
  rw [if_neg ho.1.1,if_neg ho.1.2,if_neg ho.2,if_neg h21]
 ·intro e
  unfold turnsV
  rw [if_pos e]
 ·intro e
  unfold turnsV
  rw [if_neg (by rw [e]; decide),if_pos e]
 ·intro e
  have hb:=h20 e
  unfold turnsV
  rw [if_neg (by rw [e]; decide),if_neg (by rw [e]; decide),if_pos e]
  cases hl : s.blocks.getLast? with
  | none => rw [hl] at hb; simp [elseBad] at hb
  | some b =>
   rw [hl] at hb
   simp [elseBad] at hb
   exact ⟨_,b,getLast_split hl,hb.1,hb.2,rfl⟩
 ·intro e
  have hk : (valuesV s.kinds x).2 = s.kinds:=valuesV_none (.inr e)
  unfold turnsV at h0 ⊢
  rw [if_neg (by rw [e]; decide),if_neg (by rw [e]; decide),if_neg (by rw [e]; decide),if_pos e] at h0 ⊢
  cases hl : s.blocks.getLast? with
  | none => exact hk
  | some b =>
   simp only [hl] at h0 ⊢
   split
   ·exact hk
   ·exact hk
/-! ## blocks -/
section
variable {nt inp : Nat} {role : UInt8} {E : Me}
abbrev sM (nt inp : Nat) (role : UInt8) (E : Me) (i : Nat) : Vs:=stV nt inp role E.code i
theorem GoodM.step (G : GoodM nt inp role E) {i : Nat} (hi : i < E.code.length) : StepB i (E.code.getD i (0,0)) (sM nt inp role E i) (sM nt inp role E (i + 1)) ∧ OneOk nt inp role i (E.code.getD i (0,0)) (sM nt inp role E i) (sM nt inp role E (i + 1)):=by
 have h2:=(stV_run G.ok i (by omega)).k
 exact ⟨(oneV_step h2 (G.ok i hi)).1,oneV_ok (G.ok i hi)⟩
theorem GoodM.run (G : GoodM nt inp role E) {i : Nat} (hi : i ≤ E.code.length) : RunB nt inp role E.code i:=stV_run G.ok i hi
theorem pre_last {α : Type} {r t u : List α} {b c : α} (h : r ++ [b] ++ t = u ++ [c]) : (t = [] ∧ r = u ∧ b = c) ∨ ∃ t',t = t' ++ [c] ∧ u = r ++ [b] ++ t':=by
 rcases List.eq_nil_or_concat t with rfl | ⟨t',d,rfl⟩
 ·rw [List.append_nil] at h
  have:=List.append_inj' h rfl
  exact .inl ⟨rfl,this.1,by simpa using this.2⟩
 ·rw [List.concat_eq_append,← List.append_assoc] at h
  have:=List.append_inj' h rfl
  refine .inr ⟨t',by rw [List.concat_eq_append]; simpa using this.2,this.1.symm⟩
theorem open_stays (G : GoodM nt inp role E) {r : List Vb} {b : Vb} {i : Nat} (hb : ∃ t,(sM nt inp role E i).blocks = r ++ [b] ++ t) :
  ∀ n,i + n = E.code.length → ∃ e,i ≤ e ∧ e < E.code.length ∧ (sM nt inp role E e).blocks = r ++ [b] ∧ (opV E.code e = 20 ∨ opV E.code e = 21) ∧ E.ends.getD b.at_ 0 = (e : Int) ∧ ∀ k,i ≤ k → k ≤ e → ∃ t,(sM nt inp role E k).blocks = r ++ [b] ++ t:=by
 intro n
 induction n generalizing i with
 | zero =>
  intro hn
  obtain ⟨t,ht⟩:=hb
  have hi : i = E.code.length:=by omega
  subst hi
  have:=G.done
  rw [show stV nt inp role E.code E.code.length = sM nt inp role E E.code.length from rfl,ht] at this
  simp at this
 | succ n ih =>
  intro hn
  have hi : i < E.code.length:=by omega
  obtain ⟨hs,-⟩:=G.step hi
  obtain ⟨t,ht⟩:=hb
  have stay : (∃ t,(sM nt inp role E (i + 1)).blocks = r ++ [b] ++ t) → ∃ e,i ≤ e ∧ e < E.code.length ∧ (sM nt inp role E e).blocks = r ++ [b] ∧ (opV E.code e = 20 ∨ opV E.code e = 21) ∧ E.ends.getD b.at_ 0 = (e : Int) ∧ ∀ k,i ≤ k → k ≤ e → ∃ t,(sM nt inp role E k).blocks = r ++ [b] ++ t:=by
   intro h
   obtain ⟨e,h1,h2,h3,h4,h5,h6⟩:=ih h (by omega)
   refine ⟨e,by omega,h2,h3,h4,h5,fun k hk1 hk2 => ?_⟩
   rcases Nat.eq_or_lt_of_le hk1 with rfl | hk
   ·exact ⟨t,ht⟩
   ·exact h6 k (by omega) hk2
  have close : ∀ (c : Vb) (u v : List Vb),t = [] → (sM nt inp role E (i + 1)).blocks.map Vb.at_ = v.map Vb.at_ → (∀ a ∈ v.map Vb.at_,a ≠ b.at_) → (sM nt inp role E (i + 1)).ends = (sM nt inp role E i).ends.set b.at_ (i : Int) → (opV E.code i = 20 ∨ opV E.code i = 21) → ∃ e,i ≤ e ∧ e < E.code.length ∧ (sM nt inp role E e).blocks = r ++ [b] ∧ (opV E.code e = 20 ∨ opV E.code e = 21) ∧ E.ends.getD b.at_ 0 = (e : Int) ∧ ∀ k,i ≤ k → k ≤ e → ∃ t,(sM nt inp role E k).blocks = r ++ [b] ++ t:=by
   intro c u v ht0 hv hne he ho
   subst ht0
   rw [List.append_nil] at ht
   have hr:=G.run (i:=i) (by omega)
   have hbm : b ∈ (sM nt inp role E i).blocks:=by rw [ht]; simp
   have hbi:=(hr.inv.bl b hbm).1
   have hel:=hr.inv.el
   refine ⟨i,Nat.le_refl _,hi,ht,ho,?_,fun k h1 h2 => ⟨[],by rw [List.append_nil,show k = i by omega]; exact ht⟩⟩
   have hn' : b.at_ ∉ (stV nt inp role E.code (i + 1)).blocks.map Vb.at_:=by
    show b.at_ ∉ (sM nt inp role E (i + 1)).blocks.map Vb.at_
    rw [hv]
    exact fun h => hne _ h rfl
   have:=(stV_ends G.ok (i:=i + 1) (j:=b.at_) (by omega) hn' (E.code.length - (i + 1)) (by omega)).1
   rw [show i + 1 + (E.code.length - (i + 1)) = E.code.length by omega] at this
   rw [G.ends,this]
   show (sM nt inp role E (i + 1)).ends.getD b.at_ 0 = _
   rw [he]
   exact getD_setEqB (by rw [hel]; omega)
  have hst:=(G.run (i:=i) (by omega)).inv.st
  rcases hs with ⟨_,k,_,hb',_⟩ | ⟨h20,r',b',hl,hb',he⟩ | ⟨h21,r',b',hl,_,hb',he⟩ | ⟨_,hb',_⟩
  ·exact stay ⟨t ++ [⟨(E.code.getD i (0,0)).1,k,k,i,false⟩],by rw [hb',ht]; simp⟩
  ·rw [ht] at hl
   rcases pre_last hl with ⟨h1,rfl,rfl⟩ | ⟨t',rfl,rfl⟩
   ·subst h1
    rw [ht,List.append_nil] at hst
    have hlt:=(st_split hst).2
    have hbi:=((G.run (i:=i) (by omega)).inv.bl b (by rw [ht]; simp)).1
    refine close b [] (r ++ [{ b with want:=(sM nt inp role E i).kinds,at_:=i,did:=true }]) rfl (by rw [hb']) ?_ he (.inl h20)
    intro a ha
    rw [List.map_append] at ha
    rcases List.mem_append.1 ha with ha | ha
    ·have:=hlt a ha; omega
    ·simp at ha; omega
   ·exact stay ⟨t' ++ [{ b' with want:=(sM nt inp role E i).kinds,at_:=i,did:=true }],by rw [hb']; simp⟩
  ·rw [ht] at hl
   rcases pre_last hl with ⟨h1,rfl,rfl⟩ | ⟨t',rfl,rfl⟩
   ·subst h1
    rw [ht,List.append_nil] at hst
    have hlt:=(st_split hst).2
    refine close b [] r rfl (by rw [hb']) ?_ he (.inr h21)
    intro a ha
    have:=hlt a ha; omega
   ·exact stay ⟨t',hb'⟩
  ·exact stay ⟨t,by rw [hb',ht]⟩
end
end Go.Proofs.YtehllcbnheicoaaGreatDoor
