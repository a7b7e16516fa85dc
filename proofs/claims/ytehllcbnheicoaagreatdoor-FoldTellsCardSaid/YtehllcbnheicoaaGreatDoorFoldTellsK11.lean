/- Lemmas for FoldTells, part 11: walks of the functions that it reaches, and the plain laws behind them. -/
import Derived.Test.YtehllcbnheicoaaGreatDoorFoldTellsK10
set_option linter.unusedSimpArgs false
set_option linter.unusedVariables false
set_option maxRecDepth 100000
set_option maxHeartbeats 16000000
namespace Go.Proofs.YtehllcbnheicoaaGreatDoor
open Go.RowKit Oct
attribute [local irreducible] wpG
section
variable {a : UInt8} {i : Nat} {s : Vs}
theorem tu19 : turnsV i (19,a) s = (0,{ s with blocks:=s.blocks ++ [⟨19,s.kinds,s.kinds,i,false⟩] }):=rfl
theorem tu22 : turnsV i (22,a) s = (0,{ s with blocks:=s.blocks ++ [⟨22,s.kinds,s.kinds,i,false⟩],kinds:=s.kinds ++ [84] }):=rfl
theorem tu20 {b : Vb} (h : s.blocks.getLast? = some b) : turnsV i (20,a) s = (0,{ s with ends:=s.ends.set b.at_ (i : Int),blocks:=s.blocks.dropLast ++ [{ b with want:=s.kinds,at_:=i,did:=true }],kinds:=b.opn }):=by unfold turnsV; simp [h]
theorem tu21y {b : Vb} (h : s.blocks.getLast? = some b) (hk : s.kinds = b.want) : turnsV i (21,a) s = (0,{ s with ends:=s.ends.set b.at_ (i : Int),blocks:=s.blocks.dropLast }):=by unfold turnsV; simp [h,hk]
theorem tu21n {b : Vb} (h : s.blocks.getLast? = some b) (hk : s.kinds ≠ b.want) : turnsV i (21,a) s = (132,s):=by unfold turnsV; simp [h,hk]
theorem tuN {p : UInt8} (h19 : p ≠ 19) (h22 : p ≠ 22) (h20 : p ≠ 20) (h21 : p ≠ 21) : turnsV i (p,a) s = (0,s):=by unfold turnsV; simp [h19,h22,h20,h21]
end
theorem set_last {α : Type} {l : List α} {m : Nat} (hm : l.length = m + 1) (x : α) : l.set m x = l.dropLast ++ [x]:=by
 have hne : l ≠ []:=by rintro rfl; simp at hm
 obtain ⟨l',y,rfl⟩ : ∃ l' y,l = l' ++ [y]:=⟨l.dropLast,l.getLast hne,(List.dropLast_concat_getLast hne).symm⟩
 have : l'.length = m:=by simpa using hm
 rw [List.set_append_right _ _ (by omega)]
 simp [this]
section
variable {w : World} {base G : Nat} {tv cv bv sv ev : Value} {inp : Nat} {role : UInt8} {s : Vs}
theorem VG.as {s' : Vs} (h : VG w base G tv cv inp role s bv sv ev) (e : s = s') : VG w base G tv cv inp role s' bv sv ev:=e ▸ h
theorem VG.setE {g c n : Nat} (h : VG w base G tv cv inp role s bv sv (.slice (some ⟨g,0,none⟩) n c)) {k : Nat} (hk : k < s.ends.length) (x : Int) : VG (w.setCell ⟨g,k,none⟩ (.int .i64 x)) base G tv cv inp role { s with ends:=s.ends.set k x } bv sv (.slice (some ⟨g,0,none⟩) n c) ∧ Below base w (w.setCell ⟨g,k,none⟩ (.int .i64 x)):=by
 have ho:=h.oe.setCell hk (y:=x) (j:=0) (by decide) (u:=.int .i64 x) rfl
 rw [show k * recJ.n + 0 = k from Nat.mul_one k] at ho
 exact h.chgE (Chg.setCell _ _ _ rfl) ho
theorem VG.setB {g c n m : Nat} (h : VG w base G tv cv inp role s (.slice (some ⟨g,0,none⟩) n c) sv ev) (hm : s.blocks.length = m + 1) {b b' : Vb} (hb : s.blocks[m]? = some b) {j : Nat} (hj : j < 5) {u : Value} (hu : recVb.cell b' = (recVb.cell b).set j u) :
  VG (w.setCell ⟨g,m * 5 + j,none⟩ u) base G tv cv inp role { s with blocks:=s.blocks.set m b' } (.slice (some ⟨g,0,none⟩) n c) sv ev ∧ Below base w (w.setCell ⟨g,m * 5 + j,none⟩ u):=by
 have hml : m < s.blocks.length:=by omega
 rw [List.getElem?_eq_getElem hml] at hb
 have hb2:=Option.some.inj hb
 have ho:=h.ob.setCell hml (y:=b') (j:=j) hj (u:=u) (by rw [hb2]; exact hu)
 exact h.chgB (Chg.setCell _ _ _ rfl) ho
theorem VG.cellE {g c n : Nat} (h : VG w base G tv cv inp role s bv sv (.slice (some ⟨g,0,none⟩) n c)) {k : Nat} (hk : k < s.ends.length) : (∃ v,w.cell? ⟨g,k,none⟩ = some v) ∧ w.frozen? ⟨g,k,none⟩ = false:=by
 rcases h.oe.2 with ⟨hv,_⟩ | ⟨g',cap,cur,hv,hb,hh,r1,r2,r3,r4⟩
 ·cases hv
 ·cases hv
  have hb2 : Blk w g recJ.e cur.toList:=by unfold Blk; rw [hh]
  have hl : k < cur.toList.length:=by
   have : cur.size = c * recJ.n:=r3
   have h2 : recJ.n = 1:=rfl
   rw [h2] at this
   simp; omega
  exact ⟨⟨_,hb2.cell (List.getElem?_eq_getElem hl)⟩,hb2.free hl⟩
theorem VG.cellB {g c n : Nat} (h : VG w base G tv cv inp role s (.slice (some ⟨g,0,none⟩) n c) sv ev) {k : Nat} (hk : k < s.blocks.length * 5) : w.frozen? ⟨g,k,none⟩ = false:=by
 rcases h.ob.2 with ⟨hv,_⟩ | ⟨g',cap,cur,hv,hb,hh,r1,r2,r3,r4⟩
 ·cases hv
 ·cases hv
  have hb2 : Blk w g recVb.e cur.toList:=by unfold Blk; rw [hh]
  have hl : k < cur.toList.length:=by
   have : cur.size = c * recVb.n:=r3
   have h2 : recVb.n = 5:=rfl
   rw [h2] at this
   have : s.blocks.length * 5 ≤ c * 5:=Nat.mul_le_mul_right _ r1
   simp; omega
  exact hb2.free hl
theorem turns_any (h : VG w base G tv cv inp role s bv sv ev) (p a : UInt8) (i : Nat) (hl : s.blocks.length ≤ 1000) (hk : s.kinds.length ≤ 1000) (hne : p = 20 ∨ p = 21 → s.blocks ≠ []) (hat : ∀ b ∈ s.blocks,b.at_ < s.ends.length) (hel : s.ends.length ≤ 1000) (hi : i ≤ 1000) :
  Calls Tryz.prog 177 #[.pointer (some ⟨G,0,none⟩),.int .i64 (i : Int),.agg #[.int .u8 (p.toNat : Int),.int .u8 (a.toNat : Int)]] w fun e w' => e = .returned (.int .i64 (((turnsV i (p,a) s).1 : Nat) : Int)) ∧ (∃ bv',VG w' base G tv cv inp role (turnsV i (p,a) s).2 bv' sv ev) ∧ Below base w w':=by
 have HH:=Lib.hid h
 have hgw : G < w.heap.size:=h.blk.lt
 have hbw : base ≤ w.heap.size:=Nat.le_trans h.gb (Nat.le_of_lt hgw)
 obtain ⟨W1,hW1⟩ : ∃ W1,W1 = w.alloc (.cells #[.int .u8 (p.toNat : Int),.int .u8 (a.toNat : Int)] 97):=⟨_,rfl⟩
 have hb1 : Below w.heap.size w W1:=by rw [hW1]; exact b_alloc _ _
 have hx : Blk W1 w.heap.size 97 [.int .u8 (p.toNat : Int),.int .u8 (a.toNat : Int)]:=by rw [hW1]; exact Blk.new w _ _
 have x0:=hx.cell (k:=0) rfl
 have H1:=Lib.hid (h.below hb1)
 have HB1:=Lib.hid hb1
 have HBW:=Lib.hid hbw
 have HT:=Lib.hid (stop_any (h.below hb1) hl)
 have HNE:=Lib.hid hne
 have HAT:=Lib.hid hat
 have k1 : (s.kinds.length : Int) ≤ 1000:=by omega
 have i1 : (i : Int) ≤ 1000:=by omega
 have i0 : (0 : Int) ≤ (i : Int):=by omega
 clear h hx hb1 hne hat
 by_cases h19 : p = 19
 ·subst h19
  rw [show (((19 : UInt8).toNat : Nat) : Int) = 19 from rfl] at hW1 x0 ⊢
  go_enter Tryz.func177,Tryz.ntmps177
  go_upto_region 1 with fail
  rw [← hW1]
  clear hW1
  go_wp2_with fail
  refine HT.out.mono ?_
  rintro e w2 ⟨htop,hB2⟩
  have HTOP:=Lib.hid htop
  have H2:=Lib.hid (H1.out.below hB2)
  have y0:=Below.keeps hB2 x0
  have HB2:=Lib.hid (bt HB1.out hB2)
  clear htop hB2 x0
  obtain ⟨tp,rfl⟩ : ∃ tp,e = .returned tp:=by rcases HTOP.out with ⟨_,rfl⟩ | ⟨_,_,_,_,_,rfl⟩ <;> exact ⟨_,rfl⟩
  clear HTOP
  have c4:=H2.out.cell (k:=4) rfl
  go_upto_region 4 with fail
  refine region_tail 15 [(4,.exact _ (.int .u8 19)),(8,.exact _ (.string (bs s.kinds))),(12,.exact _ (.string (bs s.kinds)))] (by kernel_rfl) (by kernel_rfl) ?_
  simp only [List.take_succ_cons,List.take_zero,List.drop_succ_cons,List.drop_zero]
  (repeat (first | (refine wpG_skip (by kernel_rfl) (fun K hK => ?_); go_big_quiet_skip; refine wpQuiet_nil (hK _ ?_); clear hK K) | (refine wpG_quiet (by rfl) (by rfl) (fun K hK => ?_); go_big_quiet_want; go_big_quiet_op; go_big_quiet_on; refine wpQuiet_nil (hK _ ?_); clear hK K) | (refine wpG_nilOk rfl rfl rfl (by kernel_rfl) (fun K hK => ?_); go_simp; refine hK _ ?_; clear hK K)))
  repeat (refine wpG_exact rfl (by kernel_rfl) (fun w' G hB hS hG => ?_) (fun K hK => ?_); (have z0:=Below.keeps hB y0; have z1:=Below.keeps hB c4; go_simp; exact hG _ (Bel.refl _)); go_simp; refine hK _ ?_; clear hK K; (repeat (first | (refine wpG_skip (by kernel_rfl) (fun K hK => ?_); go_big_quiet_skip; refine wpQuiet_nil (hK _ ?_); clear hK K) | (refine wpG_quiet (by rfl) (by rfl) (fun K hK => ?_); go_big_quiet_want; go_big_quiet_op; go_big_quiet_on; refine wpQuiet_nil (hK _ ?_); clear hK K) | (refine wpG_nilOk rfl rfl rfl (by kernel_rfl) (fun K hK => ?_); go_simp; refine hK _ ?_; clear hK K))))
  refine wpG_nilV3 ?_
  intro w3 hB3 hA3
  have H3:=Lib.hid (H2.out.below hB3)
  have HB3:=Lib.hid (bt HB2.out hB3)
  clear hB3 hA3 y0 c4
  go_wp2_with fail
  refine (spush_any ⟨19,s.kinds,s.kinds,i,false⟩ H3.out hl).mono ?_
  rintro e w4 ⟨⟨v,rfl⟩,⟨bv',hv4⟩,hB4⟩
  have H4:=Lib.hid hv4
  have HB4:=Lib.hid ((HB3.out.mono HBW.out).trans hB4)
  clear hv4 hB4
  go_wp2_with fail
  go_ret
  exact ⟨by rw [tu19]; rfl,⟨_,by rw [tu19]; exact H4.out⟩,HB4.out⟩
 by_cases h22 : p = 22
 ·subst h22
  rw [show (((22 : UInt8).toNat : Nat) : Int) = 22 from rfl] at hW1 x0 ⊢
  go_enter Tryz.func177,Tryz.ntmps177
  go_upto_region 1 with fail
  rw [← hW1]
  clear hW1
  go_wp2_with fail
  refine HT.out.mono ?_
  rintro e w2 ⟨htop,hB2⟩
  have HTOP:=Lib.hid htop
  have H2:=Lib.hid (H1.out.below hB2)
  have y0:=Below.keeps hB2 x0
  have HB2:=Lib.hid (bt HB1.out hB2)
  clear htop hB2 x0
  obtain ⟨tp,rfl⟩ : ∃ tp,e = .returned tp:=by rcases HTOP.out with ⟨_,rfl⟩ | ⟨_,_,_,_,_,rfl⟩ <;> exact ⟨_,rfl⟩
  clear HTOP
  have c4:=H2.out.cell (k:=4) rfl
  go_upto_region 6 with fail
  refine region_tail 15 [(4,.exact _ (.int .u8 22)),(8,.exact _ (.string (bs s.kinds))),(12,.exact _ (.string (bs s.kinds)))] (by kernel_rfl) (by kernel_rfl) ?_
  simp only [List.take_succ_cons,List.take_zero,List.drop_succ_cons,List.drop_zero]
  (repeat (first | (refine wpG_skip (by kernel_rfl) (fun K hK => ?_); go_big_quiet_skip; refine wpQuiet_nil (hK _ ?_); clear hK K) | (refine wpG_quiet (by rfl) (by rfl) (fun K hK => ?_); go_big_quiet_want; go_big_quiet_op; go_big_quiet_on; refine wpQuiet_nil (hK _ ?_); clear hK K) | (refine wpG_nilOk rfl rfl rfl (by kernel_rfl) (fun K hK => ?_); go_simp; refine hK _ ?_; clear hK K)))
  repeat (refine wpG_exact rfl (by kernel_rfl) (fun w' G hB hS hG => ?_) (fun K hK => ?_); (have z0:=Below.keeps hB y0; have z1:=Below.keeps hB c4; go_simp; exact hG _ (Bel.refl _)); go_simp; refine hK _ ?_; clear hK K; (repeat (first | (refine wpG_skip (by kernel_rfl) (fun K hK => ?_); go_big_quiet_skip; refine wpQuiet_nil (hK _ ?_); clear hK K) | (refine wpG_quiet (by rfl) (by rfl) (fun K hK => ?_); go_big_quiet_want; go_big_quiet_op; go_big_quiet_on; refine wpQuiet_nil (hK _ ?_); clear hK K) | (refine wpG_nilOk rfl rfl rfl (by kernel_rfl) (fun K hK => ?_); go_simp; refine hK _ ?_; clear hK K))))
  refine wpG_nilV3 ?_
  intro w3 hB3 hA3
  have H3:=Lib.hid (H2.out.below hB3)
  have HB3:=Lib.hid (bt HB2.out hB3)
  clear hB3 hA3 y0 c4
  go_wp2_with fail
  refine (spush_any ⟨22,s.kinds,s.kinds,i,false⟩ H3.out hl).mono ?_
  rintro e w4 ⟨⟨v,rfl⟩,⟨bv',hv4⟩,hB4⟩
  have H4:=Lib.hid hv4
  have HB4:=Lib.hid ((HB3.out.mono HBW.out).trans hB4)
  clear hv4 hB4
  have c5:=H4.out.cell (k:=4) rfl
  have f5:=H4.out.free (k:=4) (by decide)
  have hk5:=H4.out.kinds (s.kinds ++ [84])
  have HK5:=Lib.hid hk5
  clear hk5
  go_wp2_with fail
  go_ret
  exact ⟨by rw [tu22]; rfl,⟨_,by rw [tu22]; exact HK5.out.1⟩,HB4.out.trans HK5.out.2⟩
 by_cases h20 : p = 20
 ·subst h20
  rw [show (((20 : UInt8).toNat : Nat) : Int) = 20 from rfl] at hW1 x0 ⊢
  go_enter Tryz.func177,Tryz.ntmps177
  go_upto_region 1 with fail
  rw [← hW1]
  clear hW1
  go_wp2_with fail
  refine HT.out.mono ?_
  rintro e w2 ⟨htop,hB2⟩
  have HTOP:=Lib.hid htop
  have H2:=Lib.hid (H1.out.below hB2)
  have y0:=Below.keeps hB2 x0
  have HB2:=Lib.hid (bt HB1.out hB2)
  clear htop hB2 x0
  rcases HTOP.out with ⟨hb,rfl⟩ | ⟨g,c,m,hv,hm,rfl⟩
  ·exact absurd hb (HNE.out (by decide))
  obtain ⟨b,hb,hbm,l0,l1,l2,l3,l4⟩:=H2.out.last hv hm
  subst hv
  have hbat : b.at_ < s.ends.length:=HAT.out b (List.mem_of_getElem? hbm)
  obtain ⟨⟨_,_,_⟩,_,ae,ce,rfl⟩:=H2.out.slices
  obtain ⟨E,rfl⟩:=H2.out.oe.at0 (by omega)
  have HBM:=Lib.hid hbm
  have HBL:=Lib.hid hb
  have HMM:=Lib.hid hm
  have HAT2:=Lib.hid hbat
  have e0 : (0 : Int) ≤ (b.at_ : Int):=by omega
  have e1 : (b.at_ : Int) < (s.ends.length : Int):=by omega
  have e2 : (s.ends.length : Int) ≤ 1000:=by omega
  have c7:=H2.out.cell (k:=7) rfl
  have c4:=H2.out.cell (k:=4) rfl
  clear HTOP hb hbm hbat hm
  go_upto_region 9 with fail
  refine region_tail 10 [(3,.exact _ (.slice (some ⟨E,0,none⟩) s.ends.length ce)),(7,.exact _ (.int .i64 (b.at_ : Int)))] (by kernel_rfl) (by kernel_rfl) ?_
  simp only [List.take_succ_cons,List.take_zero,List.drop_succ_cons,List.drop_zero]
  (repeat (first | (refine wpG_skip (by kernel_rfl) (fun K hK => ?_); go_big_quiet_skip; refine wpQuiet_nil (hK _ ?_); clear hK K) | (refine wpG_quiet (by rfl) (by rfl) (fun K hK => ?_); go_big_quiet_want; go_big_quiet_op; go_big_quiet_on; refine wpQuiet_nil (hK _ ?_); clear hK K) | (refine wpG_nilOk rfl rfl rfl (by kernel_rfl) (fun K hK => ?_); go_simp; refine hK _ ?_; clear hK K)))
  repeat (refine wpG_exact rfl (by kernel_rfl) (fun w' G hB hS hG => ?_) (fun K hK => ?_); (have z0:=Below.keeps hB c7; have z1:=Below.keeps hB l3; go_simp; exact hG _ (Bel.refl _)); go_simp; refine hK _ ?_; clear hK K; (repeat (first | (refine wpG_skip (by kernel_rfl) (fun K hK => ?_); go_big_quiet_skip; refine wpQuiet_nil (hK _ ?_); clear hK K) | (refine wpG_quiet (by rfl) (by rfl) (fun K hK => ?_); go_big_quiet_want; go_big_quiet_op; go_big_quiet_on; refine wpQuiet_nil (hK _ ?_); clear hK K) | (refine wpG_nilOk rfl rfl rfl (by kernel_rfl) (fun K hK => ?_); go_simp; refine hK _ ?_; clear hK K))))
  refine wpG_nilV3 ?_
  intro w3 hB3 hA3
  have h3:=H2.out.below hB3
  obtain ⟨⟨v3,d3⟩,f3⟩:=h3.cellE HAT2.out
  have hs3:=h3.setE HAT2.out (i : Int)
  have HS3:=Lib.hid hs3
  have HB3:=Lib.hid (bt HB2.out hB3)
  clear hB3 hA3 h3 hs3 c7 c4 l0 l1 l2 l3 l4
  go_upto_region 10 with fail
  obtain ⟨X,hX⟩ : ∃ X,X = w3.setCell ⟨E,b.at_,none⟩ (.int .i64 (i : Int)):=⟨_,rfl⟩
  rw [← hX] at HS3 ⊢
  clear hX d3 f3
  have hx:=HS3.out.1
  obtain ⟨_,_,_,l0,l1,l2,l3,l4⟩:=hx.last rfl HMM.out
  have c4:=hx.cell (k:=4) rfl
  have f1:=hx.cellB (k:=m * 5 + 1) (by have:=HMM.out; show _ < s.blocks.length * 5; omega)
  have f3:=hx.cellB (k:=m * 5 + 3) (by have:=HMM.out; show _ < s.blocks.length * 5; omega)
  have f4:=hx.cellB (k:=m * 5 + 4) (by have:=HMM.out; show _ < s.blocks.length * 5; omega)
  obtain ⟨b1,hb1⟩ : ∃ b1 : Vb,b1 = { b with want:=s.kinds }:=⟨_,rfl⟩
  obtain ⟨b2,hb2⟩ : ∃ b2 : Vb,b2 = { b with want:=s.kinds,at_:=i }:=⟨_,rfl⟩
  obtain ⟨b3,hb3⟩ : ∃ b3 : Vb,b3 = { b with want:=s.kinds,at_:=i,did:=true }:=⟨_,rfl⟩
  have hml : m < s.blocks.length:=by have:=HMM.out; omega
  have s1:=hx.setB HMM.out HBM.out (j:=1) (b':=b1) (u:=.string (bs s.kinds)) (by decide) (by rw [hb1]; rfl)
  have s2:=s1.1.setB (by show (s.blocks.set m b1).length = m + 1; rw [List.length_set]; exact HMM.out) (by show (s.blocks.set m b1)[m]? = some b1; simp [hml]) (j:=3) (b':=b2) (u:=.int .i64 (i : Int)) (by decide) (by rw [hb1,hb2]; rfl)
  have s3:=s2.1.setB (by show ((s.blocks.set m b1).set m b2).length = m + 1; rw [List.length_set,List.length_set]; exact HMM.out) (by show ((s.blocks.set m b1).set m b2)[m]? = some b2; simp [hml]) (j:=4) (b':=b3) (u:=.bool true) (by decide) (by rw [hb2,hb3]; rfl)
  have hbl : ((s.blocks.set m b1).set m b2).set m b3 = s.blocks.dropLast ++ [b3]:=by rw [List.set_set,List.set_set]; exact set_last HMM.out b3
  have HS4:=Lib.hid s3
  have HSB:=Lib.hid ((s1.2.trans s2.2).trans s3.2)
  have HBL3:=Lib.hid hbl
  have HB33:=Lib.hid hb3
  clear hx s1 s2 s3 hbl hb1 hb2 hb3 hml
  go_upto_region 11 with fail
  obtain ⟨Y,hY⟩ : ∃ Y,Y = ((X.setCell ⟨g,m * 5 + 1,none⟩ (.string (bs s.kinds))).setCell ⟨g,m * 5 + 3,none⟩ (.int .i64 (i : Int))).setCell ⟨g,m * 5 + 4,none⟩ (.bool true):=⟨_,rfl⟩
  rw [← hY] at HS4 HSB ⊢
  clear hY l0 l1 l2 l3 l4 c4 f1 f3 f4
  have hy:=HS4.out.1
  obtain ⟨b9,hb9,_,_,_,l2,_,_⟩:=hy.last (g:=g) (c:=c) (m:=m) (by show Value.slice (some ⟨g,0,none⟩) s.blocks.length c = Value.slice (some ⟨g,0,none⟩) (((s.blocks.set m b1).set m b2).set m b3).length c; rw [List.length_set,List.length_set,List.length_set]) (by show (((s.blocks.set m b1).set m b2).set m b3).length = m + 1; rw [List.length_set,List.length_set,List.length_set]; exact HMM.out)
  have hb93 : b9 = b3:=by
   have e : (((s.blocks.set m b1).set m b2).set m b3).getLast? = some b9:=hb9
   rw [HBL3.out] at e
   simpa using e.symm
  have ho : b9.opn = b.opn:=by rw [hb93,HB33.out]
  rw [ho] at l2
  have c4:=hy.cell (k:=4) rfl
  have f4:=hy.free (k:=4) (by decide)
  have hyk:=hy.kinds b.opn
  have HYK:=Lib.hid hyk
  clear hy hb9 hb93 ho hyk
  go_wp2_with fail
  go_ret
  refine ⟨by rw [tu20 HBL.out]; rfl,⟨.slice (some ⟨g,0,none⟩) s.blocks.length c,?_⟩,(((HB3.out.mono HBW.out).trans HS3.out.2).trans HSB.out).trans HYK.out.2⟩
  rw [tu20 HBL.out]
  exact HYK.out.1.as (by show ({ kinds:=b.opn,blocks:=((s.blocks.set m b1).set m b2).set m b3,seen:=s.seen,ends:=s.ends.set b.at_ (i : Int),deep:=s.deep } : Vs) = _; rw [HBL3.out,HB33.out])
 by_cases h21 : p = 21
 ·subst h21
  rw [show (((21 : UInt8).toNat : Nat) : Int) = 21 from rfl] at hW1 x0 ⊢
  go_enter Tryz.func177,Tryz.ntmps177
  go_upto_region 1 with fail
  rw [← hW1]
  clear hW1
  go_wp2_with fail
  refine HT.out.mono ?_
  rintro e w2 ⟨htop,hB2⟩
  have HTOP:=Lib.hid htop
  have H2:=Lib.hid (H1.out.below hB2)
  have y0:=Below.keeps hB2 x0
  have HB2:=Lib.hid (bt HB1.out hB2)
  clear htop hB2 x0
  rcases HTOP.out with ⟨hb,rfl⟩ | ⟨g,c,m,hv,hm,rfl⟩
  ·exact absurd hb (HNE.out (by decide))
  obtain ⟨b,hb,hbm,l0,l1,l2,l3,l4⟩:=H2.out.last hv hm
  subst hv
  have hbat : b.at_ < s.ends.length:=HAT.out b (List.mem_of_getElem? hbm)
  obtain ⟨⟨_,_,_⟩,_,ae,ce,rfl⟩:=H2.out.slices
  obtain ⟨E,rfl⟩:=H2.out.oe.at0 (by omega)
  have HBM:=Lib.hid hbm
  have HBL:=Lib.hid hb
  have HMM:=Lib.hid hm
  have HAT2:=Lib.hid hbat
  have e0 : (0 : Int) ≤ (b.at_ : Int):=by omega
  have e1 : (b.at_ : Int) < (s.ends.length : Int):=by omega
  have e2 : (s.ends.length : Int) ≤ 1000:=by omega
  have c7:=H2.out.cell (k:=7) rfl
  have c4:=H2.out.cell (k:=4) rfl
  clear HTOP hb hbm hbat hm
  by_cases hkw : s.kinds = b.want
  ·have q1 : (s.kinds == b.want) = true:=by rw [hkw]; simp
   have HKW:=Lib.hid hkw
   clear hkw
   go_upto_region 13 with fail
   refine region_known [(3,.exact _ (.string (bs s.kinds))),(7,.exact _ (.string (bs b.want)))] (by kernel_rfl) (by kernel_rfl) ?_
   (repeat (first | (refine wpG_skip (by kernel_rfl) (fun K hK => ?_); go_big_quiet_skip; refine wpQuiet_nil (hK _ ?_); clear hK K) | (refine wpG_quiet (by rfl) (by rfl) (fun K hK => ?_); go_big_quiet_want; go_big_quiet_op; go_big_quiet_on; refine wpQuiet_nil (hK _ ?_); clear hK K) | (refine wpG_nilOk rfl rfl rfl (by kernel_rfl) (fun K hK => ?_); go_simp; refine hK _ ?_; clear hK K)))
   repeat (refine wpG_exact rfl (by kernel_rfl) (fun w' G hB hS hG => ?_) (fun K hK => ?_); (have z0:=Below.keeps hB c4; have z1:=Below.keeps hB l1; go_simp; exact hG _ (Bel.refl _)); go_simp; refine hK _ ?_; clear hK K; (repeat (first | (refine wpG_skip (by kernel_rfl) (fun K hK => ?_); go_big_quiet_skip; refine wpQuiet_nil (hK _ ?_); clear hK K) | (refine wpG_quiet (by rfl) (by rfl) (fun K hK => ?_); go_big_quiet_want; go_big_quiet_op; go_big_quiet_on; refine wpQuiet_nil (hK _ ?_); clear hK K) | (refine wpG_nilOk rfl rfl rfl (by kernel_rfl) (fun K hK => ?_); go_simp; refine hK _ ?_; clear hK K))))
   refine wpG_nilV3 ?_
   intro w6 hB6 hA6
   have h6:=Lib.hid (H2.out.below hB6)
   have HB6:=Lib.hid (bt HB2.out hB6)
   have c7':=Below.keeps hB6 c7
   have l3':=Below.keeps hB6 l3
   clear hB6 hA6 c7 c4 l0 l1 l2 l3 l4
   go_upto_region 15 with fail
   refine region_tail 10 [(3,.exact _ (.slice (some ⟨E,0,none⟩) s.ends.length ce)),(7,.exact _ (.int .i64 (b.at_ : Int)))] (by kernel_rfl) (by kernel_rfl) ?_
   simp only [List.take_succ_cons,List.take_zero,List.drop_succ_cons,List.drop_zero]
   (repeat (first | (refine wpG_skip (by kernel_rfl) (fun K hK => ?_); go_big_quiet_skip; refine wpQuiet_nil (hK _ ?_); clear hK K) | (refine wpG_quiet (by rfl) (by rfl) (fun K hK => ?_); go_big_quiet_want; go_big_quiet_op; go_big_quiet_on; refine wpQuiet_nil (hK _ ?_); clear hK K) | (refine wpG_nilOk rfl rfl rfl (by kernel_rfl) (fun K hK => ?_); go_simp; refine hK _ ?_; clear hK K)))
   repeat (refine wpG_exact rfl (by kernel_rfl) (fun w' G hB hS hG => ?_) (fun K hK => ?_); (have z0:=Below.keeps hB c7'; have z1:=Below.keeps hB l3'; go_simp; exact hG _ (Bel.refl _)); go_simp; refine hK _ ?_; clear hK K; (repeat (first | (refine wpG_skip (by kernel_rfl) (fun K hK => ?_); go_big_quiet_skip; refine wpQuiet_nil (hK _ ?_); clear hK K) | (refine wpG_quiet (by rfl) (by rfl) (fun K hK => ?_); go_big_quiet_want; go_big_quiet_op; go_big_quiet_on; refine wpQuiet_nil (hK _ ?_); clear hK K) | (refine wpG_nilOk rfl rfl rfl (by kernel_rfl) (fun K hK => ?_); go_simp; refine hK _ ?_; clear hK K))))
   refine wpG_nilV3 ?_
   intro w3 hB3 hA3
   have h3:=h6.out.below hB3
   obtain ⟨⟨v3,d3⟩,f3⟩:=h3.cellE HAT2.out
   have hs3:=h3.setE HAT2.out (i : Int)
   have HS3:=Lib.hid hs3
   have HB3:=Lib.hid (bt HB6.out hB3)
   clear hB3 hA3 h3 hs3 c7' l3'
   go_upto_region 16 with fail
   clear d3 f3
   go_wp2_with fail
   refine (spop_any HS3.out.1 hl (by have:=HMM.out; show 0 < s.blocks.length; omega)).mono ?_
   rintro e w4 ⟨⟨v,rfl⟩,⟨bv',hv4⟩,hB4⟩
   have H4:=Lib.hid hv4
   have HB4:=Lib.hid (((HB3.out.mono HBW.out).trans HS3.out.2).trans hB4)
   clear hv4 hB4
   go_wp2_with fail
   go_ret
   exact ⟨by rw [tu21y HBL.out HKW.out]; rfl,⟨_,by rw [tu21y HBL.out HKW.out]; exact H4.out⟩,HB4.out⟩
  ·have q1 : (s.kinds == b.want) = false:=by simpa using hkw
   have HKW:=Lib.hid hkw
   clear hkw
   go_upto_region 13 with fail
   refine region_known [(3,.exact _ (.string (bs s.kinds))),(7,.exact _ (.string (bs b.want)))] (by kernel_rfl) (by kernel_rfl) ?_
   (repeat (first | (refine wpG_skip (by kernel_rfl) (fun K hK => ?_); go_big_quiet_skip; refine wpQuiet_nil (hK _ ?_); clear hK K) | (refine wpG_quiet (by rfl) (by rfl) (fun K hK => ?_); go_big_quiet_want; go_big_quiet_op; go_big_quiet_on; refine wpQuiet_nil (hK _ ?_); clear hK K) | (refine wpG_nilOk rfl rfl rfl (by kernel_rfl) (fun K hK => ?_); go_simp; refine hK _ ?_; clear hK K)))
   repeat (refine wpG_exact rfl (by kernel_rfl) (fun w' G hB hS hG => ?_) (fun K hK => ?_); (have z0:=Below.keeps hB c4; have z1:=Below.keeps hB l1; go_simp; exact hG _ (Bel.refl _)); go_simp; refine hK _ ?_; clear hK K; (repeat (first | (refine wpG_skip (by kernel_rfl) (fun K hK => ?_); go_big_quiet_skip; refine wpQuiet_nil (hK _ ?_); clear hK K) | (refine wpG_quiet (by rfl) (by rfl) (fun K hK => ?_); go_big_quiet_want; go_big_quiet_op; go_big_quiet_on; refine wpQuiet_nil (hK _ ?_); clear hK K) | (refine wpG_nilOk rfl rfl rfl (by kernel_rfl) (fun K hK => ?_); go_simp; refine hK _ ?_; clear hK K))))
   refine wpG_nilV3 ?_
   intro w6 hB6 hA6
   clear hA6 c7 c4 l0 l1 l2 l3 l4
   go_wp2_with fail
   go_ret
   exact ⟨by rw [tu21n HBL.out HKW.out]; rfl,⟨_,by rw [tu21n HBL.out HKW.out]; exact H2.out.below hB6⟩,(bt HB2.out hB6).mono HBW.out⟩
 have HTU:=Lib.hid (tuN (a:=a) (i:=i) (s:=s) h19 h22 h20 h21)
 have e19 : ((p.toNat : Int) == 19) = false:=u8_ne (k:=19) (by decide) h19
 have e22 : ((p.toNat : Int) == 22) = false:=u8_ne (k:=22) (by decide) h22
 have e20 : ((p.toNat : Int) == 20) = false:=u8_ne (k:=20) (by decide) h20
 have e21 : ((p.toNat : Int) == 21) = false:=u8_ne (k:=21) (by decide) h21
 clear h19 h22 h20 h21
 go_enter Tryz.func177,Tryz.ntmps177
 go_upto_region 1 with fail
 rw [← hW1]
 clear hW1
 go_wp2_with fail
 refine HT.out.mono ?_
 rintro e w2 ⟨htop,hB2⟩
 have HTOP:=Lib.hid htop
 have H2:=Lib.hid (H1.out.below hB2)
 have y0:=Below.keeps hB2 x0
 have HB2:=Lib.hid (bt HB1.out hB2)
 clear htop hB2 x0
 obtain ⟨tp,rfl⟩ : ∃ tp,e = .returned tp:=by rcases HTOP.out with ⟨_,rfl⟩ | ⟨_,_,_,_,_,rfl⟩ <;> exact ⟨_,rfl⟩
 clear HTOP
 go_wp2_with fail
 go_ret
 exact ⟨by rw [HTU.out]; rfl,⟨_,by rw [HTU.out]; exact H2.out⟩,HB2.out.mono HBW.out⟩
end
end Go.Proofs.YtehllcbnheicoaaGreatDoor
