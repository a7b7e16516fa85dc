/- Lemmas for FoldTells, part 33: walks of the functions that it reaches, and the plain laws behind them. -/
import Derived.Test.YtehllcbnheicoaaGreatDoorFoldTellsK17
set_option linter.unusedSimpArgs false
set_option linter.unusedVariables false
set_option maxRecDepth 100000
set_option maxHeartbeats 16000000
namespace Go.Proofs.YtehllcbnheicoaaGreatDoor
open Go.RowKit Oct
attribute [local irreducible] wpG
theorem Rec.Own.freeR {α : Type} {R : Rec α} {w : World} {base g n c : Nat} {l : List α} (h : R.Own w base (.slice (some ⟨g,0,none⟩) n c) l) {k : Nat} (hk : k < l.length * R.n) : (∃ v,w.cell? ⟨g,k,none⟩ = some v) ∧ w.frozen? ⟨g,k,none⟩ = false:=by
 obtain ⟨_,h2⟩:=h
 rcases h2 with ⟨hv,_⟩ | ⟨g',cap,cur,hv,hb,hh,r1,r2,r3,r4⟩
 ·cases hv
 ·obtain ⟨rfl,rfl,rfl⟩ : g = g' ∧ n = l.length ∧ c = cap:=by simpa using hv
  have hlt : k < cur.size:=by
   rw [r3]
   exact Nat.lt_of_lt_of_le hk (Nat.mul_le_mul_right _ r1)
  exact ⟨⟨cur[k],by simp [World.cell?,hh,hlt]⟩,by simp [World.frozen?,hh]⟩
section
variable {w : World} {base G : Nat} {tv cv bv sv ev : Value} {role : UInt8} {s : Vs} {n : Nat}
theorem rEnds_any (i : Nat) (x : VI) (h : RG w base G tv cv role s bv sv ev) (hI : InvV n s) (hi : i ≤ 1000) (hwd : ∀ b ∈ s.blocks,b.did = false → b.want = b.opn) (hne : x.1 = 20 ∨ x.1 = 21 → s.blocks ≠ []) :
  Calls Tryz.prog 141 #[.pointer (some ⟨G,0,none⟩),.int .i64 (i : Int),.agg #[.int .u8 (x.1.toNat : Int),.int .u8 (x.2.toNat : Int)]] w fun e w' => e = .returned (.int .i64 ((turnsV i x s).1 : Int)) ∧ ((turnsV i x s).1 = 0 → ∃ bv',RG w' base G tv cv role (turnsV i x s).2 bv' sv ev) ∧ Below base w w':=by
 obtain ⟨p,a⟩:=x
 have hGb:=Nat.le_trans h.gb (Nat.le_of_lt h.blk.lt)
 have hGw:=h.blk.lt
 have hl : s.blocks.length ≤ 1000:=Nat.le_trans hI.bl (by decide)
 have hkl:=hI.kl
 have hIb:=hI.bs
 have hIe:=hI.el
 have hbl:=hI.bl
 obtain ⟨⟨ab,cb,rfl⟩,_,⟨ae,ce,rfl⟩⟩:=h.slices
 obtain ⟨W1,hW1⟩ : ∃ W1,W1 = w.alloc (.cells #[.int .u8 (p.toNat : Int),.int .u8 (a.toNat : Int)] 97):=⟨_,rfl⟩
 have hb1 : Below w.heap.size w W1:=by rw [hW1]; exact b_alloc _ _
 have hx : Blk W1 w.heap.size 97 [.int .u8 (p.toNat : Int),.int .u8 (a.toNat : Int)]:=by rw [hW1]; exact Blk.new w _ _
 have HB1:=Lib.hid hb1
 have HX:=Lib.hid hx
 have HH:=Lib.hid h
 have HLST:=Lib.hid (fun w' (hB : Below w.heap.size w w') => rLast_any (h.below hB) hl)
 have i0 : (0 : Int) ≤ (i : Int):=by omega
 have l1 : (s.blocks.length : Int) ≤ 8:=by omega
 have k16 : (s.kinds.length : Int) ≤ 16:=by omega
 obtain ⟨q,hq⟩ : ∃ q,q = lastR s.blocks:=⟨_,rfl⟩
 obtain ⟨is_,his⟩ : ∃ is_,is_ = s.blocks.getLast?.isSome:=⟨_,rfl⟩
 have HIS:=Lib.hid his
 have HQ:=Lib.hid hq
 have HLQ:=Lib.hid (show rbV (s.blocks.getLast?.getD noVb) = .agg #[.int .u8 (q.op.toNat : Int),.string (bs q.opn),.string (bs (keptR q)),.bool q.did,.int .i64 (q.at_ : Int)] by rw [hq]; rfl)
 have HWD:=Lib.hid hwd
 have HNE:=Lib.hid hne
 have HIB:=Lib.hid hIb
 clear h hb1 hx hq his hwd hne hIb hI
 go_enter Tryz.func141,Tryz.ntmps141
 go_upto_region 1 with fail
 rw [← hW1]
 clear hW1
 go_upto_region 2 with (go_at_call 165; refine (HLST.out _ HB1.out).mono ?_; rintro e w2 ⟨rfl,hB2⟩; rw [HLQ.out,← HIS.out]; have HB2:=Lib.hid (bt HB1.out hB2); have HX2:=Lib.hid (HX.out.below hB2); clear hB2)
 obtain ⟨W3,hW3⟩ : ∃ W3,W3 = w2.alloc (.cells #[.int .u8 (q.op.toNat : Int),.string (bs q.opn),.string (bs (keptR q)),.bool q.did,.int .i64 (q.at_ : Int)] 253):=⟨_,rfl⟩
 have hb23 : Below w2.heap.size w2 W3:=by rw [hW3]; exact b_alloc _ _
 have hy : Blk W3 w2.heap.size 253 [.int .u8 (q.op.toNat : Int),.string (bs q.opn),.string (bs (keptR q)),.bool q.did,.int .i64 (q.at_ : Int)]:=by rw [hW3]; exact Blk.new w2 _ _
 rw [← hW3]
 have hb3:=bt HB2.out hb23
 have h3:=HH.out.below hb3
 have hx3:=HX2.out.below hb23
 have x0:=hx3.cell (k:=0) rfl
 obtain ⟨C,hC⟩ : ∃ C,C = w2.heap.size:=⟨_,rfl⟩
 have hCw : w.heap.size ≤ C:=by rw [hC]; exact HB2.out.size
 have hCx : C ≠ w.heap.size:=by
  have:=lt_of_cell (HX2.out.cell (k:=0) rfl)
  have h' : w.heap.size < w2.heap.size:=this
  omega
 rw [← hC] at hy ⊢
 have HY3:=Lib.hid hy
 have HX3:=Lib.hid hx3
 have H3:=Lib.hid h3
 have HB3:=Lib.hid hb3
 have hG3 : w.heap.size ≤ W3.heap.size:=hb3.size
 clear hW3 hy hb23 hb3 h3 hx3 HB2 HX2 hC
 by_cases h19 : p = 19
 ·have u19 : ((p.toNat : Int) == 19) = true:=by rw [h19]; rfl
  have HV:=Lib.hid (show turnsV i (p,a) s = (0,{ s with blocks:=s.blocks ++ [⟨19,s.kinds,s.kinds,i,false⟩] }) by unfold turnsV; simp [h19])
  have c3:=H3.out.cell (k:=3) rfl
  have c4:=H3.out.cell (k:=4) rfl
  obtain ⟨nb,hnb⟩ : ∃ nb : Vb,nb = ⟨p,s.kinds,s.kinds,i,false⟩:=⟨_,rfl⟩
  have HNB:=Lib.hid hnb
  have hc : (recRb.cell nb) = [.int .u8 (p.toNat : Int),.string (bs s.kinds),.string ⟨#[]⟩,.bool false,.int .i64 (i : Int)]:=by rw [hnb]; rfl
  have HC:=Lib.hid hc
  have HSH:=Lib.hid H3.out.ob
  have HP:=Lib.hid h19
  clear hnb hc h19
  go_upto_region 5 with fail
  refine region_relA recRb s.blocks nb 18 [(4,.exact _ (.slice ab s.blocks.length cb)),(5,kOwnA recRb W3.heap.size s.blocks nb),(7,.exact _ (.int .u8 (p.toNat : Int))),(11,.exact _ (.string (bs s.kinds))),(14,kOneA recRb W3.heap.size s.blocks nb),(15,kOwnB recRb W3.heap.size s.blocks nb)] (by kernel_rfl) (by kernel_rfl) ?_
  simp only [List.take_succ_cons,List.take_zero,List.drop_succ_cons,List.drop_zero]
  (repeat (first | (refine wpG_skip (by kernel_rfl) (fun K hK => ?_); go_big_quiet_skip; refine wpQuiet_nil (hK _ ?_); clear hK K) | (refine wpG_quiet (by rfl) (by rfl) (fun K hK => ?_); go_big_quiet_want; go_big_quiet_op; go_big_quiet_on; refine wpQuiet_nil (hK _ ?_); clear hK K) | (refine wpG_nilOk rfl rfl rfl (by kernel_rfl) (fun K hK => ?_); go_simp; refine hK _ ?_; clear hK K)))
  refine wpG_exact rfl (by kernel_rfl) (fun w' G hB hS hG => ?_) (fun K hK => ?_)
  ·have y:=Below.keeps hB c4
   go_simp; exact hG _ (RelA.refl _)
  go_simp; refine hK _ ?_; clear hK K; (repeat (first | (refine wpG_skip (by kernel_rfl) (fun K hK => ?_); go_big_quiet_skip; refine wpQuiet_nil (hK _ ?_); clear hK K) | (refine wpG_quiet (by rfl) (by rfl) (fun K hK => ?_); go_big_quiet_want; go_big_quiet_op; go_big_quiet_on; refine wpQuiet_nil (hK _ ?_); clear hK K) | (refine wpG_nilOk rfl rfl rfl (by kernel_rfl) (fun K hK => ?_); go_simp; refine hK _ ?_; clear hK K)))
  refine wpG_known (kOwnA recRb W3.heap.size s.blocks nb) rfl (by kernel_rfl) (fun w' G hB hS hG => ?_) (fun x K hK => ?_)
  ·refine recRb.grow_copy _ _ 200 rfl Tryz.underlying200 W3.heap.size rfl _ s.blocks (HSH.out.below hB).row rfl (by show s.blocks.length * 56 ≤ _; omega) hB.size (fun A C w'' ho hb => hG (A,C) w'' (RelA.of_bel hB.size hb) (fun φ h => by cases h; exact ho))
  obtain ⟨ad,c⟩:=x; go_simp; refine hK _ ?_; clear hK K; (repeat (first | (refine wpG_skip (by kernel_rfl) (fun K hK => ?_); go_big_quiet_skip; refine wpQuiet_nil (hK _ ?_); clear hK K) | (refine wpG_quiet (by rfl) (by rfl) (fun K hK => ?_); go_big_quiet_want; go_big_quiet_op; go_big_quiet_on; refine wpQuiet_nil (hK _ ?_); clear hK K) | (refine wpG_nilOk rfl rfl rfl (by kernel_rfl) (fun K hK => ?_); go_simp; refine hK _ ?_; clear hK K)))
  refine wpG_exact rfl (by kernel_rfl) (fun w' G hB hS hG => ?_) (fun K hK => ?_)
  ·have y:=Below.keeps hB x0
   go_simp; exact hG _ (RelA.refl _)
  go_simp; refine hK _ ?_; clear hK K; (repeat (first | (refine wpG_skip (by kernel_rfl) (fun K hK => ?_); go_big_quiet_skip; refine wpQuiet_nil (hK _ ?_); clear hK K) | (refine wpG_quiet (by rfl) (by rfl) (fun K hK => ?_); go_big_quiet_want; go_big_quiet_op; go_big_quiet_on; refine wpQuiet_nil (hK _ ?_); clear hK K) | (refine wpG_nilOk rfl rfl rfl (by kernel_rfl) (fun K hK => ?_); go_simp; refine hK _ ?_; clear hK K)))
  refine wpG_exact rfl (by kernel_rfl) (fun w' G hB hS hG => ?_) (fun K hK => ?_)
  ·have y:=Below.keeps hB c3
   go_simp; exact hG _ (RelA.refl _)
  go_simp; refine hK _ ?_; clear hK K; (repeat (first | (refine wpG_skip (by kernel_rfl) (fun K hK => ?_); go_big_quiet_skip; refine wpQuiet_nil (hK _ ?_); clear hK K) | (refine wpG_quiet (by rfl) (by rfl) (fun K hK => ?_); go_big_quiet_want; go_big_quiet_op; go_big_quiet_on; refine wpQuiet_nil (hK _ ?_); clear hK K) | (refine wpG_nilOk rfl rfl rfl (by kernel_rfl) (fun K hK => ?_); go_simp; refine hK _ ?_; clear hK K)))
  refine wpG_known (kOneA recRb W3.heap.size s.blocks nb) rfl (by kernel_rfl) (fun w' G hB hS hG => ?_) (fun (bb : Nat) K hK => ?_)
  ·go_simp; exact one_newA hG (by rw [HC.out]) hB.size
  go_simp; refine hK _ ?_; clear hK K; (repeat (first | (refine wpG_skip (by kernel_rfl) (fun K hK => ?_); go_big_quiet_skip; refine wpQuiet_nil (hK _ ?_); clear hK K) | (refine wpG_quiet (by rfl) (by rfl) (fun K hK => ?_); go_big_quiet_want; go_big_quiet_op; go_big_quiet_on; refine wpQuiet_nil (hK _ ?_); clear hK K) | (refine wpG_nilOk rfl rfl rfl (by kernel_rfl) (fun K hK => ?_); go_simp; refine hK _ ?_; clear hK K)))
  refine wpG_known (kOwnB recRb W3.heap.size s.blocks nb) rfl (by kernel_rfl) (fun w' G hB hS hG => ?_) (fun y K hK => ?_)
  ·have hown : recRb.Own w' W3.heap.size (.slice ad s.blocks.length c) s.blocks:=at1 hS (by kernel_rfl)
   have hone : w'.heap[bb]? = some (.cells (recRb.cell nb).toArray recRb.e (0,0)):=at0 hS (by kernel_rfl)
   exact recRb.grow_app1 _ _ 200 rfl Tryz.underlying200 W3.heap.size _ s.blocks nb hown rfl bb rfl hone (by show (s.blocks.length + 1) * 56 ≤ _; omega) hB.size (fun A C w'' ho hr => hG (A,C) w'' hr (fun φ h => by cases h; exact ho))
  obtain ⟨ad2,c2⟩:=y
  go_simp; refine hK _ ?_; clear hK K; (repeat (first | (refine wpG_skip (by kernel_rfl) (fun K hK => ?_); go_big_quiet_skip; refine wpQuiet_nil (hK _ ?_); clear hK K) | (refine wpG_quiet (by rfl) (by rfl) (fun K hK => ?_); go_big_quiet_want; go_big_quiet_op; go_big_quiet_on; refine wpQuiet_nil (hK _ ?_); clear hK K) | (refine wpG_nilOk rfl rfl rfl (by kernel_rfl) (fun K hK => ?_); go_simp; refine hK _ ?_; clear hK K)))
  refine wpG_nilVT ?_
  intro w5 hB5 hA5
  have ho5 : recRb.Own w5 W3.heap.size (.slice ad2 (s.blocks.length + 1) c2) (s.blocks ++ [nb]):=all0 hA5
  have h5:=H3.out.below hB5
  have c4:=h5.cell (k:=4) rfl
  have f4:=h5.free (k:=4) (by decide)
  have hn5:=H3.out.freshB hB5 (Nat.le_refl _) ho5
  obtain ⟨W7,hW7⟩ : ∃ W7,W7 = w5.setCell ⟨G,4,none⟩ (.slice ad2 (s.blocks.length + 1) c2):=⟨_,rfl⟩
  have hc7 : Chg (fun x => x = G) w5 W7:=by rw [hW7]; exact Chg.set1R
  have hx5:=HX3.out.below hB5
  have hx7:=hx5.chg hc7 (by show ¬ (w.heap.size = G); omega)
  have x0:=hx7.cell (k:=0) rfl
  rw [← hW7] at hn5
  have H7:=Lib.hid hn5.1
  have c3:=hn5.1.cell (k:=3) rfl
  have f3:=hn5.1.free (k:=3) (by decide)
  have HB7:=Lib.hid ((HB3.out.mono hGb).trans (hn5.2.mono (Nat.le_refl _)))
  have HW7:=Lib.hid hW7
  clear hB5 hA5 ho5 h5 hn5 hc7 hx5 hx7 hW7
  go_upto_region 6 with fail
  rw [← HW7.out]
  clear c4 f4
  go_wp2_with fail
  go_ret
  exact ⟨by rw [HV.out]; rfl,(fun _ => ⟨_,by rw [HV.out]; have:=H7.out; rw [HNB.out,HP.out] at this; exact this⟩),HB7.out⟩
 by_cases h22 : p = 22
 ·have u19 : ((p.toNat : Int) == 19) = false:=u8_ne (by decide) h19
  have u22 : ((p.toNat : Int) == 22) = true:=by rw [h22]; rfl
  have HV:=Lib.hid (show turnsV i (p,a) s = (0,{ s with blocks:=s.blocks ++ [⟨22,s.kinds,s.kinds,i,false⟩],kinds:=s.kinds ++ [84] }) by unfold turnsV; simp [h22])
  have c3:=H3.out.cell (k:=3) rfl
  have c4:=H3.out.cell (k:=4) rfl
  obtain ⟨nb,hnb⟩ : ∃ nb : Vb,nb = ⟨p,s.kinds,s.kinds,i,false⟩:=⟨_,rfl⟩
  have HNB:=Lib.hid hnb
  have hc : (recRb.cell nb) = [.int .u8 (p.toNat : Int),.string (bs s.kinds),.string ⟨#[]⟩,.bool false,.int .i64 (i : Int)]:=by rw [hnb]; rfl
  have HC:=Lib.hid hc
  have HSH:=Lib.hid H3.out.ob
  have HP:=Lib.hid h22
  clear hnb hc h22
  go_upto_region 5 with fail
  refine region_relA recRb s.blocks nb 18 [(4,.exact _ (.slice ab s.blocks.length cb)),(5,kOwnA recRb W3.heap.size s.blocks nb),(7,.exact _ (.int .u8 (p.toNat : Int))),(11,.exact _ (.string (bs s.kinds))),(14,kOneA recRb W3.heap.size s.blocks nb),(15,kOwnB recRb W3.heap.size s.blocks nb)] (by kernel_rfl) (by kernel_rfl) ?_
  simp only [List.take_succ_cons,List.take_zero,List.drop_succ_cons,List.drop_zero]
  (repeat (first | (refine wpG_skip (by kernel_rfl) (fun K hK => ?_); go_big_quiet_skip; refine wpQuiet_nil (hK _ ?_); clear hK K) | (refine wpG_quiet (by rfl) (by rfl) (fun K hK => ?_); go_big_quiet_want; go_big_quiet_op; go_big_quiet_on; refine wpQuiet_nil (hK _ ?_); clear hK K) | (refine wpG_nilOk rfl rfl rfl (by kernel_rfl) (fun K hK => ?_); go_simp; refine hK _ ?_; clear hK K)))
  refine wpG_exact rfl (by kernel_rfl) (fun w' G hB hS hG => ?_) (fun K hK => ?_)
  ·have y:=Below.keeps hB c4
   go_simp; exact hG _ (RelA.refl _)
  go_simp; refine hK _ ?_; clear hK K; (repeat (first | (refine wpG_skip (by kernel_rfl) (fun K hK => ?_); go_big_quiet_skip; refine wpQuiet_nil (hK _ ?_); clear hK K) | (refine wpG_quiet (by rfl) (by rfl) (fun K hK => ?_); go_big_quiet_want; go_big_quiet_op; go_big_quiet_on; refine wpQuiet_nil (hK _ ?_); clear hK K) | (refine wpG_nilOk rfl rfl rfl (by kernel_rfl) (fun K hK => ?_); go_simp; refine hK _ ?_; clear hK K)))
  refine wpG_known (kOwnA recRb W3.heap.size s.blocks nb) rfl (by kernel_rfl) (fun w' G hB hS hG => ?_) (fun x K hK => ?_)
  ·refine recRb.grow_copy _ _ 200 rfl Tryz.underlying200 W3.heap.size rfl _ s.blocks (HSH.out.below hB).row rfl (by show s.blocks.length * 56 ≤ _; omega) hB.size (fun A C w'' ho hb => hG (A,C) w'' (RelA.of_bel hB.size hb) (fun φ h => by cases h; exact ho))
  obtain ⟨ad,c⟩:=x; go_simp; refine hK _ ?_; clear hK K; (repeat (first | (refine wpG_skip (by kernel_rfl) (fun K hK => ?_); go_big_quiet_skip; refine wpQuiet_nil (hK _ ?_); clear hK K) | (refine wpG_quiet (by rfl) (by rfl) (fun K hK => ?_); go_big_quiet_want; go_big_quiet_op; go_big_quiet_on; refine wpQuiet_nil (hK _ ?_); clear hK K) | (refine wpG_nilOk rfl rfl rfl (by kernel_rfl) (fun K hK => ?_); go_simp; refine hK _ ?_; clear hK K)))
  refine wpG_exact rfl (by kernel_rfl) (fun w' G hB hS hG => ?_) (fun K hK => ?_)
  ·have y:=Below.keeps hB x0
   go_simp; exact hG _ (RelA.refl _)
  go_simp; refine hK _ ?_; clear hK K; (repeat (first | (refine wpG_skip (by kernel_rfl) (fun K hK => ?_); go_big_quiet_skip; refine wpQuiet_nil (hK _ ?_); clear hK K) | (refine wpG_quiet (by rfl) (by rfl) (fun K hK => ?_); go_big_quiet_want; go_big_quiet_op; go_big_quiet_on; refine wpQuiet_nil (hK _ ?_); clear hK K) | (refine wpG_nilOk rfl rfl rfl (by kernel_rfl) (fun K hK => ?_); go_simp; refine hK _ ?_; clear hK K)))
  refine wpG_exact rfl (by kernel_rfl) (fun w' G hB hS hG => ?_) (fun K hK => ?_)
  ·have y:=Below.keeps hB c3
   go_simp; exact hG _ (RelA.refl _)
  go_simp; refine hK _ ?_; clear hK K; (repeat (first | (refine wpG_skip (by kernel_rfl) (fun K hK => ?_); go_big_quiet_skip; refine wpQuiet_nil (hK _ ?_); clear hK K) | (refine wpG_quiet (by rfl) (by rfl) (fun K hK => ?_); go_big_quiet_want; go_big_quiet_op; go_big_quiet_on; refine wpQuiet_nil (hK _ ?_); clear hK K) | (refine wpG_nilOk rfl rfl rfl (by kernel_rfl) (fun K hK => ?_); go_simp; refine hK _ ?_; clear hK K)))
  refine wpG_known (kOneA recRb W3.heap.size s.blocks nb) rfl (by kernel_rfl) (fun w' G hB hS hG => ?_) (fun (bb : Nat) K hK => ?_)
  ·go_simp; exact one_newA hG (by rw [HC.out]) hB.size
  go_simp; refine hK _ ?_; clear hK K; (repeat (first | (refine wpG_skip (by kernel_rfl) (fun K hK => ?_); go_big_quiet_skip; refine wpQuiet_nil (hK _ ?_); clear hK K) | (refine wpG_quiet (by rfl) (by rfl) (fun K hK => ?_); go_big_quiet_want; go_big_quiet_op; go_big_quiet_on; refine wpQuiet_nil (hK _ ?_); clear hK K) | (refine wpG_nilOk rfl rfl rfl (by kernel_rfl) (fun K hK => ?_); go_simp; refine hK _ ?_; clear hK K)))
  refine wpG_known (kOwnB recRb W3.heap.size s.blocks nb) rfl (by kernel_rfl) (fun w' G hB hS hG => ?_) (fun y K hK => ?_)
  ·have hown : recRb.Own w' W3.heap.size (.slice ad s.blocks.length c) s.blocks:=at1 hS (by kernel_rfl)
   have hone : w'.heap[bb]? = some (.cells (recRb.cell nb).toArray recRb.e (0,0)):=at0 hS (by kernel_rfl)
   exact recRb.grow_app1 _ _ 200 rfl Tryz.underlying200 W3.heap.size _ s.blocks nb hown rfl bb rfl hone (by show (s.blocks.length + 1) * 56 ≤ _; omega) hB.size (fun A C w'' ho hr => hG (A,C) w'' hr (fun φ h => by cases h; exact ho))
  obtain ⟨ad2,c2⟩:=y
  go_simp; refine hK _ ?_; clear hK K; (repeat (first | (refine wpG_skip (by kernel_rfl) (fun K hK => ?_); go_big_quiet_skip; refine wpQuiet_nil (hK _ ?_); clear hK K) | (refine wpG_quiet (by rfl) (by rfl) (fun K hK => ?_); go_big_quiet_want; go_big_quiet_op; go_big_quiet_on; refine wpQuiet_nil (hK _ ?_); clear hK K) | (refine wpG_nilOk rfl rfl rfl (by kernel_rfl) (fun K hK => ?_); go_simp; refine hK _ ?_; clear hK K)))
  refine wpG_nilVT ?_
  intro w5 hB5 hA5
  have ho5 : recRb.Own w5 W3.heap.size (.slice ad2 (s.blocks.length + 1) c2) (s.blocks ++ [nb]):=all0 hA5
  have h5:=H3.out.below hB5
  have c4:=h5.cell (k:=4) rfl
  have f4:=h5.free (k:=4) (by decide)
  have hn5:=H3.out.freshB hB5 (Nat.le_refl _) ho5
  obtain ⟨W7,hW7⟩ : ∃ W7,W7 = w5.setCell ⟨G,4,none⟩ (.slice ad2 (s.blocks.length + 1) c2):=⟨_,rfl⟩
  have hc7 : Chg (fun x => x = G) w5 W7:=by rw [hW7]; exact Chg.set1R
  have hx5:=HX3.out.below hB5
  have hx7:=hx5.chg hc7 (by show ¬ (w.heap.size = G); omega)
  have x0:=hx7.cell (k:=0) rfl
  rw [← hW7] at hn5
  have H7:=Lib.hid hn5.1
  have c3:=hn5.1.cell (k:=3) rfl
  have f3:=hn5.1.free (k:=3) (by decide)
  have HB7:=Lib.hid ((HB3.out.mono hGb).trans (hn5.2.mono (Nat.le_refl _)))
  have HW7:=Lib.hid hW7
  clear hB5 hA5 ho5 h5 hn5 hc7 hx5 hx7 hW7
  go_upto_region 6 with fail
  rw [← HW7.out]
  clear c4 f4
  go_wp2_with fail
  go_ret
  have h9:=H7.out.kinds (s.kinds ++ [84])
  exact ⟨by rw [HV.out]; rfl,(fun _ => ⟨_,by rw [HV.out]; have:=h9.1; rw [HNB.out,HP.out] at this; exact this⟩),HB7.out.trans h9.2⟩
 by_cases h20 : p = 20
 ·have u19 : ((p.toNat : Int) == 19) = false:=u8_ne (by decide) h19
  have u22 : ((p.toNat : Int) == 22) = false:=u8_ne (by decide) h22
  have u20 : ((p.toNat : Int) == 20) = true:=by rw [h20]; rfl
  have hbn:=HNE.out (.inl h20)
  have hlast : s.blocks.getLast? = some q:=by
   rw [HQ.out]; unfold lastR
   cases hb : s.blocks.getLast? with
   | none => exact absurd (List.getLast?_eq_none_iff.1 hb) hbn
   | some b => rfl
  have hqm : q ∈ s.blocks:=List.mem_of_getLast? hlast
  have hqa:=(HIB.out q hqm).1
  have hb0 : 0 < s.blocks.length:=List.length_pos_of_mem hqm
  obtain ⟨nb,hnb⟩ : ∃ nb : Vb,nb = { q with want:=s.kinds,at_:=i,did:=true }:=⟨_,rfl⟩
  have HV:=Lib.hid (show turnsV i (p,a) s = (0,{ s with ends:=s.ends.set q.at_ (i : Int),blocks:=s.blocks.dropLast ++ [nb],kinds:=q.opn }) by unfold turnsV; rw [hlast,hnb]; simp [h20])
  have HNB:=Lib.hid (show rbV nb = .agg #[.int .u8 (q.op.toNat : Int),.string (bs q.opn),.string (bs s.kinds),.bool true,.int .i64 (i : Int)] by rw [hnb]; rfl)
  obtain ⟨ge,rfl⟩:=H3.out.oe.at0 (by omega)
  have hge:=HH.out.oe.ltV ge rfl
  have hgn:=fun e => HH.out.a3 ge rfl e
  obtain ⟨⟨v0,e0⟩,ef⟩:=H3.out.oe.freeR (k:=q.at_) (by show q.at_ < s.ends.length * 1; omega)
  have c5:=H3.out.cell (k:=6) rfl
  have y4:=HY3.out.cell (k:=4) rfl
  have q0 : (0 : Int) ≤ (q.at_ : Int):=by omega
  have q1 : (q.at_ : Int) < (s.ends.length : Int):=by omega
  have q2 : (s.ends.length : Int) ≤ 256:=by omega
  clear hnb hlast hqm h20 hbn
  go_upto_region 9 with fail
  go_region
  obtain ⟨W4,hW4⟩ : ∃ W4,W4 = W3.setCell ⟨ge,q.at_,none⟩ (.int .i64 (i : Int)):=⟨_,rfl⟩
  have hc4 : Chg (fun k => k = ge) W3 W4:=by rw [hW4]; exact Chg.setCell _ _ _ rfl
  have ho4 : recJ.Own W4 base (.slice (some ⟨ge,0,none⟩) s.ends.length ce) (s.ends.set q.at_ (i : Int)):=by
   have:=H3.out.oe.setCell (k:=q.at_) hqa (y:=(i : Int)) (j:=0) (by decide) (u:=.int .i64 (i : Int)) rfl
   rw [show q.at_ * recJ.n + 0 = q.at_ from by show q.at_ * 1 + 0 = q.at_; omega,← hW4] at this
   exact this
  have h4:=H3.out.chgE (l:=s.ends.set q.at_ (i : Int)) (hc4.mono (fun k (hk : k = ge) => by rw [hk]; rfl)) ho4
  rw [← hW4]
  have hB34 : Below base W3 W4.drew:=h4.2.trans ((b_drew W4).mono (Nat.le_trans (Nat.le_trans hGb hG3) hc4.size))
  have H4:=Lib.hid (h4.1.below (b_drew W4))
  have HY4:=Lib.hid ((HY3.out.chg hc4 (by show ¬ (C = ge); omega)).below (b_drew W4))
  have HB4:=Lib.hid ((HB3.out.mono hGb).trans hB34)
  clear hW4 hc4 ho4 h4 hB34 e0 c5 ef
  obtain ⟨W5,hW5⟩ : ∃ W5,W5 = W4.drew:=⟨_,rfl⟩
  rw [← hW5] at H4 HY4 HB4
  rw [← hW5]
  clear hW5 x0 y4
  have c3:=H4.out.cell (k:=3) rfl
  have y0:=HY4.out.cell (k:=0) rfl
  have y1:=HY4.out.cell (k:=1) rfl
  go_upto_region 10 with fail
  refine region_tail 11 [(2,.exact _ (.int .u8 (q.op.toNat : Int))),(4,.exact _ (.string (bs q.opn))),(8,.exact _ (.string (bs s.kinds)))] (by kernel_rfl) (by kernel_rfl) ?_
  simp only [List.take_succ_cons,List.take_zero,List.drop_succ_cons,List.drop_zero]
  (repeat (first | (refine wpG_skip (by kernel_rfl) (fun K hK => ?_); go_big_quiet_skip; refine wpQuiet_nil (hK _ ?_); clear hK K) | (refine wpG_quiet (by rfl) (by rfl) (fun K hK => ?_); go_big_quiet_want; go_big_quiet_op; go_big_quiet_on; refine wpQuiet_nil (hK _ ?_); clear hK K) | (refine wpG_nilOk rfl rfl rfl (by kernel_rfl) (fun K hK => ?_); go_simp; refine hK _ ?_; clear hK K)))
  refine wpG_exact rfl (by kernel_rfl) (fun w' G hB hS hG => ?_) (fun K hK => ?_)
  ·have y:=Below.keeps hB y0
   go_simp; exact hG _ (Bel.refl _)
  go_simp; refine hK _ ?_; clear hK K; (repeat (first | (refine wpG_skip (by kernel_rfl) (fun K hK => ?_); go_big_quiet_skip; refine wpQuiet_nil (hK _ ?_); clear hK K) | (refine wpG_quiet (by rfl) (by rfl) (fun K hK => ?_); go_big_quiet_want; go_big_quiet_op; go_big_quiet_on; refine wpQuiet_nil (hK _ ?_); clear hK K) | (refine wpG_nilOk rfl rfl rfl (by kernel_rfl) (fun K hK => ?_); go_simp; refine hK _ ?_; clear hK K)))
  refine wpG_exact rfl (by kernel_rfl) (fun w' G hB hS hG => ?_) (fun K hK => ?_)
  ·have y:=Below.keeps hB y1
   go_simp; exact hG _ (Bel.refl _)
  go_simp; refine hK _ ?_; clear hK K; (repeat (first | (refine wpG_skip (by kernel_rfl) (fun K hK => ?_); go_big_quiet_skip; refine wpQuiet_nil (hK _ ?_); clear hK K) | (refine wpG_quiet (by rfl) (by rfl) (fun K hK => ?_); go_big_quiet_want; go_big_quiet_op; go_big_quiet_on; refine wpQuiet_nil (hK _ ?_); clear hK K) | (refine wpG_nilOk rfl rfl rfl (by kernel_rfl) (fun K hK => ?_); go_simp; refine hK _ ?_; clear hK K)))
  refine wpG_exact rfl (by kernel_rfl) (fun w' G hB hS hG => ?_) (fun K hK => ?_)
  ·have y:=Below.keeps hB c3
   go_simp; exact hG _ (Bel.refl _)
  go_simp; refine hK _ ?_; clear hK K; (repeat (first | (refine wpG_skip (by kernel_rfl) (fun K hK => ?_); go_big_quiet_skip; refine wpQuiet_nil (hK _ ?_); clear hK K) | (refine wpG_quiet (by rfl) (by rfl) (fun K hK => ?_); go_big_quiet_want; go_big_quiet_op; go_big_quiet_on; refine wpQuiet_nil (hK _ ?_); clear hK K) | (refine wpG_nilOk rfl rfl rfl (by kernel_rfl) (fun K hK => ?_); go_simp; refine hK _ ?_; clear hK K)))
  refine wpG_nilVT ?_
  intro w6 hB6 hA6
  have h6:=H4.out.below hB6
  have HSET:=Lib.hid (rSet_any nb h6 hl hb0)
  rw [HNB.out] at HSET
  have HY6:=Lib.hid (HY4.out.below hB6)
  have HB6:=Lib.hid (HB4.out.trans (hB6.mono (Nat.le_trans hGb HB4.out.size)))
  clear hB6 hA6 h6 c3 y0 y1
  go_upto_region 11 with (go_at_call 167; refine HSET.out.mono ?_; rintro e w7 ⟨⟨vv,rfl⟩,⟨bv7,h7⟩,hc7⟩; have H7:=Lib.hid h7; have HY7:=Lib.hid (HY6.out.chg hc7 (show ¬ (C = G) by omega)); have HC7:=Lib.hid hc7; clear h7 hc7)
  have y1:=HY7.out.cell (k:=1) rfl
  have c3:=H7.out.cell (k:=3) rfl
  have f3:=H7.out.free (k:=3) (by decide)
  have hbb : base ≤ w6.heap.size:=Nat.le_trans hGb HB6.out.size
  go_wp2_with fail
  go_ret
  have h9:=H7.out.kinds q.opn
  exact ⟨by rw [HV.out]; rfl,(fun _ => ⟨_,by rw [HV.out]; exact h9.1⟩),(HB6.out.trans (HC7.out.below (fun x (hx : x = G) => by have:=H7.out.gb; omega) hbb)).trans h9.2⟩
 by_cases h21 : p = 21
 ·have u19 : ((p.toNat : Int) == 19) = false:=u8_ne (by decide) h19
  have u22 : ((p.toNat : Int) == 22) = false:=u8_ne (by decide) h22
  have u20 : ((p.toNat : Int) == 20) = false:=u8_ne (by decide) h20
  have u21 : ((p.toNat : Int) == 21) = true:=by rw [h21]; rfl
  have hbn:=HNE.out (.inr h21)
  have hlast : s.blocks.getLast? = some q:=by
   rw [HQ.out]; unfold lastR
   cases hb : s.blocks.getLast? with
   | none => exact absurd (List.getLast?_eq_none_iff.1 hb) hbn
   | some b => rfl
  have hqm : q ∈ s.blocks:=List.mem_of_getLast? hlast
  have hqa:=(HIB.out q hqm).1
  have hb0 : 0 < s.blocks.length:=List.length_pos_of_mem hqm
  have y1:=HY3.out.cell (k:=1) rfl
  have y2:=HY3.out.cell (k:=2) rfl
  have y3:=HY3.out.cell (k:=3) rfl
  have c3:=H3.out.cell (k:=3) rfl
  by_cases hd : q.did = true
  ·have hkw : keptR q = q.want:=by unfold keptR; rw [if_pos hd]
   rw [hkw] at y2
   rw [hd] at y3
   clear hd hkw
   by_cases hw : s.kinds = q.want
   ·have tt : (s.kinds != q.want) = false:=by rw [hw]; simp
    have tt2 : (s.kinds == q.want) = true:=by rw [hw]; simp
    have HV:=Lib.hid (show turnsV i (p,a) s = (0,{ s with ends:=s.ends.set q.at_ (i : Int),blocks:=s.blocks.dropLast }) by unfold turnsV; rw [hlast]; simp [h21,hw])
    obtain ⟨m,hm⟩ : ∃ m,s.blocks.length = m + 1:=⟨s.blocks.length - 1,by omega⟩
    have hd' : s.blocks.dropLast = s.blocks.take m:=by rw [List.dropLast_eq_take]; congr 1; omega
    have HD:=Lib.hid hd'
    have hm1 : (s.blocks.length : Int) - 1 = (m : Int):=by omega
    have hm2 : (m : Int) < (s.blocks.length : Int):=by omega
    have hm3 : (0 : Int) ≤ (m : Int):=by omega
    obtain ⟨gb,rfl⟩:=H3.out.ob.at0 hb0
    have hrun:=H3.out.ob.shortRun 200 Tryz.underlying200 (by intro wx; kernel_rfl) m (by omega)
    obtain ⟨ge,rfl⟩:=H3.out.oe.at0 (by omega)
    have hge:=HH.out.oe.ltV ge rfl
    have hgn:=fun e => HH.out.a3 ge rfl e
    obtain ⟨⟨v0,e0⟩,ef⟩:=H3.out.oe.freeR (k:=q.at_) (by show q.at_ < s.ends.length * 1; omega)
    have c5:=H3.out.cell (k:=6) rfl
    have y4:=HY3.out.cell (k:=4) rfl
    have q0 : (0 : Int) ≤ (q.at_ : Int):=by omega
    have q1 : (q.at_ : Int) < (s.ends.length : Int):=by omega
    have q2 : (s.ends.length : Int) ≤ 256:=by omega
    have hml : m ≤ s.blocks.length:=by omega
    clear hlast hqm h21 hbn hd' hw hm
    go_upto_region 18 with fail
    go_region
    obtain ⟨W4,hW4⟩ : ∃ W4,W4 = W3.setCell ⟨ge,q.at_,none⟩ (.int .i64 (i : Int)):=⟨_,rfl⟩
    have hc4 : Chg (fun k => k = ge) W3 W4:=by rw [hW4]; exact Chg.setCell _ _ _ rfl
    have ho4 : recJ.Own W4 base (.slice (some ⟨ge,0,none⟩) s.ends.length ce) (s.ends.set q.at_ (i : Int)):=by
     have:=H3.out.oe.setCell (k:=q.at_) hqa (y:=(i : Int)) (j:=0) (by decide) (u:=.int .i64 (i : Int)) rfl
     rw [show q.at_ * recJ.n + 0 = q.at_ from by show q.at_ * 1 + 0 = q.at_; omega,← hW4] at this
     exact this
    have h4:=H3.out.chgE (l:=s.ends.set q.at_ (i : Int)) (hc4.mono (fun k (hk : k = ge) => by rw [hk]; rfl)) ho4
    rw [← hW4]
    have hB34 : Below base W3 W4.drew:=h4.2.trans ((b_drew W4).mono (Nat.le_trans (Nat.le_trans hGb hG3) hc4.size))
    have H4:=Lib.hid (h4.1.below (b_drew W4))
    have HY4:=Lib.hid ((HY3.out.chg hc4 (by show ¬ (C = ge); omega)).below (b_drew W4))
    have HB4:=Lib.hid ((HB3.out.mono hGb).trans hB34)
    clear hW4 hc4 ho4 h4 hB34 e0 c5 ef
    obtain ⟨W5,hW5⟩ : ∃ W5,W5 = W4.drew:=⟨_,rfl⟩
    rw [← hW5] at H4 HY4 HB4
    rw [← hW5]
    clear hW5 x0 y1 y2 y3 y4 c3
    have c4:=H4.out.cell (k:=4) rfl
    have f4:=H4.out.free (k:=4) (by decide)
    go_upto_region 19 with fail
    go_region
    have h9:=H4.out.newB (bv':=.slice (some ⟨gb,0,none⟩) m cb) (l:=s.blocks.take m) (Chg.refl _ _) (fun k hk => by cases hk; exact .inl rfl) (H4.out.ob.short m hml)
    obtain ⟨W9,hW9⟩ : ∃ W9,W9 = W5.setCell ⟨G,4,none⟩ (.slice (some ⟨gb,0,none⟩) m cb):=⟨_,rfl⟩
    rw [← hW9] at h9 ⊢
    have H9:=Lib.hid (h9.1.below (b_drew W9))
    have HB9:=Lib.hid ((HB4.out.trans h9.2).trans ((b_drew W9).mono (Nat.le_trans h9.1.gb (Nat.le_of_lt h9.1.blk.lt))))
    clear h9 hW9 c4 f4
    go_wp2_with fail
    go_ret
    exact ⟨by rw [HV.out]; rfl,(fun _ => ⟨_,by rw [HV.out,HD.out]; exact H9.out⟩),HB9.out⟩
   ·have tt : (s.kinds != q.want) = true:=by simpa using hw
    have tt2 : (s.kinds == q.want) = false:=by simpa using hw
    have HV:=Lib.hid (show turnsV i (p,a) s = (132,s) by unfold turnsV; rw [hlast]; simp [h21,hw])
    clear hlast hqm h21 hbn hw
    go_wp2_with fail
    go_ret
    exact ⟨by rw [HV.out]; rfl,(fun e => by rw [HV.out] at e; cases e),HB3.out.mono hGb⟩
  ·have hd : q.did = false:=by simpa using hd
   have hkw : q.opn = q.want:=(HWD.out q hqm hd).symm
   rw [hkw] at y1
   rw [hd] at y3
   clear hd hkw
   by_cases hw : s.kinds = q.want
   ·have tt : (s.kinds != q.want) = false:=by rw [hw]; simp
    have tt2 : (s.kinds == q.want) = true:=by rw [hw]; simp
    have HV:=Lib.hid (show turnsV i (p,a) s = (0,{ s with ends:=s.ends.set q.at_ (i : Int),blocks:=s.blocks.dropLast }) by unfold turnsV; rw [hlast]; simp [h21,hw])
    obtain ⟨m,hm⟩ : ∃ m,s.blocks.length = m + 1:=⟨s.blocks.length - 1,by omega⟩
    have hd' : s.blocks.dropLast = s.blocks.take m:=by rw [List.dropLast_eq_take]; congr 1; omega
    have HD:=Lib.hid hd'
    have hm1 : (s.blocks.length : Int) - 1 = (m : Int):=by omega
    have hm2 : (m : Int) < (s.blocks.length : Int):=by omega
    have hm3 : (0 : Int) ≤ (m : Int):=by omega
    obtain ⟨gb,rfl⟩:=H3.out.ob.at0 hb0
    have hrun:=H3.out.ob.shortRun 200 Tryz.underlying200 (by intro wx; kernel_rfl) m (by omega)
    obtain ⟨ge,rfl⟩:=H3.out.oe.at0 (by omega)
    have hge:=HH.out.oe.ltV ge rfl
    have hgn:=fun e => HH.out.a3 ge rfl e
    obtain ⟨⟨v0,e0⟩,ef⟩:=H3.out.oe.freeR (k:=q.at_) (by show q.at_ < s.ends.length * 1; omega)
    have c5:=H3.out.cell (k:=6) rfl
    have y4:=HY3.out.cell (k:=4) rfl
    have q0 : (0 : Int) ≤ (q.at_ : Int):=by omega
    have q1 : (q.at_ : Int) < (s.ends.length : Int):=by omega
    have q2 : (s.ends.length : Int) ≤ 256:=by omega
    have hml : m ≤ s.blocks.length:=by omega
    clear hlast hqm h21 hbn hd' hw hm
    go_upto_region 18 with fail
    go_region
    obtain ⟨W4,hW4⟩ : ∃ W4,W4 = W3.setCell ⟨ge,q.at_,none⟩ (.int .i64 (i : Int)):=⟨_,rfl⟩
    have hc4 : Chg (fun k => k = ge) W3 W4:=by rw [hW4]; exact Chg.setCell _ _ _ rfl
    have ho4 : recJ.Own W4 base (.slice (some ⟨ge,0,none⟩) s.ends.length ce) (s.ends.set q.at_ (i : Int)):=by
     have:=H3.out.oe.setCell (k:=q.at_) hqa (y:=(i : Int)) (j:=0) (by decide) (u:=.int .i64 (i : Int)) rfl
     rw [show q.at_ * recJ.n + 0 = q.at_ from by show q.at_ * 1 + 0 = q.at_; omega,← hW4] at this
     exact this
    have h4:=H3.out.chgE (l:=s.ends.set q.at_ (i : Int)) (hc4.mono (fun k (hk : k = ge) => by rw [hk]; rfl)) ho4
    rw [← hW4]
    have hB34 : Below base W3 W4.drew:=h4.2.trans ((b_drew W4).mono (Nat.le_trans (Nat.le_trans hGb hG3) hc4.size))
    have H4:=Lib.hid (h4.1.below (b_drew W4))
    have HY4:=Lib.hid ((HY3.out.chg hc4 (by show ¬ (C = ge); omega)).below (b_drew W4))
    have HB4:=Lib.hid ((HB3.out.mono hGb).trans hB34)
    clear hW4 hc4 ho4 h4 hB34 e0 c5 ef
    obtain ⟨W5,hW5⟩ : ∃ W5,W5 = W4.drew:=⟨_,rfl⟩
    rw [← hW5] at H4 HY4 HB4
    rw [← hW5]
    clear hW5 x0 y1 y2 y3 y4 c3
    have c4:=H4.out.cell (k:=4) rfl
    have f4:=H4.out.free (k:=4) (by decide)
    go_upto_region 19 with fail
    go_region
    have h9:=H4.out.newB (bv':=.slice (some ⟨gb,0,none⟩) m cb) (l:=s.blocks.take m) (Chg.refl _ _) (fun k hk => by cases hk; exact .inl rfl) (H4.out.ob.short m hml)
    obtain ⟨W9,hW9⟩ : ∃ W9,W9 = W5.setCell ⟨G,4,none⟩ (.slice (some ⟨gb,0,none⟩) m cb):=⟨_,rfl⟩
    rw [← hW9] at h9 ⊢
    have H9:=Lib.hid (h9.1.below (b_drew W9))
    have HB9:=Lib.hid ((HB4.out.trans h9.2).trans ((b_drew W9).mono (Nat.le_trans h9.1.gb (Nat.le_of_lt h9.1.blk.lt))))
    clear h9 hW9 c4 f4
    go_wp2_with fail
    go_ret
    exact ⟨by rw [HV.out]; rfl,(fun _ => ⟨_,by rw [HV.out,HD.out]; exact H9.out⟩),HB9.out⟩
   ·have tt : (s.kinds != q.want) = true:=by simpa using hw
    have tt2 : (s.kinds == q.want) = false:=by simpa using hw
    have HV:=Lib.hid (show turnsV i (p,a) s = (132,s) by unfold turnsV; rw [hlast]; simp [h21,hw])
    clear hlast hqm h21 hbn hw
    go_wp2_with fail
    go_ret
    exact ⟨by rw [HV.out]; rfl,(fun e => by rw [HV.out] at e; cases e),HB3.out.mono hGb⟩
 have u19 : ((p.toNat : Int) == 19) = false:=u8_ne (by decide) h19
 have u22 : ((p.toNat : Int) == 22) = false:=u8_ne (by decide) h22
 have u20 : ((p.toNat : Int) == 20) = false:=u8_ne (by decide) h20
 have u21 : ((p.toNat : Int) == 21) = false:=u8_ne (by decide) h21
 have HV:=Lib.hid (show turnsV i (p,a) s = (0,s) by unfold turnsV; simp [h19,h22,h20,h21])
 clear h19 h22 h20 h21
 go_wp2_with fail
 go_ret
 exact ⟨by rw [HV.out]; rfl,(fun _ => ⟨_,by rw [HV.out]; exact H3.out⟩),HB3.out.mono hGb⟩
end
end Go.Proofs.YtehllcbnheicoaaGreatDoor
