/- Lemmas for FoldTells, part 8: walks of the functions that it reaches, and the plain laws behind them. -/
import Derived.Test.YtehllcbnheicoaaGreatDoorFoldTellsK6
set_option linter.unusedSimpArgs false
set_option linter.unusedVariables false
set_option maxRecDepth 100000
set_option maxHeartbeats 16000000
namespace Go.Proofs.YtehllcbnheicoaaGreatDoor
open Go.RowKit Oct
attribute [local irreducible] wpG
section
variable {nt inp : Nat} {role : UInt8} {bl : List Vb} {a : UInt8}
theorem th1 : thereV nt inp role bl (1,a) = if nt ≤ a.toNat then 3 else 0:=by unfold thereV; simp
theorem th3 : thereV nt inp role bl (3,a) = if inp ≤ a.toNat then 3 else 0:=by unfold thereV; simp
theorem th17 : thereV nt inp role bl (17,a) = if 8 ≤ a.toNat then 3 else 0:=by unfold thereV; simp
theorem th18 : thereV nt inp role bl (18,a) = if 8 ≤ a.toNat then 3 else 0:=by unfold thereV; simp
theorem th23 : thereV nt inp role bl (23,a) = if role = 1 then 0 else 133:=by unfold thereV; by_cases h : role = 1 <;> simp [h]
theorem th20 : thereV nt inp role bl (20,a) = if elseBad bl.getLast? = true then 132 else 0:=by unfold thereV; simp
theorem th21 : thereV nt inp role bl (21,a) = if bl = [] then 132 else 0:=by unfold thereV; simp
theorem th19 : thereV nt inp role bl (19,a) = if 8 ≤ bl.length then 132 else 0:=by unfold thereV; simp
theorem th22 : thereV nt inp role bl (22,a) = if 8 ≤ bl.length then 132 else 0:=by unfold thereV; simp
theorem thN {p : UInt8} (h1 : p ≠ 1) (h3 : p ≠ 3) (h17 : p ≠ 17) (h18 : p ≠ 18) (h23 : p ≠ 23) (h20 : p ≠ 20) (h21 : p ≠ 21) (h19 : p ≠ 19) (h22 : p ≠ 22) : thereV nt inp role bl (p,a) = 0:=by unfold thereV; simp [h1,h3,h17,h18,h23,h20,h21,h19,h22]
end
theorem u8_ne {p : UInt8} {k : Nat} (hk : k < 256) (h : p ≠ UInt8.ofNat k) : ((p.toNat : Int) == (k : Int)) = false:=by
 rw [beq_eq_false_iff_ne]
 intro e
 have e2 : p.toNat = k:=by omega
 exact h (UInt8.toNat_inj.1 (by rw [e2]; show k = k % 256; omega))
section
variable {w : World} {base G : Nat} {tv cv bv sv ev : Value} {inp : Nat} {role : UInt8} {s : Vs}
theorem VG.last (h : VG w base G tv cv inp role s bv sv ev) {g c m : Nat} (hv : bv = .slice (some ⟨g,0,none⟩) s.blocks.length c) (hm : s.blocks.length = m + 1) : ∃ b,s.blocks.getLast? = some b ∧ s.blocks[m]? = some b ∧ w.cell? ⟨g,m * 5,none⟩ = some (.int .u8 (b.op.toNat : Int)) ∧ w.cell? ⟨g,m * 5 + 1,none⟩ = some (.string (bs b.want)) ∧
  w.cell? ⟨g,m * 5 + 2,none⟩ = some (.string (bs b.opn)) ∧ w.cell? ⟨g,m * 5 + 3,none⟩ = some (.int .i64 (b.at_ : Int)) ∧ w.cell? ⟨g,m * 5 + 4,none⟩ = some (.bool b.did):=by
 have hml : m < s.blocks.length:=by omega
 obtain ⟨a,c',hv',_,hc⟩:=h.ob.row.open
 rw [hv] at hv'
 injection hv' with e1 _ _
 obtain ⟨b',off,ha,hu⟩:=hc m hml
 rw [← e1] at ha
 injection ha with ha
 injection ha with e2 e3 _
 subst e2 e3
 have u0:=hu 0 _ rfl
 have u1:=hu 1 _ rfl
 have u2:=hu 2 _ rfl
 have u3:=hu 3 _ rfl
 have u4:=hu 4 _ rfl
 rw [Nat.zero_add] at u0 u1 u2 u3 u4
 exact ⟨s.blocks[m],by rw [List.getLast?_eq_getElem?,hm]; simp [hml],List.getElem?_eq_getElem hml,u0,u1,u2,u3,u4⟩
end
section
variable {w : World} {base G : Nat} {cv bv sv ev : Value} {inp : Nat} {role : UInt8} {s : Vs} {nt ct : Nat} {at_ : Option Addr}
theorem there_any (h : VG w base G (.slice at_ nt ct) cv inp role s bv sv ev) (p a : UInt8) (hl : s.blocks.length ≤ 1000) (hn : nt ≤ 1000) (hi : inp ≤ 1000) :
  Calls Tryz.prog 175 #[.pointer (some ⟨G,0,none⟩),.agg #[.int .u8 (p.toNat : Int),.int .u8 (a.toNat : Int)]] w fun e w' => e = .returned (.int .i64 ((thereV nt inp role s.blocks (p,a) : Nat) : Int)) ∧ Below w.heap.size w w':=by
 have HH:=Lib.hid h
 have hgw : G < w.heap.size:=h.blk.lt
 obtain ⟨W1,hW1⟩ : ∃ W1,W1 = w.alloc (.cells #[.int .u8 (p.toNat : Int),.int .u8 (a.toNat : Int)] 97):=⟨_,rfl⟩
 have hb1 : Below w.heap.size w W1:=by rw [hW1]; exact b_alloc _ _
 have hx : Blk W1 w.heap.size 97 [.int .u8 (p.toNat : Int),.int .u8 (a.toNat : Int)]:=by rw [hW1]; exact Blk.new w _ _
 have h1:=h.below hb1
 have x0:=hx.cell (k:=0) rfl
 have x1:=hx.cell (k:=1) rfl
 have g0:=h1.cell (k:=0) rfl
 have g2:=h1.cell (k:=2) rfl
 have g3:=h1.cell (k:=3) rfl
 have HB1:=Lib.hid hb1
 have HT:=Lib.hid (fun w' (hB : Below W1.heap.size W1 w') => stop_any (h1.below hB) hl)
 have HLN:=Lib.hid (fun w' (hB : Below W1.heap.size W1 w') => slen_any (h1.below hB))
 have HLA:=Lib.hid (fun w' (hB : Below W1.heap.size W1 w') {g c m : Nat} (hv : bv = .slice (some ⟨g,0,none⟩) s.blocks.length c) (hm : s.blocks.length = m + 1) => (h1.below hB).last hv hm)
 have a1 : (a.toNat : Int) < 256:=by have:=a.toNat_lt; omega
 have a0 : (0 : Int) ≤ (a.toNat : Int):=by omega
 have n1 : (nt : Int) ≤ 1000:=by omega
 have n2 : (inp : Int) ≤ 1000:=by omega
 have n3 : (s.blocks.length : Int) ≤ 1000:=by omega
 clear h h1 hx hb1
 by_cases h1 : p = 1
 ·subst h1
  rw [show (((1 : UInt8).toNat : Nat) : Int) = 1 from rfl] at hW1 x0 ⊢
  by_cases hq : nt ≤ a.toNat
  ·have q1 : (nt : Int) ≤ (a.toNat : Int):=by omega
   have HE:=Lib.hid (show thereV nt inp role s.blocks (1,a) = 3 by rw [th1,if_pos hq])
   clear hq
   go_enter Tryz.func175,Tryz.ntmps175
   go_upto_region 1 with fail
   rw [← hW1]
   clear hW1
   refine region_known [(1,.exact _ (.int .u8 1)),(5,.exact _ (.int .u8 (a.toNat : Int))),(11,.exact _ (.slice at_ nt ct)),(17,.exact _ (.int .u8 1)),(21,.exact _ (.int .u8 (a.toNat : Int))),(26,.exact _ (.int .i64 (inp : Int))),(32,.exact _ (.int .u8 1)),(36,.exact _ (.int .u8 1)),(41,.exact _ (.int .u8 (a.toNat : Int)))] (by kernel_rfl) (by kernel_rfl) ?_
   (repeat (first | (refine wpG_skip (by kernel_rfl) (fun K hK => ?_); go_big_quiet_skip; refine wpQuiet_nil (hK _ ?_); clear hK K) | (refine wpG_quiet (by rfl) (by rfl) (fun K hK => ?_); go_big_quiet_want; go_big_quiet_op; go_big_quiet_on; refine wpQuiet_nil (hK _ ?_); clear hK K) | (refine wpG_nilOk rfl rfl rfl (by kernel_rfl) (fun K hK => ?_); go_simp; refine hK _ ?_; clear hK K)))
   repeat (refine wpG_exact rfl (by kernel_rfl) (fun w' G hB hS hG => ?_) (fun K hK => ?_); (have y0:=Below.keeps hB x0; have y1:=Below.keeps hB x1; have y2:=Below.keeps hB g0; have y3:=Below.keeps hB g2; go_simp; exact hG _ (Bel.refl _)); go_simp; refine hK _ ?_; clear hK K; (repeat (first | (refine wpG_skip (by kernel_rfl) (fun K hK => ?_); go_big_quiet_skip; refine wpQuiet_nil (hK _ ?_); clear hK K) | (refine wpG_quiet (by rfl) (by rfl) (fun K hK => ?_); go_big_quiet_want; go_big_quiet_op; go_big_quiet_on; refine wpQuiet_nil (hK _ ?_); clear hK K) | (refine wpG_nilOk rfl rfl rfl (by kernel_rfl) (fun K hK => ?_); go_simp; refine hK _ ?_; clear hK K))))
   refine wpG_nilV3 ?_
   intro w2 hB2 hA2
   have z0:=Below.keeps hB2 x0
   have z1:=Below.keeps hB2 x1
   have z3:=Below.keeps hB2 g3
   have HB2:=Lib.hid hB2
   clear hB2 hA2 x0 x1 g0 g2 g3
   go_wp2_with fail
   refine (HT.out _ HB2.out).mono ?_
   rintro e w3 ⟨htop,hB3⟩
   have HTOP:=Lib.hid htop
   have HB3:=Lib.hid (bt HB2.out hB3)
   have u0:=Below.keeps hB3 z0
   have u1:=Below.keeps hB3 z1
   have u3:=Below.keeps hB3 z3
   clear htop hB3 z0 z1 z3
   obtain ⟨tp,rfl⟩ : ∃ tp,e = .returned tp:=by rcases HTOP.out with ⟨_,rfl⟩ | ⟨_,_,_,_,_,rfl⟩ <;> exact ⟨_,rfl⟩
   clear HTOP
   go_wp2_with fail
   go_ret
   exact ⟨by rw [HE.out]; rfl,bt HB1.out HB3.out⟩
  ·have q1 : ¬ (nt : Int) ≤ (a.toNat : Int):=by omega
   have HE:=Lib.hid (show thereV nt inp role s.blocks (1,a) = 0 by rw [th1,if_neg hq])
   clear hq
   go_enter Tryz.func175,Tryz.ntmps175
   go_upto_region 1 with fail
   rw [← hW1]
   clear hW1
   refine region_known [(1,.exact _ (.int .u8 1)),(5,.exact _ (.int .u8 (a.toNat : Int))),(11,.exact _ (.slice at_ nt ct)),(17,.exact _ (.int .u8 1)),(21,.exact _ (.int .u8 (a.toNat : Int))),(26,.exact _ (.int .i64 (inp : Int))),(32,.exact _ (.int .u8 1)),(36,.exact _ (.int .u8 1)),(41,.exact _ (.int .u8 (a.toNat : Int)))] (by kernel_rfl) (by kernel_rfl) ?_
   (repeat (first | (refine wpG_skip (by kernel_rfl) (fun K hK => ?_); go_big_quiet_skip; refine wpQuiet_nil (hK _ ?_); clear hK K) | (refine wpG_quiet (by rfl) (by rfl) (fun K hK => ?_); go_big_quiet_want; go_big_quiet_op; go_big_quiet_on; refine wpQuiet_nil (hK _ ?_); clear hK K) | (refine wpG_nilOk rfl rfl rfl (by kernel_rfl) (fun K hK => ?_); go_simp; refine hK _ ?_; clear hK K)))
   repeat (refine wpG_exact rfl (by kernel_rfl) (fun w' G hB hS hG => ?_) (fun K hK => ?_); (have y0:=Below.keeps hB x0; have y1:=Below.keeps hB x1; have y2:=Below.keeps hB g0; have y3:=Below.keeps hB g2; go_simp; exact hG _ (Bel.refl _)); go_simp; refine hK _ ?_; clear hK K; (repeat (first | (refine wpG_skip (by kernel_rfl) (fun K hK => ?_); go_big_quiet_skip; refine wpQuiet_nil (hK _ ?_); clear hK K) | (refine wpG_quiet (by rfl) (by rfl) (fun K hK => ?_); go_big_quiet_want; go_big_quiet_op; go_big_quiet_on; refine wpQuiet_nil (hK _ ?_); clear hK K) | (refine wpG_nilOk rfl rfl rfl (by kernel_rfl) (fun K hK => ?_); go_simp; refine hK _ ?_; clear hK K))))
   refine wpG_nilV3 ?_
   intro w2 hB2 hA2
   have z0:=Below.keeps hB2 x0
   have z1:=Below.keeps hB2 x1
   have z3:=Below.keeps hB2 g3
   have HB2:=Lib.hid hB2
   clear hB2 hA2 x0 x1 g0 g2 g3
   go_wp2_with fail
   refine (HT.out _ HB2.out).mono ?_
   rintro e w3 ⟨htop,hB3⟩
   have HTOP:=Lib.hid htop
   have HB3:=Lib.hid (bt HB2.out hB3)
   have u0:=Below.keeps hB3 z0
   have u1:=Below.keeps hB3 z1
   have u3:=Below.keeps hB3 z3
   clear htop hB3 z0 z1 z3
   obtain ⟨tp,rfl⟩ : ∃ tp,e = .returned tp:=by rcases HTOP.out with ⟨_,rfl⟩ | ⟨_,_,_,_,_,rfl⟩ <;> exact ⟨_,rfl⟩
   clear HTOP
   go_wp2_with fail
   go_ret
   exact ⟨by rw [HE.out]; rfl,bt HB1.out HB3.out⟩
 by_cases h3 : p = 3
 ·subst h3
  rw [show (((3 : UInt8).toNat : Nat) : Int) = 3 from rfl] at hW1 x0 ⊢
  by_cases hq : inp ≤ a.toNat
  ·have q1 : (inp : Int) ≤ (a.toNat : Int):=by omega
   have HE:=Lib.hid (show thereV nt inp role s.blocks (3,a) = 3 by rw [th3,if_pos hq])
   clear hq
   go_enter Tryz.func175,Tryz.ntmps175
   go_upto_region 1 with fail
   rw [← hW1]
   clear hW1
   refine region_known [(1,.exact _ (.int .u8 3)),(5,.exact _ (.int .u8 (a.toNat : Int))),(11,.exact _ (.slice at_ nt ct)),(17,.exact _ (.int .u8 3)),(21,.exact _ (.int .u8 (a.toNat : Int))),(26,.exact _ (.int .i64 (inp : Int))),(32,.exact _ (.int .u8 3)),(36,.exact _ (.int .u8 3)),(41,.exact _ (.int .u8 (a.toNat : Int)))] (by kernel_rfl) (by kernel_rfl) ?_
   (repeat (first | (refine wpG_skip (by kernel_rfl) (fun K hK => ?_); go_big_quiet_skip; refine wpQuiet_nil (hK _ ?_); clear hK K) | (refine wpG_quiet (by rfl) (by rfl) (fun K hK => ?_); go_big_quiet_want; go_big_quiet_op; go_big_quiet_on; refine wpQuiet_nil (hK _ ?_); clear hK K) | (refine wpG_nilOk rfl rfl rfl (by kernel_rfl) (fun K hK => ?_); go_simp; refine hK _ ?_; clear hK K)))
   repeat (refine wpG_exact rfl (by kernel_rfl) (fun w' G hB hS hG => ?_) (fun K hK => ?_); (have y0:=Below.keeps hB x0; have y1:=Below.keeps hB x1; have y2:=Below.keeps hB g0; have y3:=Below.keeps hB g2; go_simp; exact hG _ (Bel.refl _)); go_simp; refine hK _ ?_; clear hK K; (repeat (first | (refine wpG_skip (by kernel_rfl) (fun K hK => ?_); go_big_quiet_skip; refine wpQuiet_nil (hK _ ?_); clear hK K) | (refine wpG_quiet (by rfl) (by rfl) (fun K hK => ?_); go_big_quiet_want; go_big_quiet_op; go_big_quiet_on; refine wpQuiet_nil (hK _ ?_); clear hK K) | (refine wpG_nilOk rfl rfl rfl (by kernel_rfl) (fun K hK => ?_); go_simp; refine hK _ ?_; clear hK K))))
   refine wpG_nilV3 ?_
   intro w2 hB2 hA2
   have z0:=Below.keeps hB2 x0
   have z1:=Below.keeps hB2 x1
   have z3:=Below.keeps hB2 g3
   have HB2:=Lib.hid hB2
   clear hB2 hA2 x0 x1 g0 g2 g3
   go_wp2_with fail
   refine (HT.out _ HB2.out).mono ?_
   rintro e w3 ⟨htop,hB3⟩
   have HTOP:=Lib.hid htop
   have HB3:=Lib.hid (bt HB2.out hB3)
   have u0:=Below.keeps hB3 z0
   have u1:=Below.keeps hB3 z1
   have u3:=Below.keeps hB3 z3
   clear htop hB3 z0 z1 z3
   obtain ⟨tp,rfl⟩ : ∃ tp,e = .returned tp:=by rcases HTOP.out with ⟨_,rfl⟩ | ⟨_,_,_,_,_,rfl⟩ <;> exact ⟨_,rfl⟩
   clear HTOP
   go_wp2_with fail
   go_ret
   exact ⟨by rw [HE.out]; rfl,bt HB1.out HB3.out⟩
  ·have q1 : ¬ (inp : Int) ≤ (a.toNat : Int):=by omega
   have HE:=Lib.hid (show thereV nt inp role s.blocks (3,a) = 0 by rw [th3,if_neg hq])
   clear hq
   go_enter Tryz.func175,Tryz.ntmps175
   go_upto_region 1 with fail
   rw [← hW1]
   clear hW1
   refine region_known [(1,.exact _ (.int .u8 3)),(5,.exact _ (.int .u8 (a.toNat : Int))),(11,.exact _ (.slice at_ nt ct)),(17,.exact _ (.int .u8 3)),(21,.exact _ (.int .u8 (a.toNat : Int))),(26,.exact _ (.int .i64 (inp : Int))),(32,.exact _ (.int .u8 3)),(36,.exact _ (.int .u8 3)),(41,.exact _ (.int .u8 (a.toNat : Int)))] (by kernel_rfl) (by kernel_rfl) ?_
   (repeat (first | (refine wpG_skip (by kernel_rfl) (fun K hK => ?_); go_big_quiet_skip; refine wpQuiet_nil (hK _ ?_); clear hK K) | (refine wpG_quiet (by rfl) (by rfl) (fun K hK => ?_); go_big_quiet_want; go_big_quiet_op; go_big_quiet_on; refine wpQuiet_nil (hK _ ?_); clear hK K) | (refine wpG_nilOk rfl rfl rfl (by kernel_rfl) (fun K hK => ?_); go_simp; refine hK _ ?_; clear hK K)))
   repeat (refine wpG_exact rfl (by kernel_rfl) (fun w' G hB hS hG => ?_) (fun K hK => ?_); (have y0:=Below.keeps hB x0; have y1:=Below.keeps hB x1; have y2:=Below.keeps hB g0; have y3:=Below.keeps hB g2; go_simp; exact hG _ (Bel.refl _)); go_simp; refine hK _ ?_; clear hK K; (repeat (first | (refine wpG_skip (by kernel_rfl) (fun K hK => ?_); go_big_quiet_skip; refine wpQuiet_nil (hK _ ?_); clear hK K) | (refine wpG_quiet (by rfl) (by rfl) (fun K hK => ?_); go_big_quiet_want; go_big_quiet_op; go_big_quiet_on; refine wpQuiet_nil (hK _ ?_); clear hK K) | (refine wpG_nilOk rfl rfl rfl (by kernel_rfl) (fun K hK => ?_); go_simp; refine hK _ ?_; clear hK K))))
   refine wpG_nilV3 ?_
   intro w2 hB2 hA2
   have z0:=Below.keeps hB2 x0
   have z1:=Below.keeps hB2 x1
   have z3:=Below.keeps hB2 g3
   have HB2:=Lib.hid hB2
   clear hB2 hA2 x0 x1 g0 g2 g3
   go_wp2_with fail
   refine (HT.out _ HB2.out).mono ?_
   rintro e w3 ⟨htop,hB3⟩
   have HTOP:=Lib.hid htop
   have HB3:=Lib.hid (bt HB2.out hB3)
   have u0:=Below.keeps hB3 z0
   have u1:=Below.keeps hB3 z1
   have u3:=Below.keeps hB3 z3
   clear htop hB3 z0 z1 z3
   obtain ⟨tp,rfl⟩ : ∃ tp,e = .returned tp:=by rcases HTOP.out with ⟨_,rfl⟩ | ⟨_,_,_,_,_,rfl⟩ <;> exact ⟨_,rfl⟩
   clear HTOP
   go_wp2_with fail
   go_ret
   exact ⟨by rw [HE.out]; rfl,bt HB1.out HB3.out⟩
 by_cases h17 : p = 17
 ·subst h17
  rw [show (((17 : UInt8).toNat : Nat) : Int) = 17 from rfl] at hW1 x0 ⊢
  by_cases hq : 8 ≤ a.toNat
  ·have q1 : (8 : Int) ≤ (a.toNat : Int):=by omega
   have HE:=Lib.hid (show thereV nt inp role s.blocks (17,a) = 3 by rw [th17,if_pos hq])
   clear hq
   go_enter Tryz.func175,Tryz.ntmps175
   go_upto_region 1 with fail
   rw [← hW1]
   clear hW1
   refine region_known [(1,.exact _ (.int .u8 17)),(5,.exact _ (.int .u8 (a.toNat : Int))),(11,.exact _ (.slice at_ nt ct)),(17,.exact _ (.int .u8 17)),(21,.exact _ (.int .u8 (a.toNat : Int))),(26,.exact _ (.int .i64 (inp : Int))),(32,.exact _ (.int .u8 17)),(36,.exact _ (.int .u8 17)),(41,.exact _ (.int .u8 (a.toNat : Int)))] (by kernel_rfl) (by kernel_rfl) ?_
   (repeat (first | (refine wpG_skip (by kernel_rfl) (fun K hK => ?_); go_big_quiet_skip; refine wpQuiet_nil (hK _ ?_); clear hK K) | (refine wpG_quiet (by rfl) (by rfl) (fun K hK => ?_); go_big_quiet_want; go_big_quiet_op; go_big_quiet_on; refine wpQuiet_nil (hK _ ?_); clear hK K) | (refine wpG_nilOk rfl rfl rfl (by kernel_rfl) (fun K hK => ?_); go_simp; refine hK _ ?_; clear hK K)))
   repeat (refine wpG_exact rfl (by kernel_rfl) (fun w' G hB hS hG => ?_) (fun K hK => ?_); (have y0:=Below.keeps hB x0; have y1:=Below.keeps hB x1; have y2:=Below.keeps hB g0; have y3:=Below.keeps hB g2; go_simp; exact hG _ (Bel.refl _)); go_simp; refine hK _ ?_; clear hK K; (repeat (first | (refine wpG_skip (by kernel_rfl) (fun K hK => ?_); go_big_quiet_skip; refine wpQuiet_nil (hK _ ?_); clear hK K) | (refine wpG_quiet (by rfl) (by rfl) (fun K hK => ?_); go_big_quiet_want; go_big_quiet_op; go_big_quiet_on; refine wpQuiet_nil (hK _ ?_); clear hK K) | (refine wpG_nilOk rfl rfl rfl (by kernel_rfl) (fun K hK => ?_); go_simp; refine hK _ ?_; clear hK K))))
   refine wpG_nilV3 ?_
   intro w2 hB2 hA2
   have z0:=Below.keeps hB2 x0
   have z1:=Below.keeps hB2 x1
   have z3:=Below.keeps hB2 g3
   have HB2:=Lib.hid hB2
   clear hB2 hA2 x0 x1 g0 g2 g3
   go_wp2_with fail
   refine (HT.out _ HB2.out).mono ?_
   rintro e w3 ⟨htop,hB3⟩
   have HTOP:=Lib.hid htop
   have HB3:=Lib.hid (bt HB2.out hB3)
   have u0:=Below.keeps hB3 z0
   have u1:=Below.keeps hB3 z1
   have u3:=Below.keeps hB3 z3
   clear htop hB3 z0 z1 z3
   obtain ⟨tp,rfl⟩ : ∃ tp,e = .returned tp:=by rcases HTOP.out with ⟨_,rfl⟩ | ⟨_,_,_,_,_,rfl⟩ <;> exact ⟨_,rfl⟩
   clear HTOP
   go_wp2_with fail
   go_ret
   exact ⟨by rw [HE.out]; rfl,bt HB1.out HB3.out⟩
  ·have q1 : ¬ (8 : Int) ≤ (a.toNat : Int):=by omega
   have HE:=Lib.hid (show thereV nt inp role s.blocks (17,a) = 0 by rw [th17,if_neg hq])
   clear hq
   go_enter Tryz.func175,Tryz.ntmps175
   go_upto_region 1 with fail
   rw [← hW1]
   clear hW1
   refine region_known [(1,.exact _ (.int .u8 17)),(5,.exact _ (.int .u8 (a.toNat : Int))),(11,.exact _ (.slice at_ nt ct)),(17,.exact _ (.int .u8 17)),(21,.exact _ (.int .u8 (a.toNat : Int))),(26,.exact _ (.int .i64 (inp : Int))),(32,.exact _ (.int .u8 17)),(36,.exact _ (.int .u8 17)),(41,.exact _ (.int .u8 (a.toNat : Int)))] (by kernel_rfl) (by kernel_rfl) ?_
   (repeat (first | (refine wpG_skip (by kernel_rfl) (fun K hK => ?_); go_big_quiet_skip; refine wpQuiet_nil (hK _ ?_); clear hK K) | (refine wpG_quiet (by rfl) (by rfl) (fun K hK => ?_); go_big_quiet_want; go_big_quiet_op; go_big_quiet_on; refine wpQuiet_nil (hK _ ?_); clear hK K) | (refine wpG_nilOk rfl rfl rfl (by kernel_rfl) (fun K hK => ?_); go_simp; refine hK _ ?_; clear hK K)))
   repeat (refine wpG_exact rfl (by kernel_rfl) (fun w' G hB hS hG => ?_) (fun K hK => ?_); (have y0:=Below.keeps hB x0; have y1:=Below.keeps hB x1; have y2:=Below.keeps hB g0; have y3:=Below.keeps hB g2; go_simp; exact hG _ (Bel.refl _)); go_simp; refine hK _ ?_; clear hK K; (repeat (first | (refine wpG_skip (by kernel_rfl) (fun K hK => ?_); go_big_quiet_skip; refine wpQuiet_nil (hK _ ?_); clear hK K) | (refine wpG_quiet (by rfl) (by rfl) (fun K hK => ?_); go_big_quiet_want; go_big_quiet_op; go_big_quiet_on; refine wpQuiet_nil (hK _ ?_); clear hK K) | (refine wpG_nilOk rfl rfl rfl (by kernel_rfl) (fun K hK => ?_); go_simp; refine hK _ ?_; clear hK K))))
   refine wpG_nilV3 ?_
   intro w2 hB2 hA2
   have z0:=Below.keeps hB2 x0
   have z1:=Below.keeps hB2 x1
   have z3:=Below.keeps hB2 g3
   have HB2:=Lib.hid hB2
   clear hB2 hA2 x0 x1 g0 g2 g3
   go_wp2_with fail
   refine (HT.out _ HB2.out).mono ?_
   rintro e w3 ⟨htop,hB3⟩
   have HTOP:=Lib.hid htop
   have HB3:=Lib.hid (bt HB2.out hB3)
   have u0:=Below.keeps hB3 z0
   have u1:=Below.keeps hB3 z1
   have u3:=Below.keeps hB3 z3
   clear htop hB3 z0 z1 z3
   obtain ⟨tp,rfl⟩ : ∃ tp,e = .returned tp:=by rcases HTOP.out with ⟨_,rfl⟩ | ⟨_,_,_,_,_,rfl⟩ <;> exact ⟨_,rfl⟩
   clear HTOP
   go_wp2_with fail
   go_ret
   exact ⟨by rw [HE.out]; rfl,bt HB1.out HB3.out⟩
 by_cases h18 : p = 18
 ·subst h18
  rw [show (((18 : UInt8).toNat : Nat) : Int) = 18 from rfl] at hW1 x0 ⊢
  by_cases hq : 8 ≤ a.toNat
  ·have q1 : (8 : Int) ≤ (a.toNat : Int):=by omega
   have HE:=Lib.hid (show thereV nt inp role s.blocks (18,a) = 3 by rw [th18,if_pos hq])
   clear hq
   go_enter Tryz.func175,Tryz.ntmps175
   go_upto_region 1 with fail
   rw [← hW1]
   clear hW1
   refine region_known [(1,.exact _ (.int .u8 18)),(5,.exact _ (.int .u8 (a.toNat : Int))),(11,.exact _ (.slice at_ nt ct)),(17,.exact _ (.int .u8 18)),(21,.exact _ (.int .u8 (a.toNat : Int))),(26,.exact _ (.int .i64 (inp : Int))),(32,.exact _ (.int .u8 18)),(36,.exact _ (.int .u8 18)),(41,.exact _ (.int .u8 (a.toNat : Int)))] (by kernel_rfl) (by kernel_rfl) ?_
   (repeat (first | (refine wpG_skip (by kernel_rfl) (fun K hK => ?_); go_big_quiet_skip; refine wpQuiet_nil (hK _ ?_); clear hK K) | (refine wpG_quiet (by rfl) (by rfl) (fun K hK => ?_); go_big_quiet_want; go_big_quiet_op; go_big_quiet_on; refine wpQuiet_nil (hK _ ?_); clear hK K) | (refine wpG_nilOk rfl rfl rfl (by kernel_rfl) (fun K hK => ?_); go_simp; refine hK _ ?_; clear hK K)))
   repeat (refine wpG_exact rfl (by kernel_rfl) (fun w' G hB hS hG => ?_) (fun K hK => ?_); (have y0:=Below.keeps hB x0; have y1:=Below.keeps hB x1; have y2:=Below.keeps hB g0; have y3:=Below.keeps hB g2; go_simp; exact hG _ (Bel.refl _)); go_simp; refine hK _ ?_; clear hK K; (repeat (first | (refine wpG_skip (by kernel_rfl) (fun K hK => ?_); go_big_quiet_skip; refine wpQuiet_nil (hK _ ?_); clear hK K) | (refine wpG_quiet (by rfl) (by rfl) (fun K hK => ?_); go_big_quiet_want; go_big_quiet_op; go_big_quiet_on; refine wpQuiet_nil (hK _ ?_); clear hK K) | (refine wpG_nilOk rfl rfl rfl (by kernel_rfl) (fun K hK => ?_); go_simp; refine hK _ ?_; clear hK K))))
   refine wpG_nilV3 ?_
   intro w2 hB2 hA2
   have z0:=Below.keeps hB2 x0
   have z1:=Below.keeps hB2 x1
   have z3:=Below.keeps hB2 g3
   have HB2:=Lib.hid hB2
   clear hB2 hA2 x0 x1 g0 g2 g3
   go_wp2_with fail
   refine (HT.out _ HB2.out).mono ?_
   rintro e w3 ⟨htop,hB3⟩
   have HTOP:=Lib.hid htop
   have HB3:=Lib.hid (bt HB2.out hB3)
   have u0:=Below.keeps hB3 z0
   have u1:=Below.keeps hB3 z1
   have u3:=Below.keeps hB3 z3
   clear htop hB3 z0 z1 z3
   obtain ⟨tp,rfl⟩ : ∃ tp,e = .returned tp:=by rcases HTOP.out with ⟨_,rfl⟩ | ⟨_,_,_,_,_,rfl⟩ <;> exact ⟨_,rfl⟩
   clear HTOP
   go_wp2_with fail
   go_ret
   exact ⟨by rw [HE.out]; rfl,bt HB1.out HB3.out⟩
  ·have q1 : ¬ (8 : Int) ≤ (a.toNat : Int):=by omega
   have HE:=Lib.hid (show thereV nt inp role s.blocks (18,a) = 0 by rw [th18,if_neg hq])
   clear hq
   go_enter Tryz.func175,Tryz.ntmps175
   go_upto_region 1 with fail
   rw [← hW1]
   clear hW1
   refine region_known [(1,.exact _ (.int .u8 18)),(5,.exact _ (.int .u8 (a.toNat : Int))),(11,.exact _ (.slice at_ nt ct)),(17,.exact _ (.int .u8 18)),(21,.exact _ (.int .u8 (a.toNat : Int))),(26,.exact _ (.int .i64 (inp : Int))),(32,.exact _ (.int .u8 18)),(36,.exact _ (.int .u8 18)),(41,.exact _ (.int .u8 (a.toNat : Int)))] (by kernel_rfl) (by kernel_rfl) ?_
   (repeat (first | (refine wpG_skip (by kernel_rfl) (fun K hK => ?_); go_big_quiet_skip; refine wpQuiet_nil (hK _ ?_); clear hK K) | (refine wpG_quiet (by rfl) (by rfl) (fun K hK => ?_); go_big_quiet_want; go_big_quiet_op; go_big_quiet_on; refine wpQuiet_nil (hK _ ?_); clear hK K) | (refine wpG_nilOk rfl rfl rfl (by kernel_rfl) (fun K hK => ?_); go_simp; refine hK _ ?_; clear hK K)))
   repeat (refine wpG_exact rfl (by kernel_rfl) (fun w' G hB hS hG => ?_) (fun K hK => ?_); (have y0:=Below.keeps hB x0; have y1:=Below.keeps hB x1; have y2:=Below.keeps hB g0; have y3:=Below.keeps hB g2; go_simp; exact hG _ (Bel.refl _)); go_simp; refine hK _ ?_; clear hK K; (repeat (first | (refine wpG_skip (by kernel_rfl) (fun K hK => ?_); go_big_quiet_skip; refine wpQuiet_nil (hK _ ?_); clear hK K) | (refine wpG_quiet (by rfl) (by rfl) (fun K hK => ?_); go_big_quiet_want; go_big_quiet_op; go_big_quiet_on; refine wpQuiet_nil (hK _ ?_); clear hK K) | (refine wpG_nilOk rfl rfl rfl (by kernel_rfl) (fun K hK => ?_); go_simp; refine hK _ ?_; clear hK K))))
   refine wpG_nilV3 ?_
   intro w2 hB2 hA2
   have z0:=Below.keeps hB2 x0
   have z1:=Below.keeps hB2 x1
   have z3:=Below.keeps hB2 g3
   have HB2:=Lib.hid hB2
   clear hB2 hA2 x0 x1 g0 g2 g3
   go_wp2_with fail
   refine (HT.out _ HB2.out).mono ?_
   rintro e w3 ⟨htop,hB3⟩
   have HTOP:=Lib.hid htop
   have HB3:=Lib.hid (bt HB2.out hB3)
   have u0:=Below.keeps hB3 z0
   have u1:=Below.keeps hB3 z1
   have u3:=Below.keeps hB3 z3
   clear htop hB3 z0 z1 z3
   obtain ⟨tp,rfl⟩ : ∃ tp,e = .returned tp:=by rcases HTOP.out with ⟨_,rfl⟩ | ⟨_,_,_,_,_,rfl⟩ <;> exact ⟨_,rfl⟩
   clear HTOP
   go_wp2_with fail
   go_ret
   exact ⟨by rw [HE.out]; rfl,bt HB1.out HB3.out⟩
 by_cases h23 : p = 23
 ·subst h23
  rw [show (((23 : UInt8).toNat : Nat) : Int) = 23 from rfl] at hW1 x0 ⊢
  by_cases hq : role = 1
  ·have q1 : ((role.toNat : Int) != 1) = false:=by rw [hq]; rfl
   have HE:=Lib.hid (show thereV nt inp role s.blocks (23,a) = 0 by rw [th23,if_pos hq])
   clear hq
   go_enter Tryz.func175,Tryz.ntmps175
   go_upto_region 1 with fail
   rw [← hW1]
   clear hW1
   refine region_known [(1,.exact _ (.int .u8 23)),(5,.exact _ (.int .u8 (a.toNat : Int))),(11,.exact _ (.slice at_ nt ct)),(17,.exact _ (.int .u8 23)),(21,.exact _ (.int .u8 (a.toNat : Int))),(26,.exact _ (.int .i64 (inp : Int))),(32,.exact _ (.int .u8 23)),(36,.exact _ (.int .u8 23)),(41,.exact _ (.int .u8 (a.toNat : Int)))] (by kernel_rfl) (by kernel_rfl) ?_
   (repeat (first | (refine wpG_skip (by kernel_rfl) (fun K hK => ?_); go_big_quiet_skip; refine wpQuiet_nil (hK _ ?_); clear hK K) | (refine wpG_quiet (by rfl) (by rfl) (fun K hK => ?_); go_big_quiet_want; go_big_quiet_op; go_big_quiet_on; refine wpQuiet_nil (hK _ ?_); clear hK K) | (refine wpG_nilOk rfl rfl rfl (by kernel_rfl) (fun K hK => ?_); go_simp; refine hK _ ?_; clear hK K)))
   repeat (refine wpG_exact rfl (by kernel_rfl) (fun w' G hB hS hG => ?_) (fun K hK => ?_); (have y0:=Below.keeps hB x0; have y1:=Below.keeps hB x1; have y2:=Below.keeps hB g0; have y3:=Below.keeps hB g2; go_simp; exact hG _ (Bel.refl _)); go_simp; refine hK _ ?_; clear hK K; (repeat (first | (refine wpG_skip (by kernel_rfl) (fun K hK => ?_); go_big_quiet_skip; refine wpQuiet_nil (hK _ ?_); clear hK K) | (refine wpG_quiet (by rfl) (by rfl) (fun K hK => ?_); go_big_quiet_want; go_big_quiet_op; go_big_quiet_on; refine wpQuiet_nil (hK _ ?_); clear hK K) | (refine wpG_nilOk rfl rfl rfl (by kernel_rfl) (fun K hK => ?_); go_simp; refine hK _ ?_; clear hK K))))
   refine wpG_nilV3 ?_
   intro w2 hB2 hA2
   have z0:=Below.keeps hB2 x0
   have z1:=Below.keeps hB2 x1
   have z3:=Below.keeps hB2 g3
   have HB2:=Lib.hid hB2
   clear hB2 hA2 x0 x1 g0 g2 g3
   go_wp2_with fail
   refine (HT.out _ HB2.out).mono ?_
   rintro e w3 ⟨htop,hB3⟩
   have HTOP:=Lib.hid htop
   have HB3:=Lib.hid (bt HB2.out hB3)
   have u0:=Below.keeps hB3 z0
   have u1:=Below.keeps hB3 z1
   have u3:=Below.keeps hB3 z3
   clear htop hB3 z0 z1 z3
   obtain ⟨tp,rfl⟩ : ∃ tp,e = .returned tp:=by rcases HTOP.out with ⟨_,rfl⟩ | ⟨_,_,_,_,_,rfl⟩ <;> exact ⟨_,rfl⟩
   clear HTOP
   go_wp2_with fail
   go_ret
   exact ⟨by rw [HE.out]; rfl,bt HB1.out HB3.out⟩
  ·have q1 : ((role.toNat : Int) != 1) = true:=by
    have:=u8_ne (p:=role) (k:=1) (by decide) hq
    simpa [bne] using this
   have HE:=Lib.hid (show thereV nt inp role s.blocks (23,a) = 133 by rw [th23,if_neg hq])
   clear hq
   go_enter Tryz.func175,Tryz.ntmps175
   go_upto_region 1 with fail
   rw [← hW1]
   clear hW1
   refine region_known [(1,.exact _ (.int .u8 23)),(5,.exact _ (.int .u8 (a.toNat : Int))),(11,.exact _ (.slice at_ nt ct)),(17,.exact _ (.int .u8 23)),(21,.exact _ (.int .u8 (a.toNat : Int))),(26,.exact _ (.int .i64 (inp : Int))),(32,.exact _ (.int .u8 23)),(36,.exact _ (.int .u8 23)),(41,.exact _ (.int .u8 (a.toNat : Int)))] (by kernel_rfl) (by kernel_rfl) ?_
   (repeat (first | (refine wpG_skip (by kernel_rfl) (fun K hK => ?_); go_big_quiet_skip; refine wpQuiet_nil (hK _ ?_); clear hK K) | (refine wpG_quiet (by rfl) (by rfl) (fun K hK => ?_); go_big_quiet_want; go_big_quiet_op; go_big_quiet_on; refine wpQuiet_nil (hK _ ?_); clear hK K) | (refine wpG_nilOk rfl rfl rfl (by kernel_rfl) (fun K hK => ?_); go_simp; refine hK _ ?_; clear hK K)))
   repeat (refine wpG_exact rfl (by kernel_rfl) (fun w' G hB hS hG => ?_) (fun K hK => ?_); (have y0:=Below.keeps hB x0; have y1:=Below.keeps hB x1; have y2:=Below.keeps hB g0; have y3:=Below.keeps hB g2; go_simp; exact hG _ (Bel.refl _)); go_simp; refine hK _ ?_; clear hK K; (repeat (first | (refine wpG_skip (by kernel_rfl) (fun K hK => ?_); go_big_quiet_skip; refine wpQuiet_nil (hK _ ?_); clear hK K) | (refine wpG_quiet (by rfl) (by rfl) (fun K hK => ?_); go_big_quiet_want; go_big_quiet_op; go_big_quiet_on; refine wpQuiet_nil (hK _ ?_); clear hK K) | (refine wpG_nilOk rfl rfl rfl (by kernel_rfl) (fun K hK => ?_); go_simp; refine hK _ ?_; clear hK K))))
   refine wpG_nilV3 ?_
   intro w2 hB2 hA2
   have z0:=Below.keeps hB2 x0
   have z1:=Below.keeps hB2 x1
   have z3:=Below.keeps hB2 g3
   have HB2:=Lib.hid hB2
   clear hB2 hA2 x0 x1 g0 g2 g3
   go_wp2_with fail
   refine (HT.out _ HB2.out).mono ?_
   rintro e w3 ⟨htop,hB3⟩
   have HTOP:=Lib.hid htop
   have HB3:=Lib.hid (bt HB2.out hB3)
   have u0:=Below.keeps hB3 z0
   have u1:=Below.keeps hB3 z1
   have u3:=Below.keeps hB3 z3
   clear htop hB3 z0 z1 z3
   obtain ⟨tp,rfl⟩ : ∃ tp,e = .returned tp:=by rcases HTOP.out with ⟨_,rfl⟩ | ⟨_,_,_,_,_,rfl⟩ <;> exact ⟨_,rfl⟩
   clear HTOP
   go_wp2_with fail
   go_ret
   exact ⟨by rw [HE.out]; rfl,bt HB1.out HB3.out⟩
 by_cases h19 : p = 19
 ·subst h19
  rw [show (((19 : UInt8).toNat : Nat) : Int) = 19 from rfl] at hW1 x0 ⊢
  by_cases hq : 8 ≤ s.blocks.length
  ·have q1 : (8 : Int) ≤ (s.blocks.length : Int):=by omega
   have HE:=Lib.hid (show thereV nt inp role s.blocks (19,a) = 132 by rw [th19,if_pos hq])
   clear hq
   go_enter Tryz.func175,Tryz.ntmps175
   go_upto_region 1 with fail
   rw [← hW1]
   clear hW1
   refine region_known [(1,.exact _ (.int .u8 19)),(5,.exact _ (.int .u8 (a.toNat : Int))),(11,.exact _ (.slice at_ nt ct)),(17,.exact _ (.int .u8 19)),(21,.exact _ (.int .u8 (a.toNat : Int))),(26,.exact _ (.int .i64 (inp : Int))),(32,.exact _ (.int .u8 19)),(36,.exact _ (.int .u8 19)),(41,.exact _ (.int .u8 (a.toNat : Int)))] (by kernel_rfl) (by kernel_rfl) ?_
   (repeat (first | (refine wpG_skip (by kernel_rfl) (fun K hK => ?_); go_big_quiet_skip; refine wpQuiet_nil (hK _ ?_); clear hK K) | (refine wpG_quiet (by rfl) (by rfl) (fun K hK => ?_); go_big_quiet_want; go_big_quiet_op; go_big_quiet_on; refine wpQuiet_nil (hK _ ?_); clear hK K) | (refine wpG_nilOk rfl rfl rfl (by kernel_rfl) (fun K hK => ?_); go_simp; refine hK _ ?_; clear hK K)))
   repeat (refine wpG_exact rfl (by kernel_rfl) (fun w' G hB hS hG => ?_) (fun K hK => ?_); (have y0:=Below.keeps hB x0; have y1:=Below.keeps hB x1; have y2:=Below.keeps hB g0; have y3:=Below.keeps hB g2; go_simp; exact hG _ (Bel.refl _)); go_simp; refine hK _ ?_; clear hK K; (repeat (first | (refine wpG_skip (by kernel_rfl) (fun K hK => ?_); go_big_quiet_skip; refine wpQuiet_nil (hK _ ?_); clear hK K) | (refine wpG_quiet (by rfl) (by rfl) (fun K hK => ?_); go_big_quiet_want; go_big_quiet_op; go_big_quiet_on; refine wpQuiet_nil (hK _ ?_); clear hK K) | (refine wpG_nilOk rfl rfl rfl (by kernel_rfl) (fun K hK => ?_); go_simp; refine hK _ ?_; clear hK K))))
   refine wpG_nilV3 ?_
   intro w2 hB2 hA2
   have z0:=Below.keeps hB2 x0
   have z1:=Below.keeps hB2 x1
   have z3:=Below.keeps hB2 g3
   have HB2:=Lib.hid hB2
   clear hB2 hA2 x0 x1 g0 g2 g3
   go_wp2_with fail
   refine (HT.out _ HB2.out).mono ?_
   rintro e w3 ⟨htop,hB3⟩
   have HTOP:=Lib.hid htop
   have HB3:=Lib.hid (bt HB2.out hB3)
   have u0:=Below.keeps hB3 z0
   have u1:=Below.keeps hB3 z1
   have u3:=Below.keeps hB3 z3
   clear htop hB3 z0 z1 z3
   obtain ⟨tp,rfl⟩ : ∃ tp,e = .returned tp:=by rcases HTOP.out with ⟨_,rfl⟩ | ⟨_,_,_,_,_,rfl⟩ <;> exact ⟨_,rfl⟩
   clear HTOP
   go_wp2_with fail
   refine (HLN.out _ HB3.out).mono ?_
   rintro e w4 ⟨rfl,rfl⟩
   go_wp2_with fail
   go_ret
   exact ⟨by rw [HE.out]; rfl,bt HB1.out HB3.out⟩
  ·have q1 : ¬ (8 : Int) ≤ (s.blocks.length : Int):=by omega
   have HE:=Lib.hid (show thereV nt inp role s.blocks (19,a) = 0 by rw [th19,if_neg hq])
   clear hq
   go_enter Tryz.func175,Tryz.ntmps175
   go_upto_region 1 with fail
   rw [← hW1]
   clear hW1
   refine region_known [(1,.exact _ (.int .u8 19)),(5,.exact _ (.int .u8 (a.toNat : Int))),(11,.exact _ (.slice at_ nt ct)),(17,.exact _ (.int .u8 19)),(21,.exact _ (.int .u8 (a.toNat : Int))),(26,.exact _ (.int .i64 (inp : Int))),(32,.exact _ (.int .u8 19)),(36,.exact _ (.int .u8 19)),(41,.exact _ (.int .u8 (a.toNat : Int)))] (by kernel_rfl) (by kernel_rfl) ?_
   (repeat (first | (refine wpG_skip (by kernel_rfl) (fun K hK => ?_); go_big_quiet_skip; refine wpQuiet_nil (hK _ ?_); clear hK K) | (refine wpG_quiet (by rfl) (by rfl) (fun K hK => ?_); go_big_quiet_want; go_big_quiet_op; go_big_quiet_on; refine wpQuiet_nil (hK _ ?_); clear hK K) | (refine wpG_nilOk rfl rfl rfl (by kernel_rfl) (fun K hK => ?_); go_simp; refine hK _ ?_; clear hK K)))
   repeat (refine wpG_exact rfl (by kernel_rfl) (fun w' G hB hS hG => ?_) (fun K hK => ?_); (have y0:=Below.keeps hB x0; have y1:=Below.keeps hB x1; have y2:=Below.keeps hB g0; have y3:=Below.keeps hB g2; go_simp; exact hG _ (Bel.refl _)); go_simp; refine hK _ ?_; clear hK K; (repeat (first | (refine wpG_skip (by kernel_rfl) (fun K hK => ?_); go_big_quiet_skip; refine wpQuiet_nil (hK _ ?_); clear hK K) | (refine wpG_quiet (by rfl) (by rfl) (fun K hK => ?_); go_big_quiet_want; go_big_quiet_op; go_big_quiet_on; refine wpQuiet_nil (hK _ ?_); clear hK K) | (refine wpG_nilOk rfl rfl rfl (by kernel_rfl) (fun K hK => ?_); go_simp; refine hK _ ?_; clear hK K))))
   refine wpG_nilV3 ?_
   intro w2 hB2 hA2
   have z0:=Below.keeps hB2 x0
   have z1:=Below.keeps hB2 x1
   have z3:=Below.keeps hB2 g3
   have HB2:=Lib.hid hB2
   clear hB2 hA2 x0 x1 g0 g2 g3
   go_wp2_with fail
   refine (HT.out _ HB2.out).mono ?_
   rintro e w3 ⟨htop,hB3⟩
   have HTOP:=Lib.hid htop
   have HB3:=Lib.hid (bt HB2.out hB3)
   have u0:=Below.keeps hB3 z0
   have u1:=Below.keeps hB3 z1
   have u3:=Below.keeps hB3 z3
   clear htop hB3 z0 z1 z3
   obtain ⟨tp,rfl⟩ : ∃ tp,e = .returned tp:=by rcases HTOP.out with ⟨_,rfl⟩ | ⟨_,_,_,_,_,rfl⟩ <;> exact ⟨_,rfl⟩
   clear HTOP
   go_wp2_with fail
   refine (HLN.out _ HB3.out).mono ?_
   rintro e w4 ⟨rfl,rfl⟩
   go_wp2_with fail
   go_ret
   exact ⟨by rw [HE.out]; rfl,bt HB1.out HB3.out⟩
 by_cases h22 : p = 22
 ·subst h22
  rw [show (((22 : UInt8).toNat : Nat) : Int) = 22 from rfl] at hW1 x0 ⊢
  by_cases hq : 8 ≤ s.blocks.length
  ·have q1 : (8 : Int) ≤ (s.blocks.length : Int):=by omega
   have HE:=Lib.hid (show thereV nt inp role s.blocks (22,a) = 132 by rw [th22,if_pos hq])
   clear hq
   go_enter Tryz.func175,Tryz.ntmps175
   go_upto_region 1 with fail
   rw [← hW1]
   clear hW1
   refine region_known [(1,.exact _ (.int .u8 22)),(5,.exact _ (.int .u8 (a.toNat : Int))),(11,.exact _ (.slice at_ nt ct)),(17,.exact _ (.int .u8 22)),(21,.exact _ (.int .u8 (a.toNat : Int))),(26,.exact _ (.int .i64 (inp : Int))),(32,.exact _ (.int .u8 22)),(36,.exact _ (.int .u8 22)),(41,.exact _ (.int .u8 (a.toNat : Int)))] (by kernel_rfl) (by kernel_rfl) ?_
   (repeat (first | (refine wpG_skip (by kernel_rfl) (fun K hK => ?_); go_big_quiet_skip; refine wpQuiet_nil (hK _ ?_); clear hK K) | (refine wpG_quiet (by rfl) (by rfl) (fun K hK => ?_); go_big_quiet_want; go_big_quiet_op; go_big_quiet_on; refine wpQuiet_nil (hK _ ?_); clear hK K) | (refine wpG_nilOk rfl rfl rfl (by kernel_rfl) (fun K hK => ?_); go_simp; refine hK _ ?_; clear hK K)))
   repeat (refine wpG_exact rfl (by kernel_rfl) (fun w' G hB hS hG => ?_) (fun K hK => ?_); (have y0:=Below.keeps hB x0; have y1:=Below.keeps hB x1; have y2:=Below.keeps hB g0; have y3:=Below.keeps hB g2; go_simp; exact hG _ (Bel.refl _)); go_simp; refine hK _ ?_; clear hK K; (repeat (first | (refine wpG_skip (by kernel_rfl) (fun K hK => ?_); go_big_quiet_skip; refine wpQuiet_nil (hK _ ?_); clear hK K) | (refine wpG_quiet (by rfl) (by rfl) (fun K hK => ?_); go_big_quiet_want; go_big_quiet_op; go_big_quiet_on; refine wpQuiet_nil (hK _ ?_); clear hK K) | (refine wpG_nilOk rfl rfl rfl (by kernel_rfl) (fun K hK => ?_); go_simp; refine hK _ ?_; clear hK K))))
   refine wpG_nilV3 ?_
   intro w2 hB2 hA2
   have z0:=Below.keeps hB2 x0
   have z1:=Below.keeps hB2 x1
   have z3:=Below.keeps hB2 g3
   have HB2:=Lib.hid hB2
   clear hB2 hA2 x0 x1 g0 g2 g3
   go_wp2_with fail
   refine (HT.out _ HB2.out).mono ?_
   rintro e w3 ⟨htop,hB3⟩
   have HTOP:=Lib.hid htop
   have HB3:=Lib.hid (bt HB2.out hB3)
   have u0:=Below.keeps hB3 z0
   have u1:=Below.keeps hB3 z1
   have u3:=Below.keeps hB3 z3
   clear htop hB3 z0 z1 z3
   obtain ⟨tp,rfl⟩ : ∃ tp,e = .returned tp:=by rcases HTOP.out with ⟨_,rfl⟩ | ⟨_,_,_,_,_,rfl⟩ <;> exact ⟨_,rfl⟩
   clear HTOP
   go_wp2_with fail
   refine (HLN.out _ HB3.out).mono ?_
   rintro e w4 ⟨rfl,rfl⟩
   go_wp2_with fail
   go_ret
   exact ⟨by rw [HE.out]; rfl,bt HB1.out HB3.out⟩
  ·have q1 : ¬ (8 : Int) ≤ (s.blocks.length : Int):=by omega
   have HE:=Lib.hid (show thereV nt inp role s.blocks (22,a) = 0 by rw [th22,if_neg hq])
   clear hq
   go_enter Tryz.func175,Tryz.ntmps175
   go_upto_region 1 with fail
   rw [← hW1]
   clear hW1
   refine region_known [(1,.exact _ (.int .u8 22)),(5,.exact _ (.int .u8 (a.toNat : Int))),(11,.exact _ (.slice at_ nt ct)),(17,.exact _ (.int .u8 22)),(21,.exact _ (.int .u8 (a.toNat : Int))),(26,.exact _ (.int .i64 (inp : Int))),(32,.exact _ (.int .u8 22)),(36,.exact _ (.int .u8 22)),(41,.exact _ (.int .u8 (a.toNat : Int)))] (by kernel_rfl) (by kernel_rfl) ?_
   (repeat (first | (refine wpG_skip (by kernel_rfl) (fun K hK => ?_); go_big_quiet_skip; refine wpQuiet_nil (hK _ ?_); clear hK K) | (refine wpG_quiet (by rfl) (by rfl) (fun K hK => ?_); go_big_quiet_want; go_big_quiet_op; go_big_quiet_on; refine wpQuiet_nil (hK _ ?_); clear hK K) | (refine wpG_nilOk rfl rfl rfl (by kernel_rfl) (fun K hK => ?_); go_simp; refine hK _ ?_; clear hK K)))
   repeat (refine wpG_exact rfl (by kernel_rfl) (fun w' G hB hS hG => ?_) (fun K hK => ?_); (have y0:=Below.keeps hB x0; have y1:=Below.keeps hB x1; have y2:=Below.keeps hB g0; have y3:=Below.keeps hB g2; go_simp; exact hG _ (Bel.refl _)); go_simp; refine hK _ ?_; clear hK K; (repeat (first | (refine wpG_skip (by kernel_rfl) (fun K hK => ?_); go_big_quiet_skip; refine wpQuiet_nil (hK _ ?_); clear hK K) | (refine wpG_quiet (by rfl) (by rfl) (fun K hK => ?_); go_big_quiet_want; go_big_quiet_op; go_big_quiet_on; refine wpQuiet_nil (hK _ ?_); clear hK K) | (refine wpG_nilOk rfl rfl rfl (by kernel_rfl) (fun K hK => ?_); go_simp; refine hK _ ?_; clear hK K))))
   refine wpG_nilV3 ?_
   intro w2 hB2 hA2
   have z0:=Below.keeps hB2 x0
   have z1:=Below.keeps hB2 x1
   have z3:=Below.keeps hB2 g3
   have HB2:=Lib.hid hB2
   clear hB2 hA2 x0 x1 g0 g2 g3
   go_wp2_with fail
   refine (HT.out _ HB2.out).mono ?_
   rintro e w3 ⟨htop,hB3⟩
   have HTOP:=Lib.hid htop
   have HB3:=Lib.hid (bt HB2.out hB3)
   have u0:=Below.keeps hB3 z0
   have u1:=Below.keeps hB3 z1
   have u3:=Below.keeps hB3 z3
   clear htop hB3 z0 z1 z3
   obtain ⟨tp,rfl⟩ : ∃ tp,e = .returned tp:=by rcases HTOP.out with ⟨_,rfl⟩ | ⟨_,_,_,_,_,rfl⟩ <;> exact ⟨_,rfl⟩
   clear HTOP
   go_wp2_with fail
   refine (HLN.out _ HB3.out).mono ?_
   rintro e w4 ⟨rfl,rfl⟩
   go_wp2_with fail
   go_ret
   exact ⟨by rw [HE.out]; rfl,bt HB1.out HB3.out⟩
 by_cases h21 : p = 21
 ·subst h21
  rw [show (((21 : UInt8).toNat : Nat) : Int) = 21 from rfl] at hW1 x0 ⊢
  go_enter Tryz.func175,Tryz.ntmps175
  go_upto_region 1 with fail
  rw [← hW1]
  clear hW1
  refine region_known [(1,.exact _ (.int .u8 21)),(5,.exact _ (.int .u8 (a.toNat : Int))),(11,.exact _ (.slice at_ nt ct)),(17,.exact _ (.int .u8 21)),(21,.exact _ (.int .u8 (a.toNat : Int))),(26,.exact _ (.int .i64 (inp : Int))),(32,.exact _ (.int .u8 21)),(36,.exact _ (.int .u8 21)),(41,.exact _ (.int .u8 (a.toNat : Int)))] (by kernel_rfl) (by kernel_rfl) ?_
  (repeat (first | (refine wpG_skip (by kernel_rfl) (fun K hK => ?_); go_big_quiet_skip; refine wpQuiet_nil (hK _ ?_); clear hK K) | (refine wpG_quiet (by rfl) (by rfl) (fun K hK => ?_); go_big_quiet_want; go_big_quiet_op; go_big_quiet_on; refine wpQuiet_nil (hK _ ?_); clear hK K) | (refine wpG_nilOk rfl rfl rfl (by kernel_rfl) (fun K hK => ?_); go_simp; refine hK _ ?_; clear hK K)))
  repeat (refine wpG_exact rfl (by kernel_rfl) (fun w' G hB hS hG => ?_) (fun K hK => ?_); (have y0:=Below.keeps hB x0; have y1:=Below.keeps hB x1; have y2:=Below.keeps hB g0; have y3:=Below.keeps hB g2; go_simp; exact hG _ (Bel.refl _)); go_simp; refine hK _ ?_; clear hK K; (repeat (first | (refine wpG_skip (by kernel_rfl) (fun K hK => ?_); go_big_quiet_skip; refine wpQuiet_nil (hK _ ?_); clear hK K) | (refine wpG_quiet (by rfl) (by rfl) (fun K hK => ?_); go_big_quiet_want; go_big_quiet_op; go_big_quiet_on; refine wpQuiet_nil (hK _ ?_); clear hK K) | (refine wpG_nilOk rfl rfl rfl (by kernel_rfl) (fun K hK => ?_); go_simp; refine hK _ ?_; clear hK K))))
  refine wpG_nilV3 ?_
  intro w2 hB2 hA2
  have z0:=Below.keeps hB2 x0
  have z1:=Below.keeps hB2 x1
  have z3:=Below.keeps hB2 g3
  have HB2:=Lib.hid hB2
  clear hB2 hA2 x0 x1 g0 g2 g3
  go_wp2_with fail
  refine (HT.out _ HB2.out).mono ?_
  rintro e w3 ⟨htop,hB3⟩
  have HTOP:=Lib.hid htop
  have HB3:=Lib.hid (bt HB2.out hB3)
  have u0:=Below.keeps hB3 z0
  have u1:=Below.keeps hB3 z1
  have u3:=Below.keeps hB3 z3
  clear htop hB3 z0 z1 z3
  rcases HTOP.out with ⟨hb,rfl⟩ | ⟨g,c,m,hv,hm,rfl⟩
  ·have HE:=Lib.hid (show thereV nt inp role s.blocks (21,a) = 132 by rw [th21,if_pos hb])
   clear HTOP hb
   go_wp2_with fail
   go_ret
   exact ⟨by rw [HE.out]; rfl,bt HB1.out HB3.out⟩
  ·have HE:=Lib.hid (show thereV nt inp role s.blocks (21,a) = 0 by rw [th21,if_neg (fun e => by rw [e] at hm; simp at hm)])
   clear HTOP hv hm
   go_wp2_with fail
   go_ret
   exact ⟨by rw [HE.out]; rfl,bt HB1.out HB3.out⟩
 by_cases h20 : p = 20
 ·subst h20
  rw [show (((20 : UInt8).toNat : Nat) : Int) = 20 from rfl] at hW1 x0 ⊢
  go_enter Tryz.func175,Tryz.ntmps175
  go_upto_region 1 with fail
  rw [← hW1]
  clear hW1
  refine region_known [(1,.exact _ (.int .u8 20)),(5,.exact _ (.int .u8 (a.toNat : Int))),(11,.exact _ (.slice at_ nt ct)),(17,.exact _ (.int .u8 20)),(21,.exact _ (.int .u8 (a.toNat : Int))),(26,.exact _ (.int .i64 (inp : Int))),(32,.exact _ (.int .u8 20)),(36,.exact _ (.int .u8 20)),(41,.exact _ (.int .u8 (a.toNat : Int)))] (by kernel_rfl) (by kernel_rfl) ?_
  (repeat (first | (refine wpG_skip (by kernel_rfl) (fun K hK => ?_); go_big_quiet_skip; refine wpQuiet_nil (hK _ ?_); clear hK K) | (refine wpG_quiet (by rfl) (by rfl) (fun K hK => ?_); go_big_quiet_want; go_big_quiet_op; go_big_quiet_on; refine wpQuiet_nil (hK _ ?_); clear hK K) | (refine wpG_nilOk rfl rfl rfl (by kernel_rfl) (fun K hK => ?_); go_simp; refine hK _ ?_; clear hK K)))
  repeat (refine wpG_exact rfl (by kernel_rfl) (fun w' G hB hS hG => ?_) (fun K hK => ?_); (have y0:=Below.keeps hB x0; have y1:=Below.keeps hB x1; have y2:=Below.keeps hB g0; have y3:=Below.keeps hB g2; go_simp; exact hG _ (Bel.refl _)); go_simp; refine hK _ ?_; clear hK K; (repeat (first | (refine wpG_skip (by kernel_rfl) (fun K hK => ?_); go_big_quiet_skip; refine wpQuiet_nil (hK _ ?_); clear hK K) | (refine wpG_quiet (by rfl) (by rfl) (fun K hK => ?_); go_big_quiet_want; go_big_quiet_op; go_big_quiet_on; refine wpQuiet_nil (hK _ ?_); clear hK K) | (refine wpG_nilOk rfl rfl rfl (by kernel_rfl) (fun K hK => ?_); go_simp; refine hK _ ?_; clear hK K))))
  refine wpG_nilV3 ?_
  intro w2 hB2 hA2
  have z0:=Below.keeps hB2 x0
  have z1:=Below.keeps hB2 x1
  have z3:=Below.keeps hB2 g3
  have HB2:=Lib.hid hB2
  clear hB2 hA2 x0 x1 g0 g2 g3
  go_wp2_with fail
  refine (HT.out _ HB2.out).mono ?_
  rintro e w3 ⟨htop,hB3⟩
  have HTOP:=Lib.hid htop
  have HB3:=Lib.hid (bt HB2.out hB3)
  have u0:=Below.keeps hB3 z0
  have u1:=Below.keeps hB3 z1
  have u3:=Below.keeps hB3 z3
  clear htop hB3 z0 z1 z3
  rcases HTOP.out with ⟨hb,rfl⟩ | ⟨g,c,m,hv,hm,rfl⟩
  ·have HE:=Lib.hid (show thereV nt inp role s.blocks (20,a) = 132 by rw [th20,hb]; rfl)
   clear HTOP hb
   go_wp2_with fail
   go_ret
   exact ⟨by rw [HE.out]; rfl,bt HB1.out HB3.out⟩
  ·obtain ⟨b,hb,_,l0,_,_,_,l4⟩:=HLA.out _ HB3.out hv hm
   clear HTOP hv hm
   by_cases h1 : b.op = 19
   ·have q1 : ((b.op.toNat : Int) != 19) = false:=by rw [h1]; rfl
    cases hd : b.did with
    | true =>
     rw [hd] at l4
     have HE:=Lib.hid (show thereV nt inp role s.blocks (20,a) = 132 by rw [th20,hb]; simp [elseBad,hd])
     clear hb hd h1
     go_wp2_with fail
     go_ret
     exact ⟨by rw [HE.out]; rfl,bt HB1.out HB3.out⟩
    | false =>
     rw [hd] at l4
     have HE:=Lib.hid (show thereV nt inp role s.blocks (20,a) = 0 by rw [th20,hb]; simp [elseBad,hd,h1])
     clear hb hd h1
     go_wp2_with fail
     go_ret
     exact ⟨by rw [HE.out]; rfl,bt HB1.out HB3.out⟩
   ·have q1 : ((b.op.toNat : Int) != 19) = true:=by
     have:=u8_ne (p:=b.op) (k:=19) (by decide) h1
     simpa [bne] using this
    have HE:=Lib.hid (show thereV nt inp role s.blocks (20,a) = 132 by rw [th20,hb]; simp [elseBad,h1])
    clear hb h1
    go_wp2_with fail
    go_ret
    exact ⟨by rw [HE.out]; rfl,bt HB1.out HB3.out⟩
 have HE:=Lib.hid (thN (nt:=nt) (inp:=inp) (role:=role) (bl:=s.blocks) (a:=a) h1 h3 h17 h18 h23 h20 h21 h19 h22)
 have e1 : ((p.toNat : Int) == 1) = false:=u8_ne (k:=1) (by decide) h1
 have e3 : ((p.toNat : Int) == 3) = false:=u8_ne (k:=3) (by decide) h3
 have e17 : ((p.toNat : Int) == 17) = false:=u8_ne (k:=17) (by decide) h17
 have e18 : ((p.toNat : Int) == 18) = false:=u8_ne (k:=18) (by decide) h18
 have e23 : ((p.toNat : Int) == 23) = false:=u8_ne (k:=23) (by decide) h23
 have e20 : ((p.toNat : Int) == 20) = false:=u8_ne (k:=20) (by decide) h20
 have e21 : ((p.toNat : Int) == 21) = false:=u8_ne (k:=21) (by decide) h21
 have e19 : ((p.toNat : Int) == 19) = false:=u8_ne (k:=19) (by decide) h19
 have e22 : ((p.toNat : Int) == 22) = false:=u8_ne (k:=22) (by decide) h22
 clear h1 h3 h17 h18 h23 h20 h21 h19 h22
 go_enter Tryz.func175,Tryz.ntmps175
 go_upto_region 1 with fail
 rw [← hW1]
 clear hW1
 refine region_known [(1,.exact _ (.int .u8 (p.toNat : Int))),(5,.exact _ (.int .u8 (a.toNat : Int))),(11,.exact _ (.slice at_ nt ct)),(17,.exact _ (.int .u8 (p.toNat : Int))),(21,.exact _ (.int .u8 (a.toNat : Int))),(26,.exact _ (.int .i64 (inp : Int))),(32,.exact _ (.int .u8 (p.toNat : Int))),(36,.exact _ (.int .u8 (p.toNat : Int))),(41,.exact _ (.int .u8 (a.toNat : Int)))] (by kernel_rfl) (by kernel_rfl) ?_
 (repeat (first | (refine wpG_skip (by kernel_rfl) (fun K hK => ?_); go_big_quiet_skip; refine wpQuiet_nil (hK _ ?_); clear hK K) | (refine wpG_quiet (by rfl) (by rfl) (fun K hK => ?_); go_big_quiet_want; go_big_quiet_op; go_big_quiet_on; refine wpQuiet_nil (hK _ ?_); clear hK K) | (refine wpG_nilOk rfl rfl rfl (by kernel_rfl) (fun K hK => ?_); go_simp; refine hK _ ?_; clear hK K)))
 repeat (refine wpG_exact rfl (by kernel_rfl) (fun w' G hB hS hG => ?_) (fun K hK => ?_); (have y0:=Below.keeps hB x0; have y1:=Below.keeps hB x1; have y2:=Below.keeps hB g0; have y3:=Below.keeps hB g2; go_simp; exact hG _ (Bel.refl _)); go_simp; refine hK _ ?_; clear hK K; (repeat (first | (refine wpG_skip (by kernel_rfl) (fun K hK => ?_); go_big_quiet_skip; refine wpQuiet_nil (hK _ ?_); clear hK K) | (refine wpG_quiet (by rfl) (by rfl) (fun K hK => ?_); go_big_quiet_want; go_big_quiet_op; go_big_quiet_on; refine wpQuiet_nil (hK _ ?_); clear hK K) | (refine wpG_nilOk rfl rfl rfl (by kernel_rfl) (fun K hK => ?_); go_simp; refine hK _ ?_; clear hK K))))
 refine wpG_nilV3 ?_
 intro w2 hB2 hA2
 have z0:=Below.keeps hB2 x0
 have z1:=Below.keeps hB2 x1
 have z3:=Below.keeps hB2 g3
 have HB2:=Lib.hid hB2
 clear hB2 hA2 x0 x1 g0 g2 g3
 go_wp2_with fail
 refine (HT.out _ HB2.out).mono ?_
 rintro e w3 ⟨htop,hB3⟩
 have HTOP:=Lib.hid htop
 have HB3:=Lib.hid (bt HB2.out hB3)
 have u0:=Below.keeps hB3 z0
 have u1:=Below.keeps hB3 z1
 have u3:=Below.keeps hB3 z3
 clear htop hB3 z0 z1 z3
 obtain ⟨tp,rfl⟩ : ∃ tp,e = .returned tp:=by rcases HTOP.out with ⟨_,rfl⟩ | ⟨_,_,_,_,_,rfl⟩ <;> exact ⟨_,rfl⟩
 clear HTOP
 go_wp2_with fail
 go_ret
 exact ⟨by rw [HE.out]; rfl,bt HB1.out HB3.out⟩
end
end Go.Proofs.YtehllcbnheicoaaGreatDoor
