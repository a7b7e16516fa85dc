/- Lemmas for FoldTells, part 25: walks of the functions that it reaches, and the plain laws behind them. -/
import Derived.Test.YtehllcbnheicoaaGreatDoorFoldTellsK23
import Derived.Test.YtehllcbnheicoaaGreatDoorFoldTellsK24
set_option linter.unusedSimpArgs false
set_option linter.unusedVariables false
set_option maxRecDepth 100000
set_option maxHeartbeats 16000000
namespace Go.Proofs.YtehllcbnheicoaaGreatDoor
open Go.RowKit Oct
attribute [local irreducible] wpG
section
variable {base G : Nat} {w w' w3 : World} {f : Rf} {at_ : Int} {st rg : List RV} {los l : List Lo} {e : Lo} {pr : List (List UInt8 × List UInt8)} {tv cv iv ev ow sv sv' lv lv' prv prv' : Value} {X : List (Pt base)}
theorem rendOp_not (y : UInt8) (pc o : Nat) (h : RM base w G ⟨tv,cv,iv,ev,ow⟩ (pc : Int) st rg los pr sv lv prv X) {own : List Int} {code : List VI} (how : recJ.Row w ow own) (hcv : recIns.Row w cv code) (hp : pc < own.length) (hol : own.length ≤ 1000) (hcl : code.length ≤ 1000) (ho : own[pc] = (o : Int)) (ho2 : o < code.length) (hne : code[o].1 ≠ 22) :
  Calls Tryz.prog 183 #[.pointer (some ⟨G,0,none⟩),.agg #[.int .u8 21,.int .u8 (y.toNat : Int)]] w fun r w' => r = .returned (.tuple #[]) ∧ Below w.heap.size w w':=by
 obtain ⟨W1,hW1⟩ : ∃ W1,W1 = w.alloc (.cells #[.int .u8 21,.int .u8 (y.toNat : Int)] 97):=⟨_,rfl⟩
 have hb1 : Below w.heap.size w W1:=by rw [hW1]; exact b_alloc _ _
 have hx : Blk W1 w.heap.size 97 [.int .u8 21,.int .u8 (y.toNat : Int)]:=by rw [hW1]; exact Blk.new w _ _
 have x0:=hx.cell (k:=0) rfl
 have h1:=h.below hb1
 obtain ⟨a1,n1,how1,hoc⟩:=recJ_openM (how.below hb1)
 obtain ⟨b1,off1,rfl,d0⟩:=hoc pc hp
 subst how1
 rw [ho] at d0
 obtain ⟨a2,n2,hcv1,-,hcc⟩:=recIns_open (hcv.below hb1)
 obtain ⟨b2,off2,rfl,d1,-⟩:=hcc o ho2
 subst hcv1
 obtain ⟨q,hq⟩ : ∃ q,q = code[o].1:=⟨_,rfl⟩
 rw [← hq] at d1 hne
 have t9 : ((q.toNat : Int) != 22) = true:=by
  rw [bne_iff_ne]
  intro hh
  exact hne (UInt8.toNat_inj.1 (by show q.toNat = 22; omega))
 have c1 : W1.cell? ⟨G,1,none⟩ = some (.slice (some ⟨b2,off2,none⟩) code.length n2):=h1.cell (k:=1) rfl
 have c4 : W1.cell? ⟨G,4,none⟩ = some (.slice (some ⟨b1,off1,none⟩) own.length n1):=h1.cell (k:=4) rfl
 have c5 : W1.cell? ⟨G,5,none⟩ = some (.int .i64 (pc : Int)):=h1.cell (k:=5) rfl
 have i0 : (0 : Int) ≤ (pc : Int):=by omega
 have i1 : (pc : Int) < (own.length : Int):=by omega
 have i2 : (own.length : Int) ≤ 1000:=by omega
 have i3 : (0 : Int) ≤ (o : Int):=by omega
 have i4 : (o : Int) < (code.length : Int):=by omega
 have i5 : (code.length : Int) ≤ 1000:=by omega
 have HB1:=Lib.hid hb1
 clear h h1 hb1 hx hoc hcc ho hq hne how hcv
 go_enter Tryz.func183,Tryz.ntmps183
 go_upto_region 1 with fail
 rw [← hW1]
 clear hW1
 go_wp2_with fail
 go_quiet (fail)
 go_wp2_with fail
 refine bodyPost_ret (results_none rfl _ _ _) rfl ?_
 exact ⟨rfl,bt HB1.out (Below.drewN' _ _)⟩
theorem rendOp_loop (y : UInt8) (pc o : Nat) (h : RM base w G ⟨tv,cv,iv,ev,ow⟩ (pc : Int) st rg (l ++ [e]) pr sv lv prv X) (hl : st.length ≤ 900) (hll : l.length ≤ 900) (hps : e.ps.length ≤ 2000) {own : List Int} {code : List VI} (how : recJ.Row w ow own) (hcv : recIns.Row w cv code) (hp : pc < own.length) (hol : own.length ≤ 1000) (hcl : code.length ≤ 1000) (ho : own[pc] = (o : Int)) (ho2 : o < code.length) (hne : code[o].1 = 22) :
  Calls Tryz.prog 183 #[.pointer (some ⟨G,0,none⟩),.agg #[.int .u8 21,.int .u8 (y.toNat : Int)]] w fun r w' => r = .returned (.tuple #[]) ∧
   ((e.ps = [] ∧ ∃ lv',RM base w' G ⟨tv,cv,iv,ev,ow⟩ (pc : Int) st rg l pr sv lv' prv X) ∨
    (∃ p ps,e.ps = p :: ps ∧ ∃ sv' lv' e',e'.at_ = e.at_ ∧ e'.ps = ps ∧ RM base w' G ⟨tv,cv,iv,ev,ow⟩ (e.at_ : Int) ((true,0,p) :: st) rg (l ++ [e']) pr sv' lv' prv X)) ∧ Below base w w':=by
 obtain ⟨W1,hW1⟩ : ∃ W1,W1 = w.alloc (.cells #[.int .u8 21,.int .u8 (y.toNat : Int)] 97):=⟨_,rfl⟩
 have hb1 : Below w.heap.size w W1:=by rw [hW1]; exact b_alloc _ _
 have hx : Blk W1 w.heap.size 97 [.int .u8 21,.int .u8 (y.toNat : Int)]:=by rw [hW1]; exact Blk.new w _ _
 have x0:=hx.cell (k:=0) rfl
 have h1:=h.below hb1
 obtain ⟨a1,n1,how1,hoc⟩:=recJ_openM (how.below hb1)
 obtain ⟨b1,off1,rfl,d0⟩:=hoc pc hp
 subst how1
 rw [ho] at d0
 obtain ⟨a2,n2,hcv1,-,hcc⟩:=recIns_open (hcv.below hb1)
 obtain ⟨b2,off2,rfl,d1,-⟩:=hcc o ho2
 subst hcv1
 obtain ⟨q,hq⟩ : ∃ q,q = code[o].1:=⟨_,rfl⟩
 rw [← hq] at d1 hne
 have t9 : ((q.toNat : Int) != 22) = false:=by rw [hne]; rfl
 have c1 : W1.cell? ⟨G,1,none⟩ = some (.slice (some ⟨b2,off2,none⟩) code.length n2):=h1.cell (k:=1) rfl
 have c4 : W1.cell? ⟨G,4,none⟩ = some (.slice (some ⟨b1,off1,none⟩) own.length n1):=h1.cell (k:=4) rfl
 have c5 : W1.cell? ⟨G,5,none⟩ = some (.int .i64 (pc : Int)):=h1.cell (k:=5) rfl
 have i0 : (0 : Int) ≤ (pc : Int):=by omega
 have i1 : (pc : Int) < (own.length : Int):=by omega
 have i2 : (own.length : Int) ≤ 1000:=by omega
 have i3 : (0 : Int) ≤ (o : Int):=by omega
 have i4 : (o : Int) < (code.length : Int):=by omega
 have i5 : (code.length : Int) ≤ 1000:=by omega
 have HB1:=Lib.hid (hb1.mono h.size)
 obtain ⟨_,⟨oa,oc,hov⟩,_⟩:=h1.slices
 rw [List.length_append,List.length_singleton] at hov
 subst hov
 have H1:=Lib.hid h1
 clear h h1 hb1 hx hoc hcc ho hq hne how hcv
 go_enter Tryz.func183,Tryz.ntmps183
 go_upto_region 1 with fail
 rw [← hW1]
 clear hW1
 go_wp2_with fail
 go_quiet (fail)
 go_upto_region 16 with fail
 obtain ⟨W2,hW2⟩ : ∃ W2,W2 = W1.drewN nq:=⟨_,rfl⟩
 have hb2 : Below W1.heap.size W1 W2:=by rw [hW2]; exact Below.drewN' _ _
 rw [← hW2]
 have hm2:=H1.out.below hb2
 have HB2:=Lib.hid (HB1.out.trans (hb2.mono H1.out.size))
 clear hW2 hb2 c1 c4 c5 d0 d1 i1 i2 i3 i4 i5 t9 x0 H1
 have c31 : W2.cell? ⟨G,31,none⟩ = some (.slice oa (l.length + 1) oc):=hm2.cellR (k:=0) rfl
 obtain ⟨a',cap,hv,-,hcc⟩:=Rec.Row.open hm2.ol.row
 obtain ⟨b,off,ha,hu⟩:=hcc l.length (by simp)
 rw [List.length_append,List.length_singleton] at hv
 injection hv with e1 e2 e3
 subst e1 e3 ha
 clear e2
 have hg : (l ++ [e])[l.length]'(by simp) = e:=by simp
 rw [hg] at hu
 have d0:=hu 0 _ rfl
 have d1:=hu 1 _ rfl
 change W2.cell? ⟨b,off + l.length * 2,none⟩ = _ at d0
 change W2.cell? ⟨b,off + l.length * 2 + 1,none⟩ = _ at d1
 obtain ⟨er,-⟩:=hm2.ow.1 e (by simp)
 obtain ⟨ea,ec,heq,-,-⟩:=recS_open er
 have hen : e.n = e.ps.length:=by unfold loV at heq; injection heq
 rw [hen] at d1
 have hGl : G < W2.heap.size:=hm2.blk.lt
 have hbl : b < W2.heap.size:=lt_of_cell d0
 have hl1 : ((l.length : Int) + 1) - 1 = (l.length : Int):=by omega
 have hl2 : (0 : Int) ≤ (l.length : Int):=by omega
 have hl3 : (l.length : Int) < (l.length : Int) + 1:=by omega
 have hl4 : (l.length : Int) ≤ 900:=by omega
 have HM2:=Lib.hid hm2
 have HEN:=Lib.hid hen
 clear hm2 hu hcc hg er heq hen
 go_region
 obtain ⟨T,hT⟩ : ∃ T,T = W2.heap.size:=⟨_,rfl⟩
 have hTb : base ≤ T:=by rw [hT]; exact HM2.out.size
 obtain ⟨W3,hW3⟩ : ∃ W3,W3 = (W2.alloc (.cells #[.int .i64 (e.at_ : Int),.slice e.ad e.ps.length e.c] 295)).drew:=⟨_,rfl⟩
 have hm3 : RM base W3 G ⟨tv,.slice (some ⟨b2,off2,none⟩) code.length n2,iv,ev,.slice (some ⟨b1,off1,none⟩) own.length n1⟩ (pc : Int) st rg (l ++ [e]) pr sv (.slice (some ⟨b,off,none⟩) (l.length + 1) oc) prv (X ++ [blkPt T hTb 295 [.int .i64 (e.at_ : Int),.slice e.ad e.ps.length e.c]]):=by
  subst hT; rw [hW3]; exact (HM2.out.add [.int .i64 (e.at_ : Int),.slice e.ad e.ps.length e.c] 295).below (b_drew _)
 have HB3:=Lib.hid (show Below base w W3 by rw [hW3]; exact HB2.out.trans ((bt (b_alloc _ _) (b_drew _)).mono HM2.out.size))
 rw [← hW3,← hT]
 clear hW3 hT HM2 HB2 d0 d1 c31 hGl hbl
 obtain ⟨g,hgv⟩:=hm3.ol.at0 (by simp)
 obtain rfl : off = 0:=by injection hgv with h1; injection h1
 clear hgv
 have c31 : W3.cell? ⟨G,31,none⟩ = some (.slice (some ⟨b,0,none⟩) (l.length + 1) oc):=hm3.cellR (k:=0) rfl
 have f31:=hm3.free (k:=31) (by decide)
 have hGl : G < W3.heap.size:=hm3.blk.lt
 have ho : recLo.Own W3 base (.slice (some ⟨b,0,none⟩) (l ++ [e]).length oc) (l ++ [e]):=by rw [List.length_append,List.length_singleton]; exact hm3.ol
 have hrun:=ho.shortRun 236 Tryz.underlying236 (by intro wx; kernel_rfl) l.length (by simp)
 rw [List.length_append,List.length_singleton] at hrun
 have hsh : recLo.Own W3.drew base (.slice (some ⟨b,0,none⟩) l.length oc) l:=by
  have:=(ho.below (b_drew W3)).short l.length (by simp)
  rwa [List.take_append_of_le_length (by simp),List.take_of_length_le (by simp)] at this
 have hn:=(hm3.below (b_drew W3)).popL (lv':=.slice (some ⟨b,0,none⟩) l.length oc) (fun k hk => hk) hsh
 have HN:=Lib.hid hn
 have HM3:=Lib.hid hm3
 clear ho hsh hn hm3
 go_wp2_with fail
 go_region
 obtain ⟨hm4,hb4⟩:=HN.out
 obtain ⟨W4,hW4⟩ : ∃ W4,W4 = (W3.setCell ⟨G,31,none⟩ (.slice (some ⟨b,0,none⟩) l.length oc)).drew:=⟨_,rfl⟩
 have hm4 : RM base W4 G ⟨tv,.slice (some ⟨b2,off2,none⟩) code.length n2,iv,ev,.slice (some ⟨b1,off1,none⟩) own.length n1⟩ (pc : Int) st rg l pr sv (.slice (some ⟨b,0,none⟩) l.length oc) prv ((X ++ [blkPt T hTb 295 [.int .i64 (e.at_ : Int),.slice e.ad e.ps.length e.c]]) ++ [loPt [e]]):=by rw [hW4]; exact hm4
 have HB4:=Lib.hid (show Below base w W4 by rw [hW4]; exact (HB3.out.trans ((b_drew W3).mono HM3.out.size)).trans hb4)
 rw [← hW4]
 clear hW4 hb4 HN HM3 HB3 c31 f31 hGl hrun
 have hTk : Blk W4 T 295 [.int .i64 (e.at_ : Int),.slice e.ad e.ps.length e.c]:=hm4.loc (p:=blkPt T hTb 295 [.int .i64 (e.at_ : Int),.slice e.ad e.ps.length e.c]) (by simp)
 have hlp : (loPt (base:=base) [e]).P W4:=hm4.loc (p:=loPt [e]) (by simp)
 have t0:=hTk.cell (k:=0) rfl
 have t1:=hTk.cell (k:=1) rfl
 have hrowe : recS.Row W4 (.slice e.ad e.ps.length e.c) e.ps:=by
  have:=(hlp.1 e (by simp)).1
  unfold loV at this
  rwa [HEN.out] at this
 have HM4:=Lib.hid hm4
 have HRE:=Lib.hid hrowe
 clear hm4 hTk hlp hrowe
 cases hps0 : e.ps with
 | nil =>
  rw [hps0] at t1
  have HPS:=Lib.hid hps0
  clear hps0
  go_wp2_with fail
  refine bodyPost_end (results_none rfl _ _ _) rfl ?_
  first
   | exact ⟨rfl,.inl ⟨HPS.out,_,HM4.out.drop.drop⟩,HB4.out⟩
   | exact ⟨rfl,.inl ⟨rfl,_,HM4.out.drop.drop⟩,HB4.out⟩
 | cons p ps =>
  have hrow:=HRE.out
  rw [hps0] at t1 hrow hps
  have hps1 : ps.length + 1 ≤ 2000:=by simpa using hps
  have HPS:=Lib.hid hps0
  obtain ⟨av',cp',hvv,-,hcc⟩:=recS_open hrow
  obtain ⟨b3,off3,hb3,d3⟩:=hcc 0 (by simp)
  injection hvv with e1 e2 e3
  rw [← e1] at hb3
  clear e1 e2 e3
  have d3 : W4.cell? ⟨b3,off3,none⟩ = some (.string (bs p)):=d3
  rw [hb3,List.length_cons] at t1
  have HAD:=Lib.hid hb3
  have i6 : (0 : Int) < (ps.length : Int) + 1:=by omega
  have i7 : (ps.length : Int) + 1 ≤ 2000:=by omega
  clear hcc hrow hps0 hps hps1 hb3
  go_upto_region 20 with (first | (go_at_call 200; refine (rpush_any (true,0,p) (HM4.out.below HC5.out) (by omega)).mono ?_; rintro r w6 ⟨rfl,⟨sv6,hm⟩,hB⟩; have HM6:=Lib.hid hm; have HB6:=Lib.hid ((HB4.out.trans (HC5.out.mono HM4.out.size)).trans hB); clear hm hB) | (go_at_call 201; refine (rtext_any p _).mono ?_; rintro r w5 ⟨rfl,hB⟩; have HC5:=Lib.hid hB; clear hB))
  clear d3 t0 t1
  have hlp : (loPt (base:=base) [e]).P w6:=HM6.out.loc (p:=loPt [e]) (by simp)
  have hTk : Blk w6 T 295 [.int .i64 (e.at_ : Int),.slice e.ad e.ps.length e.c]:=HM6.out.loc (p:=blkPt T hTb 295 [.int .i64 (e.at_ : Int),.slice e.ad e.ps.length e.c]) (by simp)
  have hrow6:=(hlp.1 e (by simp)).1
  have HLE:=Lib.hid (show (loV e).ownBlock = (Value.slice e.ad e.ps.length e.c).ownBlock by unfold loV; rw [HEN.out])
  unfold loV at hrow6
  rw [HEN.out] at hrow6
  obtain ⟨av,hav⟩ : ∃ av,av = e.ad:=⟨_,rfl⟩
  obtain ⟨cp,hcp⟩ : ∃ cp,cp = e.c:=⟨_,rfl⟩
  rw [← hav,← hcp] at hrow6 hTk HLE
  rw [HPS.out] at hrow6 hTk HLE
  have t0:=hTk.cell (k:=0) rfl
  have t1 : w6.cell? ⟨T,1,none⟩ = some (.slice av (ps.length + 1) cp):=hTk.cell (k:=1) rfl
  obtain ⟨A,C,hrun0,hrow5,hblk5⟩:=strs_cut (l:=p :: ps) (a:=av) (cap:=cp) hrow6 1 (by simp)
  have hm0 : (p :: ps).length - 1 = ps.length:=by simp
  rw [hm0] at hrun0 hrow5 hblk5
  have hrun : ∀ wx,(Instr.slice 22 (.slice av (ps.length + 1) cp) (some (.int .i64 1)) none none).run Tryz.prog wx = .ok (.slice A ps.length C) wx:=fun wx => hrun0 wx
  have hrow5 : recS.Row w6 (.slice A ps.length C) ps:=hrow5
  obtain ⟨e',he'⟩ : ∃ e' : Lo,e' = ⟨e.at_,A,ps.length,C,ps⟩:=⟨_,rfl⟩
  have HEC:=Lib.hid (show recLo.cell e' = [.int .i64 (e.at_ : Int),.slice A ps.length C] by rw [he']; rfl)
  have HEV:=Lib.hid (show loV e' = .slice A ps.length C by rw [he']; rfl)
  have HEA:=Lib.hid (show e'.at_ = e.at_ ∧ e'.ps = ps by rw [he']; exact ⟨rfl,rfl⟩)
  have HROW:=Lib.hid hrow5
  have HBLK:=Lib.hid (show ∀ k,(Value.slice A ps.length C).ownBlock = some k → (loPt (base:=base) [e]).fp k from fun k hk => ⟨e,by simp,by rw [HLE.out]; exact hblk5 k hk⟩)
  obtain ⟨_,⟨al,cl,hlv⟩,_⟩:=HM6.out.slices
  have c31 : w6.cell? ⟨G,31,none⟩ = some (.slice (some ⟨b,0,none⟩) l.length oc):=HM6.out.cellR (k:=0) rfl
  have HOL:=Lib.hid HM6.out.ol
  obtain ⟨al2,hal2⟩ : ∃ al2 : Option Addr,al2 = some ⟨b,0,none⟩:=⟨_,rfl⟩
  rw [← hal2] at c31 HOL
  have HAL2:=Lib.hid hal2
  clear hlp hTk hrow6 hav hcp hrun0 hm0 hrow5 hblk5 he' hlv hal2 i6 i7
  refine region_relA recLo l e' 16 [(4,.exact _ (.slice al2 l.length oc)),(5,kOwnA recLo w6.heap.size l e'),(7,.exact _ (.int .i64 (e.at_ : Int))),(9,.exact _ (.slice av (ps.length + 1) cp)),(10,.exact _ (.slice A ps.length C)),(12,kOneA recLo w6.heap.size l e'),(13,kOwnB recLo w6.heap.size l e')] (by kernel_rfl) (by kernel_rfl) ?_
  simp only [List.take_succ_cons,List.take_zero,List.drop_succ_cons,List.drop_zero]
  (repeat (first | (refine wpG_skip (by kernel_rfl) (fun K hK => ?_); go_big_quiet_skip; refine wpQuiet_nil (hK _ ?_); clear hK K) | (refine wpG_quiet (by rfl) (by rfl) (fun K hK => ?_); go_big_quiet_want; go_big_quiet_op; go_big_quiet_on; refine wpQuiet_nil (hK _ ?_); clear hK K) | (refine wpG_nilOk rfl rfl rfl (by kernel_rfl) (fun K hK => ?_); go_simp; refine hK _ ?_; clear hK K)))
  refine wpG_exact rfl (by kernel_rfl) (fun w' G hB hS hG => ?_) (fun K hK => ?_)
  ·have y:=Below.keeps hB c31
   go_simp; exact hG _ (RelA.refl _)
  go_simp; refine hK _ ?_; clear hK K; (repeat (first | (refine wpG_skip (by kernel_rfl) (fun K hK => ?_); go_big_quiet_skip; refine wpQuiet_nil (hK _ ?_); clear hK K) | (refine wpG_quiet (by rfl) (by rfl) (fun K hK => ?_); go_big_quiet_want; go_big_quiet_op; go_big_quiet_on; refine wpQuiet_nil (hK _ ?_); clear hK K) | (refine wpG_nilOk rfl rfl rfl (by kernel_rfl) (fun K hK => ?_); go_simp; refine hK _ ?_; clear hK K)))
  refine wpG_known (kOwnA recLo w6.heap.size l e') rfl (by kernel_rfl) (fun w' G hB hS hG => ?_) (fun x K hK => ?_)
  ·refine recLo.grow_copy _ _ 236 rfl Tryz.underlying236 w6.heap.size rfl _ l (HOL.out.below hB).row rfl (by show l.length * 32 ≤ _; omega) hB.size (fun A C w'' ho hb => hG (A,C) w'' (RelA.of_bel hB.size hb) (fun φ h => by cases h; exact ho))
  obtain ⟨ad,c⟩:=x; go_simp; refine hK _ ?_; clear hK K; (repeat (first | (refine wpG_skip (by kernel_rfl) (fun K hK => ?_); go_big_quiet_skip; refine wpQuiet_nil (hK _ ?_); clear hK K) | (refine wpG_quiet (by rfl) (by rfl) (fun K hK => ?_); go_big_quiet_want; go_big_quiet_op; go_big_quiet_on; refine wpQuiet_nil (hK _ ?_); clear hK K) | (refine wpG_nilOk rfl rfl rfl (by kernel_rfl) (fun K hK => ?_); go_simp; refine hK _ ?_; clear hK K)))
  refine wpG_exact rfl (by kernel_rfl) (fun w' G hB hS hG => ?_) (fun K hK => ?_)
  ·have y:=Below.keeps hB t0
   go_simp; exact hG _ (RelA.refl _)
  go_simp; refine hK _ ?_; clear hK K; (repeat (first | (refine wpG_skip (by kernel_rfl) (fun K hK => ?_); go_big_quiet_skip; refine wpQuiet_nil (hK _ ?_); clear hK K) | (refine wpG_quiet (by rfl) (by rfl) (fun K hK => ?_); go_big_quiet_want; go_big_quiet_op; go_big_quiet_on; refine wpQuiet_nil (hK _ ?_); clear hK K) | (refine wpG_nilOk rfl rfl rfl (by kernel_rfl) (fun K hK => ?_); go_simp; refine hK _ ?_; clear hK K)))
  refine wpG_exact rfl (by kernel_rfl) (fun w' G hB hS hG => ?_) (fun K hK => ?_)
  ·have y:=Below.keeps hB t1
   go_simp; exact hG _ (RelA.refl _)
  go_simp; refine hK _ ?_; clear hK K; (repeat (first | (refine wpG_skip (by kernel_rfl) (fun K hK => ?_); go_big_quiet_skip; refine wpQuiet_nil (hK _ ?_); clear hK K) | (refine wpG_quiet (by rfl) (by rfl) (fun K hK => ?_); go_big_quiet_want; go_big_quiet_op; go_big_quiet_on; refine wpQuiet_nil (hK _ ?_); clear hK K) | (refine wpG_nilOk rfl rfl rfl (by kernel_rfl) (fun K hK => ?_); go_simp; refine hK _ ?_; clear hK K)))
  refine wpG_exact rfl (by kernel_rfl) (fun w' G hB hS hG => ?_) (fun K hK => ?_)
  ·go_simp; exact hG _ (RelA.refl _)
  go_simp; refine hK _ ?_; clear hK K; (repeat (first | (refine wpG_skip (by kernel_rfl) (fun K hK => ?_); go_big_quiet_skip; refine wpQuiet_nil (hK _ ?_); clear hK K) | (refine wpG_quiet (by rfl) (by rfl) (fun K hK => ?_); go_big_quiet_want; go_big_quiet_op; go_big_quiet_on; refine wpQuiet_nil (hK _ ?_); clear hK K) | (refine wpG_nilOk rfl rfl rfl (by kernel_rfl) (fun K hK => ?_); go_simp; refine hK _ ?_; clear hK K)))
  refine wpG_known (kOneA recLo w6.heap.size l e') rfl (by kernel_rfl) (fun w' G hB hS hG => ?_) (fun (bb : Nat) K hK => ?_)
  ·go_simp; exact one_newA hG (by rw [HEC.out]) hB.size
  go_simp; refine hK _ ?_; clear hK K; (repeat (first | (refine wpG_skip (by kernel_rfl) (fun K hK => ?_); go_big_quiet_skip; refine wpQuiet_nil (hK _ ?_); clear hK K) | (refine wpG_quiet (by rfl) (by rfl) (fun K hK => ?_); go_big_quiet_want; go_big_quiet_op; go_big_quiet_on; refine wpQuiet_nil (hK _ ?_); clear hK K) | (refine wpG_nilOk rfl rfl rfl (by kernel_rfl) (fun K hK => ?_); go_simp; refine hK _ ?_; clear hK K)))
  refine wpG_known (kOwnB recLo w6.heap.size l e') rfl (by kernel_rfl) (fun w' G hB hS hG => ?_) (fun y K hK => ?_)
  ·have hown : recLo.Own w' w6.heap.size (.slice ad l.length c) l:=at1 hS (by kernel_rfl)
   have hone : w'.heap[bb]? = some (.cells (recLo.cell e').toArray recLo.e (0,0)):=at0 hS (by kernel_rfl)
   exact recLo.grow_app1 _ _ 236 rfl Tryz.underlying236 w6.heap.size _ l e' hown rfl bb rfl hone (by show (l.length + 1) * 32 ≤ _; omega) hB.size (fun A C w'' ho hr => hG (A,C) w'' hr (fun φ h => by cases h; exact ho))
  obtain ⟨ad2,c2⟩:=y
  go_simp; refine hK _ ?_; clear hK K; (repeat (first | (refine wpG_skip (by kernel_rfl) (fun K hK => ?_); go_big_quiet_skip; refine wpQuiet_nil (hK _ ?_); clear hK K) | (refine wpG_quiet (by rfl) (by rfl) (fun K hK => ?_); go_big_quiet_want; go_big_quiet_op; go_big_quiet_on; refine wpQuiet_nil (hK _ ?_); clear hK K) | (refine wpG_nilOk rfl rfl rfl (by kernel_rfl) (fun K hK => ?_); go_simp; refine hK _ ?_; clear hK K)))
  refine wpG_nilN ?_
  intro w7 hB7 hA7
  have ho7 : recLo.Own w7 w6.heap.size (.slice ad2 (l.length + 1) c2) (l ++ [e']):=all0 hA7
  have hn:=HM6.out.newL (w3:=w7) (lv':=.slice ad2 (l.length + 1) c2) (e:=e') (Chg.of_below hB7) (fun k hk => .inr (Rec.Own.ltV ho7 k hk).1) (ho7.baseLe HM6.out.size) (fun _ => by rw [HEV.out,HEA.out.2]; exact HROW.out.below hB7) (fun k hk => HBLK.out k (by rw [← HEV.out]; exact hk))
  have c31':=hn.2.2.2
  have f31:=hn.2.2.1
  have HN:=Lib.hid hn
  clear hn ho7 hB7 hA7 c31 t0 t1
  go_upto_region 21 with fail
  obtain ⟨W8,hW8⟩ : ∃ W8,W8 = w7.setCell ⟨G,31,none⟩ (.slice ad2 (l.length + 1) c2):=⟨_,rfl⟩
  rw [← hW8]
  have hn8:=HN.out.1
  rw [← hW8] at hn8
  have HB8:=Lib.hid (show Below base w W8 by rw [hW8]; exact HB6.out.trans HN.out.2.1)
  have hTk : Blk W8 T 295 [.int .i64 (e.at_ : Int),.slice e.ad e.ps.length e.c]:=hn8.loc (p:=blkPt T hTb 295 [.int .i64 (e.at_ : Int),.slice e.ad e.ps.length e.c]) (by simp)
  have t0:=hTk.cell (k:=0) rfl
  have c5:=hn8.cell (k:=5) rfl
  have f5:=hn8.free (k:=5) (by decide)
  have HN8:=Lib.hid hn8
  clear hn8 hTk hW8 HN c31' f31
  go_wp2_with fail
  refine bodyPost_end (results_none rfl _ _ _) rfl ?_
  obtain ⟨m9,b9⟩:=HN8.out.setAt (e.at_ : Int)
  first
   | exact ⟨rfl,.inr ⟨p,ps,HPS.out,_,_,e',HEA.out.1,HEA.out.2,m9.drop⟩,HB8.out.trans b9⟩
   | exact ⟨rfl,.inr ⟨p,ps,rfl,_,_,e',HEA.out.1,HEA.out.2,m9.drop⟩,HB8.out.trans b9⟩
end
end Go.Proofs.YtehllcbnheicoaaGreatDoor
namespace Go.Proofs.YtehllcbnheicoaaGreatDoor
open Go.RowKit Oct
attribute [local irreducible] wpG
section
variable {base G : Nat} {w w' w3 : World} {f : Rf} {at_ : Int} {st rg : List RV} {los : List Lo} {pr : List (List UInt8 × List UInt8)} {sv sv' lv lv' prv prv' : Value} {X : List (Pt base)}
theorem remit_full (y : UInt8) (h : RM base w G f at_ st rg los pr sv lv prv X) (hp : 256 ≤ pr.length) (hp2 : pr.length ≤ 256) :
  Calls Tryz.prog 182 #[.pointer (some ⟨G,0,none⟩),.agg #[.int .u8 23,.int .u8 (y.toNat : Int)]] w fun e w' => e = .returned (.int .i64 4) ∧ Below base w w':=by
 obtain ⟨_,_,pa,pc,rfl⟩:=h.slices
 obtain ⟨W1,hW1⟩ : ∃ W1,W1 = w.alloc (.cells #[.int .u8 23,.int .u8 (y.toNat : Int)] 97):=⟨_,rfl⟩
 have hb1 : Below w.heap.size w W1:=by rw [hW1]; exact b_alloc _ _
 have hx : Blk W1 w.heap.size 97 [.int .u8 23,.int .u8 (y.toNat : Int)]:=by rw [hW1]; exact Blk.new w _ _
 have x0:=hx.cell (k:=0) rfl
 have c32 : W1.cell? ⟨G,32,none⟩ = some (.slice pa pr.length pc):=(h.below hb1).cellR (k:=1) rfl
 have HB1:=Lib.hid (hb1.mono h.size)
 have t1 : (256 : Int) ≤ (pr.length : Int):=by omega
 have t2 : (pr.length : Int) ≤ 256:=by omega
 clear h hb1 hx
 go_enter Tryz.func182,Tryz.ntmps182
 go_upto_region 1 with fail
 rw [← hW1]
 clear hW1
 go_wp2_with fail
 go_ret
 exact ⟨rfl,HB1.out⟩
theorem remit_any (y : UInt8) (a b : RV) (h : RM base w G f at_ (b :: a :: st) rg los pr sv lv prv X) (hl : st.length ≤ 900) (hp : ¬ 256 ≤ pr.length) :
  Calls Tryz.prog 182 #[.pointer (some ⟨G,0,none⟩),.agg #[.int .u8 23,.int .u8 (y.toNat : Int)]] w fun e w' => e = .returned (.int .i64 0) ∧ (∃ sv' prv',RM base w' G f at_ st rg los (pr ++ [(a.2.2,b.2.2)]) sv' lv prv' X) ∧ Below base w w':=by
 obtain ⟨_,_,pa,pc,rfl⟩:=h.slices
 obtain ⟨W1,hW1⟩ : ∃ W1,W1 = w.alloc (.cells #[.int .u8 23,.int .u8 (y.toNat : Int)] 97):=⟨_,rfl⟩
 have hb1 : Below w.heap.size w W1:=by rw [hW1]; exact b_alloc _ _
 have hx : Blk W1 w.heap.size 97 [.int .u8 23,.int .u8 (y.toNat : Int)]:=by rw [hW1]; exact Blk.new w _ _
 have x0:=hx.cell (k:=0) rfl
 have c32 : W1.cell? ⟨G,32,none⟩ = some (.slice pa pr.length pc):=(h.below hb1).cellR (k:=1) rfl
 have HP:=Lib.hid (rpop_any b (h.below hb1) (by simp; omega))
 have HB1:=Lib.hid (hb1.mono h.size)
 have t1 : ¬ (256 : Int) ≤ (pr.length : Int):=by omega
 have t2 : (pr.length : Int) ≤ 256:=by omega
 clear h hb1 hx
 go_enter Tryz.func182,Tryz.ntmps182
 go_upto_region 1 with fail
 rw [← hW1]
 clear hW1
 go_upto_region 24 with (go_at_call 154; refine HP.out.mono ?_; rintro r w2 ⟨rfl,⟨sv,hm⟩,hB⟩; unfold rvV; have HM:=Lib.hid hm; have HB:=Lib.hid (HB1.out.trans hB); clear hm hB)
 obtain ⟨D,hD⟩ : ∃ D,D = w2.heap.size:=⟨_,rfl⟩
 obtain ⟨W2,hW2⟩ : ∃ W2,W2 = w2.alloc (.cells (rvCells b).toArray 234):=⟨_,rfl⟩
 have hDb : base ≤ D:=by rw [hD]; exact HM.out.size
 have hm2 : RM base W2 G f at_ (a :: st) rg los pr sv lv (.slice pa pr.length pc) (X ++ [blkPt D hDb 234 (rvCells b)]):=by subst hD; rw [hW2]; exact HM.out.add (rvCells b) 234
 have HB2:=Lib.hid (show Below base w W2 by rw [hW2]; exact HB.out.trans ((b_alloc _ _).mono HM.out.size))
 have HP2:=Lib.hid (rpop_any a hm2 (by omega))
 have hg : w2.alloc (.cells #[.bool b.1,.int .i64 b.2.1,.string (bs b.2.2)] 234) = W2:=hW2.symm
 rw [hg,← hD]
 clear hg hW2 hD hm2 HM HB c32 x0
 go_upto_region 25 with (go_at_call 154; refine HP2.out.mono ?_; rintro r w3 ⟨rfl,⟨sv3,hm⟩,hB⟩; unfold rvV; have HM3:=Lib.hid hm; have HB3:=Lib.hid (HB2.out.trans hB); clear hm hB)
 obtain ⟨D3,hD3⟩ : ∃ D3,D3 = w3.heap.size:=⟨_,rfl⟩
 obtain ⟨W3,hW3⟩ : ∃ W3,W3 = w3.alloc (.cells (rvCells a).toArray 234):=⟨_,rfl⟩
 have hD3b : base ≤ D3:=by rw [hD3]; exact HM3.out.size
 have hm3 : RM base W3 G f at_ st rg los pr sv3 lv (.slice pa pr.length pc) ((X ++ [blkPt D hDb 234 (rvCells b)]) ++ [blkPt D3 hD3b 234 (rvCells a)]):=by subst hD3; rw [hW3]; exact HM3.out.add (rvCells a) 234
 have HB4:=Lib.hid (show Below base w W3 by rw [hW3]; exact HB3.out.trans ((b_alloc _ _).mono HM3.out.size))
 have hg : w3.alloc (.cells #[.bool a.1,.int .i64 a.2.1,.string (bs a.2.2)] 234) = W3:=hW3.symm
 rw [hg,← hD3]
 clear hg hW3 hD3 HM3 HB3
 obtain ⟨d0,d1,d2,ld⟩:=hm3.atB (D:=D) (hD:=hDb) (v:=b) (by simp)
 obtain ⟨e0,e1,e2,le⟩:=hm3.atB (D:=D3) (hD:=hD3b) (v:=a) (by simp)
 have c32 : W3.cell? ⟨G,32,none⟩ = some (.slice pa pr.length pc):=hm3.cellR (k:=1) rfl
 have hGl : G < W3.heap.size:=hm3.blk.lt
 have h3d:=hm3.below (b_drew W3)
 have hgb : base ≤ W3.drew.heap.size:=h3d.size
 have hby : (pr.length + 1) * 32 ≤ 140737488355328:=by omega
 have hop:=h3d.op
 have H3D:=Lib.hid h3d
 have HM3:=Lib.hid hm3
 clear h3d hm3
 go_region_law (refine recKq.step_append1V W3.drew (a.2.2,b.2.2) rfl _ _ 37 rfl Tryz.underlying37 base (.slice pa pr.length pc) pr rfl hop _ rfl _ rfl _ rfl hby hgb ?_; intro g gc w4 hown hc hg; have hn:=H3D.out.newP (prv':=.slice (some ⟨g,0,none⟩) (pr.length + 1) gc) (l:=pr ++ [(a.2.2,b.2.2)]) hc (fun k hk => by cases hk; exact hg) hown; have f32:=hn.2.2.1; have c32':=hn.2.2.2; have HN:=Lib.hid hn; clear hn hown hc hg)
 all_goals
  (try simp only [List.getElem_toArray,List.getElem_cons_succ,List.getElem_cons_zero])
  (try go_frame)
  go_wp2_with fail
  go_ret
  exact ⟨rfl,⟨_,_,HN.out.1.drop.drop⟩,(HB4.out.trans ((b_drew W3).mono HM3.out.size)).trans HN.out.2.1⟩
end
end Go.Proofs.YtehllcbnheicoaaGreatDoor
namespace Go.Proofs.YtehllcbnheicoaaGreatDoor
open Go.RowKit Oct
attribute [local irreducible] wpG
section
variable {base G : Nat} {w w' w3 : World} {f : Rf} {at_ : Int} {st rg : List RV} {los : List Lo} {pr : List (List UInt8 × List UInt8)} {sv sv' lv lv' prv prv' : Value} {X : List (Pt base)}
theorem rpartOp_any (y : UInt8) (b a t : RV) (h : RM base w G f at_ (b :: a :: t :: st) rg los pr sv lv prv X) (hl : st.length ≤ 900) (hb : vOk b.2) (ha : vOk a.2) (ht : vOk t.2) :
  Calls Tryz.prog 182 #[.pointer (some ⟨G,0,none⟩),.agg #[.int .u8 6,.int .u8 (y.toNat : Int)]] w fun e w' => e = .returned (.int .i64 0) ∧ (∃ sv',RM base w' G f at_ ((true,0,partM t.2.2 a.2.1 b.2.1) :: st) rg los pr sv' lv prv X) ∧ Below base w w':=by
 obtain ⟨W1,hW1⟩ : ∃ W1,W1 = w.alloc (.cells #[.int .u8 6,.int .u8 (y.toNat : Int)] 97):=⟨_,rfl⟩
 have hb1 : Below w.heap.size w W1:=by rw [hW1]; exact b_alloc _ _
 have hx : Blk W1 w.heap.size 97 [.int .u8 6,.int .u8 (y.toNat : Int)]:=by rw [hW1]; exact Blk.new w _ _
 have x0:=hx.cell (k:=0) rfl
 have HP:=Lib.hid (rpop_any b (h.below hb1) (by simp; omega))
 have HB1:=Lib.hid (hb1.mono h.size)
 clear h hb1 hx
 go_enter Tryz.func182,Tryz.ntmps182
 go_upto_region 1 with fail
 rw [← hW1]
 clear hW1
 go_upto_region 12 with (go_at_call 154; refine HP.out.mono ?_; rintro r w2 ⟨rfl,⟨sv,hm⟩,hB⟩; unfold rvV; have HM:=Lib.hid hm; have HB:=Lib.hid (HB1.out.trans hB); clear hm hB)
 obtain ⟨D,hD⟩ : ∃ D,D = w2.heap.size:=⟨_,rfl⟩
 obtain ⟨W2,hW2⟩ : ∃ W2,W2 = w2.alloc (.cells (rvCells b).toArray 234):=⟨_,rfl⟩
 have hDb : base ≤ D:=by rw [hD]; exact HM.out.size
 have hm2 : RM base W2 G f at_ (a :: t :: st) rg los pr sv lv prv (X ++ [blkPt D hDb 234 (rvCells b)]):=by subst hD; rw [hW2]; exact HM.out.add (rvCells b) 234
 have HB2:=Lib.hid (show Below base w W2 by rw [hW2]; exact HB.out.trans ((b_alloc _ _).mono HM.out.size))
 have HP2:=Lib.hid (rpop_any a hm2 (by simp; omega))
 have hg : w2.alloc (.cells #[.bool b.1,.int .i64 b.2.1,.string (bs b.2.2)] 234) = W2:=hW2.symm
 rw [hg,← hD]
 clear hg hW2 hD hm2 HM HB x0
 go_upto_region 13 with (go_at_call 154; refine HP2.out.mono ?_; rintro r w3 ⟨rfl,⟨sv3,hm⟩,hB⟩; unfold rvV; have HM3:=Lib.hid hm; have HB3:=Lib.hid (HB2.out.trans hB); clear hm hB)
 obtain ⟨D3,hD3⟩ : ∃ D3,D3 = w3.heap.size:=⟨_,rfl⟩
 obtain ⟨W3,hW3⟩ : ∃ W3,W3 = w3.alloc (.cells (rvCells a).toArray 234):=⟨_,rfl⟩
 have hD3b : base ≤ D3:=by rw [hD3]; exact HM3.out.size
 have hm3 : RM base W3 G f at_ (t :: st) rg los pr sv3 lv prv ((X ++ [blkPt D hDb 234 (rvCells b)]) ++ [blkPt D3 hD3b 234 (rvCells a)]):=by subst hD3; rw [hW3]; exact HM3.out.add (rvCells a) 234
 have HB4:=Lib.hid (show Below base w W3 by rw [hW3]; exact HB3.out.trans ((b_alloc _ _).mono HM3.out.size))
 have hg : w3.alloc (.cells #[.bool a.1,.int .i64 a.2.1,.string (bs a.2.2)] 234) = W3:=hW3.symm
 rw [hg,← hD3]
 clear hg hW3 hD3 HM3 HB3
 obtain ⟨d0,d1,d2,ld⟩:=hm3.atB (D:=D) (hD:=hDb) (v:=b) (by simp)
 obtain ⟨e0,e1,e2,le⟩:=hm3.atB (D:=D3) (hD:=hD3b) (v:=a) (by simp)
 have HM3:=Lib.hid hm3
 have HP3:=Lib.hid (rpop_any t (hm3.below (b_drew W3)) (by omega))
 have HPT:=Lib.hid (fun w' => rpart_any t.2.2 a.2.1 b.2.1 w' ht.2.2 ⟨ha.1,ha.2.1⟩ ⟨hb.1,hb.2.1⟩)
 obtain ⟨q,hq⟩ : ∃ q,q = partM t.2.2 a.2.1 b.2.1:=⟨_,rfl⟩
 rw [← hq] at HPT
 have HQ:=Lib.hid hq
 clear hm3 hq hb ha ht
 go_region_law (first
  | (refine step_callM rfl 200 #[.pointer (some ⟨G,0,none⟩),rvV (true,0,q)] (by go_simp) (rpush_any (true,0,q) HM6.out (by omega)) ?_; rintro r w7 ⟨rfl,⟨sv7,hm⟩,hB⟩; have HM7:=Lib.hid hm; have HB7:=Lib.hid (HB6.out.trans hB); clear hm hB)
  | (refine step_callM rfl 201 #[.string (bs q)] (by go_simp) (rtext_any q w5) ?_; rintro r w6 ⟨rfl,hB⟩; have HM6:=Lib.hid (HM4.out.below (bt HC5.out hB)); obtain ⟨d0,d1,d2,ld⟩:=HM6.out.atB (D:=D) (hD:=hDb) (v:=b) (by simp); obtain ⟨e0,e1,e2,le⟩:=HM6.out.atB (D:=D3) (hD:=hD3b) (v:=a) (by simp); have HB6:=Lib.hid (HB5.out.trans ((bt HC5.out hB).mono HM4.out.size)); clear hB)
  | (refine step_callM rfl 205 #[.string (bs t.2.2),.int .i64 a.2.1,.int .i64 b.2.1] (by go_simp) (HPT.out w4) ?_; rintro r w5 ⟨rfl,hB⟩; have HC5:=Lib.hid hB; clear hB)
  | (refine step_callM rfl 154 #[.pointer (some ⟨G,0,none⟩)] (by go_simp) HP3.out ?_; rintro r w4 ⟨rfl,⟨sv4,hm⟩,hB⟩; unfold rvV; obtain ⟨d0,d1,d2,ld⟩:=hm.atB (D:=D) (hD:=hDb) (v:=b) (by simp); obtain ⟨e0,e1,e2,le⟩:=hm.atB (D:=D3) (hD:=hD3b) (v:=a) (by simp); have HM4:=Lib.hid hm; have HB5:=Lib.hid ((HB4.out.trans ((b_drew W3).mono HM3.out.size)).trans hB); clear hm hB))
 all_goals
  (try simp only [List.getElem_toArray,List.getElem_cons_succ,List.getElem_cons_zero])
  (try go_frame)
  go_wp2_with fail
  go_ret
  rw [← HQ.out]
  exact ⟨rfl,⟨_,HM7.out.drop.drop⟩,HB7.out⟩
end
end Go.Proofs.YtehllcbnheicoaaGreatDoor
