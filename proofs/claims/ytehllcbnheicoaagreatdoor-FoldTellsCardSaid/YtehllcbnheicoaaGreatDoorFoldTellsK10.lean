/- Lemmas for FoldTells, part 10: walks of the functions that it reaches, and the plain laws behind them. -/
import Derived.Test.YtehllcbnheicoaaGreatDoorFoldTellsK9
set_option linter.unusedSimpArgs false
set_option linter.unusedVariables false
set_option maxRecDepth 100000
set_option maxHeartbeats 16000000
namespace Go.Proofs.YtehllcbnheicoaaGreatDoor
open Go.RowKit Oct
attribute [local irreducible] wpG
section
variable {w : World} {base G : Nat} {tv cv bv sv ev : Value} {inp : Nat} {role : UInt8} {s : Vs}
theorem values_any (h : VG w base G tv cv inp role s bv sv ev) (hE : EffM w) (hg : 1 < base) (p a : UInt8) (hp : p.toNat < 24) (hk : s.kinds.length ≤ 1000) :
  Calls Tryz.prog 176 #[.pointer (some ⟨G,0,none⟩),.agg #[.int .u8 (p.toNat : Int),.int .u8 (a.toNat : Int)]] w fun e w' => e = .returned (.int .i64 (((valuesV s.kinds (p,a)).1 : Nat) : Int)) ∧ VG w' base G tv cv inp role { s with kinds:=(valuesV s.kinds (p,a)).2 } bv sv ev ∧ Chg (fun x => x = G) w w':=by
 have HH:=Lib.hid h
 have hgw : G < w.heap.size:=h.blk.lt
 have hbw : base ≤ w.heap.size:=Nat.le_trans h.gb (Nat.le_of_lt hgw)
 obtain ⟨W1,hW1⟩ : ∃ W1,W1 = w.alloc (.cells #[.int .u8 (p.toNat : Int),.int .u8 (a.toNat : Int)] 97):=⟨_,rfl⟩
 have hb1 : Below w.heap.size w W1:=by rw [hW1]; exact b_alloc _ _
 have hx : Blk W1 w.heap.size 97 [.int .u8 (p.toNat : Int),.int .u8 (a.toNat : Int)]:=by rw [hW1]; exact Blk.new w _ _
 have h1:=h.below hb1
 have x0:=hx.cell (k:=0) rfl
 have x1:=hx.cell (k:=1) rfl
 have g4:=h1.cell (k:=4) rfl
 obtain ⟨q1,q2⟩:=hE p.toNat hp
 have t1:=Below.keeps hb1 q1
 have t2:=Below.keeps hb1 q2
 obtain ⟨r1,r2⟩:=effs_repl p.toNat hp
 have hfacts:=eff_facts (p,a) hp
 have HB1:=Lib.hid hb1
 have HBW:=Lib.hid hbw
 have HGW:=Lib.hid hgw
 have hrp:=regV_two a
 have HRP:=Lib.hid hrp
 have R1:=Lib.hid r1
 have R2:=Lib.hid r2
 obtain ⟨T0,hT0⟩ : ∃ T0,T0 = (effs.getD p.toNat ([],[])).1:=⟨_,rfl⟩
 obtain ⟨E0,hE0⟩ : ∃ E0,E0 = (effs.getD p.toNat ([],[])).2:=⟨_,rfl⟩
 obtain ⟨R,hR⟩ : ∃ R,R = regV a:=⟨_,rfl⟩
 obtain ⟨T,hT⟩ : ∃ T,T = (effV (p,a)).1:=⟨_,rfl⟩
 obtain ⟨E,hEE⟩ : ∃ E,E = (effV (p,a)).2:=⟨_,rfl⟩
 rw [← hT0] at t1 R1
 rw [← hE0] at t2 R2
 rw [← hR] at HRP
 have HTR:=Lib.hid (show T = replV T0 R by rw [hT,hT0,hR]; rfl)
 have HER:=Lib.hid (show E = replV E0 R by rw [hEE,hE0,hR]; rfl)
 have HR:=Lib.hid hR
 have HT:=Lib.hid hT
 have HEE:=Lib.hid hEE
 rw [← hT,← hEE] at hfacts
 have HF:=Lib.hid hfacts
 have hTl : T.length ≤ 3:=hfacts.2.2.2.2.1
 have a1 : (a.toNat : Int) < 256:=by have:=a.toNat_lt; omega
 have a0 : (0 : Int) ≤ (a.toNat : Int):=by omega
 have p0 : (0 : Int) ≤ (p.toNat : Int):=by omega
 have p1 : (p.toNat : Int) < 24:=by omega
 have k1 : (s.kinds.length : Int) ≤ 1000:=by omega
 have k2 : (T.length : Int) ≤ 3:=by omega
 clear h h1 hx hb1 hE q1 q2 r1 r2 hfacts hrp hT0 hE0 hR hT hEE
 go_enter Tryz.func176,Tryz.ntmps176
 go_upto_region 2 with fail
 rw [← hW1]
 clear hW1
 go_upto_if 16 with fail
 go_cut [5] (fun t wx => t = .string (bs R) ∧ wx = W1)
 case first =>
  by_cases hq : 4 ≤ a.toNat
  ·have hq1 : (4 : Int) ≤ (a.toNat : Int):=by omega
   have HR84:=Lib.hid (show R = [84] by rw [HR.out]; unfold regV; rw [if_pos hq])
   clear hq
   go_wp2_with fail
   go_meet
   case rel => exact ⟨by rw [HR84.out]; rfl,rfl⟩
  ·have hq1 : ¬ (4 : Int) ≤ (a.toNat : Int):=by omega
   have HR78:=Lib.hid (show R = [78] by rw [HR.out]; unfold regV; rw [if_neg hq])
   clear hq
   go_wp2_with fail
   go_meet
   case rel => exact ⟨by rw [HR78.out]; rfl,rfl⟩
 case rest =>
  obtain ⟨rfl,rfl⟩:=hcut
  go_upto_region 4 with fail
  refine region_known [(1,.exact _ (.int .u8 (p.toNat : Int))),(4,.exact _ (.string (bs T0))),(6,.exact _ (.string (bs T))),(8,.exact _ (.int .u8 (p.toNat : Int))),(11,.exact _ (.string (bs E0))),(13,.exact _ (.string (bs E)))] (by kernel_rfl) (by kernel_rfl) ?_
  (repeat (first | (refine wpG_skip (by kernel_rfl) (fun K hK => ?_); go_big_quiet_skip; refine wpQuiet_nil (hK _ ?_); clear hK K) | (refine wpG_quiet (by rfl) (by rfl) (fun K hK => ?_); go_big_quiet_want; go_big_quiet_op; go_big_quiet_on; refine wpQuiet_nil (hK _ ?_); clear hK K) | (refine wpG_nilOk rfl rfl rfl (by kernel_rfl) (fun K hK => ?_); go_simp; refine hK _ ?_; clear hK K)))
  refine wpG_exact rfl (by kernel_rfl) (fun w' G hB hS hG => ?_) (fun K hK => ?_)
  ·have y:=Below.keeps hB x0
   go_simp; exact hG _ (Bel.refl _)
  go_simp; refine hK _ ?_; clear hK K; (repeat (first | (refine wpG_skip (by kernel_rfl) (fun K hK => ?_); go_big_quiet_skip; refine wpQuiet_nil (hK _ ?_); clear hK K) | (refine wpG_quiet (by rfl) (by rfl) (fun K hK => ?_); go_big_quiet_want; go_big_quiet_op; go_big_quiet_on; refine wpQuiet_nil (hK _ ?_); clear hK K) | (refine wpG_nilOk rfl rfl rfl (by kernel_rfl) (fun K hK => ?_); go_simp; refine hK _ ?_; clear hK K)))
  refine wpG_exact rfl (by kernel_rfl) (fun w' G hB hS hG => ?_) (fun K hK => ?_)
  ·have y:=Below.keeps hB t1
   go_simp; exact hG _ (Bel.refl _)
  go_simp; refine hK _ ?_; clear hK K; (repeat (first | (refine wpG_skip (by kernel_rfl) (fun K hK => ?_); go_big_quiet_skip; refine wpQuiet_nil (hK _ ?_); clear hK K) | (refine wpG_quiet (by rfl) (by rfl) (fun K hK => ?_); go_big_quiet_want; go_big_quiet_op; go_big_quiet_on; refine wpQuiet_nil (hK _ ?_); clear hK K) | (refine wpG_nilOk rfl rfl rfl (by kernel_rfl) (fun K hK => ?_); go_simp; refine hK _ ?_; clear hK K)))
  refine wpG_exact rfl (by kernel_rfl) (fun w' G hB hS hG => ?_) (fun K hK => ?_)
  ·have hr:=ReplaceAll_any T0 R w' R1.out HRP.out
   rw [← HTR.out] at hr
   go_simp
   exact calls_told hG hr
  go_simp; refine hK _ ?_; clear hK K; (repeat (first | (refine wpG_skip (by kernel_rfl) (fun K hK => ?_); go_big_quiet_skip; refine wpQuiet_nil (hK _ ?_); clear hK K) | (refine wpG_quiet (by rfl) (by rfl) (fun K hK => ?_); go_big_quiet_want; go_big_quiet_op; go_big_quiet_on; refine wpQuiet_nil (hK _ ?_); clear hK K) | (refine wpG_nilOk rfl rfl rfl (by kernel_rfl) (fun K hK => ?_); go_simp; refine hK _ ?_; clear hK K)))
  refine wpG_exact rfl (by kernel_rfl) (fun w' G hB hS hG => ?_) (fun K hK => ?_)
  ·have y:=Below.keeps hB x0
   go_simp; exact hG _ (Bel.refl _)
  go_simp; refine hK _ ?_; clear hK K; (repeat (first | (refine wpG_skip (by kernel_rfl) (fun K hK => ?_); go_big_quiet_skip; refine wpQuiet_nil (hK _ ?_); clear hK K) | (refine wpG_quiet (by rfl) (by rfl) (fun K hK => ?_); go_big_quiet_want; go_big_quiet_op; go_big_quiet_on; refine wpQuiet_nil (hK _ ?_); clear hK K) | (refine wpG_nilOk rfl rfl rfl (by kernel_rfl) (fun K hK => ?_); go_simp; refine hK _ ?_; clear hK K)))
  refine wpG_exact rfl (by kernel_rfl) (fun w' G hB hS hG => ?_) (fun K hK => ?_)
  ·have y:=Below.keeps hB t2
   go_simp; exact hG _ (Bel.refl _)
  go_simp; refine hK _ ?_; clear hK K; (repeat (first | (refine wpG_skip (by kernel_rfl) (fun K hK => ?_); go_big_quiet_skip; refine wpQuiet_nil (hK _ ?_); clear hK K) | (refine wpG_quiet (by rfl) (by rfl) (fun K hK => ?_); go_big_quiet_want; go_big_quiet_op; go_big_quiet_on; refine wpQuiet_nil (hK _ ?_); clear hK K) | (refine wpG_nilOk rfl rfl rfl (by kernel_rfl) (fun K hK => ?_); go_simp; refine hK _ ?_; clear hK K)))
  refine wpG_exact rfl (by kernel_rfl) (fun w' G hB hS hG => ?_) (fun K hK => ?_)
  ·have hr:=ReplaceAll_any E0 R w' R2.out HRP.out
   rw [← HER.out] at hr
   go_simp
   exact calls_told hG hr
  go_simp; refine hK _ ?_; clear hK K; (repeat (first | (refine wpG_skip (by kernel_rfl) (fun K hK => ?_); go_big_quiet_skip; refine wpQuiet_nil (hK _ ?_); clear hK K) | (refine wpG_quiet (by rfl) (by rfl) (fun K hK => ?_); go_big_quiet_want; go_big_quiet_op; go_big_quiet_on; refine wpQuiet_nil (hK _ ?_); clear hK K) | (refine wpG_nilOk rfl rfl rfl (by kernel_rfl) (fun K hK => ?_); go_simp; refine hK _ ?_; clear hK K)))
  refine wpG_nilV3 ?_
  intro w2 hB2 hA2
  have z0:=Below.keeps hB2 x0
  have z4:=Below.keeps hB2 g4
  have HB2:=Lib.hid (bt HB1.out hB2)
  clear hB2 hA2 x0 x1 g4 t1 t2
  by_cases hlt : s.kinds.length < T.length
  ·have n1 : (s.kinds.length : Int) - (T.length : Int) < 0:=by omega
   have HV:=Lib.hid (show valuesV s.kinds (p,a) = (130,s.kinds) by unfold valuesV; rw [← HT.out,if_pos hlt])
   clear hlt
   go_wp2_with fail
   go_ret
   exact ⟨by rw [HV.out]; rfl,by rw [HV.out]; exact HH.out.below HB2.out,Chg.of_below HB2.out⟩
  ·obtain ⟨m,hm⟩ : ∃ m : Nat,s.kinds.length = m + T.length:=⟨s.kinds.length - T.length,by omega⟩
   have n1 : (s.kinds.length : Int) - (T.length : Int) = (m : Int):=by omega
   have n2 : ¬ (m : Int) < 0:=by omega
   have n3 : (0 : Int) ≤ (m : Int):=by omega
   have n4 : (m : Int) ≤ (s.kinds.length : Int):=by omega
   obtain ⟨K,hK⟩ : ∃ K,K = s.kinds:=⟨_,rfl⟩
   have HM:=Lib.hid hm
   have HK:=Lib.hid hK
   clear hlt hm
   go_upto_region 8 with fail
   refine region_known [(3,.exact _ (.string (bs s.kinds))),(9,.exact _ (.string (bs s.kinds)))] (by kernel_rfl) (by kernel_rfl) ?_
   (repeat (first | (refine wpG_skip (by kernel_rfl) (fun K hK => ?_); go_big_quiet_skip; refine wpQuiet_nil (hK _ ?_); clear hK K) | (refine wpG_quiet (by rfl) (by rfl) (fun K hK => ?_); go_big_quiet_want; go_big_quiet_op; go_big_quiet_on; refine wpQuiet_nil (hK _ ?_); clear hK K) | (refine wpG_nilOk rfl rfl rfl (by kernel_rfl) (fun K hK => ?_); go_simp; refine hK _ ?_; clear hK K)))
   refine wpG_exact rfl (by kernel_rfl) (fun w' G hB hS hG => ?_) (fun K hK => ?_)
   ·have y:=Below.keeps hB z4
    go_simp; exact hG _ (Bel.refl _)
   go_simp; refine hK _ ?_; clear hK K; (repeat (first | (refine wpG_skip (by kernel_rfl) (fun K hK => ?_); go_big_quiet_skip; refine wpQuiet_nil (hK _ ?_); clear hK K) | (refine wpG_quiet (by rfl) (by rfl) (fun K hK => ?_); go_big_quiet_want; go_big_quiet_op; go_big_quiet_on; refine wpQuiet_nil (hK _ ?_); clear hK K) | (refine wpG_nilOk rfl rfl rfl (by kernel_rfl) (fun K hK => ?_); go_simp; refine hK _ ?_; clear hK K)))
   refine wpG_exact rfl (by kernel_rfl) (fun w' G hB hS hG => ?_) (fun K hK => ?_)
   ·have y:=Below.keeps hB z4
    go_simp; exact hG _ (Bel.refl _)
   go_simp; refine hK _ ?_; clear hK K; (repeat (first | (refine wpG_skip (by kernel_rfl) (fun K hK => ?_); go_big_quiet_skip; refine wpQuiet_nil (hK _ ?_); clear hK K) | (refine wpG_quiet (by rfl) (by rfl) (fun K hK => ?_); go_big_quiet_want; go_big_quiet_op; go_big_quiet_on; refine wpQuiet_nil (hK _ ?_); clear hK K) | (refine wpG_nilOk rfl rfl rfl (by kernel_rfl) (fun K hK => ?_); go_simp; refine hK _ ?_; clear hK K)))
   refine wpG_nilV3 ?_
   intro w3 hB3 hA3
   have y0:=Below.keeps hB3 z0
   have HB3:=Lib.hid (bt HB2.out hB3)
   clear hB3 hA3 z0 z4
   obtain ⟨U,hU⟩ : ∃ U,U = s.kinds.drop m:=⟨_,rfl⟩
   obtain ⟨Pk,hPk⟩ : ∃ Pk,Pk = s.kinds.take m:=⟨_,rfl⟩
   have hUl : U.length = T.length:=by rw [hU,List.length_drop]; have:=HM.out; omega
   rw [← hU,← hPk]
   have HU:=Lib.hid hU
   have HPK:=Lib.hid hPk
   have HUL:=Lib.hid hUl
   have u1 : (U.length : Int) ≤ 3:=by omega
   clear hU hPk hUl
   go_wp2_with fail
   obtain ⟨I,hI⟩ : ∃ I,I = w3.heap.size:=⟨_,rfl⟩
   have hit:=World.iter_heap w3 (bs T) 0
   have hbi : Below w3.heap.size w3 (w3.iter (bs T) 0):=b_alloc w3 _
   rw [← hI] at hit
   have HI:=Lib.hid hI
   have HIT:=Lib.hid hit
   have HBI:=Lib.hid hbi
   rw [← hI]
   clear hI hit hbi
   go_loopw [11] (fun _ wx => ∃ pos : Nat,pos ≤ T.length ∧ Hid (wx.heap[I]? = some (.stringIter (bs T) pos)) ∧ Hid (Below w3.heap.size w3 wx) ∧ Hid (∀ j (h : j < T.length) (h' : j < U.length),j < pos → T[j] = 63 ∨ T[j] = U[j])) (fun _ wx => T.length - wx.iterPos I)
   case atStart => exact ⟨0,Nat.zero_le _,HIT.out,HBI.out,fun j _ _ h => by omega⟩
   case round =>
    obtain ⟨pos,hpos,HIt,HBx,HFit⟩:=hrel
    by_cases hp : pos < T.length
    ·have hpu : pos < U.length:=by rw [HUL.out]; exact hp
     have hasc:=HF.out.1 T[pos] (List.getElem_mem hp)
     have hnx : ∀ ty,(Instr.next (.pointer (some ⟨I,0,none⟩)) true ty).run Tryz.prog wr = .ok (.tuple #[.bool true,.int .i64 (pos : Int),.int .i32 (T[pos].toNat : Int)]) (wr.putObj I (.stringIter (bs T) (pos + 1))):=fun ty => next_bs wr I T pos ty HIt.out hp hasc
     have hIlt : I < wr.heap.size:=(Array.getElem?_eq_some_iff.1 HIt.out).1
     have hbp : Below w3.heap.size w3 (wr.putObj I (.stringIter (bs T) (pos + 1))):=HBx.out.trans ((Chg.putObj (X:=fun k => k = I) wr I _ rfl).below (fun k hk => by rw [hk,HI.out]; exact Nat.le_refl _) HBx.out.size)
     have hit2 : (wr.putObj I (.stringIter (bs T) (pos + 1))).heap[I]? = some (.stringIter (bs T) (pos + 1)):=World.putObj_heap_same hIlt
     have HBP:=Lib.hid hbp
     have HI2:=Lib.hid hit2
     have j0 : (0 : Int) ≤ (pos : Int):=by omega
     have j1 : (pos : Int) < (T.length : Int):=by omega
     have j2 : (pos : Int) < (U.length : Int):=by omega
     have hms : T.length - (pos + 1) < T.length - wr.iterPos I:=by rw [iterPos_at HIt.out]; omega
     have HMS:=Lib.hid hms
     have HP:=Lib.hid hp
     have HPU:=Lib.hid hpu
     clear hasc hIlt hbp hit2 hms
     go_upto_region 12 with fail
     obtain ⟨X,hX⟩ : ∃ X,X = wr.putObj I (.stringIter (bs T) (pos + 1)):=⟨_,rfl⟩
     rw [← hX] at HBP HI2 ⊢
     clear hX hnx
     obtain ⟨c,hc⟩ : ∃ c,c = T[pos]:=⟨_,rfl⟩
     obtain ⟨d,hd⟩ : ∃ d,d = U[pos]:=⟨_,rfl⟩
     have HCC:=Lib.hid hc
     have HDD:=Lib.hid hd
     by_cases h63 : c = 63
     ·have e1 : ((c.toNat : Int) != 63) = false:=by rw [h63]; rfl
      have hf : ∀ j (h : j < T.length) (h' : j < U.length),j < pos + 1 → T[j] = 63 ∨ T[j] = U[j]:=fun j h h' hj => by
       by_cases e : j = pos
       ·subst e; exact .inl (HCC.out.symm.trans h63)
       ·exact HFit.out j h h' (by omega)
      have HF2:=Lib.hid hf
      clear h63 hf hc hd
      refine region_known [(2,.exact _ (.int .u8 (c.toNat : Int))),(7,.exact _ (.int .u8 (c.toNat : Int))),(10,.exact _ (.int .u8 (d.toNat : Int)))] (by kernel_rfl) (by kernel_rfl) ?_
      (repeat (first | (refine wpG_skip (by kernel_rfl) (fun K hK => ?_); go_big_quiet_skip; refine wpQuiet_nil (hK _ ?_); clear hK K) | (refine wpG_quiet (by rfl) (by rfl) (fun K hK => ?_); go_big_quiet_want; go_big_quiet_op; go_big_quiet_on; refine wpQuiet_nil (hK _ ?_); clear hK K) | (refine wpG_nilOk rfl rfl rfl (by kernel_rfl) (fun K hK => ?_); go_simp; refine hK _ ?_; clear hK K)))
      repeat (refine wpG_exact rfl (by kernel_rfl) (fun w' G hB hS hG => ?_) (fun K hK => ?_); (go_simp; first | exact HCC.out ▸ hG _ (Bel.refl _) | exact HDD.out ▸ hG _ (Bel.refl _)); go_simp; refine hK _ ?_; clear hK K; (repeat (first | (refine wpG_skip (by kernel_rfl) (fun K hK => ?_); go_big_quiet_skip; refine wpQuiet_nil (hK _ ?_); clear hK K) | (refine wpG_quiet (by rfl) (by rfl) (fun K hK => ?_); go_big_quiet_want; go_big_quiet_op; go_big_quiet_on; refine wpQuiet_nil (hK _ ?_); clear hK K) | (refine wpG_nilOk rfl rfl rfl (by kernel_rfl) (fun K hK => ?_); go_simp; refine hK _ ?_; clear hK K))))
      refine wpG_nilV3 ?_
      intro w5 hB5 hA5
      have HB5:=Lib.hid (HBP.out.trans (hB5.mono HBP.out.size))
      have HI5:=Lib.hid (show w5.heap[I]? = some (.stringIter (bs T) (pos + 1)) from (hB5.block I (Array.getElem?_eq_some_iff.1 HI2.out).1).trans HI2.out)
      clear hB5 hA5
      go_wp2
      exact ⟨⟨pos + 1,HP.out,HI5.out,HB5.out,HF2.out⟩,by rw [iterPos_at HI5.out]; exact HMS.out⟩
     ·have e1 : ((c.toNat : Int) != 63) = true:=by
       have:=u8_ne (p:=c) (k:=63) (by decide) h63
       simpa [bne] using this
      by_cases heq : c = d
      ·have e2 : ((c.toNat : Int) != (d.toNat : Int)) = false:=by rw [heq]; simp
       have hf : ∀ j (h : j < T.length) (h' : j < U.length),j < pos + 1 → T[j] = 63 ∨ T[j] = U[j]:=fun j h h' hj => by
        by_cases e : j = pos
        ·subst e; exact .inr ((HCC.out.symm.trans heq).trans HDD.out)
        ·exact HFit.out j h h' (by omega)
       have HF2:=Lib.hid hf
       clear h63 hf heq hc hd
       refine region_known [(2,.exact _ (.int .u8 (c.toNat : Int))),(7,.exact _ (.int .u8 (c.toNat : Int))),(10,.exact _ (.int .u8 (d.toNat : Int)))] (by kernel_rfl) (by kernel_rfl) ?_
       (repeat (first | (refine wpG_skip (by kernel_rfl) (fun K hK => ?_); go_big_quiet_skip; refine wpQuiet_nil (hK _ ?_); clear hK K) | (refine wpG_quiet (by rfl) (by rfl) (fun K hK => ?_); go_big_quiet_want; go_big_quiet_op; go_big_quiet_on; refine wpQuiet_nil (hK _ ?_); clear hK K) | (refine wpG_nilOk rfl rfl rfl (by kernel_rfl) (fun K hK => ?_); go_simp; refine hK _ ?_; clear hK K)))
       repeat (refine wpG_exact rfl (by kernel_rfl) (fun w' G hB hS hG => ?_) (fun K hK => ?_); (go_simp; first | exact HCC.out ▸ hG _ (Bel.refl _) | exact HDD.out ▸ hG _ (Bel.refl _)); go_simp; refine hK _ ?_; clear hK K; (repeat (first | (refine wpG_skip (by kernel_rfl) (fun K hK => ?_); go_big_quiet_skip; refine wpQuiet_nil (hK _ ?_); clear hK K) | (refine wpG_quiet (by rfl) (by rfl) (fun K hK => ?_); go_big_quiet_want; go_big_quiet_op; go_big_quiet_on; refine wpQuiet_nil (hK _ ?_); clear hK K) | (refine wpG_nilOk rfl rfl rfl (by kernel_rfl) (fun K hK => ?_); go_simp; refine hK _ ?_; clear hK K))))
       refine wpG_nilV3 ?_
       intro w5 hB5 hA5
       have HB5:=Lib.hid (HBP.out.trans (hB5.mono HBP.out.size))
       have HI5:=Lib.hid (show w5.heap[I]? = some (.stringIter (bs T) (pos + 1)) from (hB5.block I (Array.getElem?_eq_some_iff.1 HI2.out).1).trans HI2.out)
       clear hB5 hA5
       go_wp2
       exact ⟨⟨pos + 1,HP.out,HI5.out,HB5.out,HF2.out⟩,by rw [iterPos_at HI5.out]; exact HMS.out⟩
      ·have e2 : ((c.toNat : Int) != (d.toNat : Int)) = true:=by
        rw [bne_iff_ne]
        intro e
        exact heq (UInt8.toNat_inj.1 (by omega))
       have hv : valuesV s.kinds (p,a) = (131,s.kinds):=by
        have hnf : fitV T U = false:=by
         rw [← Bool.not_eq_true]
         intro hft
         rcases (fitV_iff T U (by rw [HUL.out]; exact Nat.le_refl _)).1 hft pos HP.out HPU.out with h | h
         ·exact h63 (HCC.out.trans h)
         ·exact heq ((HCC.out.trans h).trans HDD.out.symm)
        unfold valuesV
        rw [← HT.out,if_neg (by have:=HM.out; omega),show s.kinds.length - T.length = m by have:=HM.out; omega,← HU.out,hnf]
        rfl
       have HV:=Lib.hid hv
       clear h63 heq hv hc hd
       refine region_known [(2,.exact _ (.int .u8 (c.toNat : Int))),(7,.exact _ (.int .u8 (c.toNat : Int))),(10,.exact _ (.int .u8 (d.toNat : Int)))] (by kernel_rfl) (by kernel_rfl) ?_
       (repeat (first | (refine wpG_skip (by kernel_rfl) (fun K hK => ?_); go_big_quiet_skip; refine wpQuiet_nil (hK _ ?_); clear hK K) | (refine wpG_quiet (by rfl) (by rfl) (fun K hK => ?_); go_big_quiet_want; go_big_quiet_op; go_big_quiet_on; refine wpQuiet_nil (hK _ ?_); clear hK K) | (refine wpG_nilOk rfl rfl rfl (by kernel_rfl) (fun K hK => ?_); go_simp; refine hK _ ?_; clear hK K)))
       repeat (refine wpG_exact rfl (by kernel_rfl) (fun w' G hB hS hG => ?_) (fun K hK => ?_); (go_simp; first | exact HCC.out ▸ hG _ (Bel.refl _) | exact HDD.out ▸ hG _ (Bel.refl _)); go_simp; refine hK _ ?_; clear hK K; (repeat (first | (refine wpG_skip (by kernel_rfl) (fun K hK => ?_); go_big_quiet_skip; refine wpQuiet_nil (hK _ ?_); clear hK K) | (refine wpG_quiet (by rfl) (by rfl) (fun K hK => ?_); go_big_quiet_want; go_big_quiet_op; go_big_quiet_on; refine wpQuiet_nil (hK _ ?_); clear hK K) | (refine wpG_nilOk rfl rfl rfl (by kernel_rfl) (fun K hK => ?_); go_simp; refine hK _ ?_; clear hK K))))
       refine wpG_nilV3 ?_
       intro w5 hB5 hA5
       have HB5:=Lib.hid (HB3.out.trans ((HBP.out.trans (hB5.mono HBP.out.size)).mono HB3.out.size))
       clear hB5 hA5
       go_wp2_with fail
       go_ret
       exact ⟨by rw [HV.out]; rfl,by rw [HV.out]; exact HH.out.below HB5.out,Chg.of_below HB5.out⟩
    ·obtain rfl : pos = T.length:=by omega
     have hft : fitV T U = true:=(fitV_iff T U (by rw [HUL.out]; exact Nat.le_refl _)).2 fun j h h' => HFit.out j h h' h
     have hnx : ∀ ty,(Instr.next (.pointer (some ⟨I,0,none⟩)) true ty).run Tryz.prog wr = .ok (.tuple #[.bool false]) wr:=fun ty => next_bs_out wr I T T.length ty HIt.out (by omega)
     have HFT:=Lib.hid hft
     clear hft
     go_upto_region 14 with fail
     clear hnx
     obtain ⟨W4,hW4⟩ : ∃ W,W = wr:=⟨_,rfl⟩
     subst hW4
     have y4:=Below.keeps HBx.out y0
     go_wp2_with fail
     obtain ⟨J,hJ⟩ : ∃ J,J = W4.heap.size:=⟨_,rfl⟩
     have hjt:=World.iter_heap W4 (bs E) 0
     have hbj : Below W4.heap.size W4 (W4.iter (bs E) 0):=b_alloc W4 _
     rw [← hJ] at hjt
     have HJ:=Lib.hid hJ
     have HJT:=Lib.hid hjt
     have HBJ:=Lib.hid hbj
     have HEL:=Lib.hid HF.out.2.2.2.2.2
     rw [← hJ]
     clear hJ hjt hbj
     go_loopw [9] (fun t9 wx => ∃ k : Nat,t9 = .string (bs (Pk ++ givesV U (E.take k))) ∧ k ≤ E.length ∧ Hid (wx.heap[J]? = some (.stringIter (bs E) k)) ∧ Hid (Below W4.heap.size W4 wx)) (fun _ wx => E.length - wx.iterPos J)
     case atStart => exact ⟨0,by simp [givesV],Nat.zero_le _,HJT.out,HBJ.out⟩
     case round =>
      obtain ⟨k,rfl,hke0,HJt,HBy⟩:=hrel
      by_cases hke : k < E.length
      ·have hmem:=HF.out.2.1 E[k] (List.getElem_mem hke)
       have h49:=HF.out.2.2.1
       have h50:=HF.out.2.2.2.1
       have hJlt : J < wr.heap.size:=(Array.getElem?_eq_some_iff.1 HJt.out).1
       have hjb : Below W4.heap.size W4 (wr.putObj J (.stringIter (bs E) (k + 1))):=HBy.out.trans ((Chg.putObj (X:=fun x => x = J) wr J _ rfl).below (fun x hx => by rw [hx,HJ.out]; exact Nat.le_refl _) HBy.out.size)
       have hj2 : (wr.putObj J (.stringIter (bs E) (k + 1))).heap[J]? = some (.stringIter (bs E) (k + 1)):=World.putObj_heap_same hJlt
       have HJB:=Lib.hid hjb
       have HJ2:=Lib.hid hj2
       have hb1 : Pk.length ≤ 1000:=by rw [HPK.out,List.length_take]; omega
       have hb2 : (givesV U (E.take k)).length ≤ 2:=Nat.le_trans (givesV_len _ _) (by rw [List.length_take]; have:=HEL.out; omega)
       have hms : E.length - (k + 1) < E.length - wr.iterPos J:=by rw [iterPos_at HJt.out]; omega
       have HMS:=Lib.hid hms
       clear hJlt hjb hj2 hms
       rcases hmem with hc | hc | hc | hc
       ·have hnx : ∀ ty,(Instr.next (.pointer (some ⟨J,0,none⟩)) true ty).run Tryz.prog wr = .ok (.tuple #[.bool true,.int .i64 (k : Int),.int .i32 49]) (wr.putObj J (.stringIter (bs E) (k + 1))):=fun ty => by
         have:=next_bs (P:=Tryz.prog) wr J E k ty HJt.out hke (by rw [hc]; decide)
         rw [hc] at this
         exact this
        have hgs : givesV U (E.take (k + 1)) = givesV U (E.take k) ++ U.take 1:=by rw [givesV_succ hke,hc]; rfl
        have hu1 : 1 ≤ U.length:=by rw [HUL.out]; exact h49 (by rw [← hc]; exact List.getElem_mem hke)
        have hu2 : (1 : Int) ≤ (U.length : Int):=by omega
        clear hu1 h49 h50
        have HGS:=Lib.hid hgs
        clear hgs hc
        go_wp2
        exact ⟨⟨k + 1,by rw [HGS.out] <;> simp,hke,HJ2.out,HJB.out⟩,by rw [iterPos_at HJ2.out]; exact HMS.out⟩
       ·have hnx : ∀ ty,(Instr.next (.pointer (some ⟨J,0,none⟩)) true ty).run Tryz.prog wr = .ok (.tuple #[.bool true,.int .i64 (k : Int),.int .i32 50]) (wr.putObj J (.stringIter (bs E) (k + 1))):=fun ty => by
         have:=next_bs (P:=Tryz.prog) wr J E k ty HJt.out hke (by rw [hc]; decide)
         rw [hc] at this
         exact this
        have hgs : givesV U (E.take (k + 1)) = givesV U (E.take k) ++ (U.drop 1).take 1:=by rw [givesV_succ hke,hc]; rfl
        have hu1 : 2 ≤ U.length:=by rw [HUL.out]; exact h50 (by rw [← hc]; exact List.getElem_mem hke)
        have hu2 : (2 : Int) ≤ (U.length : Int):=by omega
        clear hu1 h49 h50
        have HGS:=Lib.hid hgs
        clear hgs hc
        go_wp2
        exact ⟨⟨k + 1,by rw [HGS.out] <;> simp,hke,HJ2.out,HJB.out⟩,by rw [iterPos_at HJ2.out]; exact HMS.out⟩
       ·have hnx : ∀ ty,(Instr.next (.pointer (some ⟨J,0,none⟩)) true ty).run Tryz.prog wr = .ok (.tuple #[.bool true,.int .i64 (k : Int),.int .i32 84]) (wr.putObj J (.stringIter (bs E) (k + 1))):=fun ty => by
         have:=next_bs (P:=Tryz.prog) wr J E k ty HJt.out hke (by rw [hc]; decide)
         rw [hc] at this
         exact this
        have hgs : givesV U (E.take (k + 1)) = givesV U (E.take k) ++ [84]:=by rw [givesV_succ hke,hc]; rfl
        have hcv : ∀ w,(convert 21 9 (.int .i32 84)).run Tryz.prog w = .ok (.string (bs [84])) w:=by intro w; kernel_rfl
        clear h49 h50
        have HGS:=Lib.hid hgs
        clear hgs hc
        go_wp2
        exact ⟨⟨k + 1,by rw [HGS.out] <;> simp,hke,HJ2.out,HJB.out⟩,by rw [iterPos_at HJ2.out]; exact HMS.out⟩
       ·have hnx : ∀ ty,(Instr.next (.pointer (some ⟨J,0,none⟩)) true ty).run Tryz.prog wr = .ok (.tuple #[.bool true,.int .i64 (k : Int),.int .i32 78]) (wr.putObj J (.stringIter (bs E) (k + 1))):=fun ty => by
         have:=next_bs (P:=Tryz.prog) wr J E k ty HJt.out hke (by rw [hc]; decide)
         rw [hc] at this
         exact this
        have hgs : givesV U (E.take (k + 1)) = givesV U (E.take k) ++ [78]:=by rw [givesV_succ hke,hc]; rfl
        have hcv : ∀ w,(convert 21 9 (.int .i32 78)).run Tryz.prog w = .ok (.string (bs [78])) w:=by intro w; kernel_rfl
        clear h49 h50
        have HGS:=Lib.hid hgs
        clear hgs hc
        go_wp2
        exact ⟨⟨k + 1,by rw [HGS.out] <;> simp,hke,HJ2.out,HJB.out⟩,by rw [iterPos_at HJ2.out]; exact HMS.out⟩
      ·obtain rfl : k = E.length:=by omega
       have hnx : ∀ ty,(Instr.next (.pointer (some ⟨J,0,none⟩)) true ty).run Tryz.prog wr = .ok (.tuple #[.bool false]) wr:=fun ty => next_bs_out wr J E E.length ty HJt.out (by omega)
       rw [List.take_length]
       obtain ⟨RS,hRS⟩ : ∃ RS,RS = Pk ++ givesV U E:=⟨_,rfl⟩
       rw [← hRS]
       have y5:=Below.keeps HBy.out y4
       have hbF : Below w.heap.size w wr:=(HB3.out.trans (HBx.out.mono HB3.out.size)).trans (HBy.out.mono (Nat.le_trans HB3.out.size HBx.out.size))
       have hvg:=HH.out.below hbF
       have f4:=hvg.free (k:=4) (by decide)
       have c4:=hvg.cell (k:=4) rfl
       have hvk:=hvg.kinds RS
       have HVK:=Lib.hid hvk
       have HVG:=Lib.hid hvg
       have HBF:=Lib.hid hbF
       have hval : valuesV s.kinds (p,a) = if (p = 22 ∧ 16 ≤ RS.length) ∨ 16 < RS.length then (130,s.kinds) else (0,RS):=by
        unfold valuesV
        rw [← HT.out,← HEE.out,if_neg (by have:=HM.out; omega),show s.kinds.length - T.length = m by have:=HM.out; omega,← HU.out,← HPK.out,if_neg (by rw [HFT.out]; simp),← hRS]
       have HVAL:=Lib.hid hval
       clear hvg hvk hbF hRS hval
       by_cases h22 : p = 22
       ·have e22 : ((p.toNat : Int) == 22) = true:=by rw [h22]; rfl
        by_cases h16 : 16 ≤ RS.length
        ·have f16 : (16 : Int) ≤ (RS.length : Int):=by omega
         rw [if_pos (.inl ⟨h22,h16⟩)] at HVAL
         clear h22 h16
         go_wp2_with fail
         go_ret
         exact ⟨by rw [HVAL.out]; rfl,by rw [HVAL.out]; exact HVG.out,Chg.of_below HBF.out⟩
        ·have f16 : ¬ (16 : Int) ≤ (RS.length : Int):=by omega
         have f17 : ¬ (16 : Int) < (RS.length : Int):=by omega
         rw [if_neg (by omega)] at HVAL
         clear h22 h16
         go_wp2_with fail
         go_ret
         exact ⟨by rw [HVAL.out]; rfl,by rw [HVAL.out]; exact HVK.out.1,(Chg.of_below HBF.out).trans (Chg.setCell _ _ _ rfl)⟩
       ·have e22 : ((p.toNat : Int) == 22) = false:=u8_ne (k:=22) (by decide) h22
        by_cases h16 : 16 < RS.length
        ·have f16 : (16 : Int) < (RS.length : Int):=by omega
         rw [if_pos (.inr h16)] at HVAL
         clear h22 h16
         go_wp2_with fail
         go_ret
         exact ⟨by rw [HVAL.out]; rfl,by rw [HVAL.out]; exact HVG.out,Chg.of_below HBF.out⟩
        ·have f16 : ¬ (16 : Int) < (RS.length : Int):=by omega
         rw [if_neg (by rintro (h | h); exact h22 h.1; exact h16 h)] at HVAL
         clear h22 h16
         go_wp2_with fail
         go_ret
         exact ⟨by rw [HVAL.out]; rfl,by rw [HVAL.out]; exact HVK.out.1,(Chg.of_below HBF.out).trans (Chg.setCell _ _ _ rfl)⟩
end
end Go.Proofs.YtehllcbnheicoaaGreatDoor
