/- Lemmas for FoldTells, part 16: walks of the functions that it reaches, and the plain laws behind them. -/
import Derived.Test.YtehllcbnheicoaaGreatDoorFoldTellsK15
set_option linter.unusedSimpArgs false
set_option linter.unusedVariables false
set_option maxRecDepth 100000
set_option maxHeartbeats 16000000
namespace Go.Proofs.YtehllcbnheicoaaGreatDoor
open Go.RowKit Oct
attribute [local irreducible] wpG
def lastR (l : List Vb) : Vb:=l.getLast?.getD noVb
theorem elseBad_last (l : List Vb) : elseBad l.getLast? = (!l.getLast?.isSome || ((lastR l).op != 19 || (lastR l).did)):=by
 unfold lastR elseBad
 cases l.getLast? <;> rfl
theorem some_last (l : List Vb) : l.getLast?.isSome = !decide (l = []):=by
 cases l with
 | nil => rfl
 | cons x l => rw [List.getLast?_cons]; simp
section
variable {w : World} {base G : Nat} {tv cv bv sv ev : Value} {role : UInt8} {s : Vs}
theorem rAhead_any (x : VI) (nt ct : Nat) (at_ : Option Addr) (h : RG w base G (.slice at_ nt ct) cv role s bv sv ev) (hl : s.blocks.length ≤ 1000) (hnt : nt ≤ 1000) :
  Calls Tryz.prog 139 #[.pointer (some ⟨G,0,none⟩),.agg #[.int .u8 (x.1.toNat : Int),.int .u8 (x.2.toNat : Int)]] w fun e w' => e = .returned (.int .i64 (thereV nt (inputsV role) role s.blocks x : Int)) ∧ Below w.heap.size w w':=by
 obtain ⟨p,a⟩:=x
 obtain ⟨⟨ab,cb,rfl⟩,_,_⟩:=h.slices
 obtain ⟨W1,hW1⟩ : ∃ W1,W1 = w.alloc (.cells #[.int .u8 (p.toNat : Int),.int .u8 (a.toNat : Int)] 97):=⟨_,rfl⟩
 have hb1 : Below w.heap.size w W1:=by rw [hW1]; exact b_alloc _ _
 have hx : Blk W1 w.heap.size 97 [.int .u8 (p.toNat : Int),.int .u8 (a.toNat : Int)]:=by rw [hW1]; exact Blk.new w _ _
 have HB1:=Lib.hid hb1
 have HX:=Lib.hid hx
 have HH:=Lib.hid h
 have H1:=Lib.hid (h.below hb1)
 have HLST:=Lib.hid (fun w' (hB : Below w.heap.size w w') => rLast_any (h.below hB) hl)
 have a1 : (a.toNat : Int) < 256:=by have:=a.toNat_lt; omega
 have a0 : (0 : Int) ≤ (a.toNat : Int):=by omega
 have n1 : (nt : Int) ≤ 1000:=by omega
 have aw : IntKind.i64.wrap (a.toNat : Int) = (a.toNat : Int):=by simp [IntKind.wrap,IntKind.bits,IntKind.signed]; omega
 have l1 : (s.blocks.length : Int) ≤ 1000:=by omega
 obtain ⟨q,hq⟩ : ∃ q,q = lastR s.blocks:=⟨_,rfl⟩
 obtain ⟨is_,his⟩ : ∃ is_,is_ = s.blocks.getLast?.isSome:=⟨_,rfl⟩
 have HEB:=Lib.hid (elseBad_last s.blocks)
 have HSL:=Lib.hid (some_last s.blocks)
 rw [← hq,← his] at HEB
 rw [← his] at HSL
 obtain ⟨t,ht⟩ : ∃ t,t = thereV nt (inputsV role) role s.blocks (p,a):=⟨_,rfl⟩
 rw [← ht]
 have HT:=Lib.hid ht
 have HLQ:=Lib.hid (show rbV (s.blocks.getLast?.getD noVb) = .agg #[.int .u8 (q.op.toNat : Int),.string (bs q.opn),.string (bs (keptR q)),.bool q.did,.int .i64 (q.at_ : Int)] by rw [hq]; rfl)
 have HIS:=Lib.hid his
 clear h hb1 hx ht hq his
 go_enter Tryz.func139,Tryz.ntmps139
 go_upto_region 1 with fail
 rw [← hW1]
 clear hW1
 go_upto_region 2 with (go_at_call 165; refine (HLST.out _ HB1.out).mono ?_; rintro e w2 ⟨rfl,hB2⟩; rw [HLQ.out,← HIS.out]; have HB2:=Lib.hid (bt HB1.out hB2); have HX2:=Lib.hid (HX.out.below hB2); clear hB2)
 obtain ⟨W3,hW3⟩ : ∃ W3,W3 = w2.alloc (.cells #[.int .u8 (q.op.toNat : Int),.string (bs q.opn),.string (bs (keptR q)),.bool q.did,.int .i64 (q.at_ : Int)] 253):=⟨_,rfl⟩
 have hb23 : Below w2.heap.size w2 W3:=by rw [hW3]; exact b_alloc _ _
 have hy : Blk W3 w2.heap.size 253 [.int .u8 (q.op.toNat : Int),.string (bs q.opn),.string (bs (keptR q)),.bool q.did,.int .i64 (q.at_ : Int)]:=by rw [hW3]; exact Blk.new w2 _ _
 rw [← hW3]
 have hb3:=bt HB2.out hb23
 have h3:=HH.out.below hb3
 have g0:=h3.cell (k:=0) rfl
 have g2:=h3.cell (k:=2) rfl
 have g4:=h3.cell (k:=4) rfl
 have hx3:=HX2.out.below hb23
 have x0:=hx3.cell (k:=0) rfl
 have x1:=hx3.cell (k:=1) rfl
 obtain ⟨C,hC⟩ : ∃ C,C = w2.heap.size:=⟨_,rfl⟩
 rw [← hC] at hy ⊢
 have y0:=hy.cell (k:=0) rfl
 have y3:=hy.cell (k:=3) rfl
 have HB3:=Lib.hid hb3
 clear hW3 hy hb23 hb3 h3 hx3 HB2 HX2 hC
 by_cases h1 : p = 1
 ·have u1 : ((p.toNat : Int) == 1) = true:=by rw [h1]; rfl
  by_cases hc : nt ≤ a.toNat
  ·have tt : (nt : Int) ≤ (a.toNat : Int):=by omega
   have HV:=Lib.hid (show t = 3 by rw [HT.out]; unfold thereV; simp [h1,hc])
   clear HT
   go_upto_region 4 with fail
   go_quiet (fail)
   go_wp2_with fail
   go_ret
   exact ⟨by rw [HV.out]; rfl,bt HB3.out (Below.drewN' _ _)⟩
  ·have tt : ¬ (nt : Int) ≤ (a.toNat : Int):=by omega
   have HV:=Lib.hid (show t = 0 by rw [HT.out]; unfold thereV; simp [h1,hc])
   clear HT
   go_upto_region 4 with fail
   go_quiet (fail)
   go_wp2_with fail
   go_ret
   exact ⟨by rw [HV.out]; rfl,bt HB3.out (Below.drewN' _ _)⟩
 by_cases h3 : p = 3
 ·have u1 : ((p.toNat : Int) == 1) = false:=u8_ne (by decide) h1
  have u3 : ((p.toNat : Int) == 3) = true:=by rw [h3]; rfl
  by_cases hc : inputsV role ≤ a.toNat
  ·have tt : (inputsV role : Int) ≤ (a.toNat : Int):=by omega
   have HV:=Lib.hid (show t = 3 by rw [HT.out]; unfold thereV; simp [h3,hc])
   clear HT
   go_upto_region 7 with fail
   go_quiet (exact Calls.quiet_of_same (rInputs_any role _))
   go_wp2_with fail
   go_ret
   exact ⟨by rw [HV.out]; rfl,bt HB3.out (Below.drewN' _ _)⟩
  ·have tt : ¬ (inputsV role : Int) ≤ (a.toNat : Int):=by omega
   have HV:=Lib.hid (show t = 0 by rw [HT.out]; unfold thereV; simp [h3,hc])
   clear HT
   go_upto_region 7 with fail
   go_quiet (exact Calls.quiet_of_same (rInputs_any role _))
   go_wp2_with fail
   go_ret
   exact ⟨by rw [HV.out]; rfl,bt HB3.out (Below.drewN' _ _)⟩
 by_cases h17 : p = 17
 ·have u1 : ((p.toNat : Int) == 1) = false:=u8_ne (by decide) h1
  have u3 : ((p.toNat : Int) == 3) = false:=u8_ne (by decide) h3
  have u17 : ((p.toNat : Int) == 17) = true:=by rw [h17]; rfl
  by_cases hc : 8 ≤ a.toNat
  ·have tt : (8 : Int) ≤ (a.toNat : Int):=by omega
   have HV:=Lib.hid (show t = 3 by rw [HT.out]; unfold thereV; simp [h17,hc])
   clear HT
   go_wp2_with fail
   go_ret
   exact ⟨by rw [HV.out]; rfl,HB3.out⟩
  ·have tt : ¬ (8 : Int) ≤ (a.toNat : Int):=by omega
   have HV:=Lib.hid (show t = 0 by rw [HT.out]; unfold thereV; simp [h17,hc])
   clear HT
   go_wp2_with fail
   go_ret
   exact ⟨by rw [HV.out]; rfl,HB3.out⟩
 by_cases h18 : p = 18
 ·have u1 : ((p.toNat : Int) == 1) = false:=u8_ne (by decide) h1
  have u3 : ((p.toNat : Int) == 3) = false:=u8_ne (by decide) h3
  have u17 : ((p.toNat : Int) == 17) = false:=u8_ne (by decide) h17
  have u18 : ((p.toNat : Int) == 18) = true:=by rw [h18]; rfl
  by_cases hc : 8 ≤ a.toNat
  ·have tt : (8 : Int) ≤ (a.toNat : Int):=by omega
   have HV:=Lib.hid (show t = 3 by rw [HT.out]; unfold thereV; simp [h18,hc])
   clear HT
   go_wp2_with fail
   go_ret
   exact ⟨by rw [HV.out]; rfl,HB3.out⟩
  ·have tt : ¬ (8 : Int) ≤ (a.toNat : Int):=by omega
   have HV:=Lib.hid (show t = 0 by rw [HT.out]; unfold thereV; simp [h18,hc])
   clear HT
   go_wp2_with fail
   go_ret
   exact ⟨by rw [HV.out]; rfl,HB3.out⟩
 by_cases h23 : p = 23
 ·have u1 : ((p.toNat : Int) == 1) = false:=u8_ne (by decide) h1
  have u3 : ((p.toNat : Int) == 3) = false:=u8_ne (by decide) h3
  have u17 : ((p.toNat : Int) == 17) = false:=u8_ne (by decide) h17
  have u18 : ((p.toNat : Int) == 18) = false:=u8_ne (by decide) h18
  have u23 : ((p.toNat : Int) == 23) = true:=by rw [h23]; rfl
  by_cases hc : role = 1
  ·have tt : ((role.toNat : Int) != 1) = false:=by rw [hc]; rfl
   have HV:=Lib.hid (show t = 0 by rw [HT.out]; unfold thereV; simp [h23,hc])
   clear HT
   go_wp2_with fail
   go_ret
   exact ⟨by rw [HV.out]; rfl,HB3.out⟩
  ·have tt : ((role.toNat : Int) != 1) = true:=by rw [bne,show ((role.toNat : Int) == 1) = false from u8_ne (by decide) hc]; rfl
   have HV:=Lib.hid (show t = 133 by rw [HT.out]; unfold thereV; simp [h23,hc])
   clear HT
   go_wp2_with fail
   go_ret
   exact ⟨by rw [HV.out]; rfl,HB3.out⟩
 by_cases h20 : p = 20
 ·have u1 : ((p.toNat : Int) == 1) = false:=u8_ne (by decide) h1
  have u3 : ((p.toNat : Int) == 3) = false:=u8_ne (by decide) h3
  have u17 : ((p.toNat : Int) == 17) = false:=u8_ne (by decide) h17
  have u18 : ((p.toNat : Int) == 18) = false:=u8_ne (by decide) h18
  have u23 : ((p.toNat : Int) == 23) = false:=u8_ne (by decide) h23
  have u20 : ((p.toNat : Int) == 20) = true:=by rw [h20]; rfl
  by_cases hi : is_ = true
  ·subst hi
   have HE:=HEB.out
   by_cases hc : q.op = 19
   ·have tt : ((q.op.toNat : Int) != 19) = false:=by rw [hc]; rfl
    by_cases hd : q.did = true
    ·have HW : elseBad s.blocks.getLast? = true:=by rw [HE,hd]; simp
     rw [hd] at y3
     have HV:=Lib.hid (show t = 132 by rw [HT.out]; unfold thereV; simp [h20,HW])
     clear HT
     go_wp2_with fail
     go_ret
     exact ⟨by rw [HV.out]; rfl,HB3.out⟩
    ·have hd : q.did = false:=by simpa using hd
     have HW : elseBad s.blocks.getLast? = false:=by rw [HE,hd,hc]; rfl
     rw [hd] at y3
     have HV:=Lib.hid (show t = 0 by rw [HT.out]; unfold thereV; simp [h20,HW])
     clear HT
     go_wp2_with fail
     go_ret
     exact ⟨by rw [HV.out]; rfl,HB3.out⟩
   ·have tt : ((q.op.toNat : Int) != 19) = true:=by rw [bne,show ((q.op.toNat : Int) == 19) = false from u8_ne (by decide) hc]; rfl
    have HW : elseBad s.blocks.getLast? = true:=by rw [HE]; simp [hc]
    have HV:=Lib.hid (show t = 132 by rw [HT.out]; unfold thereV; simp [h20,HW])
    clear HT
    go_wp2_with fail
    go_ret
    exact ⟨by rw [HV.out]; rfl,HB3.out⟩
  ·have hi : is_ = false:=by simpa using hi
   subst hi
   have HW : elseBad s.blocks.getLast? = true:=by rw [HEB.out]; rfl
   have HV:=Lib.hid (show t = 132 by rw [HT.out]; unfold thereV; simp [h20,HW])
   clear HT
   go_wp2_with fail
   go_ret
   exact ⟨by rw [HV.out]; rfl,HB3.out⟩
 by_cases h21 : p = 21
 ·have u1 : ((p.toNat : Int) == 1) = false:=u8_ne (by decide) h1
  have u3 : ((p.toNat : Int) == 3) = false:=u8_ne (by decide) h3
  have u17 : ((p.toNat : Int) == 17) = false:=u8_ne (by decide) h17
  have u18 : ((p.toNat : Int) == 18) = false:=u8_ne (by decide) h18
  have u23 : ((p.toNat : Int) == 23) = false:=u8_ne (by decide) h23
  have u20 : ((p.toNat : Int) == 20) = false:=u8_ne (by decide) h20
  have u21 : ((p.toNat : Int) == 21) = true:=by rw [h21]; rfl
  by_cases hi : s.blocks = []
  ·have HI : is_ = false:=by rw [HSL.out,decide_eq_true hi]; rfl
   subst HI
   have HV:=Lib.hid (show t = 132 by rw [HT.out]; unfold thereV; simp [h21,hi])
   clear HT
   go_wp2_with fail
   go_ret
   exact ⟨by rw [HV.out]; rfl,HB3.out⟩
  ·have HI : is_ = true:=by rw [HSL.out,decide_eq_false hi]; rfl
   subst HI
   have HV:=Lib.hid (show t = 0 by rw [HT.out]; unfold thereV; simp [h21,hi])
   clear HT
   go_wp2_with fail
   go_ret
   exact ⟨by rw [HV.out]; rfl,HB3.out⟩
 by_cases h19 : p = 19
 ·have u1 : ((p.toNat : Int) == 1) = false:=u8_ne (by decide) h1
  have u3 : ((p.toNat : Int) == 3) = false:=u8_ne (by decide) h3
  have u17 : ((p.toNat : Int) == 17) = false:=u8_ne (by decide) h17
  have u18 : ((p.toNat : Int) == 18) = false:=u8_ne (by decide) h18
  have u23 : ((p.toNat : Int) == 23) = false:=u8_ne (by decide) h23
  have u20 : ((p.toNat : Int) == 20) = false:=u8_ne (by decide) h20
  have u21 : ((p.toNat : Int) == 21) = false:=u8_ne (by decide) h21
  have u19 : ((p.toNat : Int) == 19) = true:=by rw [h19]; rfl
  by_cases hc : 8 ≤ s.blocks.length
  ·have tt : (8 : Int) ≤ (s.blocks.length : Int):=by omega
   have HV:=Lib.hid (show t = 132 by rw [HT.out]; unfold thereV; simp [h19,hc])
   clear HT
   go_wp2_with fail
   go_ret
   exact ⟨by rw [HV.out]; rfl,HB3.out⟩
  ·have tt : ¬ (8 : Int) ≤ (s.blocks.length : Int):=by omega
   have HV:=Lib.hid (show t = 0 by rw [HT.out]; unfold thereV; simp [h19,hc])
   clear HT
   go_wp2_with fail
   go_ret
   exact ⟨by rw [HV.out]; rfl,HB3.out⟩
 by_cases h22 : p = 22
 ·have u1 : ((p.toNat : Int) == 1) = false:=u8_ne (by decide) h1
  have u3 : ((p.toNat : Int) == 3) = false:=u8_ne (by decide) h3
  have u17 : ((p.toNat : Int) == 17) = false:=u8_ne (by decide) h17
  have u18 : ((p.toNat : Int) == 18) = false:=u8_ne (by decide) h18
  have u23 : ((p.toNat : Int) == 23) = false:=u8_ne (by decide) h23
  have u20 : ((p.toNat : Int) == 20) = false:=u8_ne (by decide) h20
  have u21 : ((p.toNat : Int) == 21) = false:=u8_ne (by decide) h21
  have u19 : ((p.toNat : Int) == 19) = false:=u8_ne (by decide) h19
  have u22 : ((p.toNat : Int) == 22) = true:=by rw [h22]; rfl
  by_cases hc : 8 ≤ s.blocks.length
  ·have tt : (8 : Int) ≤ (s.blocks.length : Int):=by omega
   have HV:=Lib.hid (show t = 132 by rw [HT.out]; unfold thereV; simp [h22,hc])
   clear HT
   go_wp2_with fail
   go_ret
   exact ⟨by rw [HV.out]; rfl,HB3.out⟩
  ·have tt : ¬ (8 : Int) ≤ (s.blocks.length : Int):=by omega
   have HV:=Lib.hid (show t = 0 by rw [HT.out]; unfold thereV; simp [h22,hc])
   clear HT
   go_wp2_with fail
   go_ret
   exact ⟨by rw [HV.out]; rfl,HB3.out⟩
 have u1 : ((p.toNat : Int) == 1) = false:=u8_ne (by decide) h1
 have u3 : ((p.toNat : Int) == 3) = false:=u8_ne (by decide) h3
 have u17 : ((p.toNat : Int) == 17) = false:=u8_ne (by decide) h17
 have u18 : ((p.toNat : Int) == 18) = false:=u8_ne (by decide) h18
 have u23 : ((p.toNat : Int) == 23) = false:=u8_ne (by decide) h23
 have u20 : ((p.toNat : Int) == 20) = false:=u8_ne (by decide) h20
 have u21 : ((p.toNat : Int) == 21) = false:=u8_ne (by decide) h21
 have u19 : ((p.toNat : Int) == 19) = false:=u8_ne (by decide) h19
 have u22 : ((p.toNat : Int) == 22) = false:=u8_ne (by decide) h22
 have HV:=Lib.hid (show t = 0 by rw [HT.out]; unfold thereV; simp [h1,h3,h17,h18,h23,h20,h21,h19,h22])
 clear HT
 go_wp2_with fail
 go_ret
 exact ⟨by rw [HV.out]; rfl,HB3.out⟩
end
end Go.Proofs.YtehllcbnheicoaaGreatDoor
namespace Go.Proofs.YtehllcbnheicoaaGreatDoor
open Go.RowKit Oct
attribute [local irreducible] wpG
theorem effs_g5 : ∀ k,k < 24 → (50 ∈ (effs.getD k ([],[])).2 → (effs.getD k ([],[])).1.length = 2):=by decide
theorem eff_two (x : VI) (hx : x.1.toNat < 24) (h : 50 ∈ (effV x).2) : (effV x).1.length = 2:=by
 have hl : ∀ s : List UInt8,(replV s (regV x.2)).length = s.length:=fun s => by
  unfold replV
  split
  ·rename_i h; rw [h]; rcases regV_two x.2 with e | e <;> rw [e] <;> rfl
  ·rfl
 unfold effV at h ⊢
 rw [hl]
 rcases replV_mem h with h | ⟨_,h⟩
 ·exact effs_g5 _ hx h
 ·rcases regV_two x.2 with e | e <;> (rw [e] at h; simp at h)
theorem valuesV_A {k : List UInt8} {x : VI} (h : k.length < (effV x).1.length) : valuesV k x = (130,k):=by unfold valuesV; rw [if_pos h]
theorem valuesV_B {k : List UInt8} {x : VI} (h : ¬ k.length < (effV x).1.length) (hf : fitV (effV x).1 (k.drop (k.length - (effV x).1.length)) = false) : valuesV k x = (131,k):=by unfold valuesV; rw [if_neg h,if_pos hf]
theorem valuesV_C {k : List UInt8} {x : VI} (h : ¬ k.length < (effV x).1.length) (hf : fitV (effV x).1 (k.drop (k.length - (effV x).1.length)) = true) {r : List UInt8}
  (hr : r = k.take (k.length - (effV x).1.length) ++ givesV (k.drop (k.length - (effV x).1.length)) (effV x).2) (hm : (x.1 = 22 ∧ 16 ≤ r.length) ∨ 16 < r.length) : valuesV k x = (130,k):=by
 unfold valuesV; rw [if_neg h,if_neg (by rw [hf]; decide),← hr,if_pos hm]
theorem valuesV_D {k : List UInt8} {x : VI} (h : ¬ k.length < (effV x).1.length) (hf : fitV (effV x).1 (k.drop (k.length - (effV x).1.length)) = true) {r : List UInt8}
  (hr : r = k.take (k.length - (effV x).1.length) ++ givesV (k.drop (k.length - (effV x).1.length)) (effV x).2) (hm : ¬ ((x.1 = 22 ∧ 16 ≤ r.length) ∨ 16 < r.length)) : valuesV k x = (0,r):=by
 unfold valuesV; rw [if_neg h,if_neg (by rw [hf]; decide),← hr,if_neg hm]
section
variable {w : World} {base G : Nat} {tv cv bv sv ev : Value} {role : UInt8} {s : Vs}
theorem rValues_any (x : VI) (hxo : x.1.toNat < 24) (h : RG w base G tv cv role s bv sv ev) (hl : s.kinds.length ≤ 1000) :
  Calls Tryz.prog 140 #[.pointer (some ⟨G,0,none⟩),.agg #[.int .u8 (x.1.toNat : Int),.int .u8 (x.2.toNat : Int)]] w fun e w' => e = .returned (.int .i64 ((valuesV s.kinds x).1 : Int)) ∧ ((valuesV s.kinds x).1 = 0 → RG w' base G tv cv role { s with kinds:=(valuesV s.kinds x).2 } bv sv ev) ∧ Below base w w':=by
 obtain ⟨F1,F2,F3,F4,F5,F6⟩:=eff_facts x hxo
 have F7:=eff_two x hxo
 have HEF:=Lib.hid (rEffect_any x)
 have VA:=Lib.hid (@valuesV_A s.kinds x)
 have VB:=Lib.hid (@valuesV_B s.kinds x)
 have VC:=Lib.hid (@valuesV_C s.kinds x)
 have VD:=Lib.hid (@valuesV_D s.kinds x)
 obtain ⟨t,ht⟩ : ∃ t,t = (effV x).1:=⟨_,rfl⟩
 obtain ⟨gv,hgv⟩ : ∃ gv,gv = (effV x).2:=⟨_,rfl⟩
 obtain ⟨k,hk⟩ : ∃ k,k = s.kinds:=⟨_,rfl⟩
 rw [← ht] at HEF VA VB VC VD F1 F3 F4 F5 F7
 rw [← hgv] at HEF VC VD F2 F3 F4 F6 F7
 rw [← hk] at VA VB VC VD hl ⊢
 have HK:=Lib.hid hk
 obtain ⟨W1,hW1⟩ : ∃ W1,W1 = w.alloc (.cells #[.int .u8 (x.1.toNat : Int),.int .u8 (x.2.toNat : Int)] 97):=⟨_,rfl⟩
 have hb1 : Below w.heap.size w W1:=by rw [hW1]; exact b_alloc _ _
 have hx : Blk W1 w.heap.size 97 [.int .u8 (x.1.toNat : Int),.int .u8 (x.2.toNat : Int)]:=by rw [hW1]; exact Blk.new w _ _
 have x0:=hx.cell (k:=0) rfl
 have x1:=hx.cell (k:=1) rfl
 have HX:=Lib.hid hx
 have HB1:=Lib.hid hb1
 have HH:=Lib.hid h
 have hGb:=Nat.le_trans h.gb (Nat.le_of_lt h.blk.lt)
 have k1 : (k.length : Int) ≤ 1000:=by omega
 have t1 : (t.length : Int) ≤ 3:=by omega
 have g1 : (gv.length : Int) ≤ 2:=by omega
 have HF2:=Lib.hid F2
 have HF3:=Lib.hid F3
 have HF7:=Lib.hid F7
 clear h hb1 hx ht hgv hk F1 F2 F3 F4 F7
 go_enter Tryz.func140,Tryz.ntmps140
 go_upto_region 1 with fail
 rw [← hW1]
 clear hW1
 go_upto_region 2 with (go_at_call 166; refine (HEF.out _).mono ?_; rintro e w2 ⟨rfl,hB2⟩; have HB2:=Lib.hid (bt HB1.out hB2); have HC2:=Lib.hid hB2; clear hB2)
 have h2:=HH.out.below HB2.out
 have g3:=h2.cell (k:=3) rfl
 rw [← HK.out] at g3
 have H2:=Lib.hid h2
 clear h2 x0 x1
 by_cases hA : k.length < t.length
 ·have tt : (k.length : Int) < (t.length : Int):=by omega
  have HV:=Lib.hid (VA.out hA)
  go_wp2_with fail
  go_ret
  exact ⟨by rw [HV.out]; rfl,(fun e => by rw [HV.out] at e; cases e),HB2.out.mono hGb⟩
 ·have tt : ¬ (k.length : Int) < (t.length : Int):=by omega
  obtain ⟨n,hn⟩ : ∃ n,n = k.length - t.length:=⟨_,rfl⟩
  have hn1 : (k.length : Int) - (t.length : Int) = (n : Int):=by omega
  have hn2 : (n : Int) ≤ (k.length : Int):=by omega
  have hn3 : (0 : Int) ≤ (n : Int):=by omega
  have VB:=Lib.hid (VB.out hA)
  have VC:=Lib.hid (@(VC.out hA))
  have VD:=Lib.hid (@(VD.out hA))
  rw [← hn] at VB VC VD
  have hlen : (k.drop n).length = t.length:=by rw [List.length_drop]; omega
  clear hA hn VA
  go_upto_region 4 with fail
  go_quiet (fail)
  obtain ⟨w3,hw3⟩ : ∃ W,W = w2.drewN nq:=⟨_,rfl⟩
  rw [← hw3]
  have hBq : Below w2.heap.size w2 w3:=by rw [hw3]; exact Below.drewN' _ _
  have HB3:=Lib.hid (bt HB2.out hBq)
  have HC3:=Lib.hid (bt HC2.out hBq)
  clear hw3 hBq nq g3
  obtain ⟨top,htop⟩ : ∃ top,top = k.drop n:=⟨_,rfl⟩
  obtain ⟨r0,hr0⟩ : ∃ r0,r0 = k.take n:=⟨_,rfl⟩
  have hr0l : r0.length ≤ 1000:=by rw [hr0,List.length_take]; omega
  rw [← htop] at hlen VB VC VD
  rw [← hr0] at VC VD
  have HTOP:=Lib.hid htop
  have HR0:=Lib.hid hr0
  have HLEN:=Lib.hid hlen
  have tl : (top.length : Int) = (t.length : Int):=by omega
  have HB3w:=Lib.hid HB3.out.size
  clear htop hr0 hlen
  go_wp2_with fail
  rw [← HTOP.out,← HR0.out]
  go_loopw [9] (fun v wr => ∃ i : Nat,v = .int .i64 (i : Int) ∧ i ≤ t.length ∧ Hid (∀ j (hj : j < t.length) (hj' : j < top.length),j < i → t[j] = 63 ∨ t[j] = top[j]) ∧ Hid (Below W1.heap.size W1 wr)) (fun v _ => t.length - (intOf v).toNat)
  case atStart => exact ⟨0,rfl,Nat.zero_le _,fun j _ _ h => absurd h (by omega),HC3.out⟩
  case round =>
   obtain ⟨i,rfl,hi,HFI,HBr⟩:=hrel
   by_cases h0 : i < t.length
   ·have h0' : i < top.length:=by rw [HLEN.out]; exact h0
    have kk0 : (0 : Int) ≤ (i : Int):=by omega
    have kk1 : (i : Int) < (t.length : Int):=by omega
    have kk2 : (i : Int) < (top.length : Int):=by omega
    by_cases h63 : t[i] = 63
    ·have e1 : ((t[i].toNat : Int) != 63) = false:=by rw [h63]; rfl
     have HN:=Lib.hid (show ∀ j (hj : j < t.length) (hj' : j < top.length),j < i + 1 → t[j] = 63 ∨ t[j] = top[j] from fun j hj hj' hlt => by
      by_cases e : j = i
      ·subst e; exact .inl h63
      ·exact HFI.out j hj hj' (by omega))
     clear h63 HFI
     go_upto_region 8 with fail
     go_quiet (fail)
     go_wp2_with fail
     go_roundw
     case rel => exact ⟨i + 1,by go_num,by omega,HN.out,bt HBr.out (Below.drewN' _ _)⟩
     case measure => simp [intOf]; omega
    ·have e1 : ((t[i].toNat : Int) != 63) = true:=by rw [bne,show ((t[i].toNat : Int) == 63) = false from u8_ne (by decide) h63]; rfl
     by_cases hq : t[i] = top[i]
     ·have e2 : ((t[i].toNat : Int) != (top[i].toNat : Int)) = false:=by rw [hq]; simp
      have HN:=Lib.hid (show ∀ j (hj : j < t.length) (hj' : j < top.length),j < i + 1 → t[j] = 63 ∨ t[j] = top[j] from fun j hj hj' hlt => by
       by_cases e : j = i
       ·subst e; exact .inr hq
       ·exact HFI.out j hj hj' (by omega))
      clear h63 hq HFI
      go_upto_region 8 with fail
      go_quiet (fail)
      go_wp2_with fail
      go_roundw
      case rel => exact ⟨i + 1,by go_num,by omega,HN.out,bt HBr.out (Below.drewN' _ _)⟩
      case measure => simp [intOf]; omega
     ·have e2 : ((t[i].toNat : Int) != (top[i].toNat : Int)) = true:=by rw [bne_iff_ne]; intro e; exact hq (UInt8.toNat_inj.1 (by omega))
      have HV:=Lib.hid (VB.out (by
       cases hft : fitV t top with
       | false => rfl
       | true =>
        rcases (fitV_iff t top (by rw [HLEN.out]; exact Nat.le_refl _)).1 hft i h0 h0' with e | e
        ·exact absurd e h63
        ·exact absurd e hq))
      clear h63 hq HFI
      go_upto_region 8 with fail
      go_quiet (fail)
      go_wp2_with fail
      go_ret
      exact ⟨by rw [HV.out]; rfl,(fun e => by rw [HV.out] at e; cases e),(bt (bt HB1.out HBr.out) (Below.drewN' _ _)).mono hGb⟩
   ·obtain rfl : i = t.length:=by omega
    have hfit : fitV t top = true:=(fitV_iff t top (by rw [HLEN.out]; exact Nat.le_refl _)).2 (fun j hj hj' => HFI.out j hj hj' hj)
    have HC:=Lib.hid (VC.out hfit rfl)
    have HD:=Lib.hid (VD.out hfit rfl)
    have e0 : ¬ (t.length : Int) < (t.length : Int):=by omega
    clear hfit HFI h0 VB VC VD
    go_wp2_with fail
    go_loop [7,10] (fun vr vi => ∃ (i : Nat) (r : List UInt8),vr = .string (bs r) ∧ vi = .int .i64 (i : Int) ∧ i ≤ gv.length ∧ r.length ≤ 1000 + 3 * i ∧ Hid (r = r0 ++ givesV top (gv.take i))) (fun _ vi => gv.length - (intOf vi).toNat)
    case atStart => exact ⟨0,r0,rfl,rfl,Nat.zero_le _,by omega,by unfold Hid; simp [givesV]⟩
    case round =>
     obtain ⟨i,r,rfl,rfl,hi,hrl,HRI⟩:=hrel
     by_cases h0 : i < gv.length
     ·have kk0 : (0 : Int) ≤ (i : Int):=by omega
      have kk1 : (i : Int) < (gv.length : Int):=by omega
      have HS:=Lib.hid (givesV_succ (top:=top) h0)
      have hmem:=List.getElem_mem h0
      have hr1 : (r.length : Int) ≤ 1006:=by omega
      have tp3 : (top.length : Int) ≤ 3:=by omega
      by_cases h49 : gv[i] = 49
      ·have e1 : ((gv[i].toNat : Int) == 49) = true:=by rw [h49]; rfl
       have hp1 : 1 ≤ top.length:=by rw [HLEN.out]; exact HF3.out (h49 ▸ hmem)
       have hp2 : (1 : Int) ≤ (top.length : Int):=by omega
       have HQ:=Lib.hid (show r0 ++ givesV top (gv.take (i + 1)) = r ++ top.take 1 by rw [HS.out,if_pos h49,← List.append_assoc,HRI.out])
       have hlt : (top.take 1).length = 1:=by rw [List.length_take]; omega
       clear h49 hmem
       go_wp2_with fail
       go_round
       case rel => exact ⟨i + 1,r ++ top.take 1,rfl,by go_num,by omega,by rw [List.length_append,hlt]; omega,HQ.out.symm⟩
       case measure => simp [intOf]; omega
      ·have e1 : ((gv[i].toNat : Int) == 49) = false:=u8_ne (by decide) h49
       by_cases h50 : gv[i] = 50
       ·have e2 : ((gv[i].toNat : Int) == 50) = true:=by rw [h50]; rfl
        have hp1 : top.length = 2:=by rw [HLEN.out]; exact HF7.out (h50 ▸ hmem)
        have hp2 : (top.length : Int) = 2:=by omega
        have hdl : (top.tail.take 1).length = 1:=by rw [List.length_take,List.length_tail]; omega
        have HQ:=Lib.hid (show r0 ++ givesV top (gv.take (i + 1)) = r ++ top.tail.take 1 by rw [HS.out,if_neg h49,if_pos h50,← List.append_assoc,← HRI.out,List.drop_one])
        clear h49 h50 hmem
        go_wp2_with fail
        go_round
        case rel => exact ⟨i + 1,r ++ top.tail.take 1,rfl,by go_num,by omega,by rw [List.length_append,hdl]; omega,HQ.out.symm⟩
        case measure => simp [intOf]; omega
       ·have e2 : ((gv[i].toNat : Int) == 50) = false:=u8_ne (by decide) h50
        have HQ:=Lib.hid (show r0 ++ givesV top (gv.take (i + 1)) = r ++ [gv[i]] by rw [HS.out,if_neg h49,if_neg h50,← List.append_assoc,← HRI.out])
        have hi1 : (0 : Int) ≤ (i : Int) + 1:=by omega
        have hi2 : (i : Int) + 1 ≤ (gv.length : Int):=by omega
        have hi3 : (i : Int) ≤ (i : Int) + 1:=by omega
        clear h49 h50 hmem
        have hd1 : (gv.drop i).take 1 = [gv[i]]:=by rw [List.drop_eq_getElem_cons h0]; rfl
        have HD1:=Lib.hid hd1
        clear hd1
        go_wp2_with fail
        rw [HD1.out]
        refine ⟨⟨i + 1,r ++ [gv[i]],rfl,by go_num,by omega,by rw [List.length_append,List.length_singleton]; omega,HQ.out.symm⟩,by simp [intOf]; omega⟩
     ·obtain rfl : i = gv.length:=by omega
      have hrr:=HRI.out
      rw [List.take_length] at hrr
      rw [← hrr] at HC HD
      have hbw:=bt HB1.out HBr.out
      have hr6:=HH.out.below hbw
      have f3:=hr6.free (k:=3) (by decide)
      have c3:=hr6.cell (k:=3) rfl
      have hxr:=HX.out.below HBr.out
      have x0:=hxr.cell (k:=0) rfl
      have r6 : (r.length : Int) ≤ 1006:=by omega
      have e9 : ¬ (gv.length : Int) < (gv.length : Int):=by omega
      have HR6:=Lib.hid hr6
      have HBW:=Lib.hid hbw
      clear hrr h0 HRI hxr hr6 hbw
      by_cases h22 : x.1 = 22
      ·have u22 : ((x.1.toNat : Int) == 22) = true:=by rw [h22]; rfl
       by_cases hm : 16 ≤ r.length
       ·have hm1 : (16 : Int) < (r.length : Int) + 1:=by omega
        have HV:=Lib.hid (HC.out (.inl ⟨h22,hm⟩))
        clear h22 hm
        go_wp2_with fail
        go_ret
        exact ⟨by rw [HV.out]; rfl,(fun e => by rw [HV.out] at e; cases e),HBW.out.mono hGb⟩
       ·have hm1 : ¬ (16 : Int) < (r.length : Int) + 1:=by omega
        have HV:=Lib.hid (HD.out (by rintro (h | h) <;> omega))
        clear h22 hm
        go_wp2_with fail
        go_ret
        have hk:=HR6.out.kinds r
        exact ⟨by rw [HV.out]; rfl,(fun _ => by rw [HV.out]; exact hk.1),(HBW.out.mono hGb).trans hk.2⟩
      ·have u22 : ((x.1.toNat : Int) == 22) = false:=u8_ne (by decide) h22
       by_cases hm : 16 < r.length
       ·have hm1 : (16 : Int) < (r.length : Int):=by omega
        have HV:=Lib.hid (HC.out (.inr hm))
        clear h22 hm
        go_wp2_with fail
        go_ret
        exact ⟨by rw [HV.out]; rfl,(fun e => by rw [HV.out] at e; cases e),HBW.out.mono hGb⟩
       ·have hm1 : ¬ (16 : Int) < (r.length : Int):=by omega
        have HV:=Lib.hid (HD.out (by rintro (h | h); exact h22 h.1; exact hm h))
        clear h22 hm
        go_wp2_with fail
        go_ret
        have hk:=HR6.out.kinds r
        exact ⟨by rw [HV.out]; rfl,(fun _ => by rw [HV.out]; exact hk.1),(HBW.out.mono hGb).trans hk.2⟩
end
end Go.Proofs.YtehllcbnheicoaaGreatDoor
