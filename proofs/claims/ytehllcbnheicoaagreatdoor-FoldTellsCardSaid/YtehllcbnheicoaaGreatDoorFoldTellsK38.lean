/- Lemmas for FoldTells, part 38: walks of the functions that it reaches, and the plain laws behind them. -/
import Derived.Test.YtehllcbnheicoaaGreatDoorFoldTellsK37
set_option linter.unusedSimpArgs false
set_option linter.unusedVariables false
set_option maxRecDepth 100000
set_option maxHeartbeats 16000000
namespace Go.Proofs.YtehllcbnheicoaaGreatDoor
open Go.RowKit Oct
attribute [local irreducible] wpG
structure JobR (w : World) (t1 c1 t2 c2 t3 c3 : Value) (j : Jb) : Prop where
 a : AskV w t1 c1 j.mt j.mc
 b : AskV w t2 c2 j.jt j.jc
 c : AskV w t3 c3 j.tt j.tc
 p0 : -9223372036854775808 ≤ j.parts
 p1 : j.parts ≤ 9223372036854775807
 f0 : -9223372036854775808 ≤ j.fuel
 f1 : j.fuel ≤ 9223372036854775807
 g : GlobV w
theorem JobR.below {w w' : World} {t1 c1 t2 c2 t3 c3 : Value} {j : Jb} (h : JobR w t1 c1 t2 c2 t3 c3 j) (hB : Below w.heap.size w w') : JobR w' t1 c1 t2 c2 t3 c3 j :=
 ⟨h.a.below hB,h.b.below hB,h.c.below hB,h.p0,h.p1,h.f0,h.f1,h.g.below hB⟩
def jobV (t1 c1 t2 c2 t3 c3 : Value) (j : Jb) : Value:=.agg #[t1,c1,t2,c2,t3,c3,.int .i64 j.parts,.int .i64 j.fuel]
theorem rJoin15_any (t1 c1 t2 c2 t3 c3 : Value) (j : Jb) (s s2 : List UInt8) (w : World) (h : JobR w t1 c1 t2 c2 t3 c3 j) (hs : s.length ≤ 140737488355328) (hs2 : s2.length ≤ 140737488355328) :
  Calls Tryz.prog 37 #[jobV t1 c1 t2 c2 t3 c3 j,.string (bs s),.string (bs s2)] w fun e w' => e = .returned (.tuple #[.string (bs (vmV j.jt j.jc 2 [s,s2] j.fuel).2.2),.int .i64 ((vmV j.jt j.jc 2 [s,s2] j.fuel).1 : Int)]) ∧ Below w.heap.size w w':=by
 have HR:=Lib.hid (fun w' iv (hB : Below w.heap.size w w') (hi : recS.Row w' iv [s,s2]) => rrun15_any t2 c2 iv j.jt j.jc 2 [s,s2] j.fuel w' (h.b.below hB).t (h.b.below hB).c hi h.b.lt h.b.lc h.b.m (by simp) (fun x hx => by rcases List.mem_cons.1 hx with rfl | hx; exact hs; rw [List.mem_singleton.1 hx]; exact hs2) h.f0 h.f1 (h.g.below hB))
 obtain ⟨ta,tc,rfl,-,-⟩:=recS_open h.a.t
 obtain ⟨ca,cc,rfl,-,-⟩:=recIns_open h.a.c
 obtain ⟨ta2,tc2,rfl,-,-⟩:=recS_open h.b.t
 obtain ⟨ca2,cc2,rfl,-,-⟩:=recIns_open h.b.c
 obtain ⟨ta3,tc3,rfl,-,-⟩:=recS_open h.c.t
 obtain ⟨ca3,cc3,rfl,-,-⟩:=recIns_open h.c.c
 unfold jobV
 obtain ⟨V,hV⟩ : ∃ V,V = vmV j.jt j.jc 2 [s,s2] j.fuel:=⟨_,rfl⟩
 rw [← hV] at HR ⊢
 clear hV h
 go_enter Tryz.func37,Tryz.ntmps37
 go_upto_region 1 with fail
 obtain ⟨W1,hW1⟩ : ∃ W1,W1 = w.alloc (.cells #[.slice ta j.mt.length tc,.slice ca j.mc.length cc,.slice ta2 j.jt.length tc2,.slice ca2 j.jc.length cc2,.slice ta3 j.tt.length tc3,.slice ca3 j.tc.length cc3,.int .i64 j.parts,.int .i64 j.fuel] 27):=⟨_,rfl⟩
 have hb1 : Below w.heap.size w W1:=by rw [hW1]; exact b_alloc _ _
 have hx : Blk W1 w.heap.size 27 [.slice ta j.mt.length tc,.slice ca j.mc.length cc,.slice ta2 j.jt.length tc2,.slice ca2 j.jc.length cc2,.slice ta3 j.tt.length tc3,.slice ca3 j.tc.length cc3,.int .i64 j.parts,.int .i64 j.fuel]:=by rw [hW1]; exact Blk.new w _ _
 have x0:=hx.cell (k:=2) rfl
 have x1:=hx.cell (k:=3) rfl
 have x7:=hx.cell (k:=7) rfl
 have hbl : w.heap.size < W1.heap.size:=hx.lt
 rw [← hW1]
 have HB1:=Lib.hid hb1
 clear hW1 hb1 hx
 go_wp2_with (go_at_call 67; refine (HR.out _ _ (bt HB1.out (b_alloc _ _)) (Rec.Row.new (R:=recS) W1 [s,s2] 9)).mono ?_; rintro e w3 ⟨⟨pa,pc,n,rfl,-,-⟩,hB3⟩; have HB3:=Lib.hid (bt (bt HB1.out (b_alloc _ _)) hB3); clear hB3)
 go_ret2
 exact ⟨rfl,bt HB3.out (b_alloc _ _)⟩
def e1J (j : Jb) : Nat:=(throughV j.mt j.mc 1).2.1
def e2J (j : Jb) : Nat:=(throughV j.jt j.jc 2).2.1
def e3J (j : Jb) : Nat:=(throughV j.tt j.tc 3).2.1
theorem checkJ_1 {j : Jb} (h : e1J j ≠ 0) : checkJ j = (1,(throughV j.mt j.mc 1).1,e1J j):=by unfold checkJ; exact if_pos h
theorem checkJ_2 {j : Jb} (h1 : e1J j = 0) (h : e2J j ≠ 0) : checkJ j = (2,(throughV j.jt j.jc 2).1,e2J j):=by unfold checkJ; exact (if_neg (fun q => q h1)).trans (if_pos h)
theorem checkJ_3 {j : Jb} (h1 : e1J j = 0) (h2 : e2J j = 0) (h : e3J j ≠ 0) : checkJ j = (3,(throughV j.tt j.tc 3).1,e3J j):=by unfold checkJ; exact (if_neg (fun q => q h1)).trans ((if_neg (fun q => q h2)).trans (if_pos h))
theorem checkJ_4 {j : Jb} (h1 : e1J j = 0) (h2 : e2J j = 0) (h3 : e3J j = 0) : checkJ j = if j.parts < 1 ∨ 16 < j.parts ∨ j.fuel < 1 ∨ 65536 < j.fuel then (0,0,2) else (0,0,0):=by unfold checkJ; exact (if_neg (fun q => q h1)).trans ((if_neg (fun q => q h2)).trans (if_neg (fun q => q h3)))
theorem rCheck15_any (t1 c1 t2 c2 t3 c3 : Value) (j : Jb) (w : World) (h : JobR w t1 c1 t2 c2 t3 c3 j) :
  Calls Tryz.prog 61 #[jobV t1 c1 t2 c2 t3 c3 j] w fun e w' => e = .returned (.tuple #[.int .u8 ((checkJ j).1 : Int),.int .i64 ((checkJ j).2.1 : Int),.int .i64 ((checkJ j).2.2 : Int)]) ∧ Below w.heap.size w w':=by
 have HA:=Lib.hid (fun w' (hB : Below w.heap.size w w') => rGo_any t1 c1 j.mt j.mc 1 w' (h.a.below hB).t (h.a.below hB).c h.a.lt h.a.lc h.a.m)
 have HB:=Lib.hid (fun w' (hB : Below w.heap.size w w') => rGo_any t2 c2 j.jt j.jc 2 w' (h.b.below hB).t (h.b.below hB).c h.b.lt h.b.lc h.b.m)
 have HC:=Lib.hid (fun w' (hB : Below w.heap.size w w') => rGo_any t3 c3 j.tt j.tc 3 w' (h.c.below hB).t (h.c.below hB).c h.c.lt h.c.lc h.c.m)
 obtain ⟨ta,tc,rfl,-,-⟩:=recS_open h.a.t
 obtain ⟨ca,cc,rfl,-,-⟩:=recIns_open h.a.c
 obtain ⟨ta2,tc2,rfl,-,-⟩:=recS_open h.b.t
 obtain ⟨ca2,cc2,rfl,-,-⟩:=recIns_open h.b.c
 obtain ⟨ta3,tc3,rfl,-,-⟩:=recS_open h.c.t
 obtain ⟨ca3,cc3,rfl,-,-⟩:=recIns_open h.c.c
 unfold jobV
 have p0:=h.p0
 have p1:=h.p1
 have f0:=h.f0
 have f1:=h.f1
 clear h
 obtain ⟨P,hP⟩ : ∃ P,P = j.parts:=⟨_,rfl⟩
 obtain ⟨Fu,hFu⟩ : ∃ Fu,Fu = j.fuel:=⟨_,rfl⟩
 have HP:=Lib.hid hP
 have HFu:=Lib.hid hFu
 rw [← hP] at p0 p1 ⊢
 rw [← hFu] at f0 f1 ⊢
 clear hP hFu
 go_enter Tryz.func61,Tryz.ntmps61
 go_upto_region 1 with fail
 obtain ⟨W1,hW1⟩ : ∃ W1,W1 = w.alloc (.cells #[.slice ta j.mt.length tc,.slice ca j.mc.length cc,.slice ta2 j.jt.length tc2,.slice ca2 j.jc.length cc2,.slice ta3 j.tt.length tc3,.slice ca3 j.tc.length cc3,.int .i64 P,.int .i64 Fu] 27):=⟨_,rfl⟩
 have hb1 : Below w.heap.size w W1:=by rw [hW1]; exact b_alloc _ _
 obtain ⟨J,hJ⟩ : ∃ J,J = w.heap.size:=⟨_,rfl⟩
 have hx : Blk W1 J 27 [.slice ta j.mt.length tc,.slice ca j.mc.length cc,.slice ta2 j.jt.length tc2,.slice ca2 j.jc.length cc2,.slice ta3 j.tt.length tc3,.slice ca3 j.tc.length cc3,.int .i64 P,.int .i64 Fu]:=by rw [hJ,hW1]; exact Blk.new w _ _
 have x0:=hx.cell (k:=0) rfl
 have x1:=hx.cell (k:=1) rfl
 have x2:=hx.cell (k:=2) rfl
 have x3:=hx.cell (k:=3) rfl
 have x4:=hx.cell (k:=4) rfl
 have x5:=hx.cell (k:=5) rfl
 rw [← hW1,← hJ]
 have HB1:=Lib.hid hb1
 have HX:=Lib.hid hx
 clear hW1 hb1 hx hJ
 go_upto_region 2 with fail
 obtain ⟨D,hD⟩ : ∃ D,D = W1.heap.size:=⟨_,rfl⟩
 obtain ⟨W2,hW2⟩ : ∃ W2,W2 = W1.alloc (.cells #[.slice ta j.mt.length tc,.slice ca j.mc.length cc,.slice ta2 j.jt.length tc2,.slice ca2 j.jc.length cc2,.slice ta3 j.tt.length tc3,.slice ca3 j.tc.length cc3] 25):=⟨_,rfl⟩
 have hb2 : Below W1.heap.size W1 W2:=by rw [hW2]; exact b_alloc _ _
 have hd : Blk W2 D 25 [.slice ta j.mt.length tc,.slice ca j.mc.length cc,.slice ta2 j.jt.length tc2,.slice ca2 j.jc.length cc2,.slice ta3 j.tt.length tc3,.slice ca3 j.tc.length cc3]:=by rw [hD,hW2]; exact Blk.new W1 _ _
 rw [← hW2,← hD]
 have HX2:=Lib.hid (HX.out.below hb2)
 have HD:=Lib.hid hd
 have HB2:=Lib.hid (bt HB1.out hb2)
 clear x0 x1 x2 x3 x4 x5 hW2 hD hb2 hd HX
 go_wp2_with fail
 go_loopw [6] (fun t wr => ∃ k : Nat,k ≤ 3 ∧ t = .int .i64 k ∧ Hid (Below W2.heap.size W2 wr) ∧ Hid ((1 ≤ k → e1J j = 0) ∧ (2 ≤ k → e2J j = 0) ∧ (3 ≤ k → e3J j = 0))) (fun t _ => 3 - (intOf t).toNat)
 case atStart => exact ⟨0,by omega,rfl,Below.refl _ _,fun h => by omega,fun h => by omega,fun h => by omega⟩
 case round =>
  obtain ⟨k,hk,rfl,HBR,HEK⟩:=hrel
  have hd:=HD.out.below HBR.out
  have HBW:=Lib.hid (bt HB2.out HBR.out)
  rcases (by omega : k = 0 ∨ k = 1 ∨ k = 2 ∨ k = 3) with rfl | rfl | rfl | rfl
  ·have d0:=hd.cell (k:=0) rfl
   have d1:=hd.cell (k:=1) rfl
   obtain ⟨ec,hec⟩ : ∃ ec,ec = (throughV j.mt j.mc 1).2.1:=⟨_,rfl⟩
   obtain ⟨ac,hac⟩ : ∃ ac,ac = (throughV j.mt j.mc 1).1:=⟨_,rfl⟩
   have HG:=Lib.hid (HA.out wr HBW.out)
   clear hd
   by_cases hz : ec = 0
   ·have t1 : ((ec : Int) != 0) = false:=by rw [hz]; rfl
    have HZ:=Lib.hid (show e1J j = 0 by rw [← hz,hec]; rfl)
    have HEQ:=Lib.hid hec
    have HAQ:=Lib.hid hac
    clear hz hec hac
    go_wp2_with (go_at_call 102; refine HG.out.mono ?_; rintro e w3 ⟨⟨Gg,gb,bv,sv,ev,rfl,-⟩,hB3⟩; rw [← HEQ.out,← HAQ.out]; have HB3:=Lib.hid hB3; clear hB3)
    go_roundw
    case rel => exact ⟨1,by omega,rfl,bt HBR.out HB3.out,fun _ => HZ.out,fun h => by omega,fun h => by omega⟩
    case measure => decide
   ·have t1 : ((ec : Int) != 0) = true:=by rw [bne_iff_ne]; omega
    have HZ:=Lib.hid (show checkJ j = (1,ac,ec) by rw [hec,hac]; exact checkJ_1 (fun h => hz (by rw [hec]; exact h)))
    have HEQ:=Lib.hid hec
    have HAQ:=Lib.hid hac
    clear hz hec hac
    go_wp2_with (go_at_call 102; refine HG.out.mono ?_; rintro e w3 ⟨⟨Gg,gb,bv,sv,ev,rfl,-⟩,hB3⟩; rw [← HEQ.out,← HAQ.out]; have HB3:=Lib.hid hB3; clear hB3)
    go_ret3
    rw [HZ.out]
    exact ⟨rfl,bt HBW.out HB3.out⟩
  ·have d0:=hd.cell (k:=2) rfl
   have d1:=hd.cell (k:=3) rfl
   obtain ⟨ec,hec⟩ : ∃ ec,ec = (throughV j.jt j.jc 2).2.1:=⟨_,rfl⟩
   obtain ⟨ac,hac⟩ : ∃ ac,ac = (throughV j.jt j.jc 2).1:=⟨_,rfl⟩
   have HG:=Lib.hid (HB.out wr HBW.out)
   clear hd
   by_cases hz : ec = 0
   ·have t1 : ((ec : Int) != 0) = false:=by rw [hz]; rfl
    have HZ:=Lib.hid (show e2J j = 0 by rw [← hz,hec]; rfl)
    have HEQ:=Lib.hid hec
    have HAQ:=Lib.hid hac
    clear hz hec hac
    go_wp2_with (go_at_call 102; refine HG.out.mono ?_; rintro e w3 ⟨⟨Gg,gb,bv,sv,ev,rfl,-⟩,hB3⟩; rw [← HEQ.out,← HAQ.out]; have HB3:=Lib.hid hB3; clear hB3)
    go_roundw
    case rel => exact ⟨2,by omega,rfl,bt HBR.out HB3.out,fun _ => HEK.out.1 (by omega),fun _ => HZ.out,fun h => by omega⟩
    case measure => decide
   ·have t1 : ((ec : Int) != 0) = true:=by rw [bne_iff_ne]; omega
    have HZ:=Lib.hid (show checkJ j = (2,ac,ec) by rw [hec,hac]; exact checkJ_2 (HEK.out.1 (by omega)) (fun h => hz (by rw [hec]; exact h)))
    have HEQ:=Lib.hid hec
    have HAQ:=Lib.hid hac
    clear hz hec hac
    go_wp2_with (go_at_call 102; refine HG.out.mono ?_; rintro e w3 ⟨⟨Gg,gb,bv,sv,ev,rfl,-⟩,hB3⟩; rw [← HEQ.out,← HAQ.out]; have HB3:=Lib.hid hB3; clear hB3)
    go_ret3
    rw [HZ.out]
    exact ⟨rfl,bt HBW.out HB3.out⟩
  ·have d0:=hd.cell (k:=4) rfl
   have d1:=hd.cell (k:=5) rfl
   obtain ⟨ec,hec⟩ : ∃ ec,ec = (throughV j.tt j.tc 3).2.1:=⟨_,rfl⟩
   obtain ⟨ac,hac⟩ : ∃ ac,ac = (throughV j.tt j.tc 3).1:=⟨_,rfl⟩
   have HG:=Lib.hid (HC.out wr HBW.out)
   clear hd
   by_cases hz : ec = 0
   ·have t1 : ((ec : Int) != 0) = false:=by rw [hz]; rfl
    have HZ:=Lib.hid (show e3J j = 0 by rw [← hz,hec]; rfl)
    have HEQ:=Lib.hid hec
    have HAQ:=Lib.hid hac
    clear hz hec hac
    go_wp2_with (go_at_call 102; refine HG.out.mono ?_; rintro e w3 ⟨⟨Gg,gb,bv,sv,ev,rfl,-⟩,hB3⟩; rw [← HEQ.out,← HAQ.out]; have HB3:=Lib.hid hB3; clear hB3)
    go_roundw
    case rel => exact ⟨3,by omega,rfl,bt HBR.out HB3.out,fun _ => HEK.out.1 (by omega),fun _ => HEK.out.2.1 (by omega),fun _ => HZ.out⟩
    case measure => decide
   ·have t1 : ((ec : Int) != 0) = true:=by rw [bne_iff_ne]; omega
    have HZ:=Lib.hid (show checkJ j = (3,ac,ec) by rw [hec,hac]; exact checkJ_3 (HEK.out.1 (by omega)) (HEK.out.2.1 (by omega)) (fun h => hz (by rw [hec]; exact h)))
    have HEQ:=Lib.hid hec
    have HAQ:=Lib.hid hac
    clear hz hec hac
    go_wp2_with (go_at_call 102; refine HG.out.mono ?_; rintro e w3 ⟨⟨Gg,gb,bv,sv,ev,rfl,-⟩,hB3⟩; rw [← HEQ.out,← HAQ.out]; have HB3:=Lib.hid hB3; clear hB3)
    go_ret3
    rw [HZ.out]
    exact ⟨rfl,bt HBW.out HB3.out⟩
  ·have hx:=HX2.out.below HBR.out
   have x6:=hx.cell (k:=6) rfl
   have x7:=hx.cell (k:=7) rfl
   have H4:=Lib.hid (checkJ_4 (HEK.out.1 (by omega)) (HEK.out.2.1 (by omega)) (HEK.out.2.2 (by omega)))
   rw [← HP.out,← HFu.out] at H4
   clear hx hd
   have hbad : (P < 1 ∨ 16 < P ∨ Fu < 1 ∨ 65536 < Fu) → Hid (checkJ j = (0,0,2)):=fun hc => H4.out.trans (if_pos hc)
   by_cases q1 : P < 1
   ·have HZ:=hbad (.inl q1)
    clear hbad
    go_wp2_with fail
    go_ret3
    rw [HZ.out]
    exact ⟨rfl,HBW.out⟩
   ·by_cases q2 : 16 < P
    ·have HZ:=hbad (.inr (.inl q2))
     clear hbad
     go_wp2_with fail
     go_ret3
     rw [HZ.out]
     exact ⟨rfl,HBW.out⟩
    ·by_cases q3 : Fu < 1
     ·have HZ:=hbad (.inr (.inr (.inl q3)))
      clear hbad
      go_wp2_with fail
      go_ret3
      rw [HZ.out]
      exact ⟨rfl,HBW.out⟩
     ·by_cases q4 : 65536 < Fu
      ·have HZ:=hbad (.inr (.inr (.inr q4)))
       clear hbad
       go_wp2_with fail
       go_ret3
       rw [HZ.out]
       exact ⟨rfl,HBW.out⟩
      ·have HZ:=Lib.hid (show checkJ j = (0,0,0) from H4.out.trans (if_neg (by rintro (h | h | h | h) <;> omega)))
       clear hbad
       go_wp2_with fail
       go_ret3
       rw [HZ.out]
       exact ⟨rfl,HBW.out⟩
theorem rMay15_any (t1 c1 t2 c2 t3 c3 : Value) (j : Jb) (w : World) (h : JobR w t1 c1 t2 c2 t3 c3 j) :
  Calls Tryz.prog 30 #[jobV t1 c1 t2 c2 t3 c3 j] w fun e w' => e = .returned (.bool (mayJ j)) ∧ Below w.heap.size w w':=by
 have HCK:=Lib.hid (fun w' (hB : Below w.heap.size w w') => rCheck15_any t1 c1 t2 c2 t3 c3 j w' (h.below hB))
 obtain ⟨ta,tc,rfl,-,-⟩:=recS_open h.a.t
 obtain ⟨ca,cc,rfl,-,-⟩:=recIns_open h.a.c
 obtain ⟨ta2,tc2,rfl,-,-⟩:=recS_open h.b.t
 obtain ⟨ca2,cc2,rfl,-,-⟩:=recIns_open h.b.c
 obtain ⟨ta3,tc3,rfl,-,-⟩:=recS_open h.c.t
 obtain ⟨ca3,cc3,rfl,-,-⟩:=recIns_open h.c.c
 unfold jobV at HCK ⊢
 clear h
 obtain ⟨W1,hW1⟩ : ∃ W1,W1 = w.alloc (.cells #[.slice ta j.mt.length tc,.slice ca j.mc.length cc,.slice ta2 j.jt.length tc2,.slice ca2 j.jc.length cc2,.slice ta3 j.tt.length tc3,.slice ca3 j.tc.length cc3,.int .i64 j.parts,.int .i64 j.fuel] 27):=⟨_,rfl⟩
 have hb1 : Below w.heap.size w W1:=by rw [hW1]; exact b_alloc _ _
 obtain ⟨J,hJ⟩ : ∃ J,J = w.heap.size:=⟨_,rfl⟩
 have hx : Blk W1 J 27 [.slice ta j.mt.length tc,.slice ca j.mc.length cc,.slice ta2 j.jt.length tc2,.slice ca2 j.jc.length cc2,.slice ta3 j.tt.length tc3,.slice ca3 j.tc.length cc3,.int .i64 j.parts,.int .i64 j.fuel]:=by rw [hJ,hW1]; exact Blk.new w _ _
 have x0:=hx.cell (k:=0) rfl
 have x1:=hx.cell (k:=1) rfl
 have x2:=hx.cell (k:=2) rfl
 have x3:=hx.cell (k:=3) rfl
 have x4:=hx.cell (k:=4) rfl
 have x5:=hx.cell (k:=5) rfl
 have x6:=hx.cell (k:=6) rfl
 have x7:=hx.cell (k:=7) rfl
 have HB1:=Lib.hid hb1
 go_enter Tryz.func30,Tryz.ntmps30
 go_upto_region 1 with fail
 rw [← hW1,← hJ]
 obtain ⟨m,hm⟩ : ∃ m,m = mayJ j:=⟨_,rfl⟩
 have hmq : (((checkJ j).2.2 : Int) == 0) = m:=by rw [hm]; unfold mayJ; cases h : (checkJ j).2.2 <;> rfl
 have HM:=Lib.hid hm
 clear hW1 hJ hb1 hx hm
 go_wp2_with (go_at_call 61; refine (HCK.out _ HB1.out).mono ?_; rintro e w3 ⟨rfl,hB3⟩; have HB3:=Lib.hid hB3; clear hB3)
 go_ret
 exact ⟨by rw [← HM.out]; rfl,bt HB1.out HB3.out⟩
theorem progs_any (J : Nat) (w : World) :
  Calls Tryz.prog 64 #[.pointer (some ⟨J,0,none⟩)] w fun e w' => (∃ D t,e = .returned (.slice (some ⟨D,0,none⟩) 3 3) ∧ w.heap.size ≤ D ∧ Blk w' D t [.int .u8 1,.pointer (some ⟨J,0,none⟩),.int .u8 2,.pointer (some ⟨J,2,none⟩),.int .u8 3,.pointer (some ⟨J,4,none⟩)]) ∧ Below w.heap.size w w':=by
 go_enter Tryz.func64,Tryz.ntmps64
 go_upto_region 1 with fail
 go_region
 go_wp2_with fail
 go_ret
 exact ⟨⟨w.heap.size,_,rfl,Nat.le_refl _,(Blk.new w _ _).below (b_drew _)⟩,bt (b_alloc _ _) (b_drew _)⟩
theorem jCheck_any (t1 c1 t2 c2 t3 c3 : Value) (j : Jb) (w : World) (h : JobR w t1 c1 t2 c2 t3 c3 j) :
  Calls Tryz.prog 34 #[jobV t1 c1 t2 c2 t3 c3 j] w fun e w' => e = .returned (.tuple #[.int .u8 ((checkJ j).1 : Int),.int .i64 ((checkJ j).2.1 : Int),.int .i64 ((checkJ j).2.2 : Int)]) ∧ Below w.heap.size w w':=by
 have HA:=Lib.hid (fun w' (hB : Below w.heap.size w w') => Check13_any t1 c1 j.mt j.mc 1 w' (h.a.below hB))
 have HB:=Lib.hid (fun w' (hB : Below w.heap.size w w') => Check13_any t2 c2 j.jt j.jc 2 w' (h.b.below hB))
 have HC:=Lib.hid (fun w' (hB : Below w.heap.size w w') => Check13_any t3 c3 j.tt j.tc 3 w' (h.c.below hB))
 obtain ⟨ta,tc,rfl,-,-⟩:=recS_open h.a.t
 obtain ⟨ca,cc,rfl,-,-⟩:=recIns_open h.a.c
 obtain ⟨ta2,tc2,rfl,-,-⟩:=recS_open h.b.t
 obtain ⟨ca2,cc2,rfl,-,-⟩:=recIns_open h.b.c
 obtain ⟨ta3,tc3,rfl,-,-⟩:=recS_open h.c.t
 obtain ⟨ca3,cc3,rfl,-,-⟩:=recIns_open h.c.c
 unfold jobV
 have p0:=h.p0
 have p1:=h.p1
 have f0:=h.f0
 have f1:=h.f1
 clear h
 obtain ⟨P,hP⟩ : ∃ P,P = j.parts:=⟨_,rfl⟩
 obtain ⟨Fu,hFu⟩ : ∃ Fu,Fu = j.fuel:=⟨_,rfl⟩
 have HP:=Lib.hid hP
 have HFu:=Lib.hid hFu
 rw [← hP] at p0 p1 ⊢
 rw [← hFu] at f0 f1 ⊢
 clear hP hFu
 go_enter Tryz.func34,Tryz.ntmps34
 go_upto_region 1 with fail
 obtain ⟨W1,hW1⟩ : ∃ W1,W1 = w.alloc (.cells #[.slice ta j.mt.length tc,.slice ca j.mc.length cc,.slice ta2 j.jt.length tc2,.slice ca2 j.jc.length cc2,.slice ta3 j.tt.length tc3,.slice ca3 j.tc.length cc3,.int .i64 P,.int .i64 Fu] 27):=⟨_,rfl⟩
 have hb1 : Below w.heap.size w W1:=by rw [hW1]; exact b_alloc _ _
 obtain ⟨J,hJ⟩ : ∃ J,J = w.heap.size:=⟨_,rfl⟩
 have hx : Blk W1 J 27 [.slice ta j.mt.length tc,.slice ca j.mc.length cc,.slice ta2 j.jt.length tc2,.slice ca2 j.jc.length cc2,.slice ta3 j.tt.length tc3,.slice ca3 j.tc.length cc3,.int .i64 P,.int .i64 Fu]:=by rw [hJ,hW1]; exact Blk.new w _ _
 have x0:=hx.cell (k:=0) rfl
 have x1:=hx.cell (k:=1) rfl
 have x2:=hx.cell (k:=2) rfl
 have x3:=hx.cell (k:=3) rfl
 have x4:=hx.cell (k:=4) rfl
 have x5:=hx.cell (k:=5) rfl
 have x6:=hx.cell (k:=6) rfl
 have x7:=hx.cell (k:=7) rfl
 rw [← hW1,← hJ]
 have HB1:=Lib.hid hb1
 have HX:=Lib.hid hx
 clear hW1 hb1 hx hJ
 go_upto_region 2 with fail
 obtain ⟨H,hH⟩ : ∃ H,H = W1.heap.size:=⟨_,rfl⟩
 obtain ⟨W2,hW2⟩ : ∃ W2,W2 = W1.alloc (.cells #[.slice ta j.mt.length tc,.slice ca j.mc.length cc,.slice ta2 j.jt.length tc2,.slice ca2 j.jc.length cc2,.slice ta3 j.tt.length tc3,.slice ca3 j.tc.length cc3,.int .i64 P,.int .i64 Fu] 100):=⟨_,rfl⟩
 have hb2 : Below W1.heap.size W1 W2:=by rw [hW2]; exact b_alloc _ _
 have hh : Blk W2 H 100 [.slice ta j.mt.length tc,.slice ca j.mc.length cc,.slice ta2 j.jt.length tc2,.slice ca2 j.jc.length cc2,.slice ta3 j.tt.length tc3,.slice ca3 j.tc.length cc3,.int .i64 P,.int .i64 Fu]:=by rw [hH,hW2]; exact Blk.new W1 _ _
 rw [← hW2,← hH]
 have HX1:=Lib.hid (HX.out.below hb2)
 have HH1:=Lib.hid hh
 have HB0:=Lib.hid (bt HB1.out hb2)
 clear x0 x1 x2 x3 x4 x5 x6 x7 hW2 hH hb2 hh HX
 go_upto_region 3 with (first | (go_at_call 64; refine (progs_any H W2).mono ?_; rintro e w3 ⟨⟨D,t,rfl,hDl,hd⟩,hB3⟩; have HX2:=Lib.hid (HX1.out.below hB3); have HH:=Lib.hid (HH1.out.below hB3); have HD:=Lib.hid hd; have HB2:=Lib.hid (bt HB0.out hB3); clear hDl hd hB3) | fail)
 go_loopw [16] (fun t wr => ∃ k : Nat,k ≤ 3 ∧ t = .int .i64 k ∧ Hid (Below w3.heap.size w3 wr) ∧ Hid ((1 ≤ k → e1J j = 0) ∧ (2 ≤ k → e2J j = 0) ∧ (3 ≤ k → e3J j = 0))) (fun t _ => 3 - (intOf t).toNat)
 case atStart => exact ⟨0,by omega,rfl,Below.refl _ _,fun h => by omega,fun h => by omega,fun h => by omega⟩
 case round =>
  obtain ⟨k,hk,rfl,HBR,HEK⟩:=hrel
  have hd:=HD.out.below HBR.out
  have HBW:=Lib.hid (bt HB2.out HBR.out)
  rcases (by omega : k = 0 ∨ k = 1 ∨ k = 2 ∨ k = 3) with rfl | rfl | rfl | rfl
  ·have d0:=hd.cell (k:=0) rfl
   have d1:=hd.cell (k:=1) rfl
   obtain ⟨ec,hec⟩ : ∃ ec,ec = (throughV j.mt j.mc 1).2.1:=⟨_,rfl⟩
   obtain ⟨ac,hac⟩ : ∃ ac,ac = (throughV j.mt j.mc 1).1:=⟨_,rfl⟩
   have HEQ:=Lib.hid hec
   have HAQ:=Lib.hid hac
   clear hec hac
   go_wp2_with fail
   go_upto_region 5 with fail
   obtain ⟨T,hT⟩ : ∃ T,T = wr.heap.size:=⟨_,rfl⟩
   obtain ⟨U,hU⟩ : ∃ U,U = wr.alloc (.cells #[.int .u8 1,.pointer (some ⟨H,0,none⟩)] 104):=⟨_,rfl⟩
   have hbU : Below wr.heap.size wr U:=by rw [hU]; exact b_alloc _ _
   have hu : Blk U T 104 [.int .u8 1,.pointer (some ⟨H,0,none⟩)]:=by rw [hT,hU]; exact Blk.new _ _ _
   have hhU:=(HH.out.below HBR.out).below hbU
   have u0:=hu.cell (k:=0) rfl
   have u1:=hu.cell (k:=1) rfl
   have v0:=hhU.cell (k:=0) rfl
   have v1:=hhU.cell (k:=1) rfl
   have hTl : T < U.heap.size:=lt_of_cell u0
   have hHl : H < U.heap.size:=lt_of_cell v0
   have HG:=Lib.hid (HA.out U.drew (bt (bt HBW.out hbU) (b_drew U)))
   have HBU:=Lib.hid hbU
   rw [← hU,← hT]
   clear hd d0 d1 hU hT hbU hu hhU
   by_cases hz : ec = 0
   ·have t1 : ((ec : Int) != 0) = false:=by rw [hz]; rfl
    have HZ:=Lib.hid (show e1J j = 0 by rw [← hz,HEQ.out]; rfl)
    clear hz
    go_region_law (refine step_callM rfl 65 #[.agg #[.slice ta j.mt.length tc,.slice ca j.mc.length cc],.int .u8 1] (by go_simp) HG.out ?_; rintro e w7 ⟨rfl,hB7⟩; rw [← HEQ.out,← HAQ.out]; have u0:=Below.keeps (bt (b_drew U) hB7) u0; have HB7:=Lib.hid (bt HBU.out (bt (b_drew U) hB7)); clear hB7)
    all_goals
     go_wp2_with fail
     go_roundw
     case rel => exact ⟨1,by omega,rfl,bt HBR.out HB7.out,fun _ => HZ.out,fun h => by omega,fun h => by omega⟩
     case measure => decide
   ·have t1 : ((ec : Int) != 0) = true:=by rw [bne_iff_ne]; omega
    have HZ:=Lib.hid (show checkJ j = (1,ac,ec) by rw [HEQ.out,HAQ.out]; exact checkJ_1 (fun h => hz (by rw [HEQ.out]; exact h)))
    clear hz
    go_region_law (refine step_callM rfl 65 #[.agg #[.slice ta j.mt.length tc,.slice ca j.mc.length cc],.int .u8 1] (by go_simp) HG.out ?_; rintro e w7 ⟨rfl,hB7⟩; rw [← HEQ.out,← HAQ.out]; have u0:=Below.keeps (bt (b_drew U) hB7) u0; have HB7:=Lib.hid (bt HBU.out (bt (b_drew U) hB7)); clear hB7)
    all_goals
     go_wp2_with fail
     go_ret3
     rw [HZ.out]
     exact ⟨rfl,bt HBW.out HB7.out⟩
  ·have d0:=hd.cell (k:=2) rfl
   have d1:=hd.cell (k:=3) rfl
   obtain ⟨ec,hec⟩ : ∃ ec,ec = (throughV j.jt j.jc 2).2.1:=⟨_,rfl⟩
   obtain ⟨ac,hac⟩ : ∃ ac,ac = (throughV j.jt j.jc 2).1:=⟨_,rfl⟩
   have HEQ:=Lib.hid hec
   have HAQ:=Lib.hid hac
   clear hec hac
   go_wp2_with fail
   go_upto_region 5 with fail
   obtain ⟨T,hT⟩ : ∃ T,T = wr.heap.size:=⟨_,rfl⟩
   obtain ⟨U,hU⟩ : ∃ U,U = wr.alloc (.cells #[.int .u8 2,.pointer (some ⟨H,2,none⟩)] 104):=⟨_,rfl⟩
   have hbU : Below wr.heap.size wr U:=by rw [hU]; exact b_alloc _ _
   have hu : Blk U T 104 [.int .u8 2,.pointer (some ⟨H,2,none⟩)]:=by rw [hT,hU]; exact Blk.new _ _ _
   have hhU:=(HH.out.below HBR.out).below hbU
   have u0:=hu.cell (k:=0) rfl
   have u1:=hu.cell (k:=1) rfl
   have v0:=hhU.cell (k:=2) rfl
   have v1:=hhU.cell (k:=3) rfl
   have hTl : T < U.heap.size:=lt_of_cell u0
   have hHl : H < U.heap.size:=lt_of_cell v0
   have HG:=Lib.hid (HB.out U.drew (bt (bt HBW.out hbU) (b_drew U)))
   have HBU:=Lib.hid hbU
   rw [← hU,← hT]
   clear hd d0 d1 hU hT hbU hu hhU
   by_cases hz : ec = 0
   ·have t1 : ((ec : Int) != 0) = false:=by rw [hz]; rfl
    have HZ:=Lib.hid (show e2J j = 0 by rw [← hz,HEQ.out]; rfl)
    clear hz
    go_region_law (refine step_callM rfl 65 #[.agg #[.slice ta2 j.jt.length tc2,.slice ca2 j.jc.length cc2],.int .u8 2] (by go_simp) HG.out ?_; rintro e w7 ⟨rfl,hB7⟩; rw [← HEQ.out,← HAQ.out]; have u0:=Below.keeps (bt (b_drew U) hB7) u0; have HB7:=Lib.hid (bt HBU.out (bt (b_drew U) hB7)); clear hB7)
    all_goals
     go_wp2_with fail
     go_roundw
     case rel => exact ⟨2,by omega,rfl,bt HBR.out HB7.out,fun _ => HEK.out.1 (by omega),fun _ => HZ.out,fun h => by omega⟩
     case measure => decide
   ·have t1 : ((ec : Int) != 0) = true:=by rw [bne_iff_ne]; omega
    have HZ:=Lib.hid (show checkJ j = (2,ac,ec) by rw [HEQ.out,HAQ.out]; exact checkJ_2 (HEK.out.1 (by omega)) (fun h => hz (by rw [HEQ.out]; exact h)))
    clear hz
    go_region_law (refine step_callM rfl 65 #[.agg #[.slice ta2 j.jt.length tc2,.slice ca2 j.jc.length cc2],.int .u8 2] (by go_simp) HG.out ?_; rintro e w7 ⟨rfl,hB7⟩; rw [← HEQ.out,← HAQ.out]; have u0:=Below.keeps (bt (b_drew U) hB7) u0; have HB7:=Lib.hid (bt HBU.out (bt (b_drew U) hB7)); clear hB7)
    all_goals
     go_wp2_with fail
     go_ret3
     rw [HZ.out]
     exact ⟨rfl,bt HBW.out HB7.out⟩
  ·have d0:=hd.cell (k:=4) rfl
   have d1:=hd.cell (k:=5) rfl
   obtain ⟨ec,hec⟩ : ∃ ec,ec = (throughV j.tt j.tc 3).2.1:=⟨_,rfl⟩
   obtain ⟨ac,hac⟩ : ∃ ac,ac = (throughV j.tt j.tc 3).1:=⟨_,rfl⟩
   have HEQ:=Lib.hid hec
   have HAQ:=Lib.hid hac
   clear hec hac
   go_wp2_with fail
   go_upto_region 5 with fail
   obtain ⟨T,hT⟩ : ∃ T,T = wr.heap.size:=⟨_,rfl⟩
   obtain ⟨U,hU⟩ : ∃ U,U = wr.alloc (.cells #[.int .u8 3,.pointer (some ⟨H,4,none⟩)] 104):=⟨_,rfl⟩
   have hbU : Below wr.heap.size wr U:=by rw [hU]; exact b_alloc _ _
   have hu : Blk U T 104 [.int .u8 3,.pointer (some ⟨H,4,none⟩)]:=by rw [hT,hU]; exact Blk.new _ _ _
   have hhU:=(HH.out.below HBR.out).below hbU
   have u0:=hu.cell (k:=0) rfl
   have u1:=hu.cell (k:=1) rfl
   have v0:=hhU.cell (k:=4) rfl
   have v1:=hhU.cell (k:=5) rfl
   have hTl : T < U.heap.size:=lt_of_cell u0
   have hHl : H < U.heap.size:=lt_of_cell v0
   have HG:=Lib.hid (HC.out U.drew (bt (bt HBW.out hbU) (b_drew U)))
   have HBU:=Lib.hid hbU
   rw [← hU,← hT]
   clear hd d0 d1 hU hT hbU hu hhU
   by_cases hz : ec = 0
   ·have t1 : ((ec : Int) != 0) = false:=by rw [hz]; rfl
    have HZ:=Lib.hid (show e3J j = 0 by rw [← hz,HEQ.out]; rfl)
    clear hz
    go_region_law (refine step_callM rfl 65 #[.agg #[.slice ta3 j.tt.length tc3,.slice ca3 j.tc.length cc3],.int .u8 3] (by go_simp) HG.out ?_; rintro e w7 ⟨rfl,hB7⟩; rw [← HEQ.out,← HAQ.out]; have u0:=Below.keeps (bt (b_drew U) hB7) u0; have HB7:=Lib.hid (bt HBU.out (bt (b_drew U) hB7)); clear hB7)
    all_goals
     go_wp2_with fail
     go_roundw
     case rel => exact ⟨3,by omega,rfl,bt HBR.out HB7.out,fun _ => HEK.out.1 (by omega),fun _ => HEK.out.2.1 (by omega),fun _ => HZ.out⟩
     case measure => decide
   ·have t1 : ((ec : Int) != 0) = true:=by rw [bne_iff_ne]; omega
    have HZ:=Lib.hid (show checkJ j = (3,ac,ec) by rw [HEQ.out,HAQ.out]; exact checkJ_3 (HEK.out.1 (by omega)) (HEK.out.2.1 (by omega)) (fun h => hz (by rw [HEQ.out]; exact h)))
    clear hz
    go_region_law (refine step_callM rfl 65 #[.agg #[.slice ta3 j.tt.length tc3,.slice ca3 j.tc.length cc3],.int .u8 3] (by go_simp) HG.out ?_; rintro e w7 ⟨rfl,hB7⟩; rw [← HEQ.out,← HAQ.out]; have u0:=Below.keeps (bt (b_drew U) hB7) u0; have HB7:=Lib.hid (bt HBU.out (bt (b_drew U) hB7)); clear hB7)
    all_goals
     go_wp2_with fail
     go_ret3
     rw [HZ.out]
     exact ⟨rfl,bt HBW.out HB7.out⟩
  ·have hx:=HX2.out.below HBR.out
   have x6:=hx.cell (k:=6) rfl
   have x7:=hx.cell (k:=7) rfl
   have H4:=Lib.hid (checkJ_4 (HEK.out.1 (by omega)) (HEK.out.2.1 (by omega)) (HEK.out.2.2 (by omega)))
   rw [← HP.out,← HFu.out] at H4
   clear hx hd
   have hbad : (P < 1 ∨ 16 < P ∨ Fu < 1 ∨ 65536 < Fu) → Hid (checkJ j = (0,0,2)):=fun hc => H4.out.trans (if_pos hc)
   by_cases q1 : P < 1
   ·have HZ:=hbad (.inl q1)
    clear hbad
    go_wp2_with fail
    go_ret3
    rw [HZ.out]
    exact ⟨rfl,HBW.out⟩
   ·by_cases q2 : 16 < P
    ·have HZ:=hbad (.inr (.inl q2))
     clear hbad
     go_wp2_with fail
     go_ret3
     rw [HZ.out]
     exact ⟨rfl,HBW.out⟩
    ·by_cases q3 : Fu < 1
     ·have HZ:=hbad (.inr (.inr (.inl q3)))
      clear hbad
      go_wp2_with fail
      go_ret3
      rw [HZ.out]
      exact ⟨rfl,HBW.out⟩
     ·by_cases q4 : 65536 < Fu
      ·have HZ:=hbad (.inr (.inr (.inr q4)))
       clear hbad
       go_wp2_with fail
       go_ret3
       rw [HZ.out]
       exact ⟨rfl,HBW.out⟩
      ·have HZ:=Lib.hid (show checkJ j = (0,0,0) from H4.out.trans (if_neg (by rintro (h | h | h | h) <;> omega)))
       clear hbad
       go_wp2_with fail
       go_ret3
       rw [HZ.out]
       exact ⟨rfl,HBW.out⟩
theorem jmay_any (t1 c1 t2 c2 t3 c3 : Value) (j : Jb) (w : World) (h : JobR w t1 c1 t2 c2 t3 c3 j) :
  Calls Tryz.prog 108 #[jobV t1 c1 t2 c2 t3 c3 j] w fun e w' => e = .returned (.bool (mayJ j)) ∧ Below w.heap.size w w':=by
 have HCK:=Lib.hid (fun w' (hB : Below w.heap.size w w') => jCheck_any t1 c1 t2 c2 t3 c3 j w' (h.below hB))
 obtain ⟨ta,tc,rfl,-,-⟩:=recS_open h.a.t
 obtain ⟨ca,cc,rfl,-,-⟩:=recIns_open h.a.c
 obtain ⟨ta2,tc2,rfl,-,-⟩:=recS_open h.b.t
 obtain ⟨ca2,cc2,rfl,-,-⟩:=recIns_open h.b.c
 obtain ⟨ta3,tc3,rfl,-,-⟩:=recS_open h.c.t
 obtain ⟨ca3,cc3,rfl,-,-⟩:=recIns_open h.c.c
 unfold jobV at HCK ⊢
 clear h
 obtain ⟨W1,hW1⟩ : ∃ W1,W1 = w.alloc (.cells #[.slice ta j.mt.length tc,.slice ca j.mc.length cc,.slice ta2 j.jt.length tc2,.slice ca2 j.jc.length cc2,.slice ta3 j.tt.length tc3,.slice ca3 j.tc.length cc3,.int .i64 j.parts,.int .i64 j.fuel] 27):=⟨_,rfl⟩
 have hb1 : Below w.heap.size w W1:=by rw [hW1]; exact b_alloc _ _
 obtain ⟨J,hJ⟩ : ∃ J,J = w.heap.size:=⟨_,rfl⟩
 have hx : Blk W1 J 27 [.slice ta j.mt.length tc,.slice ca j.mc.length cc,.slice ta2 j.jt.length tc2,.slice ca2 j.jc.length cc2,.slice ta3 j.tt.length tc3,.slice ca3 j.tc.length cc3,.int .i64 j.parts,.int .i64 j.fuel]:=by rw [hJ,hW1]; exact Blk.new w _ _
 have x0:=hx.cell (k:=0) rfl
 have x1:=hx.cell (k:=1) rfl
 have x2:=hx.cell (k:=2) rfl
 have x3:=hx.cell (k:=3) rfl
 have x4:=hx.cell (k:=4) rfl
 have x5:=hx.cell (k:=5) rfl
 have x6:=hx.cell (k:=6) rfl
 have x7:=hx.cell (k:=7) rfl
 have HB1:=Lib.hid hb1
 go_enter Tryz.func108,Tryz.ntmps108
 go_upto_region 1 with fail
 rw [← hW1,← hJ]
 obtain ⟨m,hm⟩ : ∃ m,m = mayJ j:=⟨_,rfl⟩
 have hmq : (((checkJ j).2.2 : Int) == 0) = m:=by rw [hm]; unfold mayJ; cases h : (checkJ j).2.2 <;> rfl
 have HM:=Lib.hid hm
 clear hW1 hJ hb1 hx hm
 go_wp2_with (go_at_call 34; refine (HCK.out _ HB1.out).mono ?_; rintro e w3 ⟨rfl,hB3⟩; have HB3:=Lib.hid hB3; clear hB3)
 go_ret
 exact ⟨by rw [← HM.out]; rfl,bt HB1.out HB3.out⟩
end Go.Proofs.YtehllcbnheicoaaGreatDoor
