/- Lemmas for DeltaJobs: walks, plain laws. -/
import Derived.Recover
import Derived.Lib.QuietBelow
import Derived.Test.YtehllcbnheicoaaGreatDoorDeltaJobsK18
import Derived.Test.YtehllcbnheicoaaGreatDoorDeltaJobsK21
import Derived.Test.YtehllcbnheicoaaGreatDoorDeltaJobsK23
set_option linter.unusedSimpArgs false
set_option linter.unusedVariables false
set_option maxRecDepth 100000
set_option maxHeartbeats 16000000
namespace Go.Proofs.YtehllcbnheicoaaGreatDoor
open Go.RowKit Oct
section
attribute [local irreducible] wpG
theorem xJ (J:Nat)(w:World):Calls Tryz.prog 64 #[.pointer (some ⟨J,0,none⟩)] w fun e w'=>(∃ D t,e=.returned (.slice (some ⟨D,0,none⟩) 3 3)∧w.heap.size≤D∧Blk w' D t [.int .u8 1,.pointer (some ⟨J,0,none⟩),.int .u8 2,.pointer (some ⟨J,2,none⟩),.int .u8 3,.pointer (some ⟨J,4,none⟩)])∧Bw_ w w':=by
 go_enter Tryz.func64,Tryz.ntmps64;go_upto_region 1 with fail;go_region;go_wp2_with fail;go_ret;exact⟨⟨w.heap.size,_,rfl,Ei _,(Blk.new w _ _).below (b_drew _)⟩,bt (af _ _) (b_drew _)⟩
theorem Gz {T:Prop} (h:T:=by
 clear hbad;go_wp2_with fail;go_ret3;rw[HZ.o];exact⟨rfl,HBW.o⟩
):T:=h
theorem GA {T:Prop} (h:T:=by
 go_wp2_with fail;go_ret3;rw[HZ.o];exact⟨rfl,bt HBW.o HB7.o⟩
):T:=h
theorem gD (t1 c1 t2 c2 t3 c3:Value)(j:Jb)(w:World)(h:eO w t1 c1 t2 c2 t3 c3 j):Calls Tryz.prog 34 #[cg t1 c1 t2 c2 t3 c3 j] w fun e w'=>e=.returned (.tuple #[.int .u8 ((bu j).1:Int),.int .i64 ((bu j).2.1:Int),.int .i64 ((bu j).2.2:Int)])∧Bw_ w w':=by
 have HA:=zH (fun w' (hB:Below w.heap.size w w')=>jQ t1 c1 j.mt j.mc 1 w' (h.a.below hB));have HB:=zH (fun w' (hB:Below w.heap.size w w')=>jQ t2 c2 j.jt j.jc 2 w' (h.b.below hB));have HC:=zH (fun w' (hB:Below w.heap.size w w')=>jQ t3 c3 j.tt j.tc 3 w' (h.c.below hB));obtain⟨ta,tc,ca,cc,ta2,tc2,ca2,cc2,ta3,tc3,ca3,cc3,rfl,rfl,rfl,rfl,rfl,rfl⟩:=jo_ h.a.t h.a.c h.b.t h.b.c h.c.t h.c.c;unfold cg;have p0:=h.p0;have p1:=h.p1;have f0:=h.f0;have f1:=h.f1;clear h;obtain⟨P,hP⟩:=ex_ j.parts;obtain⟨Fu,hFu⟩:=ex_ j.fuel;have HP:=zH hP;have HFu:=zH hFu;rw[←hP]at p0 p1⊢;rw[←hFu]at f0 f1⊢;clear hP hFu;go_enter Tryz.func34,Tryz.ntmps34;go_upto_region 1 with fail;obtain⟨W1,hW1⟩:=ex_ (w.alloc (.cells #[.slice ta j.mt.length tc,.slice ca j.mc.length cc,.slice ta2 j.jt.length tc2,.slice ca2 j.jc.length cc2,.slice ta3 j.tt.length tc3,.slice ca3 j.tc.length cc3,.int .i64 P,.int .i64 Fu] 27));have hb1:=ba_ hW1;obtain⟨J,hJ⟩:=ex_ w.heap.size;have hx:=bn_ hJ hW1;obtain⟨x0,x1,x2,x3,x4,x5,x6,x7⟩:=cl8 hx;rw[←hW1,←hJ];have HB1:=zH hb1;have HX:=zH hx;clear hW1 hb1 hx hJ;go_upto_region 2 with fail;obtain⟨H,hH⟩:=ex_ W1.heap.size;obtain⟨W2,hW2⟩:=ex_ (W1.alloc (.cells #[.slice ta j.mt.length tc,.slice ca j.mc.length cc,.slice ta2 j.jt.length tc2,.slice ca2 j.jc.length cc2,.slice ta3 j.tt.length tc3,.slice ca3 j.tc.length cc3,.int .i64 P,.int .i64 Fu] 100));have hb2:=ba_ hW2;have hh:=bn_ hH hW2;rw[←hW2,←hH];have HX1:=zH (HX.o.below hb2);have HH1:=zH hh;have HB0:=zH (bt HB1.o hb2);clear x0 x1 x2 x3 x4 x5 x6 x7 hW2 hH hb2 hh HX
 go_upto_region 3 with(first|(go_at_call 64;refine(xJ H W2).mono ?_;rintro e w3 ⟨⟨D,t,rfl,hDl,hd⟩,hB3⟩;have HX2:=zH (HX1.o.below hB3);have HH:=zH (HH1.o.below hB3);have HD:=zH hd;have HB2:=zH (bt HB0.o hB3);clear hDl hd hB3)|fail)
 go_loopw [16] (fun t wr=>∃ k:Nat,k≤3∧t=.int .i64 k∧Hid (Below w3.heap.size w3 wr)∧Hid ((1≤k→e1J j=0)∧(2≤k→e2J j=0)∧(3≤k→e3J j=0))) (fun t _=>3-(intOf t).toNat)
 case atStart=>exact⟨0,by omega,rfl,Em _ _,fun h=>by omega,fun h=>by omega,fun h=>by omega⟩
 case round =>
  obtain⟨k,hk,rfl,HBR,HEK⟩:=hrel;have hd:=HD.o.below HBR.o;have HBW:=zH (bt HB2.o HBR.o);rcases(by omega:k=0∨k=1∨k=2∨k=3) with rfl|rfl|rfl|rfl
  ·obtain⟨d0,d1⟩:=cl2 hd
   obtain⟨ec,hec⟩:=ex_ ((ay j.mt j.mc 1).2.1);obtain⟨ac,hac⟩:=ex_ ((ay j.mt j.mc 1).1);have HEQ:=zH hec;have HAQ:=zH hac;clear hec hac;go_wp2_with fail;go_upto_region 5 with fail;obtain⟨T,hT⟩:=ex_ wr.heap.size;obtain⟨U,hU⟩:=ex_ (wr.alloc (.cells #[.int .u8 1,.pointer (some ⟨H,0,none⟩)] 104));have hbU:=ba_ hU;have hu:=bn_ hT hU;have hhU:=(HH.o.below HBR.o).below hbU;obtain⟨u0,u1⟩:=cl2 hu;obtain⟨v0,v1⟩:=cl2 hhU;have hTl:T<U.heap.size:=aD u0;have hHl:H<U.heap.size:=aD v0;have HG:=zH (HA.o U.drew (bt (bt HBW.o hbU) (b_drew U)));have HBU:=zH hbU;rw[←hU,←hT];clear hd d0 d1 hU hT hbU hu hhU
   by_cases hz:ec=0
   ·have t1:((ec:Int) != 0)=false:=by rw[hz];rfl
    have HZ:=zH (show e1J j=0 by rw[←hz,HEQ.o];rfl);clear hz;go_region_law (refine aO rfl 65 #[.agg #[.slice ta j.mt.length tc,.slice ca j.mc.length cc],.int .u8 1] (by go_simp) HG.o ?_;rintro e w7 ⟨rfl,hB7⟩;rw[←HEQ.o,←HAQ.o];have u0:=DK (bt (b_drew U) hB7) u0;have HB7:=zH (bt HBU.o (bt (b_drew U) hB7));clear hB7)
    all_goals
     go_wp2_with fail;go_roundw
     case rel=>exact⟨1,by omega,rfl,bt HBR.o HB7.o,fun _=>HZ.o,fun h=>by omega,fun h=>by omega⟩
     case measure=>decide
   ·have t1:((ec:Int) != 0)=true:=by rw[bne_iff_ne];omega
    have HZ:=zH (show bu j=(1,ac,ec) by rw[HEQ.o,HAQ.o];exact tj (fun h=>hz (by rw[HEQ.o];exact h)));clear hz;go_region_law (refine aO rfl 65 #[.agg #[.slice ta j.mt.length tc,.slice ca j.mc.length cc],.int .u8 1] (by go_simp) HG.o ?_;rintro e w7 ⟨rfl,hB7⟩;rw[←HEQ.o,←HAQ.o];have u0:=DK (bt (b_drew U) hB7) u0;have HB7:=zH (bt HBU.o (bt (b_drew U) hB7));clear hB7)
    all_goals
     exact GA
  ·have d0:=hd.cell (k:=2) rfl
   have d1:=hd.cell (k:=3) rfl;obtain⟨ec,hec⟩:=ex_ ((ay j.jt j.jc 2).2.1);obtain⟨ac,hac⟩:=ex_ ((ay j.jt j.jc 2).1);have HEQ:=zH hec;have HAQ:=zH hac;clear hec hac;go_wp2_with fail;go_upto_region 5 with fail;obtain⟨T,hT⟩:=ex_ wr.heap.size;obtain⟨U,hU⟩:=ex_ (wr.alloc (.cells #[.int .u8 2,.pointer (some ⟨H,2,none⟩)] 104));have hbU:=ba_ hU;have hu:=bn_ hT hU;have hhU:=(HH.o.below HBR.o).below hbU;obtain⟨u0,u1⟩:=cl2 hu;have v0:=hhU.cell (k:=2) rfl;have v1:=hhU.cell (k:=3) rfl;have hTl:T<U.heap.size:=aD u0;have hHl:H<U.heap.size:=aD v0;have HG:=zH (HB.o U.drew (bt (bt HBW.o hbU) (b_drew U)));have HBU:=zH hbU;rw[←hU,←hT];clear hd d0 d1 hU hT hbU hu hhU
   by_cases hz:ec=0
   ·have t1:((ec:Int) != 0)=false:=by rw[hz];rfl
    have HZ:=zH (show e2J j=0 by rw[←hz,HEQ.o];rfl);clear hz;go_region_law (refine aO rfl 65 #[.agg #[.slice ta2 j.jt.length tc2,.slice ca2 j.jc.length cc2],.int .u8 2] (by go_simp) HG.o ?_;rintro e w7 ⟨rfl,hB7⟩;rw[←HEQ.o,←HAQ.o];have u0:=DK (bt (b_drew U) hB7) u0;have HB7:=zH (bt HBU.o (bt (b_drew U) hB7));clear hB7)
    all_goals
     go_wp2_with fail;go_roundw
     case rel=>exact⟨2,by omega,rfl,bt HBR.o HB7.o,fun _=>HEK.o.1 (by omega),fun _=>HZ.o,fun h=>by omega⟩
     case measure=>decide
   ·have t1:((ec:Int) != 0)=true:=by rw[bne_iff_ne];omega
    have HZ:=zH (show bu j=(2,ac,ec) by rw[HEQ.o,HAQ.o];exact ti (HEK.o.1 (by omega)) (fun h=>hz (by rw[HEQ.o];exact h)));clear hz;go_region_law (refine aO rfl 65 #[.agg #[.slice ta2 j.jt.length tc2,.slice ca2 j.jc.length cc2],.int .u8 2] (by go_simp) HG.o ?_;rintro e w7 ⟨rfl,hB7⟩;rw[←HEQ.o,←HAQ.o];have u0:=DK (bt (b_drew U) hB7) u0;have HB7:=zH (bt HBU.o (bt (b_drew U) hB7));clear hB7)
    all_goals
     exact GA
  ·have d0:=hd.cell (k:=4) rfl
   have d1:=hd.cell (k:=5) rfl;obtain⟨ec,hec⟩:=ex_ ((ay j.tt j.tc 3).2.1);obtain⟨ac,hac⟩:=ex_ ((ay j.tt j.tc 3).1);have HEQ:=zH hec;have HAQ:=zH hac;clear hec hac;go_wp2_with fail;go_upto_region 5 with fail;obtain⟨T,hT⟩:=ex_ wr.heap.size;obtain⟨U,hU⟩:=ex_ (wr.alloc (.cells #[.int .u8 3,.pointer (some ⟨H,4,none⟩)] 104));have hbU:=ba_ hU;have hu:=bn_ hT hU;have hhU:=(HH.o.below HBR.o).below hbU;obtain⟨u0,u1⟩:=cl2 hu;have v0:=hhU.cell (k:=4) rfl;have v1:=hhU.cell (k:=5) rfl;have hTl:T<U.heap.size:=aD u0;have hHl:H<U.heap.size:=aD v0;have HG:=zH (HC.o U.drew (bt (bt HBW.o hbU) (b_drew U)));have HBU:=zH hbU;rw[←hU,←hT];clear hd d0 d1 hU hT hbU hu hhU
   by_cases hz:ec=0
   ·have t1:((ec:Int) != 0)=false:=by rw[hz];rfl
    have HZ:=zH (show e3J j=0 by rw[←hz,HEQ.o];rfl);clear hz;go_region_law (refine aO rfl 65 #[.agg #[.slice ta3 j.tt.length tc3,.slice ca3 j.tc.length cc3],.int .u8 3] (by go_simp) HG.o ?_;rintro e w7 ⟨rfl,hB7⟩;rw[←HEQ.o,←HAQ.o];have u0:=DK (bt (b_drew U) hB7) u0;have HB7:=zH (bt HBU.o (bt (b_drew U) hB7));clear hB7)
    all_goals
     go_wp2_with fail;go_roundw
     case rel=>exact⟨3,by omega,rfl,bt HBR.o HB7.o,fun _=>HEK.o.1 (by omega),fun _=>HEK.o.2.1 (by omega),fun _=>HZ.o⟩
     case measure=>decide
   ·have t1:((ec:Int) != 0)=true:=by rw[bne_iff_ne];omega
    have HZ:=zH (show bu j=(3,ac,ec) by rw[HEQ.o,HAQ.o];exact tg (HEK.o.1 (by omega)) (HEK.o.2.1 (by omega)) (fun h=>hz (by rw[HEQ.o];exact h)));clear hz;go_region_law (refine aO rfl 65 #[.agg #[.slice ta3 j.tt.length tc3,.slice ca3 j.tc.length cc3],.int .u8 3] (by go_simp) HG.o ?_;rintro e w7 ⟨rfl,hB7⟩;rw[←HEQ.o,←HAQ.o];have u0:=DK (bt (b_drew U) hB7) u0;have HB7:=zH (bt HBU.o (bt (b_drew U) hB7));clear hB7)
    all_goals
     exact GA
  ·have hx:=HX2.o.below HBR.o
   have x6:=hx.cell (k:=6) rfl;have x7:=hx.cell (k:=7) rfl;have H4:=zH (tf (HEK.o.1 (by omega)) (HEK.o.2.1 (by omega)) (HEK.o.2.2 (by omega)));rw[←HP.o,←HFu.o]at H4;clear hx hd;have hbad:(P<1∨16<P∨Fu<1∨65536<Fu)→Hid (bu j=(0,0,2)):=fun hc=>H4.o.trans (if_pos hc)
   by_cases q1:P<1
   ·have HZ:=hbad (.inl q1)
    exact Gz
   ·by_cases q2:16<P
    ·have HZ:=hbad (.inr (.inl q2))
     exact Gz
    ·by_cases q3:Fu<1
     ·have HZ:=hbad (.inr (.inr (.inl q3)))
      exact Gz
     ·by_cases q4:65536<Fu
      ·have HZ:=hbad (.inr (.inr (.inr q4)))
       exact Gz
      ·have HZ:=zH (show bu j=(0,0,0) from H4.o.trans (if_neg (by rintro (h|h|h|h)<;>omega)))
       exact Gz
theorem Ag (t1 c1 t2 c2 t3 c3:Value)(j:Jb)(w:World)(h:eO w t1 c1 t2 c2 t3 c3 j):Calls Tryz.prog 108 #[cg t1 c1 t2 c2 t3 c3 j] w fun e w'=>e=.returned (.bool (cd j))∧Bw_ w w':=by
 have HCK:=zH (fun w' (hB:Below w.heap.size w w')=>gD t1 c1 t2 c2 t3 c3 j w' (h.below hB));obtain⟨ta,tc,ca,cc,ta2,tc2,ca2,cc2,ta3,tc3,ca3,cc3,rfl,rfl,rfl,rfl,rfl,rfl⟩:=jo_ h.a.t h.a.c h.b.t h.b.c h.c.t h.c.c;unfold cg at HCK⊢;clear h;obtain⟨W1,hW1⟩:=ex_ (w.alloc (.cells #[.slice ta j.mt.length tc,.slice ca j.mc.length cc,.slice ta2 j.jt.length tc2,.slice ca2 j.jc.length cc2,.slice ta3 j.tt.length tc3,.slice ca3 j.tc.length cc3,.int .i64 j.parts,.int .i64 j.fuel] 27));have hb1:=ba_ hW1;obtain⟨J,hJ⟩:=ex_ w.heap.size;have hx:=bn_ hJ hW1;obtain⟨x0,x1,x2,x3,x4,x5,x6,x7⟩:=cl8 hx;have HB1:=zH hb1;go_enter Tryz.func108,Tryz.ntmps108;go_upto_region 1 with fail;rw[←hW1,←hJ];obtain⟨m,hm⟩:=ex_ (cd j);have hmq:(((bu j).2.2:Int)==0)=m:=by rw[hm];unfold cd;cases h:(bu j).2.2<;>rfl
 have HM:=zH hm;clear hW1 hJ hb1 hx hm;go_wp2_with (go_at_call 34;refine(HCK.o _ HB1.o).mono ?_;rintro e w3 ⟨rfl,hB3⟩;have HB3:=zH hB3;clear hB3);go_ret;exact⟨by rw[←HM.o];rfl,bt HB1.o HB3.o⟩
def g7 (j:Jb)(texts:LL_)(code:List VI)(role:UInt8)(ins:LL_):Nat×List (LU_×LU_)×LU_:=if cd j=true then vmV texts code role ins j.fuel else (2,[],[])
def DG (B:Nat)(r:Nat×List (LU_×LU_)×LU_)(e:Ending)(w:World):Prop :=
 ∃ a c n,e=.returned (.tuple #[.agg #[.slice a r.2.1.length c,.string (bs r.2.2),.int .i64 n],.int .i64 (r.1:Int)])∧recKv.Row w (.slice a r.2.1.length c) r.2.1∧∀ k,(Value.slice a r.2.1.length c).ownBlock=some k→B≤k
theorem sL (J:Nat)(tt:TypeId)(t1 c1 t2 c2 t3 c3 tv cv iv:Value)(j:Jb)(texts:LL_)(code:List VI)(role:UInt8)(ins:LL_)(w:World)(h:eO w t1 c1 t2 c2 t3 c3 j)(hJ:Blk w J tt [t1,c1,t2,c2,t3,c3,.int .i64 j.parts,.int .i64 j.fuel])(hA:mO w tv cv texts code)(hi:aL.Row w iv ins)(hil:ins.length≤10)(his:∀ s∈ins,s.length≤140737488355328)(hdo:cS w):Calls Tryz.prog 66 #[.pointer (some ⟨J,0,none⟩),.agg #[tv,cv],.int .u8 (role.toNat:Int),iv] w fun e w'=>DG w.heap.size (g7 j texts code role ins) e w'∧Bw_ w w':=by
 have HMAY:=zH (fun w' (hB:Below w.heap.size w w')=>Ag t1 c1 t2 c2 t3 c3 j w' (h.below hB));have HRUN:=zH (fun w' (hB:Below w.heap.size w w')=>BM tv cv iv texts code role ins j.fuel w' (hA.below hB) (hi.below hB) hil hA.lc his h.f0 h.f1 (h.g.below hB) (hdo.below hB));obtain⟨ta,tc,ca,cc,ta2,tc2,ca2,cc2,ta3,tc3,ca3,cc3,rfl,rfl,rfl,rfl,rfl,rfl⟩:=jo_ h.a.t h.a.c h.b.t h.b.c h.c.t h.c.c;obtain⟨at_,ct,rfl,-,-⟩:=an hA.t;obtain⟨ac,cc',rfl,-,-⟩:=aj hA.c;obtain⟨ai,ci,rfl,-,-⟩:=an hi;unfold cg at HMAY;have HJR:=zH (show cd j=true→g7 j texts code role ins=vmV texts code role ins j.fuel from fun h=>if_pos h);have HJN:=zH (show ¬cd j=true→g7 j texts code role ins=(2,[],[]) from fun h=>if_neg h);obtain⟨B4,hB4⟩:=ex_ w.heap.size;obtain⟨W1,hW1⟩:=ex_ ((w.alloc (.cells #[.slice at_ texts.length ct,.slice ac code.length cc'] 25)).alloc (.cells #[.slice none 0 0,.string ⟨#[]⟩,.int .i64 0] 109));have hb1:Below w.heap.size w W1:=by rw[hW1];exact bt (af _ _) (af _ _)
 have hs1:(w.alloc (.cells #[.slice at_ texts.length ct,.slice ac code.length cc'] 25)).heap.size=B4+1:=by rw[hB4];exact ba _ _
 have hx:Blk W1 B4 25 [.slice at_ texts.length ct,.slice ac code.length cc']:=by rw[hB4,hW1];exact(Blk.new w _ _).below (af _ _)
 have hy:Blk W1 (B4+1) 109 [.slice none 0 0,.string ⟨#[]⟩,.int .i64 0]:=by rw[hW1,←hs1];exact Blk.new _ _ _
 have hsz:W1.heap.size=B4+2:=by rw[hW1,ba,hs1]
 have hj1:=hJ.below hb1;obtain⟨j0,j1,j2,j3,j4,j5,j6,j7⟩:=cl8 hj1;have HB1:=zH hb1;have HX:=zH hx;have HY:=zH hy;have HB4:=zH hB4;have HSZ:=zH hsz;have HJ1:=zH hj1;go_enter Tryz.func66,Tryz.ntmps66;go_upto_region 1 with fail;rw[←hW1,←hB4];clear hW1 hB4 h hJ hA hi hb1 hx hy hs1 hsz his hdo hj1
 by_cases hyes:cd j=true
 ·have HRV:=zH (HJR.o hyes)
  rw[hyes]at HMAY;obtain⟨V,hV⟩:=ex_ (vmV texts code role ins j.fuel);rw[←hV]at HRUN HRV;clear hyes hV HJR HJN;go_upto_region 3 with(go_at_call 108;refine(HMAY.o _ HB1.o).mono ?_;rintro e w2 ⟨rfl,hB2⟩);have HB2:=zH (bt HB1.o hB2);have HY2:=zH (HY.o.below hB2);have HS2:=zH (show B4+2≤w2.heap.size by rw[←HSZ.o];exact hB2.size);have x0:=(HX.o.below hB2).cell (k:=0) rfl;have x1:=(HX.o.below hB2).cell (k:=1) rfl;have j7:=(HJ1.o.below hB2).cell (k:=7) rfl;have hJl:J<w2.heap.size:=(HJ1.o.below hB2).lt;have hBl:B4<w2.heap.size:=aD x0;have HG:=zH (HRUN.o w2.drew (bt HB2.o (b_drew _)));clear j0 j1 j2 j3 j4 j5 j6 hB2 HY HX HJ1 HMAY HRUN;go_region_law (refine aO rfl 109 #[.agg #[.slice at_ texts.length ct,.slice ac code.length cc'],.int .u8 (role.toNat:Int),.slice ai ins.length ci,.int .i64 j.fuel] (by go_simp) HG.o ?_;rintro e w7 ⟨⟨pv,n,rfl,hrow,hown⟩,hB7⟩;obtain⟨pa,pc,rfl,-,-⟩:=Rec.Row.open hrow;have hyU:=HY2.o.below (bt (b_drew w2) hB7);obtain⟨y0,y1,y2⟩:=cl3 hyU;obtain⟨k0,k1,k2⟩:=fr3 hyU;have HYU:=zH hyU;have HROW:=zH hrow;have HOWN:=zH hown;have HB7:=zH (bt HB2.o (bt (b_drew w2) hB7));clear hB7 hyU hrow hown)
  all_goals
   go_wp2_with fail;obtain⟨hy3,hc3⟩:=cV HYU.o (.slice pa V.2.1.length pc) (.string (bs V.2.2)) (.int .i64 n);refine bodyPost_ret (bE rfl rfl (dC (hy3.cell (k:=0) rfl) (hy3.cell (k:=1) rfl) (hy3.cell (k:=2) rfl))) rfl ?_;rw[HRV.o];refine⟨⟨_,_,_,rfl,HROW.o.chgN hc3 (fun b hb e=>?_),fun k hk=>En HB2.o.size (HOWN.o k hk)⟩,HB7.o.trans (hc3.below (fun k hk=>by rw[show k=B4+1 from hk,HB4.o];exact Nat.le_succ _) HB7.o.size)⟩;have h1:w2.heap.size≤b:=HOWN.o b hb;rw[show b=B4+1 from e]at h1;have:=HS2.o;omega
 ·have HN:=zH (HJN.o hyes)
  have hno:cd j=false:=by cases h:cd j with
   | false=>rfl
   | true=>exact absurd h hyes
  rw[hno]at HMAY;clear hyes hno HRUN HJR HJN;go_wp2_with (go_at_call 108;refine(HMAY.o _ HB1.o).mono ?_;rintro e w2 ⟨rfl,hB2⟩;have hyU:=HY.o.below hB2;obtain⟨y0,y1,y2⟩:=cl3 hyU;obtain⟨k0,k1,k2⟩:=fr3 hyU;have HYU:=zH hyU;have HB2:=zH (bt HB1.o hB2);clear hyU hB2);exact Hi
theorem Ah (t1 c1 t2 c2 t3 c3:Value)(j:Jb)(s:LU_)(w:World)(h:eO w t1 c1 t2 c2 t3 c3 j)(hdo:cS w)(hs:s.length≤140737488355328):Calls Tryz.prog 49 #[cg t1 c1 t2 c2 t3 c3 j,.string (bs s)] w fun e w'=>(∃ pv,e=.returned (.tuple #[pv,.int .i64 ((g7 j j.mt j.mc 1 [s]).1:Int)])∧recKv.Row w' pv (g7 j j.mt j.mc 1 [s]).2.1)∧Bw_ w w':=by
 have HR:=zH (fun w' (H:Nat) (ty:TypeId) iv (hB:Below w.heap.size w w') (hH:Blk w' H ty [t1,c1,t2,c2,t3,c3,.int .i64 j.parts,.int .i64 j.fuel]) (hi:aL.Row w' iv [s])=>sL H ty t1 c1 t2 c2 t3 c3 t1 c1 iv j j.mt j.mc 1 [s] w' (h.below hB) hH (h.below hB).a hi (by simp) (fun x hx=>by rw[EN.1 hx];exact hs) (hdo.below hB));obtain⟨ta,tc,ca,cc,ta2,tc2,ca2,cc2,ta3,tc3,ca3,cc3,rfl,rfl,rfl,rfl,rfl,rfl⟩:=jo_ h.a.t h.a.c h.b.t h.b.c h.c.t h.c.c;unfold cg;obtain⟨V,hV⟩:=ex_ (g7 j j.mt j.mc 1 [s]);rw[←hV]at HR⊢;clear hV h hdo;go_enter Tryz.func49,Tryz.ntmps49;go_upto_region 1 with fail;obtain⟨W1,hW1⟩:=ex_ (w.alloc (.cells #[.slice ta j.mt.length tc,.slice ca j.mc.length cc,.slice ta2 j.jt.length tc2,.slice ca2 j.jc.length cc2,.slice ta3 j.tt.length tc3,.slice ca3 j.tc.length cc3,.int .i64 j.parts,.int .i64 j.fuel] 27));have hb1:=ba_ hW1;have hx:=bm_ hW1;obtain⟨x0,x1,x2,x3,x4,x5,x6,x7⟩:=cl8 hx;have hbl:w.heap.size<W1.heap.size:=hx.lt;rw[←hW1];have HB1:=zH hb1;have HX:=zH hx;clear hW1 hb1 hx;go_upto_region 2 with fail;obtain⟨H,hH⟩:=ex_ W1.heap.size;obtain⟨W2,hW2⟩:=ex_ (W1.alloc (.cells #[.slice ta j.mt.length tc,.slice ca j.mc.length cc,.slice ta2 j.jt.length tc2,.slice ca2 j.jc.length cc2,.slice ta3 j.tt.length tc3,.slice ca3 j.tc.length cc3,.int .i64 j.parts,.int .i64 j.fuel] 100));have hb2:=ba_ hW2;have hh:=bn_ hH hW2;have hx2:=HX.o.below hb2;replace x0:=hx2.cell (k:=0) rfl;replace x1:=hx2.cell (k:=1) rfl;have hbl2:w.heap.size<W2.heap.size:=hx2.lt;rw[←hW2,←hH];have HB2:=zH (bt HB1.o hb2);have HH:=zH hh
 clear hW2 hH hb2 hh hx2 x2 x3 x4 x5 x6 x7;go_wp2_with (go_at_call 66;refine(HR.o _ H 100 _ (bt HB2.o (af _ _)) (HH.o.below (af _ _)) (Rec.Row.new (R:=aL) W2 [s] 9)).mono ?_;rintro e w3 ⟨⟨pa,pc,n,rfl,hrow,-⟩,hB3⟩;have HROW:=zH hrow;have HB3:=zH (bt (bt HB2.o (af _ _)) hB3);clear hrow hB3);go_ret2;exact⟨⟨_,rfl,HROW.o.below (af _ _)⟩,bt HB3.o (af _ _)⟩
theorem ya (t1 c1 t2 c2 t3 c3:Value)(j:Jb)(s s2:LU_)(w:World)(h:eO w t1 c1 t2 c2 t3 c3 j)(hdo:cS w)(hs:s.length≤140737488355328)(hs2:s2.length≤140737488355328):Calls Tryz.prog 36 #[cg t1 c1 t2 c2 t3 c3 j,.string (bs s),.string (bs s2)] w fun e w'=>e=.returned (.tuple #[.string (bs (g7 j j.jt j.jc 2 [s,s2]).2.2),.int .i64 ((g7 j j.jt j.jc 2 [s,s2]).1:Int)])∧Bw_ w w':=by
 have HR:=zH (fun w' (H:Nat) (ty:TypeId) iv (hB:Below w.heap.size w w') (hH:Blk w' H ty [t1,c1,t2,c2,t3,c3,.int .i64 j.parts,.int .i64 j.fuel]) (hi:aL.Row w' iv [s,s2])=>sL H ty t1 c1 t2 c2 t3 c3 t2 c2 iv j j.jt j.jc 2 [s,s2] w' (h.below hB) hH (h.below hB).b hi (by simp) (fun x hx=>by rcases EW.1 hx with rfl|hx;exact hs;rw[EN.1 hx];exact hs2) (hdo.below hB));obtain⟨ta,tc,ca,cc,ta2,tc2,ca2,cc2,ta3,tc3,ca3,cc3,rfl,rfl,rfl,rfl,rfl,rfl⟩:=jo_ h.a.t h.a.c h.b.t h.b.c h.c.t h.c.c;unfold cg;obtain⟨V,hV⟩:=ex_ (g7 j j.jt j.jc 2 [s,s2]);rw[←hV]at HR⊢;clear hV h hdo;go_enter Tryz.func36,Tryz.ntmps36;go_upto_region 1 with fail;obtain⟨W1,hW1⟩:=ex_ (w.alloc (.cells #[.slice ta j.mt.length tc,.slice ca j.mc.length cc,.slice ta2 j.jt.length tc2,.slice ca2 j.jc.length cc2,.slice ta3 j.tt.length tc3,.slice ca3 j.tc.length cc3,.int .i64 j.parts,.int .i64 j.fuel] 27));have hb1:=ba_ hW1;have hx:=bm_ hW1;obtain⟨x0,x1,x2,x3,x4,x5,x6,x7⟩:=cl8 hx;have hbl:w.heap.size<W1.heap.size:=hx.lt;rw[←hW1];have HB1:=zH hb1;have HX:=zH hx;clear hW1 hb1 hx;go_upto_region 2 with fail;obtain⟨H,hH⟩:=ex_ W1.heap.size;obtain⟨W2,hW2⟩:=ex_ (W1.alloc (.cells #[.slice ta j.mt.length tc,.slice ca j.mc.length cc,.slice ta2 j.jt.length tc2,.slice ca2 j.jc.length cc2,.slice ta3 j.tt.length tc3,.slice ca3 j.tc.length cc3,.int .i64 j.parts,.int .i64 j.fuel] 100));have hb2:=ba_ hW2;have hh:=bn_ hH hW2;have hx2:=HX.o.below hb2;have x0:=hx2.cell (k:=2) rfl;have x1:=hx2.cell (k:=3) rfl;have hbl2:w.heap.size<W2.heap.size:=hx2.lt;rw[←hW2,←hH]
 have HB2:=zH (bt HB1.o hb2);have HH:=zH hh;clear hW2 hH hb2 hh hx2 x2 x3 x4 x5 x6 x7;go_wp2_with (go_at_call 66;refine(HR.o _ H 100 _ (bt HB2.o (af _ _)) (HH.o.below (af _ _)) (Rec.Row.new (R:=aL) W2 [s,s2] 9)).mono ?_;rintro e w3 ⟨⟨pa,pc,n,rfl,hrow,-⟩,hB3⟩;have HROW:=zH hrow;have HB3:=zH (bt (bt HB2.o (af _ _)) hB3);clear hrow hB3);go_ret2;exact⟨rfl,bt HB3.o (af _ _)⟩
end
section
theorem nW {j:Jb}(h:cd j=true)(texts:LL_)(code:List VI)(role:UInt8)(ins:LL_):g7 j texts code role ins=vmV texts code role ins j.fuel:=if_pos h
theorem rj (texts:LL_)(code:List VI)(role:UInt8)(ins:LL_)(fuel:Int):(vmV texts code role ins fuel).2.2.length≤1024:=by
 cases hy:cU texts code role ins fuel with
 | false=>rw[nd hy];simp
 | true =>
  rw[kG hy];obtain⟨h1,h2,-,-,h5⟩:=eb hy;obtain⟨hg,-⟩:=fK h1 h2 h5;unfold mK
  split
  ·rename_i h0
   obtain⟨hok,-⟩:=kP hg fuel.toNat bg fY h0;dsimp only
   split
   ·simp
   ·cases hst:(dg ⟨texts,code,ins,(ay texts code role).2.2.ends⟩ fuel.toNat bg).2.st with
    | nil=>simp
    | cons v r =>
     have hv:=hok.sv v (by rw[hst];simp);exact hv.2.2
  ·simp
end
section
abbrev b8 (n:Nat):UInt8:=UInt8.ofNat n
end
section
attribute [local irreducible] wpG


theorem dz {P:Program}{fn:Func}{p q:Tmp}{ty tq:TypeId}{tmps:Array Value}{w:World}{v u:Value}{b c:Nat}(hr:fn.results=#[.cell p ty,.cell q tq])(hp:tmps.getD p undef=.pointer (some ⟨b,0,none⟩))(hq:tmps.getD q undef=.pointer (some ⟨c,0,none⟩))(hl:(loadVar ty ⟨b,0,none⟩).run P w=.ok v w)(hl2:(loadVar tq ⟨c,0,none⟩).run P w=.ok u w):(results fn tmps).run P w=.ok (.tuple #[v,u]) w:=by
 simp only[Array.getD_eq_getD_getElem?]at hp hq⊢;simp[results,hr,Sem.run_bind,Result.andThen,hp,hq,asAddr,hl,hl2]
theorem gy {w:World}{b:Nat}{v0:Value}(h0:w.cell? ⟨b,0,none⟩=some v0):(loadVar 33 ⟨b,0,none⟩).run Tryz.prog w=.ok v0 w:=by
 go_simp
end
section
attribute [local irreducible] wpG
def sd (d:Bool)(v u:Value):Value:=bif d then v else u
@[go_sem] theorem Dy (v u:Value):sd true v u=v:=rfl
@[go_sem] theorem C8 (v u:Value):sd false v u=u:=rfl
section
variable {w wx w':World}{B:Nat}{tv tv':Value}{r r':LU_}{acc acc':LL_}
end
section
variable {w wx w':World}{B C:Nat}{tv cv cv':Value}{r r':LU_}{t:LL_}{acc acc':List VI}
end
section
variable {w wx:World}{B C:Nat}{tv cv:Value}{r:LU_}{t:LL_}{acc:List VI}
end
end
section
attribute [local irreducible] wpG

end
section

end
section
attribute [local irreducible] wpG


structure oU (w:World) (t1 c1 t2 c2 t3 c3:Value) (j:Jb):Prop where
 a:jP w t1 c1 j.mt j.mc
 b:jP w t2 c2 j.jt j.jc
 c:jP w t3 c3 j.tt j.tc
 p0:-9223372036854775808≤j.parts
 p1:j.parts≤9223372036854775807
 f0:-9223372036854775808≤j.fuel
 f1:j.fuel≤9223372036854775807
theorem oU.below {w w':World}{t1 c1 t2 c2 t3 c3:Value}{j:Jb}(h:oU w t1 c1 t2 c2 t3 c3 j)(hB:Below w.heap.size w w'):oU w' t1 c1 t2 c2 t3 c3 j:=⟨h.a.below hB,h.b.below hB,h.c.below hB,h.p0,h.p1,h.f0,h.f1⟩
def iO (j:Jb):Bool:=cR j.mt j.mc||cR j.jt j.jc||cR j.tt j.tc
def pg (j:Jb):Bool:=decide (3000<j.fuel)&&decide (j.fuel≤65536)
theorem xX {j:Jb}(h:iO j=false):cR j.mt j.mc=false∧cR j.jt j.jc=false∧cR j.tt j.tc=false:=by
 unfold iO at h;simp only[Bool.or_eq_false_iff]at h;exact⟨h.1.1,h.1.2,h.2⟩
theorem oU.job {w:World}{t1 c1 t2 c2 t3 c3:Value}{j:Jb}(h:oU w t1 c1 t2 c2 t3 c3 j)(hl:iO j=false)(hE:lB w)(hg:1<w.heap.size)(hG:dE w):eO w t1 c1 t2 c2 t3 c3 j:=by
 obtain⟨h1,h2,h3⟩:=xX hl;exact⟨h.a.ask h1 hE hg,h.b.ask h2 hE hg,h.c.ask h3 hE hg,h.p0,h.p1,h.f0,h.f1,hG⟩

def Dh:aJ Bel:=⟨Option Addr,fun q=>.pointer q,fun _=>none,fun _ _ h=>by cases h⟩
@[go_sem] theorem CG (q:Option Addr):Dh.val q=.pointer q:=rfl

theorem mS {j:Jb}(h:¬cd j=true):(bu j).2.2≠0:=fun q=>h (by unfold cd;rw[q];rfl)
theorem k8 {j:Jb}(h:cd j=true):(bu j).2.2=0:=by
 unfold cd at h;exact beq_iff_eq.1 h

theorem ml:∀ l:LL_,aL.cells l=fk l
 | []=>rfl
 | x::l=>by rw[Rec.cells,ml l];rfl


theorem GL {T:Prop} (h:T:=by
 rw[e];go_enter Tryz.func7,Tryz.ntmps7;go_wp2;go_ret;exact⟨rfl,af _ _⟩
):T:=h
theorem AM (t1 c1 t2 c2 t3 c3:Value)(j:Jb)(w:World)(h:oU w t1 c1 t2 c2 t3 c3 j):Calls Tryz.prog 7 #[cg t1 c1 t2 c2 t3 c3 j] w fun e w'=>e=.returned (.bool (pg j))∧Bw_ w w':=by
 obtain⟨ta,tc,ca,cc,ta2,tc2,ca2,cc2,ta3,tc3,ca3,cc3,rfl,rfl,rfl,rfl,rfl,rfl⟩:=jo_ h.a.t h.a.c h.b.t h.b.c h.c.t h.c.c;unfold cg;unfold pg;clear h;obtain⟨F,hF⟩:=ex_ j.fuel;rw[←hF];clear hF
 by_cases h1:(3000:Int)<F
 ·by_cases h2:F≤65536
  ·have e:(decide ((3000:Int)<F)&&decide (F≤65536))=true:=by simp[h1,h2]
   exact GL
  ·have e:(decide ((3000:Int)<F)&&decide (F≤65536))=false:=by simp[h2]
   exact GL
 ·have e:(decide ((3000:Int)<F)&&decide (F≤65536))=false:=by simp[h1]
  exact GL
theorem tI (t1 c1 t2 c2 t3 c3:Value)(j:Jb)(w:World)(h:oU w t1 c1 t2 c2 t3 c3 j):Calls Tryz.prog 6 #[cg t1 c1 t2 c2 t3 c3 j] w fun e w'=>e=.returned (.bool (iO j))∧Bw_ w w':=by
 have HA:=zH (fun w' (hB:Below w.heap.size w w')=>(h.a.below hB).large);have HB:=zH (fun w' (hB:Below w.heap.size w w')=>(h.b.below hB).large);have HC:=zH (fun w' (hB:Below w.heap.size w w')=>(h.c.below hB).large);obtain⟨ta,tc,ca,cc,ta2,tc2,ca2,cc2,ta3,tc3,ca3,cc3,rfl,rfl,rfl,rfl,rfl,rfl⟩:=jo_ h.a.t h.a.c h.b.t h.b.c h.c.t h.c.c;unfold cg;unfold iO;clear h;obtain⟨W1,hW1⟩:=ex_ (w.alloc (.cells #[.slice ta j.mt.length tc,.slice ca j.mc.length cc,.slice ta2 j.jt.length tc2,.slice ca2 j.jc.length cc2,.slice ta3 j.tt.length tc3,.slice ca3 j.tc.length cc3,.int .i64 j.parts,.int .i64 j.fuel] 27));have hb1:=ba_ hW1;obtain⟨J,hJ⟩:=ex_ w.heap.size;have hx:=bn_ hJ hW1;obtain⟨x0,x1⟩:=cl2 hx;have HB1:=zH hb1;have HX:=zH hx;obtain⟨A,hA⟩:=ex_ (cR j.mt j.mc);obtain⟨B,hB⟩:=ex_ (cR j.jt j.jc);obtain⟨C,hC⟩:=ex_ (cR j.tt j.tc);rw[←hA]at HA;rw[←hB]at HB;rw[←hC]at HC;rw[←hA,←hB,←hC];go_enter Tryz.func6,Tryz.ntmps6;go_upto_region 1 with fail;rw[←hW1,←hJ];clear hW1 hJ hb1 hx hA hB hC
 cases A
 ·cases B
  ·cases C
   all_goals
    go_wp2_with (first|(go_at_call 32;refine(HC.o _ HB3.o).mono ?_;rintro e w4 ⟨rfl,hB4⟩;have HB4:=zH (bt HB3.o hB4);clear hB4)|(go_at_call 32;refine(HB.o _ HB2.o).mono ?_;rintro e w3 ⟨rfl,hB3⟩;have HX3:=zH (HX2.o.below hB3);have x4:=HX3.o.cell (k:=4) rfl;have x5:=HX3.o.cell (k:=5) rfl;have HB3:=zH (bt HB2.o hB3);clear hB3 x2 x3)|(go_at_call 32;refine(HA.o _ HB1.o).mono ?_;rintro e w2 ⟨rfl,hB2⟩;have HX2:=zH (HX.o.below hB2);have x2:=HX2.o.cell (k:=2) rfl;have x3:=HX2.o.cell (k:=3) rfl;have HB2:=zH (bt HB1.o hB2);clear hB2 x0 x1));go_ret;exact⟨rfl,HB4.o⟩
  ·go_wp2_with (first|(go_at_call 32;refine(HB.o _ HB2.o).mono ?_;rintro e w3 ⟨rfl,hB3⟩;have HB3:=zH (bt HB2.o hB3);clear hB3 x2 x3)|(go_at_call 32;refine(HA.o _ HB1.o).mono ?_;rintro e w2 ⟨rfl,hB2⟩;have HX2:=zH (HX.o.below hB2);have x2:=HX2.o.cell (k:=2) rfl;have x3:=HX2.o.cell (k:=3) rfl;have HB2:=zH (bt HB1.o hB2);clear hB2 x0 x1))
   go_ret;exact⟨by simp,HB3.o⟩
 ·go_wp2_with (go_at_call 32;refine(HA.o _ HB1.o).mono ?_;rintro e w2 ⟨rfl,hB2⟩;have HB2:=zH (bt HB1.o hB2);clear hB2 x0 x1)
  go_ret;exact⟨by simp,HB2.o⟩
theorem lD (texts:LL_)(code:List VI)(role:UInt8)(ins:LL_)(fuel:Int):(vmV texts code role ins fuel).2.1.length≤256:=by
 cases hy:cU texts code role ins fuel with
 | false=>rw[nd hy];simp
 | true =>
  rw[kG hy];obtain⟨h1,h2,-,-,h5⟩:=eb hy;obtain⟨hg,-⟩:=fK h1 h2 h5;unfold mK
  split
  ·rename_i h0
   obtain⟨hok,-⟩:=kP hg fuel.toNat bg fY h0;exact hok.pr
  ·simp
theorem kW:∀ l:List PR,recKq.cells l=aS l
 | []=>rfl
 | x::l=>by rw[Rec.cells,kW l];rfl
theorem kV {w:World}{v:Value}{l:List PR}(h:recKq.Row w v l):RP w v l:=⟨by rw[←kW];exact h.1,h.2⟩
theorem iF:∀ l:List PR,recKv.cells l=aS l
 | []=>rfl
 | x::l=>by rw[Rec.cells,iF l];rfl
theorem gu {w:World}{v:Value}{l:List PR}(h:recKv.Row w v l):RP w v l:=⟨by rw[←iF];exact h.1,h.2⟩
theorem nv {w:World}{v:Value}{l:List PR}(h:RP w v l):recKv.Row w v l:=⟨by rw[iF];exact h.1,h.2⟩

end
