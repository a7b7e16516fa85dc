/- Lemmas for DeltaJobs: walks, plain laws. -/
import Derived.Test.YtehllcbnheicoaaGreatDoorDeltaJobsK27
set_option linter.unusedSimpArgs false
set_option linter.unusedVariables false
set_option maxRecDepth 100000
set_option maxHeartbeats 16000000
namespace Go.Proofs.YtehllcbnheicoaaGreatDoor
open Go.RowKit Oct
section
attribute [local irreducible] wpG
theorem jO.goodI {a b:List PR}{n:Nat}{e:Ending}{w:World}(h:jO a b n e w)(hh:(cP a&&cP b)=true):∃ v,e=.returned (.tuple #[v,.int .i64 0])∧dm.Own w n v (ofF a b):=by
 unfold jO at h;rw[hh]at h;obtain⟨v,rfl,hown⟩:=h;rw[EE]at hh;rw[Bb a b hh.1 hh.2]at hown;exact⟨v,rfl,hown⟩
theorem xG (t1 c1 t2 c2 t3 c3:Value)(j:Jb)(v1:Value)(old:LL_)(v2:Value)(now:LL_)(w:World)(h:eO w t1 c1 t2 c2 t3 c3 j)(hv1:aL.Row w v1 old)(hv2:aL.Row w v2 now)(hl1:old.length≤1000000)(hl2:now.length≤1000000)(hm1:∀ t∈old,t.length≤1000000)(hm2:∀ t∈now,t.length≤1000000)(ht1:totalF old≤1500)(ht2:totalF now≤1500):Calls Tryz.prog 21 #[cg t1 c1 t2 c2 t3 c3 j,v1,v2] w fun e w'=>(∃ a c,e=.returned (.tuple #[.slice a (fJ j old now).1.length c,wrV (fJ j old now).2.1,.int .i64 ((fJ j old now).2.2:Int)])∧GTR w' w.heap.size (.slice a (fJ j old now).1.length c) (fJ j old now).1)∧Bw_ w w':=by
 have HP1:=zH (fun w' (hB:Below w.heap.size w w')=>mn t1 c1 t2 c2 t3 c3 j v1 old w' (h.below hB) (hv1.below hB) hl1 hm1 (En ht1 (by decide)));have HP2:=zH (fun w' (hB:Below w.heap.size w w')=>mn t1 c1 t2 c2 t3 c3 j v2 now w' (h.below hB) (hv2.below hB) hl2 hm2 (En ht2 (by decide)));have HLA:=zH (show ∀ r∈(aY j old).1,r.length≤400000 from fun r hr=>En (ie j old r hr) (En (Nat.mul_le_mul_left 256 ht1) (by decide)));have HLB:=zH (show ∀ r∈(aY j now).1,r.length≤400000 from fun r hr=>En (ie j now r hr) (En (Nat.mul_le_mul_left 256 ht2) (by decide)));have HOA:=zH (iD j old);have HOB:=zH (iD j now);have HNA:=zH (ez j old);have HNB:=zH (ez j now);have HWA:=zH (jS (j:=j) (files:=old));have HWB:=zH (jS (j:=j) (files:=now));have HPB:=zH (jq (j:=j) (files:=old));obtain⟨ta,tc,ca,cc,ta2,tc2,ca2,cc2,ta3,tc3,ca3,cc3,rfl,rfl,rfl,rfl,rfl,rfl⟩:=jo_ h.a.t h.a.c h.b.t h.b.c h.c.t h.c.c;obtain⟨av1,cv1,rfl,-,-⟩:=an hv1;obtain⟨av2,cv2,rfl,-,-⟩:=an hv2;unfold cg at HP1 HP2⊢;obtain⟨J,hJ⟩:=ex_ w.heap.size;obtain⟨W0,hW0⟩:=ex_ (w.alloc (.cells #[.slice ta j.mt.length tc,.slice ca j.mc.length cc,.slice ta2 j.jt.length tc2,.slice ca2 j.jc.length cc2,.slice ta3 j.tt.length tc3,.slice ca3 j.tc.length cc3,.int .i64 j.parts,.int .i64 j.fuel] 27));have hs0:W0.heap.size=J+1:=by rw[hW0,ba,hJ]
 obtain⟨W1,hW1⟩:=ex_ (W0.alloc (.cells #[.int .u8 0,.int .i64 0,.int .i64 0,.string ⟨#[]⟩] 47));have hb0:=ba_ hW0;have hb1:=ba_ hW1
 have hx:Blk W1 J 27 [.slice ta j.mt.length tc,.slice ca j.mc.length cc,.slice ta2 j.jt.length tc2,.slice ca2 j.jc.length cc2,.slice ta3 j.tt.length tc3,.slice ca3 j.tc.length cc3,.int .i64 j.parts,.int .i64 j.fuel]:=by
  have q:=bn_ hJ hW0;exact q.below hb1
 have he:Blk W1 (J+1) 47 [.int .u8 0,.int .i64 0,.int .i64 0,.string ⟨#[]⟩]:=by
  have q:=bm_ hW1
  rwa [hs0]at q
 obtain⟨x0,x1,x2,x3,x4,x5,x6,x7⟩:=cl8 hx;have HB1:=zH (bt hb0 hb1);have HX1:=zH hx;have HE1:=zH he;have HI47:=zH (show(Tryz.prog.info? 47).map (·.size)=some 4 by kernel_rfl);have HJW:=zH (show w.heap.size=J from hJ.symm);go_enter Tryz.func21,Tryz.ntmps21;go_upto_region 1 with fail;rw[←hJ,←hW0]
 try rw[hs0]
 rw[←hW1];clear hJ hW0 hW1 hs0 hb0 hb1 hx he h hv1 hv2 hl1 hl2 hm1 hm2 ht1 ht2;have HJJ:=zH (show fJ j old now=if (aY j old).2.2≠0 then ([],(aY j old).2) else if (aY j now).2.2≠0 then ([],(aY j now).2) else (cy [] (aY j old).1 (aY j now).1,wr0,0) from rfl);unfold wrV at HP1 HP2;obtain⟨R,hR⟩:=ex_ (aY j old);rw[←hR]at HP1 HJJ HLA HOA HNA HWA HPB;clear hR;obtain⟨S,hS⟩:=ex_ (aY j now);rw[←hS]at HP2 HJJ HLB HOB HNB HWB;clear hS;go_upto_region 2 with(first|(refine bA w7.heap.size [.int .u8 0,.int .i64 0,.int .i64 0,.string ⟨#[]⟩] [.int .u8 (R.2.1.1:Int),.int .i64 (R.2.1.2.1:Int),.int .i64 (R.2.1.2.2.1:Int),.string (bs R.2.1.2.2.2)] (Blk.new w7 _ _) rfl _ _ _ rfl rfl rfl HI47.o rfl (by simp[Value.oneCell']) ?_;intro W8 hw8;have hB78:Below w7.heap.size w7 W8:=(by rw[←hw8.o];exact aI (af _ _) (Ei _) _);have HD8:=zH (show Blk W8 w7.heap.size 47 [.int .u8 (R.2.1.1:Int),.int .i64 (R.2.1.2.1:Int),.int .i64 (R.2.1.2.2.1:Int),.string (bs R.2.1.2.2.2)] by rw[←hw8.o];exact(Blk.new w7 [.int .u8 0,.int .i64 0,.int .i64 0,.string ⟨#[]⟩] _).row _);have HE8:=zH (HE7.o.below hB78);have HBB8:=zH (bt HB7.o hB78);have HRA8:=zH (HRA7.o.below hB78);have HX8:=zH (HX7.o.below hB78);clear hw8 hB78)|(go_at_call 44;refine(HP1.o _ HB1.o).mono ?_;rintro e w7 ⟨⟨pa,pc,rfl,hro⟩,hB7⟩;have HRA7:=zH hro;have HE7:=zH (HE1.o.below hB7);have HX7:=zH (HX1.o.below hB7);have HB7:=zH (bt HB1.o hB7);clear hB7 hro x0 x1 x2 x3 x4 x5 x6 x7));obtain⟨D,hD⟩:=ex_ w7.heap.size;have HEL:=zH (show J+1<D by rw[hD];exact HE7.o.lt);have HDW:=zH (show w.heap.size≤D by rw[hD];exact HB7.o.size)
 rw[←hD];rw[←hD]at HD8;clear hD
 by_cases hz:R.2.2=0
 ·have t2:((R.2.2:Int) != 0)=false:=by rw[hz];rfl
  rw[if_neg (fun q=>q hz)]at HJJ;have HN1:=zH (HNA.o hz);have hw1:=HWA.o hz;have HPN:=zH (HPB.o hz);have HDZ:=zH (show Blk W8 D 47 [.int .u8 0,.int .i64 0,.int .i64 0,.string ⟨#[]⟩] by have q:=HD8.o;rw[hw1]at q;exact q);clear hz hw1 HWA HNA HPB HP1;have hx8:=HX8.o;obtain⟨x0,x1,x2,x3,x4,x5,x6,x7⟩:=cl8 hx8;clear hx8;go_upto_region 5 with(first|(refine bA D [.int .u8 0,.int .i64 0,.int .i64 0,.string ⟨#[]⟩] [.int .u8 (S.2.1.1:Int),.int .i64 (S.2.1.2.1:Int),.int .i64 (S.2.1.2.2.1:Int),.string (bs S.2.1.2.2.2)] HD12.o rfl _ _ _ rfl rfl rfl HI47.o rfl (by simp[Value.oneCell']) ?_;intro W13 hw13;have HW13:=zH hw13.o;clear hw13)|(go_at_call 44;refine(HP2.o _ HBB8.o).mono ?_;rintro e w12 ⟨⟨qa,qc,rfl,hro⟩,hB12⟩;have HRB12:=zH hro;have HRA12:=zH (HRA8.o.below hB12);have HE12:=zH (HE8.o.below hB12);have HD12:=zH (HDZ.o.below hB12);have HB12:=zH (bt HBB8.o hB12);clear hB12 hro x0 x1 x2 x3 x4 x5 x6 x7))
  by_cases hy:S.2.2=0
  ·have t3:((S.2.2:Int) != 0)=false:=by rw[hy];rfl
   rw[if_neg (fun q=>q hy)]at HJJ;have hn2:=HNB.o hy;have hw2:=HWB.o hy
   have hw13:W13=w12:=by
    rw[←HW13.o,hw2];exact mg HD12.o
   subst hw13;have hnn:R.1.length=S.1.length:=by rw[HN1.o,hn2]
   have HRL:=zH (show R.1.length≤1000000 by rw[HN1.o];exact En HPN.o (by decide));clear hy hw2 HW13 HNB HWB HP2 hn2;obtain⟨_,_,hv1,_,_,hc1⟩:=HRA12.o;injection hv1 with q1 _ q3
   subst q1 q3;have HC1:=zH hc1;obtain⟨_,_,hv2,_,_,hc2⟩:=HRB12.o;injection hv2 with q1 _ q3
   subst q1 q3;have HC2:=zH hc2;have HNN:=zH hnn;clear hc1 hc2 hnn;go_upto_region 9 with fail
   go_loopw [13,14] (fun u t wr=>∃ (k:Nat) (out:List (List TR)),k≤R.1.length∧out.length≤k∧t=.int .i64 (k:Int)∧Hid (GTR wr W13.heap.size u out)∧Hid (cy out (R.1.drop k) (S.1.drop k)=cy [] R.1 S.1)∧Hid (Below W13.heap.size W13 wr)) (fun _ t _=>R.1.length-(intOf t).toNat)
   case atStart=>exact⟨0,[],EG _,Ei _,rfl,GTR.nil _ _,rfl,Em _ _⟩
   case round =>
    obtain⟨k,out,hk,hok,rfl,HG,HAV,HBR⟩:=hrel;obtain⟨Av,Cv,rfl⟩:=GTR.slice HG.o;have hrl:=HRL.o
    by_cases h0:k<R.1.length
    ·have h02:k<S.1.length:=by have:=HNN.o;omega
     obtain⟨b1,o1,u1,rfl,e1,hu1⟩:=HC1.o k h0;obtain⟨b2,o2,u2,rfl,e2,hu2⟩:=HC2.o k h02;have hdr:R.1.drop k=R.1[k]::R.1.drop (k+1):=Ec h0;have hds:S.1.drop k=S.1[k]::S.1.drop (k+1):=Ec h02;have hxl:=HLA.o _ (EM h0);have hyl:=HLB.o _ (EM h02);have hxo:=HOA.o _ (EM h0);have hyo:=HOB.o _ (EM h02);obtain⟨x,hxe⟩:=ex_ (R.1[k]'h0);obtain⟨y,hye⟩:=ex_ (S.1[k]'h02);rw[←hxe]at hxl hxo hdr hu1;rw[←hye]at hyl hyo hds hu2;have HQ:=zH (show cy out (R.1.drop k) (S.1.drop k)=cy (out++[ofF x y]) (R.1.drop (k+1)) (S.1.drop (k+1)) by rw[hdr,hds];rfl);replace e1:=DK HBR.o e1;replace e2:=DK HBR.o e2;have hv1:=hu1.below HBR.o;have hv2:=hu2.below HBR.o;obtain⟨ua,uc,rfl,-,-⟩:=hv1.open;obtain⟨va,vc,rfl,-,-⟩:=hv2.open;have HON:=zH (show(cP x&&cP y)=true by rw[hxo,hyo];rfl);have HFK:=zH (fun w' (hB:Bel wr w')=>show Calls Tryz.prog _ #[.slice ua x.length uc,.slice va y.length vc] w' _ from A9 _ _ x y w' (hv1.below hB) (hv2.below hB) hxl hyl);have HE1:=zH e1;have HE2:=zH e2;have i0:=nn_ k;have i1:(k:Int)<(R.1.length:Int):=by omega
     have i2:(k:Int)<(S.1.length:Int):=by omega
     have HHH:=zH h0;have HBZ:=zH (show(out.length+1)*24≤140737488355328 by have:=HRL.o;omega);clear hdr hds hxe hye h0 h02 hxl hyl hxo hyo hu1 hu2 hv1 hv2;go_upto_region 11 with fail;refine rk_ [(3,.exact _ (.slice ua x.length uc)),(7,.exact _ (.slice va y.length vc)),(8,Ae wr.heap.size (ofF x y))] ?_;refine cG ?_;refine gE_ (fun w' G hB hS hG=>?_) (fun K hK=>?_)
     ·have y:=DK hB HE1.o
      exact Ig
     refine cO ?_;clear hK K;refine gE_ (fun w' G hB hS hG=>?_) (fun K hK=>?_)
     ·have y:=DK hB HE2.o
      exact Ig
     refine cO ?_;clear hK K;refine gk_ (Ae wr.heap.size (ofF x y)) (fun w' G hB hS hG=>?_) (fun (q6:Option Addr×Nat) K hK=>?_)
     ·have hu:=HFK.o w' hB
      have HSZ:=zH (show wr.heap.size≤w'.heap.size from hB.size);clear hB hS e1 e2;go_simp;refine hu.mono ?_;rintro e w'' ⟨hres,hB2⟩;obtain⟨pv,rfl,ho⟩:=jO.goodI hres HON.o;exact Hp
     obtain⟨pa,pc⟩:=q6;refine cO ?_;clear hK K;refine dF ?_;intro W8' hB8 hA8;have HO8':=zH (show dm.Own W8' wr.heap.size (.slice pa (ofF x y).length pc) (ofF x y) from lA hA8);have HB8':=zH (show Below wr.heap.size wr W8' from hB8);have HG8:=zH (HG.o.below HB8'.o);obtain⟨CS,hcs,hcs2⟩:=HG8.o;have HCS:=zH hcs;have HCS2:=zH hcs2;clear hA8 hB8 hcs hcs2 e1 e2;have t5:((0:Int) != 0)=false:=rfl;go_upto_region 12 with fail
     all_goals
      exact G9
    ·exact Hc
  ·exact G8
 ·exact Ha
def cj (j:Jb)(files:LL_):Bool:=iO j||pg j||decide (10<files.length)||decide (400<totalF (files.take 20))
theorem lX (files:LL_)(i:Nat)(h:i<files.length):totalF (files.take (i+1))=totalF (files.take i)+files[i].length:=by
 unfold totalF;rw[Ef h,EO,List.sum_append];simp
theorem xd (files:LL_)(b:Nat)(h:∀ t∈files,t.length≤b)(i:Nat):totalF (files.take i)≤i*b:=by
 induction i with
 | zero=>simp[totalF]
 | succ i ih =>
  by_cases hi:i<files.length
  ·have:=h _ (EM hi)
   rw[lX files i hi,Nat.succ_mul];omega
  ·rw[Eh (by omega)]
   rw[Eh (by omega)]at ih;rw[Nat.succ_mul];omega
theorem rp (files:LL_):∀ t∈files,t.length≤totalF files:=by
 induction files with
 | nil=>intro t ht;cases ht
 | cons x l ih =>
  intro t ht;unfold totalF at ih⊢;rw[List.map_cons,List.sum_cons];rcases EW.1 ht with rfl|ht
  ·omega
  ·have:=ih t ht;omega
theorem bG {j:Jb}{files:LL_}(h:cj j files=false):iO j=false∧pg j=false∧files.length≤10∧totalF files≤400∧∀ t∈files,t.length≤400:=by
 unfold cj at h;simp only[Bool.or_eq_false_iff,decide_eq_false_iff_not]at h;obtain⟨⟨⟨h1,h2⟩,h3⟩,h4⟩:=h;rw[Eh (by omega)]at h4;exact⟨h1,h2,by omega,by omega,fun t ht=>by have:=rp files t ht;omega⟩
theorem Dn {b s i:Nat}(h:s≤i*140737488355328)(hi:i≤20)(hb:b≤140737488355328):s+b≤2955487255461888:=by
 have:i*140737488355328≤20*140737488355328:=EK _ hi;omega
theorem G1 {T:Prop} (h:T:=by
 go_wp2_with (first|(go_at_call 7;refine(HSL.o _ HB2.o).mono ?_;rintro e w3 ⟨rfl,hB3⟩;have HB3:=zH (bt HB2.o hB3);clear hB3)|(go_at_call 6;refine(HLA.o _ (bt HB1.o HB.o)).mono ?_;rintro e w2 ⟨rfl,hB2⟩;have HX2:=zH ((HX1.o.below HB.o).below hB2);have hxx2:=HX2.o;obtain⟨x0,x1,x2,x3,x4,x5,x6,x7⟩:=cl8 hxx2;have HB2:=zH (bt (bt HB1.o HB.o) hB2);clear hB2 hxx2));go_ret;rw[HHW.o];exact⟨rfl,HB3.o⟩
):T:=h
theorem G2 {T:Prop} (h:T:=by
 clear h10 h4;go_wp2_with (first|(go_at_call 7;refine(HSL.o _ HB2.o).mono ?_;rintro e w3 ⟨rfl,hB3⟩;have HB3:=zH (bt HB2.o hB3);clear hB3)|(go_at_call 6;refine(HLA.o _ (bt HB1.o HB.o)).mono ?_;rintro e w2 ⟨rfl,hB2⟩;have HX2:=zH ((HX1.o.below HB.o).below hB2);have hxx2:=HX2.o;obtain⟨x0,x1,x2,x3,x4,x5,x6,x7⟩:=cl8 hxx2;have HB2:=zH (bt (bt HB1.o HB.o) hB2);clear hB2 hxx2));go_ret;rw[HHW.o];refine⟨?_,HB3.o⟩
 first|rfl|(simp[m1,m2];done)
):T:=h
theorem G3 {T:Prop} (h:T:=by
 have HHW:=zH (show cj j files=true from HHV.o.trans rfl);go_wp2_with (go_at_call 6;refine(HLA.o _ (bt HB1.o HB.o)).mono ?_;rintro e w2 ⟨rfl,hB2⟩;have HX2:=zH ((HX1.o.below HB.o).below hB2);have hxx2:=HX2.o;obtain⟨x0,x1,x2,x3,x4,x5,x6,x7⟩:=cl8 hxx2;have HB2:=zH (bt (bt HB1.o HB.o) hB2);clear hB2 hxx2);go_ret;rw[HHW.o];exact⟨rfl,HB2.o⟩
):T:=h
theorem G4 {T:Prop} (h:T:=by
 have m1:(10:Int)<(files.length:Int):=by omega
 have HHW:=zH (show cj j files=true by rw[HHV.o,decide_eq_true h10];rfl);clear h10;exact G1
):T:=h
theorem qf (t1 c1 t2 c2 t3 c3:Value)(j:Jb)(v:Value)(files:LL_)(w:World)(h:oU w t1 c1 t2 c2 t3 c3 j)(hv:aL.Row w v files)(hl:files.length≤140737488355328)(hm:∀ t∈files,t.length≤140737488355328):Calls Tryz.prog 18 #[cg t1 c1 t2 c2 t3 c3 j,v] w fun e w'=>e=.returned (.bool (cj j files))∧Bw_ w w':=by
 have HLA:=zH (fun w' (hB:Below w.heap.size w w')=>tI t1 c1 t2 c2 t3 c3 j w' (h.below hB));have HSL:=zH (fun w' (hB:Below w.heap.size w w')=>AM t1 c1 t2 c2 t3 c3 j w' (h.below hB));obtain⟨ta,tc,ca,cc,ta2,tc2,ca2,cc2,ta3,tc3,ca3,cc3,rfl,rfl,rfl,rfl,rfl,rfl⟩:=jo_ h.a.t h.a.c h.b.t h.b.c h.c.t h.c.c;obtain⟨av,cv,rfl,_,hc⟩:=an hv;unfold cg at HLA HSL⊢;have HCC:=zH hc;have HM:=zH hm;have HTL:=zH (xd files 140737488355328 hm);obtain⟨P,hP⟩:=ex_ j.parts;obtain⟨F,hF⟩:=ex_ j.fuel;rw[←hP,←hF]at HLA HSL⊢;clear hP hF;obtain⟨W1,hW1⟩:=ex_ (w.alloc (.cells #[.slice ta j.mt.length tc,.slice ca j.mc.length cc,.slice ta2 j.jt.length tc2,.slice ca2 j.jc.length cc2,.slice ta3 j.tt.length tc3,.slice ca3 j.tc.length cc3,.int .i64 P,.int .i64 F] 27));have hb1:=ba_ hW1;obtain⟨J,hJ⟩:=ex_ w.heap.size;have hx:=bn_ hJ hW1;have HB1:=zH hb1;have HX1:=zH hx;have HHV:=zH (show cj j files=(iO j||pg j||decide (10<files.length)||decide (400<totalF (files.take 20))) from rfl);obtain⟨LA,hLA⟩:∃ b,b=iO j:=⟨_,rfl⟩
 obtain⟨SL,hSL⟩:∃ b,b=pg j:=⟨_,rfl⟩
 rw[←hLA]at HLA HHV;rw[←hSL]at HSL HHV;clear hLA hSL;go_enter Tryz.func18,Tryz.ntmps18;go_upto_region 1 with fail;rw[←hW1,←hJ];clear hW1 hJ hb1 hx h hc hv hm;go_upto_region 3 with fail
 go_loopw [5,6] (fun n t wr=>∃ i:Nat,i≤files.length∧i≤20∧n=.int .i64 (totalF (files.take i):Int)∧t=.int .i64 (i:Int)∧Hid (Below W1.heap.size W1 wr)) (fun _ t _=>20-(intOf t).toNat)
 case atStart=>exact⟨0,EG _,EG _,rfl,rfl,Em _ _⟩
 case round =>
  obtain⟨i,hi,hi2,rfl,rfl,HB⟩:=hrel
  by_cases h0:i<files.length
  ·have i0:=nn_ i
   have i1:(i:Int)<(files.length:Int):=by omega
   by_cases h20:i<20
   ·obtain⟨kb,ko,hA,e1⟩:=HCC.o i h0
    subst hA;replace e1:=DK (bt HB1.o HB.o) e1;have i2:(i:Int)<20:=by omega
    have hTT:=lX files i h0;have hb:=Dn (HTL.o i) hi2 (HM.o _ (EM h0));obtain⟨x,hx⟩:=ex_ (files[i]'h0);rw[←hx]at e1 hTT hb;obtain⟨N,hN⟩:=ex_ (totalF (files.take i));rw[←hN]at hTT hb⊢;have HTT:=zH hTT;have HHH:=zH h0;have n0:-9223372036854775808≤(N:Int)+(x.length:Int):=by omega
    have n1:(N:Int)+(x.length:Int)≤9223372036854775807:=by omega
    clear hx hN hTT h0 hb;go_wp2_with fail;go_roundw
    case rel=>exact⟨i+1,HHH.o,by omega,by rw[HTT.o];go_num,by go_num,HB.o⟩
    case measure=>simp[intOf];omega
   ·have i2:¬(i:Int)<20:=by omega
    have hie:i=20:=by omega
    subst hie;clear h0 h20;have hxx:=HX1.o.below HB.o;obtain⟨x0,x1,x2,x3,x4,x5,x6,x7⟩:=cl8 hxx;obtain⟨N,hN⟩:=ex_ (totalF (files.take 20));rw[←hN]at HHV⊢;clear hxx hN
    cases LA with
    | true =>
     exact G3
    | false =>
     cases SL with
     | true =>
      have HHW:=zH (show cj j files=true from HHV.o.trans rfl);exact G1
     | false =>
      by_cases h10:10<files.length
      ·exact G4
      ·exfalso
       omega
  ·have i1:¬(i:Int)<(files.length:Int):=by omega
   have HTE:=zH (show totalF (files.take i)=totalF (files.take 20) by rw[Eh (by omega),Eh (by omega)]);rw[HTE.o];clear h0;have hxx:=HX1.o.below HB.o;obtain⟨x0,x1,x2,x3,x4,x5,x6,x7⟩:=cl8 hxx;obtain⟨N,hN⟩:=ex_ (totalF (files.take 20));rw[←hN]at HHV⊢;clear hxx hN
   cases LA with
   | true =>
    exact G3
   | false =>
    cases SL with
    | true =>
     have HHW:=zH (show cj j files=true from HHV.o.trans rfl);exact G1
    | false =>
     by_cases h10:10<files.length
     ·exact G4
     ·have m1:¬(10:Int)<(files.length:Int):=by omega
      by_cases h4:400<N
      ·have m2:(400:Int)<(N:Int):=by omega
       have HHW:=zH (show cj j files=true by rw[HHV.o,decide_eq_true h4,Bool.or_true]);exact G2
      ·have m2:¬(400:Int)<(N:Int):=by omega
       have HHW:=zH (show cj j files=false by rw[HHV.o,decide_eq_false h4,decide_eq_false h10];rfl);exact G2
end
section
attribute [local irreducible] wpG iy
def qJ (B:Nat)(T:TypeId)(z p:Array Value)(h1:51≠T)(h2:77≠T)(Z:List (List TR))(wr er:Value):aJ (eN B T z p) :=
 ⟨Option Addr×Nat,fun x=>.tuple #[.slice x.1 Z.length x.2,wr,er],fun x=>some fun w=>GTR w B (.slice x.1 Z.length x.2) Z,fun _ _ h _ _ hφ hR=>by cases h;exact hφ.frame fun b cs e hb he hh=>hR.2 b cs e hb (by rcases he with rfl|rfl<;>assumption) hh⟩
@[go_sem] theorem B0 (B:Nat) (T:TypeId) (z p:Array Value) (h1:51≠T) (h2:77≠T) (Z:List (List TR)) (wr er:Value) (a:Option Addr) (c:Nat):(qJ B T z p h1 h2 Z wr er).val (a,c)=.tuple #[.slice a Z.length c,wr,er]:=rfl
theorem kD {w:World}{b:Nat}{t:TypeId}{v0 v1 v2 v3:Value}(h:Blk w b t [v0,v1,v2,v3]):w.cell? ⟨b,0,none⟩=some v0∧w.cell? ⟨b,1,none⟩=some v1∧w.cell? ⟨b,2,none⟩=some v2∧w.cell? ⟨b,3,none⟩=some v3∧w.frozen? ⟨b,0,none⟩=false∧w.frozen? ⟨b,1,none⟩=false∧w.frozen? ⟨b,2,none⟩=false∧w.frozen? ⟨b,3,none⟩=false :=
 ⟨h.cell (k:=0) rfl,h.cell (k:=1) rfl,h.cell (k:=2) rfl,h.cell (k:=3) rfl,h.free (k:=0) (by simp),h.free (k:=1) (by simp),h.free (k:=2) (by simp),h.free (k:=3) (by simp)⟩
theorem qi (j:Jb)(old now:LL_)(h1:totalF old≤1500)(h2:totalF now≤1500):∀ t∈(fJ j old now).1,t.length≤1000000:=by
 have key:∀ (a b:List (List PR)) (out:List (List TR)),(∀ r∈a,r.length≤400000)→(∀ r∈b,r.length≤400000)→(∀ t∈out,t.length≤1000000)→∀ t∈cy out a b,t.length≤1000000:=by
  intro a
  induction a with
  | nil=>intro b out _ _ h;simpa[cy] using h
  | cons x a ih =>
   intro b out ha hb h
   cases b with
   | nil=>simpa[cy] using h
   | cons y b =>
    rw[cy];refine ih b _ (fun r hr=>ha r (Es _ hr)) (fun r hr=>hb r (Es _ hr)) (fun t ht=>?_);rcases Ey.1 ht with ht|ht
    ·exact h t ht
    ·rw[EN.1 ht]
     have q:=uJ _ x y rfl;have q1:=ha x (Er ..);have q2:=hb y (Er ..);omega
 unfold fJ
 split
 ·simp
 ·split
  ·simp
  ·exact key _ _ [] (fun r hr=>En (ie j old r hr) (En (Nat.mul_le_mul_left 256 h1) (by decide))) (fun r hr=>En (ie j now r hr) (En (Nat.mul_le_mul_left 256 h2) (by decide))) (by simp)
theorem x9 (j:Jb)(old now:LL_):(fJ j old now).1.length≤16:=by
 unfold fJ
 by_cases h1:(aY j old).2.2=0
 ·by_cases h2:(aY j now).2.2=0
  ·rw[if_neg (fun q=>q h1),if_neg (fun q=>q h2)]
   have e1:=ez j old h1;have e2:=ez j now h2;have e3:=jq h1;have q:=ng (aY j old).1 (aY j now).1 [] (by rw[e1,e2]);simp only[ET,Ek]at q;show(cy [] (aY j old).1 (aY j now).1).length≤16;omega
  ·rw[if_neg (fun q=>q h1),if_pos h2]
   exact EG _
 ·rw[if_pos h1]
  exact EG _
theorem oV (t1 c1 t2 c2 t3 c3:Value)(j:Jb)(v1:Value)(old:LL_)(v2:Value)(now:LL_)(w:World)(hj:oU w t1 c1 t2 c2 t3 c3 j)(hr1:aL.Row w v1 old)(hl1:old.length≤140737488355328)(hm1:∀ s∈old,s.length≤140737488355328)(hr2:aL.Row w v2 now)(hl2:now.length≤140737488355328)(hm2:∀ s∈now,s.length≤140737488355328)(hE:lB w)(hg:1<w.heap.size)(hG:dE w)(hdo:cS w):Calls Tryz.prog 4 #[cg t1 c1 t2 c2 t3 c3 j,v1,v2] w fun e w'=>e=.returned (.bool true)∧Bw_ w w':=by
 have HH1:=zH (fun w' (hB:Below w.heap.size w w')=>qf t1 c1 t2 c2 t3 c3 j v1 old w' (hj.below hB) (hr1.below hB) hl1 hm1);have HH2:=zH (fun w' (hB:Below w.heap.size w w')=>qf t1 c1 t2 c2 t3 c3 j v2 now w' (hj.below hB) (hr2.below hB) hl2 hm2);have HJA:=zH (fun (ho:cj j old=false) (hn:cj j now=false) (u1 u2:Value) w' (hB:Below w.heap.size w w') hu1 hu2=>AQ t1 c1 t2 c2 t3 c3 j u1 old u2 now w' ((hj.job (bG ho).1 hE hg hG).below hB) (hdo.below hB) hu1 hu2 (by have:=(bG ho).2.2.1;omega) (by have:=(bG hn).2.2.1;omega) (fun t ht=>En ((bG ho).2.2.2.2 t ht) (by decide)) (fun t ht=>En ((bG hn).2.2.2.2 t ht) (by decide)) (by have:=(bG ho).2.2.2.1;omega) (by have:=(bG hn).2.2.2.1;omega));have HJB:=zH (fun (ho:cj j old=false) (hn:cj j now=false) w' (hB:Below w.heap.size w w')=>xG t1 c1 t2 c2 t3 c3 j v1 old v2 now w' ((hj.job (bG ho).1 hE hg hG).below hB) (hr1.below hB) (hr2.below hB) (by have:=(bG ho).2.2.1;omega) (by have:=(bG hn).2.2.1;omega) (fun t ht=>En ((bG ho).2.2.2.2 t ht) (by decide)) (fun t ht=>En ((bG hn).2.2.2.2 t ht) (by decide)) (by have:=(bG ho).2.2.2.1;omega) (by have:=(bG hn).2.2.2.1;omega));have HTB:=zH (fun (ho:cj j old=false) (hn:cj j now=false)=>qi j old now (by have:=(bG ho).2.2.2.1;omega) (by have:=(bG hn).2.2.2.1;omega));have HVL0:=zH (x9 j old now);have HL1:=zH (fun (ho:cj j old=false)=>(bG ho).2.2.1);have HL2:=zH (fun (ho:cj j now=false)=>(bG ho).2.2.1);obtain⟨ta,tc,ca,cc,ta2,tc2,ca2,cc2,ta3,tc3,ca3,cc3,rfl,rfl,rfl,rfl,rfl,rfl⟩:=jo_ hj.a.t hj.a.c hj.b.t hj.b.c hj.c.t hj.c.c
 unfold cg at HH1 HH2 HJA HJB⊢;unfold wrV at HJA HJB;obtain⟨P,hP⟩:=ex_ j.parts;obtain⟨F,hF⟩:=ex_ j.fuel;rw[←hP,←hF]at HH1 HH2 HJA HJB⊢;clear hP hF;obtain⟨a1,k1,rfl,-,-⟩:=an hr1;obtain⟨a2,k2,rfl,-,-⟩:=an hr2;obtain⟨W1,hW1⟩:=ex_ (w.alloc (.cells #[.slice ta j.mt.length tc,.slice ca j.mc.length cc,.slice ta2 j.jt.length tc2,.slice ca2 j.jc.length cc2,.slice ta3 j.tt.length tc3,.slice ca3 j.tc.length cc3,.int .i64 P,.int .i64 F] 27));have hb1:=ba_ hW1;obtain⟨J,hJ⟩:=ex_ w.heap.size;have hx:=bn_ hJ hW1;have HB1:=zH hb1;have HX1:=zH hx;have HR1:=zH hr1;have HR2:=zH hr2;obtain⟨x0,x1,x2,x3,x4,x5,x6,x7⟩:=cl8 HX1.o;go_enter Tryz.func4,Tryz.ntmps4;go_upto_region 1 with fail;rw[←hW1,←hJ];clear hW1 hJ hb1 hx hj hr1 hr2 hm1 hm2 hE hg hG hdo hl1 hl2
 by_cases ho:cj j old=true
 ·rw[ho]at HH1
  clear ho;go_wp2_with (first|(go_at_call 19;refine(qU _).mono ?_;rintro e wa ⟨rfl,hBa⟩;have HBa:=zH (bt HB2.o hBa);clear hBa)|(go_at_call 18;refine(HH1.o _ HB1.o).mono ?_;rintro e w2 ⟨rfl,hB2⟩;have HB2:=zH (bt HB1.o hB2);clear hB2 x0 x1 x2 x3 x4 x5 x6 x7));go_ret;exact⟨rfl,HBa.o⟩
 ·have hof:cj j old=false:=by cases q:cj j old with
   | false=>rfl
   | true=>exact absurd q ho
  rw[hof]at HH1;clear ho;go_wp2_with fail;refine(HH1.o _ HB1.o).mono ?_;rintro e w2 ⟨rfl,hB2⟩;have HX2:=zH (HX1.o.below hB2);have HB2:=zH (bt HB1.o hB2);clear hB2 x0 x1 x2 x3 x4 x5 x6 x7;obtain⟨x0,x1,x2,x3,x4,x5,x6,x7⟩:=cl8 HX2.o
  by_cases hn:cj j now=true
  ·rw[hn]at HH2
   clear hn hof;go_wp2_with (first|(go_at_call 19;refine(qU _).mono ?_;rintro e wa ⟨rfl,hBa⟩;have HBa:=zH (bt HB3.o hBa);clear hBa)|(go_at_call 18;refine(HH2.o _ HB2.o).mono ?_;rintro e w3 ⟨rfl,hB3⟩;have HB3:=zH (bt HB2.o hB3);clear hB3 x0 x1 x2 x3 x4 x5 x6 x7));go_ret;exact⟨rfl,HBa.o⟩
  ·have hnf:cj j now=false:=by cases q:cj j now with
    | false=>rfl
    | true=>exact absurd q hn
   rw[hnf]at HH2;have HGA:=zH (HJA.o hof hnf);have HGB:=zH (HJB.o hof hnf);have HTT:=zH (HTB.o hof hnf);have HO10:=zH (HL1.o hof);have HN10:=zH (HL2.o hnf);obtain⟨V,hV⟩:=ex_ (fJ j old now);have HVL:=zH (show V.1.length≤16 by rw[hV];exact HVL0.o);rw[←hV]at HGA HGB HTT;clear hn hof hnf hV HVL0 HJA HJB HTB HL1 HL2 HH1;go_upto_region 3 with(go_at_call 18;refine(HH2.o _ HB2.o).mono ?_;rintro e w3 ⟨rfl,hB3⟩;have HX3:=zH (HX2.o.below hB3);have HB3:=zH (bt HB2.o hB3);clear hB3 x0 x1 x2 x3 x4 x5 x6 x7);clear HH2;have HI47:=zH (show(Tryz.prog.info? 47).map (·.size)=some 4 by kernel_rfl);have n1:9≠47:=by decide
   have n2:51≠47:=by decide
   have n3:77≠47:=by decide
   refine oK 47 #[.int .u8 0,.int .i64 0,.int .i64 0,.string ⟨#[]⟩] #[.int .u8 (V.2.1.1:Int),.int .i64 (V.2.1.2.1:Int),.int .i64 (V.2.1.2.2.1:Int),.string (bs V.2.1.2.2.2)] 12 [(0,.exact _ (.agg #[.slice ta j.mt.length tc,.slice ca j.mc.length cc,.slice ta2 j.jt.length tc2,.slice ca2 j.jc.length cc2,.slice ta3 j.tt.length tc3,.slice ca3 j.tc.length cc3,.int .i64 P,.int .i64 F])),(2,sI w3.heap.size _ _ _ aL n1 old),(4,sI w3.heap.size _ _ _ aL n1 now),(5,qJ w3.heap.size _ _ _ n2 n3 V.1 (.agg #[.int .u8 (V.2.1.1:Int),.int .i64 (V.2.1.2.1:Int),.int .i64 (V.2.1.2.2.1:Int),.string (bs V.2.1.2.2.2)]) (.int .i64 (V.2.2:Int))),(10,uT w3.heap.size 47 #[.int .u8 0,.int .i64 0,.int .i64 0,.string ⟨#[]⟩] #[.int .u8 (V.2.1.1:Int),.int .i64 (V.2.1.2.1:Int),.int .i64 (V.2.1.2.2.1:Int),.string (bs V.2.1.2.2.2)])] (by kernel_rfl) (by kernel_rfl) ?_;refine cGV ?_;refine tO rfl (by kernel_rfl) (fun w' G hB hS hG=>?_) (fun K hK=>?_)
   ·have hx:=HX3.o.below hB.1.1
    obtain⟨y0,y1,y2,y3,y4,y5,y6,y7⟩:=cl8 hx;clear hB hS hx;go_simp;exact hG _ (eN.refl _)
   refine cOV ?_;clear hK K;refine fi (sI w3.heap.size 47 #[.int .u8 0,.int .i64 0,.int .i64 0,.string ⟨#[]⟩] #[.int .u8 (V.2.1.1:Int),.int .i64 (V.2.1.2.1:Int),.int .i64 (V.2.1.2.2.1:Int),.string (bs V.2.1.2.2.2)] aL n1 old) rfl (by kernel_rfl) (fun w' G hB hS hG=>?_) (fun (x:Option Addr×Nat) K hK=>?_)
   ·exact aL.grow_copy _ _ 22 rfl Tryz.underlying22 w3.heap.size rfl _ old (HR1.o.below (bt HB3.o hB.1.1)) rfl (by show old.length*16≤_;have:=HO10.o;omega) hB.size (fun A C w'' ho hb=>hG (A,C) w'' (eN.of_bel hB.size hb) (fun φ h=>by cases h;exact ho))
   obtain⟨ad1,cd1⟩:=x;refine cOV ?_;clear hK K;refine fi (sI w3.heap.size 47 #[.int .u8 0,.int .i64 0,.int .i64 0,.string ⟨#[]⟩] #[.int .u8 (V.2.1.1:Int),.int .i64 (V.2.1.2.1:Int),.int .i64 (V.2.1.2.2.1:Int),.string (bs V.2.1.2.2.2)] aL n1 now) rfl (by kernel_rfl) (fun w' G hB hS hG=>?_) (fun (x:Option Addr×Nat) K hK=>?_)
   ·exact aL.grow_copy _ _ 22 rfl Tryz.underlying22 w3.heap.size rfl _ now (HR2.o.below (bt HB3.o hB.1.1)) rfl (by show now.length*16≤_;have:=HN10.o;omega) hB.size (fun A C w'' ho hb=>hG (A,C) w'' (eN.of_bel hB.size hb) (fun φ h=>by cases h;exact ho))
   obtain⟨ad2,cd2⟩:=x;refine cOV ?_;clear hK K;refine fi (qJ w3.heap.size 47 #[.int .u8 0,.int .i64 0,.int .i64 0,.string ⟨#[]⟩] #[.int .u8 (V.2.1.1:Int),.int .i64 (V.2.1.2.1:Int),.int .i64 (V.2.1.2.2.1:Int),.string (bs V.2.1.2.2.2)] n2 n3 V.1 (.agg #[.int .u8 (V.2.1.1:Int),.int .i64 (V.2.1.2.1:Int),.int .i64 (V.2.1.2.2.1:Int),.string (bs V.2.1.2.2.2)]) (.int .i64 (V.2.2:Int))) rfl (by kernel_rfl) (fun w' G hB hS hG=>?_) (fun (x:Option Addr×Nat) K hK=>?_)
   ·have h1:aL.Own w' w3.heap.size (.slice ad1 old.length cd1) old:=at1 hS (by kernel_rfl)
    have h2:aL.Own w' w3.heap.size (.slice ad2 now.length cd2) now:=at0 hS (by kernel_rfl);have hu:=HGA.o _ _ w' (bt HB3.o hB.1.1) h1.row h2.row;have HSZ:=zH hB.size;clear hB hS;go_simp;refine hu.mono ?_;rintro e w'' ⟨⟨ga,gc,rfl,hgt⟩,hb⟩;exact⟨_,rfl,hG (ga,gc) w'' (eN.of_bel HSZ.o hb) (fun φ h=>by cases h;exact hgt.mono HSZ.o)⟩
   obtain⟨ad3,cd3⟩:=x;refine cOV ?_;clear hK K;refine fi (uT w3.heap.size 47 #[.int .u8 0,.int .i64 0,.int .i64 0,.string ⟨#[]⟩] #[.int .u8 (V.2.1.1:Int),.int .i64 (V.2.1.2.1:Int),.int .i64 (V.2.1.2.2.1:Int),.string (bs V.2.1.2.2.2)]) rfl (by kernel_rfl) (fun w' G hB hS hG=>?_) (fun (x:Nat) K hK=>?_)
   ·have HSZ2:=zH hB.size
    clear hB hS;go_simp;exact hG w'.heap.size _ (eN.of_bel HSZ2.o (af _ _)) (fun φ h=>by cases h;exact⟨HSZ2.o,.inl (World.alloc_heap_new _ _)⟩)
   refine cOV ?_;clear hK K;refine fi (sK w3.heap.size 47 #[.int .u8 0,.int .i64 0,.int .i64 0,.string ⟨#[]⟩] #[.int .u8 (V.2.1.1:Int),.int .i64 (V.2.1.2.1:Int),.int .i64 (V.2.1.2.2.1:Int),.string (bs V.2.1.2.2.2)] (.pointer (some ⟨x,0,none⟩))) rfl (by kernel_rfl) (fun w' G hB hS hG=>?_) (fun _ K hK=>?_)
   ·have hx:=at0 hS (by kernel_rfl)
    have HSZ2:=zH hB.size;have HX1':=zH hx.1;obtain⟨o1,o2,o3,o4,hx2⟩:∃ o1 o2 o3 o4,Blk w' x 47 [o1,o2,o3,o4]:=by rcases hx.2 with h|h<;>exact⟨_,_,_,_,h⟩
    obtain⟨e1,e2,e3,e4,e5,e6,e7,e8⟩:=kD hx2;have hlt:=hx2.lt;have HX2':=zH hx2;clear hB hS hx hx2;go_simp;exact hG () _ (eN.store HX1'.o HSZ2.o (cH _ _ _ _ _ _) HX2'.o (bi HX2'.o _ _ _ _)) (fun φ h=>by cases h;exact fun x' hv=>by cases hv;exact⟨HX1'.o,bi HX2'.o _ _ _ _⟩)
   refine cOV ?_;clear hK K;refine yL ?_;intro w5 hR5 hA5;have hx5:Blk w5 x 47 [.int .u8 (V.2.1.1:Int),.int .i64 (V.2.1.2.1:Int),.int .i64 (V.2.1.2.2.1:Int),.string (bs V.2.1.2.2.2)]:=(lA hA5 x rfl).2;have hgt:GTR w5 w3.heap.size (.slice ad3 V.1.length cd3) V.1:=DD hA5;have hY5:=hR5.1.1;have HB5:=zH (bt HB3.o hY5);have HX5:=zH (HX3.o.below hY5);have HD5:=zH hx5;have HT5:=zH hgt;clear hR5 hA5 hx5 hY5 hgt;obtain⟨x0,x1,x2,x3,x4,x5,x6,x7⟩:=cl8 HX5.o;go_upto_region 5 with(first|(refine bA w7.heap.size [.int .u8 0,.int .i64 0,.int .i64 0,.string ⟨#[]⟩] [.int .u8 (V.2.1.1:Int),.int .i64 (V.2.1.2.1:Int),.int .i64 (V.2.1.2.2.1:Int),.string (bs V.2.1.2.2.2)] (Blk.new w7 _ _) rfl _ _ _ rfl rfl rfl HI47.o rfl (by simp[Value.oneCell']) ?_;intro W8 hw8;have hB78:Below w7.heap.size w7 W8:=(by rw[←hw8.o];exact aI (af _ _) (Ei _) _);have HE8:=zH (show Blk W8 w7.heap.size 47 [.int .u8 (V.2.1.1:Int),.int .i64 (V.2.1.2.1:Int),.int .i64 (V.2.1.2.2.1:Int),.string (bs V.2.1.2.2.2)] by rw[←hw8.o];exact(Blk.new w7 [.int .u8 0,.int .i64 0,.int .i64 0,.string ⟨#[]⟩] _).row _);have HD8:=zH (HD7.o.below hB78);have HB8:=zH (bt HB7.o hB78);have HT8:=zH (HT7.o.below hB78);have HU8:=zH (HU7.o.below hB78);clear hw8 hB78)|(go_at_call 21;refine(HGB.o _ HB5.o).mono ?_;rintro e w7 ⟨⟨ga,gc,rfl,hgt⟩,hB7⟩;have HU7:=zH hgt;have HT7:=zH (HT5.o.below hB7);have HD7:=zH (HD5.o.below hB7);have HB7:=zH (bt HB5.o hB7);clear hB7 hgt x0 x1 x2 x3 x4 x5 x6 x7));obtain⟨e1,e2,e3,e4,-,-,-,-⟩:=kD HD8.o;obtain⟨f1,f2,f3,f4,-,-,-,-⟩:=kD HE8.o
   have hlx:=HD8.o.lt;have hle:=HE8.o.lt;obtain⟨_,_,hv1,hc1⟩:=HT8.o.read;injection hv1 with q1 _ q3
   subst q1 q3;obtain⟨_,_,hv2,hc2⟩:=HU8.o.read;injection hv2 with q1 _ q3
   subst q1 q3;have HC1:=zH hc1;have HC2:=zH hc2;clear hc1 hc2;go_upto_region 8 with fail;clear e1 e2 e3 e4 f1 f2 f3 f4 hlx hle n2 n3
   go_loopw [13] (fun t wr=>∃ k:Nat,k≤V.1.length∧t=.int .i64 (k:Int)∧Hid (Below W8.heap.size W8 wr)) (fun t _=>V.1.length-(intOf t).toNat)
   case atStart=>exact⟨0,EG _,rfl,Em _ _⟩
   case round =>
    obtain⟨k,hk,rfl,HB⟩:=hrel;have hvl:=HVL.o
    by_cases h0:k<V.1.length
    ·obtain⟨b1,o1,u1,rfl,d1,hu1⟩:=HC1.o k h0
     obtain⟨b2,o2,u2,rfl,d2,hu2⟩:=HC2.o k h0;have hrm:=HTT.o _ (EM h0);obtain⟨r,hr⟩:=ex_ (V.1[k]'h0);rw[←hr]at hu1 hu2 hrm;replace d1:=DK HB.o d1;replace d2:=DK HB.o d2;have hv1:=hu1.below HB.o;have hv2:=hu2.below HB.o;obtain⟨ua,uc,rfl,-,-⟩:=hv1.open;obtain⟨va,vc,rfl,-,-⟩:=hv2.open;have HD1:=zH d1;have HD2:=zH d2;have HU1:=zH hv1;have HU2:=zH hv2;have HRM:=zH (show r.length≤140737488355328 from En hrm (by decide));have i0:=nn_ k;have i1:(k:Int)<(V.1.length:Int):=by omega
     have HI:=zH h0;clear hr h0 hu1 hu2 hv1 hv2 hrm;go_upto_region 10 with fail;refine rk_ [(3,.exact _ (.slice ua r.length uc)),(7,.exact _ (.slice va r.length vc)),(8,.exact _ (.bool true))] ?_;refine cG ?_;refine gE_ (fun w' G hB hS hG=>?_) (fun K hK=>?_)
     ·have cc:=DK hB HD1.o
      clear hB hS d1 d2;go_simp;exact hG _ (Bel.refl _)
     refine cO ?_;clear hK K;refine gE_ (fun w' G hB hS hG=>?_) (fun K hK=>?_)
     ·have cc:=DK hB HD2.o
      clear hB hS d1 d2;go_simp;exact hG _ (Bel.refl _)
     refine cO ?_;clear hK K;refine gE_ (fun w' G hB hS hG=>?_) (fun K hK=>?_)
     ·have hu:=ph _ _ r r w' (HU1.o.below hB) (HU2.o.below hB) HRM.o HRM.o
      rw[decide_eq_true rfl]at hu;clear hB hS d1 d2;go_simp;exact aH hG hu
     refine cO ?_;clear hK K;refine dF ?_;intro w12 hB12 hA12;have HB12:=zH (bt HB.o hB12);clear hA12 hB12 d1 d2;go_wp2_with fail;go_roundw
     case rel=>exact⟨k+1,HI.o,by go_num,HB12.o⟩
     case measure=>have:=HI.o;simp[intOf];omega
    ·have i1:¬(k:Int)<(V.1.length:Int):=by omega
     have HBW:=zH (bt HB8.o HB.o);clear h0;go_wp2_with (go_at_call 19;refine(qU _).mono ?_;rintro e wa ⟨rfl,hBa⟩;have HBa:=zH (bt HBW.o hBa);clear hBa);go_ret;exact⟨rfl,HBa.o⟩
end
