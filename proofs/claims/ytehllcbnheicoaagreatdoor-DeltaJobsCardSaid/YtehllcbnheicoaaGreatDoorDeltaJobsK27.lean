/- Lemmas for DeltaJobs: walks, plain laws. -/
import Derived.WalkMore
import Derived.Test.YtehllcbnheicoaaGreatDoorDeltaJobsK2
import Derived.Test.YtehllcbnheicoaaGreatDoorDeltaJobsK28
set_option linter.unusedSimpArgs false
set_option linter.unusedVariables false
set_option maxRecDepth 100000
set_option maxHeartbeats 16000000
namespace Go.Proofs.YtehllcbnheicoaaGreatDoor
open Go.RowKit Oct
section
attribute [local irreducible] wpG
theorem BG {n k o x:Nat}(hn:n≤1000000)(hk:k≤n)(ho:o≤256*k)(hx:x≤256):(o+x)*32≤140737488355328:=by omega
theorem uM (t1 c1 t2 c2 t3 c3:Value)(j:Jb)(text:LU_)(w:World)(h:eO w t1 c1 t2 c2 t3 c3 j)(hdo:cS w)(ht:text.length≤1000000):Calls Tryz.prog 24 #[cg t1 c1 t2 c2 t3 c3 j,.string (bs text)] w fun e w'=>(∃ pv,e=.returned (.tuple #[pv,.int .i64 ((bf j text).2.1:Int),.int .i64 ((bf j text).2.2:Int)])∧recKv.Own w' w.heap.size pv (bf j text).1)∧Bw_ w w':=by
 have HCK:=zH (fun w' (hB:Below w.heap.size w w')=>gD t1 c1 t2 c2 t3 c3 j w' (h.below hB));have HMP:=zH (fun (s:LU_) w' (hB:Below w.heap.size w w') hs=>Ah t1 c1 t2 c2 t3 c3 j s w' (h.below hB) (hdo.below hB) hs);have HRC:=zH (fun w'=>tH text w' ht);have HRE:=zH (show ∀ r∈cN text,r.length≤1000000 from fun r hr=>En (po text r hr) ht);have HRN:=zH (En (iE text) ht);obtain⟨ta,tc,ca,cc,ta2,tc2,ca2,cc2,ta3,tc3,ca3,cc3,rfl,rfl,rfl,rfl,rfl,rfl⟩:=jo_ h.a.t h.a.c h.b.t h.b.c h.c.t h.c.c;unfold cg at HCK HMP⊢;obtain⟨W1,hW1⟩:=ex_ (w.alloc (.cells #[.slice ta j.mt.length tc,.slice ca j.mc.length cc,.slice ta2 j.jt.length tc2,.slice ca2 j.jc.length cc2,.slice ta3 j.tt.length tc3,.slice ca3 j.tc.length cc3,.int .i64 j.parts,.int .i64 j.fuel] 27));have hb1:=ba_ hW1;obtain⟨J,hJ⟩:=ex_ w.heap.size;have hx:=bn_ hJ hW1;obtain⟨x0,x1,x2,x3,x4,x5,x6,x7⟩:=cl8 hx;have HB1:=zH hb1;have HX:=zH hx;go_enter Tryz.func24,Tryz.ntmps24;go_upto_region 1 with fail;rw[←hW1,←hJ];clear hW1 hJ hb1 hx h hdo ht;go_step3;obtain⟨ck,hck⟩:=ex_ (bu j);rw[←hck]at HCK
 by_cases hm:cd j=true
 ·have t1:((ck.2.2:Int) != 0)=false:=by rw[hck,k8 hm];rfl
  have HPJ:=zH (nJ (j:=j) (text:=text) hm);have HRM:=zH (fun s:LU_=>nW hm j.mt j.mc 1 [s]);clear hck hm;go_wp2_with (first|(go_at_call 48;refine(HRC.o _).mono ?_;rintro e w3 ⟨⟨rv,rfl,hro⟩,hB3⟩;obtain⟨ra,rc,rfl⟩:=ap hro;have HRO:=zH hro.row;have HX3:=zH (HX2.o.below hB3);have HB3:=zH (bt HB2.o hB3);clear hro hB3)|(go_at_call 34;refine(HCK.o _ HB1.o).mono ?_;rintro e w2 ⟨rfl,hB2⟩;have HX2:=zH (HX.o.below hB2);have HB2:=zH (bt HB1.o hB2);clear hB2 x0 x1 x2 x3 x4 x5 x6 x7));obtain⟨_,_,hkv,_,hkc⟩:=an HRO.o;injection hkv with q1 _ q3
  subst q1 q3;have HKC:=zH hkc;obtain⟨RS,hRS⟩:=ex_ (cN text);rw[←hRS]at HRN HRE HKC HPJ⊢;clear hkc hRS HRO HCK HRC;go_step3;go_wp2
  go_loopw [4,5,6,27] (fun tx bd er i wr=>∃ (k:Nat) (out:List PR),k≤RS.length∧out.length≤256*k∧i=.int .i64 (k:Int)∧bd=.int .i64 0∧er=.int .i64 0∧Hid (recKv.Own wr w3.heap.size tx out)∧Hid (cq j k out (RS.drop k)=cq j 0 [] RS)∧Hid (Below w3.heap.size w3 wr)) (fun _ _ _ i _=>RS.length-(intOf i).toNat)
  case atStart=>exact⟨0,[],EG _,EG _,rfl,rfl,rfl,Rec.Own.nil _ _,rfl,Em _ _⟩
  case round =>
   obtain⟨k,out,hk,hok,rfl,rfl,rfl,HO,HAV,HBR⟩:=hrel;obtain⟨ao,co,rfl⟩:=ap HO.o;have hrn:=HRN.o
   by_cases h0:k<RS.length
   ·obtain⟨kb,ko,hA,e1⟩:=HKC.o k h0
    subst hA;have hdr:RS.drop k=RS[k]::RS.drop (k+1):=Ec h0;have hrl:=HRE.o _ (EM h0);obtain⟨r,hre⟩:=ex_ (RS[k]'h0);rw[←hre]at e1 hrl hdr;have HD:=zH hdr;replace e1:=DK HBR.o e1;have hxx:=HX3.o.below HBR.o;obtain⟨x0,x1,x2,x3,x4,x5,x6,x7⟩:=cl8 hxx;have hrl2:r.length≤140737488355328:=by omega
    have HTR:=zH (fun w'=>za r w' hrl2);have HGM:=zH (HMP.o (fT r) wr.drew (bt (bt HB3.o HBR.o) (b_drew wr)) (En (tB r) hrl2));rw[HRM.o]at HGM;have HVP:=zH (lD j.mt j.mc 1 [fT r] j.fuel);obtain⟨R,hR⟩:=ex_ (vmV j.mt j.mc 1 [fT r] j.fuel);rw[←hR]at HGM HVP;have HR:=zH hR;have i0:=nn_ k;have i1:(k:Int)<(RS.length:Int):=by omega
    have HHH:=zH h0;have HBY:=zH (BG (x:=R.2.1.length) HRN.o hk hok HVP.o);clear hR hdr hre hxx h0 hrl hrl2
    by_cases hz:R.1=0
    ·have t3:((R.1:Int) != 0)=false:=by rw[hz];rfl
     have HQ:=zH (show cq j k out (r::RS.drop (k+1))=cq j (k+1) (out++R.2.1) (RS.drop (k+1)) by rw[HR.o];exact pA (by rw[←HR.o];exact hz));clear hz;go_upto_region 8 with fail;go_region_with (first|(go_at_call 49;refine HGM.o.mono ?_;rintro e w7 ⟨⟨pv,rfl,hrow⟩,hB7⟩;obtain⟨pa,pc,rfl,-,-⟩:=(gu hrow).open;have HROW:=zH hrow;have hB7:=bt (b_drew wr) hB7;have HB7:=zH (bt HBR.o hB7);have HO7:=zH (HO.o.below hB7);have HS7:=zH (En HBR.o.size hB7.size);clear hB7 hrow)|(go_at_call 50;refine(HTR.o _).mono ?_;rintro e w6 ⟨rfl,rfl⟩))
     all_goals
      go_wp2_with (at_builtin;go_must (refine recKv.append w7 rfl _ _ 37 rfl Tryz.underlying37 w3.heap.size _ out HO7.o rfl _ R.2.1 HROW.o rfl HBY.o HS7.o ?_);intro v8 w8 hown8 hB8;have HO8:=zH hown8;have HB8:=zH hB8;clear hown8 hB8);go_roundw
      case rel=>exact⟨k+1,out++R.2.1,HHH.o,by rw[Ev];have:=HVP.o;omega,by go_num,rfl,rfl,HO8.o,by rw[←HQ.o,←HD.o];exact HAV.o,HB7.o.trans HB8.o⟩
      case measure=>have:=HHH.o;simp[intOf];omega
    ·have t3:((R.1:Int) != 0)=true:=by rw[bne_iff_ne];omega
     have HQ:=zH (show cq j k out (r::RS.drop (k+1))=([],k,R.1) by rw[HR.o];exact nI (by rw[←HR.o];exact hz));clear hz;go_upto_region 8 with fail;go_region_with (first|(go_at_call 49;refine HGM.o.mono ?_;rintro e w7 ⟨⟨pv,rfl,hrow⟩,hB7⟩;obtain⟨pa,pc,rfl,-,-⟩:=(gu hrow).open;have HROW:=zH hrow;have hB7:=bt (b_drew wr) hB7;have HB7:=zH (bt HBR.o hB7);have HO7:=zH (HO.o.below hB7);have HS7:=zH (En HBR.o.size hB7.size);clear hB7 hrow)|(go_at_call 50;refine(HTR.o _).mono ?_;rintro e w6 ⟨rfl,rfl⟩))
     all_goals
      go_wp2_with fail
      try rw[Exit.noGoto_ret]
      go_ret3;rw[HPJ.o,←HAV.o,HD.o,HQ.o];exact⟨⟨_,rfl,Rec.Own.nil _ _⟩,bt HB3.o HB7.o⟩
   ·have i1:¬(k:Int)<(RS.length:Int):=by omega
    have HE:=zH (show cq j 0 [] RS=(out,0,0) by rw[←HAV.o,Ex (by omega)];rfl);clear h0;go_wp2_with fail
    try rw[Exit.noGoto_ret]
    go_ret3;rw[HPJ.o,HE.o];exact⟨⟨_,rfl,HO.o.mono HB3.o.size⟩,bt HB3.o HBR.o⟩
 ·have t1:((ck.2.2:Int) != 0)=true:=by rw[hck,bne_iff_ne];have:=mS hm;omega
  have HPJ:=zH (pC (j:=j) (text:=text) hm);clear hm hck;go_wp2_with (go_at_call 34;refine(HCK.o _ HB1.o).mono ?_;rintro e w2 ⟨rfl,hB2⟩;have HB2:=zH (bt HB1.o hB2);clear hB2 x0 x1 x2 x3 x4 x5 x6 x7)
  try rw[Exit.noGoto_ret]
  go_ret3;rw[HPJ.o];exact⟨⟨_,rfl,Rec.Own.nil _ _⟩,HB2.o⟩
theorem sj (J:Nat)(t1 c1 t2 c2 t3 c3:Value)(j:Jb)(k:Nat)(text:LU_)(w:World)(h:eO w t1 c1 t2 c2 t3 c3 j)(hdo:cS w)(hJ:Blk w J 27 [t1,c1,t2,c2,t3,c3,.int .i64 j.parts,.int .i64 j.fuel])(ht:text.length≤1000000):Calls Tryz.prog 120 #[.int .i64 (k:Int),.string (bs text),.pointer (some ⟨J,0,none⟩)] w fun e w'=>(∃ pv,e=.returned (.tuple #[pv,wrV (1,k,(bf j text).2.1,[]),.int .i64 ((bf j text).2.2:Int)])∧recKv.Own w' w.heap.size pv (bf j text).1)∧Bw_ w w':=by
 have HP:=zH (fun w' (hB:Below w.heap.size w w')=>uM t1 c1 t2 c2 t3 c3 j text w' (h.below hB) (hdo.below hB) ht);obtain⟨ta,tc,ca,cc,ta2,tc2,ca2,cc2,ta3,tc3,ca3,cc3,rfl,rfl,rfl,rfl,rfl,rfl⟩:=jo_ h.a.t h.a.c h.b.t h.b.c h.c.t h.c.c;unfold cg at HP;obtain⟨W1,hW1⟩:=ex_ (w.alloc (.cells #[.int .u8 0,.int .i64 0,.int .i64 0,.string ⟨#[]⟩] 47));have hb1:=ba_ hW1;obtain⟨E,hE⟩:=ex_ w.heap.size;have he:=bn_ hE hW1;have hx:=hJ.below hb1;obtain⟨x0,x1,x2,x3,x4,x5,x6,x7⟩:=cl8 hx;have hJl:=hx.lt;have HB1:=zH hb1;have HE1:=zH he;have HEW:=zH (show w.heap.size≤E by omega);have HE0:=zH (show E<W1.heap.size from he.lt);obtain⟨R,hR⟩:=ex_ (bf j text);rw[←hR]at HP⊢;clear hR;go_enter Tryz.func120,Tryz.ntmps120;go_upto_region 1 with fail;rw[←hW1,←hE];clear hW1 hE hb1 he hx hJ h hdo;go_upto_region 2 with(go_at_call 24;refine(HP.o _ HB1.o).mono ?_;rintro e w7 ⟨⟨pv,rfl,hrow⟩,hB7⟩;obtain⟨pa,pc,rfl⟩:=ap hrow;have HO7:=zH hrow;have HE7:=zH (HE1.o.below hB7);have HB7:=zH (bt HB1.o hB7);clear hB7 hrow x0 x1 x2 x3 x4 x5 x6 x7 hJl);obtain⟨z0,z1,z2,z3⟩:=cl4 HE7.o;obtain⟨g0,g1,g2,g3⟩:=fr4 HE7.o;have hEl:=HE7.o.lt;go_wp2_with fail;refine bodyPost_ret (aQ rfl rfl (bO (bi HE7.o _ _ _ _))) rfl ?_;have hc:=cH w7 E (.int .u8 1) (.int .i64 (k:Int)) (.int .i64 (R.2.1:Int)) (.string ⟨#[]⟩);refine⟨⟨_,rfl,Rec.Own.mono (R:=recKv) (cE HO7.o hc (fun k hk=>by have:=HE0.o;omega)) HB1.o.size⟩,HB7.o.trans (hc.below (fun k hk=>by rw[show k=E from hk];exact HEW.o) HB7.o.size)⟩
theorem G7 {T:Prop} (h:T:=by
 go_wp2_with (at_builtin;(refine gH W8 [.slice pa R.1.length pc] 37 rfl _ _ 28 rfl W1.heap.size (.slice none 0 0) 1 24 Tryz.underlying28 jF rfl (by decide) _ out.length CS HCS.o rfl _ rfl rfl (by simp[Value.oneCell']) (by decide) HBZ.o (En HBR.o.size HB8.o.size) ?_);intro g cap w9 hown9 hfr hgb hB9 hsz9;have HO9:=zH hown9;have HFR:=zH hfr;have HGB:=zH hgb;have HB9:=zH hB9;have HSZ9:=zH hsz9;clear hown9 hfr hgb hB9 hsz9);go_roundw
 case rel =>
  have hout:∀ b,(Value.slice pa R.1.length pc).ownBlock=some b→b<W8.heap.size∧(Value.slice Av out.length Cv).ownBlock≠some b:=by
   intro b hb;have h1:=World.ownsRow.lt HO8.o b hb;refine⟨h1.2,fun e=>?_⟩;obtain⟨CS2,hc2,_⟩:=HG.o;have h2:=World.ownsRow.lt hc2 b e;omega
  have hsn:=GRP.snoc HCS2.o (by have:=HCS.o.1;omega) (gu (Rec.Own.row (R:=recKv) HO8.o)) hout rfl HO9.o HFR.o HGB.o HSZ9.o;refine⟨k+1,out++[R.1],HHH.o,by rw[Ev];simp;omega,by go_num,?_,by rw[←HQ.o,←HD.o];exact HAV.o,HBR.o.trans ((HB8.o.mono HBR.o.size).trans HB9.o)⟩
  first|exact hsn|(rw[Ev];exact hsn)
 case measure=>have:=HHH.o;simp[intOf];omega
):T:=h
theorem Hg {T:Prop} (h:T:=by
 clear h0;have her:=HE1.o.below HBR.o;obtain⟨z0,z1,z2,z3⟩:=cl4 her;obtain⟨g0,g1,g2,g3⟩:=fr4 her;have hEl:=her.lt;have HER:=zH her;clear her;go_upto_region 9 with fail;go_region_law (fail);go_wp2_with fail
 all_goals
  refine bodyPost_ret (aQ rfl rfl (bO (bi HER.o _ _ _ _))) rfl ?_;rw[HQ.o];rw[show(((wr.setCell ⟨E,0,none⟩ (.int .u8 0)).setCell ⟨E,1,none⟩ (.int .i64 0)).setCell ⟨E,2,none⟩ (.int .i64 0)).setCell ⟨E,3,none⟩ (.string ⟨#[]⟩)=wr from dI HER.o];exact⟨⟨_,_,rfl,HG.o.rr.below (b_drew _)⟩,bt (bt HB1.o HBR.o) (b_drew _)⟩
):T:=h
theorem Hz {T:Prop} (h:T:=by
 rw[HQ.o];exact⟨⟨none,0,rfl,D5 _⟩,bt (HBW.o.trans (hc.below (fun k hk=>by rw[show k=E from hk];exact HEW.o) HBW.o.size)) (b_drew _)⟩
):T:=h
theorem uA (J:Nat)(t1 c1 t2 c2 t3 c3:Value)(j:Jb)(v:Value)(xs:LL_)(w:World)(h:eO w t1 c1 t2 c2 t3 c3 j)(hdo:cS w)(hJ:Blk w J 27 [t1,c1,t2,c2,t3,c3,.int .i64 j.parts,.int .i64 j.fuel])(hv:aL.Row w v xs)(hl:xs.length≤1000000)(hm:∀ t∈xs,t.length≤1000000):Calls Tryz.prog 119 #[v,.func (.func 120) #[] #[.pointer (some ⟨J,0,none⟩)]] w fun e w'=>(∃ a c,e=.returned (.tuple #[.slice a (fh j xs).1.length c,wrV (fh j xs).2.1,.int .i64 ((fh j xs).2.2:Int)])∧RR w' (.slice a (fh j xs).1.length c) (fh j xs).1)∧Bw_ w w':=by
 have HF:=zH (fun (k:Nat) (text:LU_) w' (hB:Below w.heap.size w w') (ht:text.length≤1000000)=>sj J t1 c1 t2 c2 t3 c3 j k text w' (h.below hB) (hdo.below hB) (hJ.below hB) ht);have HXM:=zH hm;obtain⟨av,cv,rfl,_,hc⟩:=an hv;have HC:=zH hc;obtain⟨W1,hW1⟩:=ex_ (w.alloc (.cells #[.int .u8 0,.int .i64 0,.int .i64 0,.string ⟨#[]⟩] 47));have hb1:=ba_ hW1;obtain⟨E,hE⟩:=ex_ w.heap.size;have he:=bn_ hE hW1;have HB1:=zH hb1;have HE1:=zH he;have HEW:=zH (show w.heap.size≤E by omega);have HI47:=zH (show(Tryz.prog.info? 47).map (·.size)=some 4 by kernel_rfl);go_enter Tryz.func119,Tryz.ntmps119;go_upto_region 1 with fail;rw[←hW1,←hE];clear hW1 hE hb1 he h hdo hJ hc hm;go_wp2_with fail
 go_loopw [4,14] (fun u t wr=>∃ (k:Nat) (out:List (List PR)),k≤xs.length∧out.length≤k∧t=.int .i64 (k:Int)∧Hid (GRP wr W1.heap.size u out)∧Hid (cB j k out (xs.drop k)=cB j 0 [] xs)∧Hid (Below W1.heap.size W1 wr)) (fun _ t _=>xs.length-(intOf t).toNat)
 case atStart=>exact⟨0,[],EG _,Ei _,rfl,GRP.nil _ _,rfl,Em _ _⟩
 case round =>
  obtain⟨k,out,hk,hok,rfl,HG,HAV,HBR⟩:=hrel;obtain⟨Av,Cv,rfl⟩:=GRP.slice HG.o
  by_cases h0:k<xs.length
  ·obtain⟨b1,o1,hA,e1⟩:=HC.o k h0
   subst hA;have hdr:xs.drop k=xs[k]::xs.drop (k+1):=Ec h0;have hxm:=HXM.o _ (EM h0);obtain⟨x,hxe⟩:=ex_ (xs[k]'h0);rw[←hxe]at e1 hxm hdr;have HD:=zH hdr;replace e1:=DK (bt HB1.o HBR.o) e1;have HFK:=zH (HF.o k x wr (bt HB1.o HBR.o) hxm);obtain⟨R,hR⟩:=ex_ (bf j x);have HR:=zH hR;unfold wrV at HFK;rw[←hR]at HFK;have i0:=nn_ k;have i1:(k:Int)<(xs.length:Int):=by omega
   have HHH:=zH h0;have HBZ:=zH (show(out.length+1)*24≤140737488355328 by omega);clear hR hdr hxe h0 hxm
   by_cases hz:R.2.2=0
   ·have t3:((R.2.2:Int) != 0)=false:=by rw[hz];rfl
    have HQ:=zH (show cB j k out (x::xs.drop (k+1))=cB j (k+1) (out++[R.1]) (xs.drop (k+1)) by rw[HR.o];exact yj (by rw[←HR.o];exact hz));clear hz;go_upto_region 7 with(first|(refine bA w7.heap.size [.int .u8 0,.int .i64 0,.int .i64 0,.string ⟨#[]⟩] [.int .u8 ((1:Nat):Int),.int .i64 (k:Int),.int .i64 (R.2.1:Int),.string (bs [])] (Blk.new w7 _ _) rfl _ _ _ rfl rfl rfl HI47.o rfl (by simp[Value.oneCell']) ?_;intro W8 hw8;have HD8:=zH (show Blk W8 w7.heap.size 47 [.int .u8 ((1:Nat):Int),.int .i64 (k:Int),.int .i64 (R.2.1:Int),.string (bs [])] by rw[←hw8.o];exact(Blk.new w7 [.int .u8 0,.int .i64 0,.int .i64 0,.string ⟨#[]⟩] _).row _);have HB8:=zH (show Below wr.heap.size wr W8 from bt HB7.o (by rw[←hw8.o];exact aI (af _ _) (Ei _) _));have HO8:=zH (bn HO7.o (show Below w7.heap.size w7 W8 by rw[←hw8.o];exact aI (af _ _) (Ei _) _));have HG8:=zH (HG.o.below HB8.o);obtain⟨CS,hcs,hcs2⟩:=HG8.o;have HCS:=zH hcs;have HCS2:=zH hcs2;clear hw8 hcs hcs2)|(go_at_call 120;refine HFK.o.mono ?_;rintro e w7 ⟨⟨pv,rfl,hrow⟩,hB7⟩;obtain⟨pa,pc,rfl⟩:=ap hrow;have HO7:=zH hrow;have HB7:=zH hB7;clear hB7 hrow));exact G7
   ·have t3:((R.2.2:Int) != 0)=true:=by rw[bne_iff_ne];omega
    have HQ:=zH (show fh j xs=([],(1,k,R.2.1,[]),R.2.2) from yo (l:=[]) (by rw[←HAV.o,HD.o,HR.o];exact vq (by rw[←HR.o];exact hz)) hz);clear hz;go_upto_region 6 with(first|(refine bA w7.heap.size [.int .u8 0,.int .i64 0,.int .i64 0,.string ⟨#[]⟩] [.int .u8 ((1:Nat):Int),.int .i64 (k:Int),.int .i64 (R.2.1:Int),.string (bs [])] (Blk.new w7 _ _) rfl _ _ _ rfl rfl rfl HI47.o rfl (by simp[Value.oneCell']) ?_;intro W8 hw8;have HD8:=zH (show Blk W8 w7.heap.size 47 [.int .u8 ((1:Nat):Int),.int .i64 (k:Int),.int .i64 (R.2.1:Int),.string (bs [])] by rw[←hw8.o];exact(Blk.new w7 [.int .u8 0,.int .i64 0,.int .i64 0,.string ⟨#[]⟩] _).row _);have HB8:=zH (show Below wr.heap.size wr W8 from bt HB7.o (by rw[←hw8.o];exact aI (af _ _) (Ei _) _));have HO8:=zH (bn HO7.o (show Below w7.heap.size w7 W8 by rw[←hw8.o];exact aI (af _ _) (Ei _) _));have HG8:=zH (HG.o.below HB8.o);obtain⟨CS,hcs,hcs2⟩:=HG8.o;have HCS:=zH hcs;have HCS2:=zH hcs2;clear hw8 hcs hcs2)|(go_at_call 120;refine HFK.o.mono ?_;rintro e w7 ⟨⟨pv,rfl,hrow⟩,hB7⟩;obtain⟨pa,pc,rfl⟩:=ap hrow;have HO7:=zH hrow;have HB7:=zH hB7;clear hB7 hrow));obtain⟨y0,y1,y2,y3⟩:=cl4 HD8.o;have he8:=(HE1.o.below HBR.o).below HB8.o;obtain⟨z0,z1,z2,z3⟩:=cl4 he8;obtain⟨g0,g1,g2,g3⟩:=fr4 he8;have hEl:=he8.lt;have HE8:=zH he8;have HBW:=zH (bt (bt HB1.o HBR.o) HB8.o);clear he8;go_region_law (fail);go_wp2_with fail
    all_goals
     refine bodyPost_ret (aQ rfl rfl (bO (bi HE8.o _ _ _ _))) rfl ?_;have hc:=cH W8 E (.int .u8 ((1:Nat):Int)) (.int .i64 (k:Int)) (.int .i64 (R.2.1:Int)) (.string (bs []));exact Hz
  ·have i1:¬(k:Int)<(xs.length:Int):=by omega
   have HQ:=zH (show fh j xs=(out,wr0,0) from Ax (by rw[←HAV.o,Ex (by omega)];rfl));exact Hg
theorem vj {rows:List (List PR)}{n:Nat}(h:rows.flatten.length≤n)(i:Nat)(hi:i<rows.length):(rows.take i).flatten.length+rows[i].length≤n:=by
 have h1:=mV rows (i+1);rw[gn rows i hi,Ev]at h1;omega
theorem yn (j:Jb)(files:LL_):(fh j files).1.length≤files.length:=by
 unfold fh
 split
 ·simp
 ·have h:=n9 j files 0 []
  simp only[ET,Ek]at h;exact h
theorem uy (t1 c1 t2 c2 t3 c3:Value)(j:Jb)(v:Value)(files:LL_)(w:World)(h:eO w t1 c1 t2 c2 t3 c3 j)(hdo:cS w)(hv:aL.Row w v files)(hl:files.length≤1000000)(hm:∀ t∈files,t.length≤1000000)(ht:totalF files≤1000000):Calls Tryz.prog 80 #[cg t1 c1 t2 c2 t3 c3 j,v] w fun e w'=>(∃ pv,e=.returned (.tuple #[pv,wrV (bB j files).2.1,.int .i64 ((bB j files).2.2:Int)])∧recKv.Own w' w.heap.size pv (bB j files).1)∧Bw_ w w':=by
 have HCK:=zH (fun w' (hB:Below w.heap.size w w')=>gD t1 c1 t2 c2 t3 c3 j w' (h.below hB));have HEA:=zH (fun (J:Nat) w' (hB:Below w.heap.size w w') hJ=>uA J t1 c1 t2 c2 t3 c3 j v files w' (h.below hB) (hdo.below hB) hJ (hv.below hB) hl hm);have HFN:=zH hl;have HTL:=zH (En (iS j files) (Nat.mul_le_mul_left 256 ht));obtain⟨ta,tc,ca,cc,ta2,tc2,ca2,cc2,ta3,tc3,ca3,cc3,rfl,rfl,rfl,rfl,rfl,rfl⟩:=jo_ h.a.t h.a.c h.b.t h.b.c h.c.t h.c.c;obtain⟨av,cv,rfl,_,hc⟩:=an hv;unfold cg at HCK⊢;obtain⟨J,hJ⟩:=ex_ w.heap.size;obtain⟨W0,hW0⟩:=ex_ (w.alloc (.cells #[.slice ta j.mt.length tc,.slice ca j.mc.length cc,.slice ta2 j.jt.length tc2,.slice ca2 j.jc.length cc2,.slice ta3 j.tt.length tc3,.slice ca3 j.tc.length cc3,.int .i64 j.parts,.int .i64 j.fuel] 27));have hs0:W0.heap.size=J+1:=by rw[hW0,ba,hJ]
 obtain⟨W1,hW1⟩:=ex_ (W0.alloc (.cells #[.int .u8 0,.int .i64 0,.int .i64 0,.string ⟨#[]⟩] 47));have hb0:=ba_ hW0;have hb1:=ba_ hW1
 have hx:Blk W1 J 27 [.slice ta j.mt.length tc,.slice ca j.mc.length cc,.slice ta2 j.jt.length tc2,.slice ca2 j.jc.length cc2,.slice ta3 j.tt.length tc3,.slice ca3 j.tc.length cc3,.int .i64 j.parts,.int .i64 j.fuel]:=by
  have q:=bn_ hJ hW0;exact q.below hb1
 have he:Blk W1 (J+1) 47 [.int .u8 0,.int .i64 0,.int .i64 0,.string ⟨#[]⟩]:=by
  have q:=bm_ hW1
  rwa [hs0]at q
 obtain⟨x0,x1,x2,x3,x4,x5,x6,x7⟩:=cl8 hx;have HB1:=zH (bt hb0 hb1);have HX1:=zH hx;have HE1:=zH he;have HI47:=zH (show(Tryz.prog.info? 47).map (·.size)=some 4 by kernel_rfl);have HJW:=zH (show w.heap.size=J from hJ.symm);go_enter Tryz.func80,Tryz.ntmps80;go_upto_region 1 with fail;rw[←hJ,←hW0]
 try rw[hs0]
 rw[←hW1];clear hJ hW0 hW1 hs0 hb0 hb1 hx he h hdo hv hl hm ht hc;obtain⟨ck,hck⟩:=ex_ (bu j);rw[←hck]at HCK
 by_cases hmy:cd j=true
 ·have t1:((ck.2.2:Int) != 0)=false:=by rw[hck,k8 hmy];rfl
  have HW:=zH (sZ hmy files);clear hmy hck;obtain⟨R,hR⟩:=ex_ (fh j files);unfold wrV at HEA;rw[←hR]at HEA HW;have HEL:=zH (show R.1.length≤1000000 by rw[hR];exact En (yn j files) HFN.o);clear hR
  by_cases hz:R.2.2=0
  ·have t2:((R.2.2:Int) != 0)=false:=by rw[hz];rfl
   have HWW:=zH (show bB j files=(R.1.flatten,wr0,0) by rw[HW.o,if_neg (fun z=>z hz)]);have HFL:=zH (show R.1.flatten.length≤256000000 by have q:=HTL.o;rw[HWW.o]at q;exact q);have HRL:=zH (show R.1.length≤1000000 from HEL.o);clear hz;go_upto_region 8 with(first|(refine bA w7.heap.size [.int .u8 0,.int .i64 0,.int .i64 0,.string ⟨#[]⟩] [.int .u8 (R.2.1.1:Int),.int .i64 (R.2.1.2.1:Int),.int .i64 (R.2.1.2.2.1:Int),.string (bs R.2.1.2.2.2)] (Blk.new w7 _ _) rfl _ _ _ rfl rfl rfl HI47.o rfl (by simp[Value.oneCell']) ?_;intro W8 hw8;have hB78:Below w7.heap.size w7 W8:=(by rw[←hw8.o];exact aI (af _ _) (Ei _) _);have HD8:=zH (show Blk W8 w7.heap.size 47 [.int .u8 (R.2.1.1:Int),.int .i64 (R.2.1.2.1:Int),.int .i64 (R.2.1.2.2.1:Int),.string (bs R.2.1.2.2.2)] by rw[←hw8.o];exact(Blk.new w7 [.int .u8 0,.int .i64 0,.int .i64 0,.string ⟨#[]⟩] _).row _);have HE8:=zH (HE7.o.below hB78);have HBB8:=zH (bt HB7.o hB78);have HR9:=zH (HR7.o.below hB78);have HX8:=zH (HX7.o.below hB78);have HS8:=zH (En HB7.o.size hB78.size);clear hw8 hB78)|(go_at_call 119;refine(HEA.o J _ HB2.o HX2.o).mono ?_;rintro e w7 ⟨⟨pa,pc,rfl,hrr⟩,hB7⟩;have HR7:=zH hrr;have HE7:=zH (HE2.o.below hB7);have HX7:=zH (HX2.o.below hB7);have HB7:=zH (bt HB2.o hB7);clear hB7 hrr)|(go_at_call 34;refine(HCK.o _ HB1.o).mono ?_;rintro e w2 ⟨rfl,hB2⟩;have HX2:=zH (HX1.o.below hB2);have HE2:=zH (HE1.o.below hB2);have HB2:=zH (bt HB1.o hB2);clear hB2 x0 x1 x2 x3 x4 x5 x6 x7));obtain⟨_,_,hv9,_,_,hc9⟩:=HR9.o;injection hv9 with q1 _ q3
   subst q1 q3;have HC9:=zH hc9;clear hc9;go_wp2_with fail
   go_loopw [13,38] (fun u t wr=>∃ i:Nat,i≤R.1.length∧t=.int .i64 (i:Int)∧Hid (recKv.Own wr W8.heap.size u (R.1.take i).flatten)∧Hid (Below W8.heap.size W8 wr)) (fun _ t _=>R.1.length-(intOf t).toNat)
   case atStart=>exact⟨0,EG _,rfl,Rec.Own.nil _ _,Em _ _⟩
   case round =>
    obtain⟨i,hi,rfl,HO,HB⟩:=hrel;have hrl:=HRL.o;obtain⟨ao,co,rfl⟩:=ap HO.o
    by_cases h0:i<R.1.length
    ·obtain⟨b1,o1,u,rfl,d1,hru⟩:=HC9.o i h0
     have hru2:=hru.below HB.o;obtain⟨a2,c2,rfl,-,-⟩:=hru.open;have d2:=DK HB.o d1;have HU:=zH hru2;have kk0:=nn_ i;have kk1:(i:Int)<(R.1.length:Int):=by omega
     have hbn:=vj HFL.o i h0;have HFT:=zH (gn R.1 i h0);have HI:=zH h0;obtain⟨O,hO⟩:=ex_ ((R.1.take i).flatten);rw[←hO]at HO HFT hbn;obtain⟨r,hr⟩:=ex_ (R.1[i]'h0);rw[←hr]at hbn HFT d2 HU;have HBY:=zH (show(O.length+r.length)*32≤140737488355328 by omega);have hOE:=congrArg List.length hO;rw[←hOE];have hrE:=congrArg List.length hr;clear hru hru2 d1 hO hr hOE hrE h0 hbn;go_wp2_with (at_builtin;go_must (refine recKv.append wr rfl _ _ 37 rfl Tryz.underlying37 W8.heap.size _ O HO.o rfl _ r (nv HU.o) rfl HBY.o HB.o.size ?_);intro v8 w8 hown8 hB8;have HO8:=zH hown8;have HB8:=zH hB8;clear hown8 hB8);exact Ia
    ·have kk1:¬(i:Int)<(R.1.length:Int):=by omega
     have HE:=zH (show(R.1.take i).flatten=R.1.flatten by rw[Eh (by omega)]);rw[HE.o]at HO;rw[HE.o];obtain⟨ALL,hALL⟩:=ex_ R.1.flatten;rw[←hALL]at HO HWW⊢;clear h0 hALL;have he8:=HE8.o.below HB.o
     (obtain⟨z0,z1,z2,z3⟩:=cl4 he8;obtain⟨g0,g1,g2,g3⟩:=fr4 he8;have hEl:=he8.lt)
     have HE8':=zH he8;have HBW:=zH (bt HBB8.o HB.o);clear he8;go_wp2_with fail
     all_goals
      refine bodyPost_ret (aQ rfl rfl (bO (bi HE8'.o _ _ _ _))) rfl ?_;rw[HWW.o];rw[show(((wr.setCell ⟨J+1,0,none⟩ (.int .u8 0)).setCell ⟨J+1,1,none⟩ (.int .i64 0)).setCell ⟨J+1,2,none⟩ (.int .i64 0)).setCell ⟨J+1,3,none⟩ (.string ⟨#[]⟩)=wr from dI HE8'.o];exact⟨⟨_,rfl,HO.o.mono HS8.o⟩,HBW.o⟩
  ·have t2:((R.2.2:Int) != 0)=true:=by rw[bne_iff_ne];omega
   have HWW:=zH (show bB j files=([],R.2) by rw[HW.o,if_pos hz]);clear hz;go_upto_region 6 with(first|(refine bA w7.heap.size [.int .u8 0,.int .i64 0,.int .i64 0,.string ⟨#[]⟩] [.int .u8 (R.2.1.1:Int),.int .i64 (R.2.1.2.1:Int),.int .i64 (R.2.1.2.2.1:Int),.string (bs R.2.1.2.2.2)] (Blk.new w7 _ _) rfl _ _ _ rfl rfl rfl HI47.o rfl (by simp[Value.oneCell']) ?_;intro W8 hw8;have hB78:Below w7.heap.size w7 W8:=(by rw[←hw8.o];exact aI (af _ _) (Ei _) _);have HD8:=zH (show Blk W8 w7.heap.size 47 [.int .u8 (R.2.1.1:Int),.int .i64 (R.2.1.2.1:Int),.int .i64 (R.2.1.2.2.1:Int),.string (bs R.2.1.2.2.2)] by rw[←hw8.o];exact(Blk.new w7 [.int .u8 0,.int .i64 0,.int .i64 0,.string ⟨#[]⟩] _).row _);have HE8:=zH (HE7.o.below hB78);have HBB8:=zH (bt HB7.o hB78);have HR9:=zH (HR7.o.below hB78);have HX8:=zH (HX7.o.below hB78);have HS8:=zH (En HB7.o.size hB78.size);clear hw8 hB78)|(go_at_call 119;refine(HEA.o J _ HB2.o HX2.o).mono ?_;rintro e w7 ⟨⟨pa,pc,rfl,hrr⟩,hB7⟩;have HR7:=zH hrr;have HE7:=zH (HE2.o.below hB7);have HX7:=zH (HX2.o.below hB7);have HB7:=zH (bt HB2.o hB7);clear hB7 hrr)|(go_at_call 34;refine(HCK.o _ HB1.o).mono ?_;rintro e w2 ⟨rfl,hB2⟩;have HX2:=zH (HX1.o.below hB2);have HE2:=zH (HE1.o.below hB2);have HB2:=zH (bt HB1.o hB2);clear hB2 x0 x1 x2 x3 x4 x5 x6 x7));obtain⟨y0,y1,y2,y3⟩:=cl4 HD8.o;have he8:=HE8.o
   (obtain⟨z0,z1,z2,z3⟩:=cl4 he8;obtain⟨g0,g1,g2,g3⟩:=fr4 he8;have hEl:=he8.lt)
   clear he8;go_region_law (fail);go_wp2_with fail
   all_goals
    refine bodyPost_ret (aQ rfl rfl (bO (bi HE8.o _ _ _ _))) rfl ?_;have hc:=cH W8 (J+1) (.int .u8 (R.2.1.1:Int)) (.int .i64 (R.2.1.2.1:Int)) (.int .i64 (R.2.1.2.2.1:Int)) (.string (bs R.2.1.2.2.2));rw[HWW.o];exact⟨⟨_,rfl,Rec.Own.nil _ _⟩,bt (HBB8.o.trans (hc.below (fun k hk=>by rw[show k=J+1 from hk,HJW.o];omega) HBB8.o.size)) (b_drew _)⟩
 ·have t1:((ck.2.2:Int) != 0)=true:=by rw[hck,bne_iff_ne];have:=mS hmy;omega
  have HWW:=zH (it hmy files);clear hmy hck;go_upto_region 3 with(go_at_call 34;refine(HCK.o _ HB1.o).mono ?_;rintro e w2 ⟨rfl,hB2⟩;have HE2:=zH (HE1.o.below hB2);have HB2:=zH (bt HB1.o hB2);clear hB2 x0 x1 x2 x3 x4 x5 x6 x7);have he8:=HE2.o
  (obtain⟨z0,z1,z2,z3⟩:=cl4 he8;obtain⟨g0,g1,g2,g3⟩:=fr4 he8;have hEl:=he8.lt)
  clear he8;go_wp2_with fail;refine bodyPost_ret (aQ rfl rfl (bO (bi HE2.o _ _ _ _))) rfl ?_;rw[HWW.o];rw[show(((w2.setCell ⟨J+1,0,none⟩ (.int .u8 0)).setCell ⟨J+1,1,none⟩ (.int .i64 0)).setCell ⟨J+1,2,none⟩ (.int .i64 0)).setCell ⟨J+1,3,none⟩ (.string ⟨#[]⟩)=w2 from dI HE2.o];exact⟨⟨_,rfl,Rec.Own.nil _ _⟩,HB2.o⟩
theorem uw (J:Nat)(t1 c1 t2 c2 t3 c3:Value)(j:Jb)(k:Nat)(u:Value)(p:List PR)(w:World)(h:eO w t1 c1 t2 c2 t3 c3 j)(hdo:cS w)(hJ:Blk w J 27 [t1,c1,t2,c2,t3,c3,.int .i64 j.parts,.int .i64 j.fuel])(hu:RP w u p)(hpl:p.length≤1000000)(hpm:∀ x∈p,x.2.length≤140737488355328):Calls Tryz.prog 82 #[.int .i64 (k:Int),u,.pointer (some ⟨J,0,none⟩)] w fun e w'=>(∃ pv,e=.returned (.tuple #[pv,wrV (2,0,0,(cI j [p]).2.1),.int .i64 ((cI j [p]).2.2:Int)])∧recKv.Own w' w.heap.size pv (cI j [p]).1)∧Bw_ w w':=by
 have HP:=zH (fun (rv:Value) w' (hB:Below w.heap.size w w') hrv=>vK t1 c1 t2 c2 t3 c3 rv j [p] w' (h.below hB) (hdo.below hB) hrv (by simp) (by simpa using hpl) (by simpa using hpm));obtain⟨ta,tc,ca,cc,ta2,tc2,ca2,cc2,ta3,tc3,ca3,cc3,rfl,rfl,rfl,rfl,rfl,rfl⟩:=jo_ h.a.t h.a.c h.b.t h.b.c h.c.t h.c.c;obtain⟨ua,uc,rfl,-,-⟩:=hu.open;have HU:=zH hu;clear hu;unfold cg at HP;obtain⟨W1,hW1⟩:=ex_ (w.alloc (.cells #[.int .u8 0,.int .i64 0,.int .i64 0,.string ⟨#[]⟩] 47));have hb1:=ba_ hW1;obtain⟨E,hE⟩:=ex_ w.heap.size;have he:=bn_ hE hW1;have hx:=hJ.below hb1;obtain⟨x0,x1,x2,x3,x4,x5,x6,x7⟩:=cl8 hx;have hJl:=hx.lt;have HB1:=zH hb1;have HE1:=zH he;have HEW:=zH (show w.heap.size≤E by omega);have HE0:=zH (show E<W1.heap.size from he.lt);obtain⟨R,hR⟩:=ex_ (cI j [p]);rw[←hR]at HP⊢;clear hR;go_enter Tryz.func82,Tryz.ntmps82;go_upto_region 1 with fail;rw[←hW1,←hE];clear hW1 hE hb1 he hx hJ h hdo;go_upto_region 2 with(go_at_call 13;refine(HP.o _ _ (bt HB1.o (af _ _)) (RR.oneI (HU.o.below HB1.o))).mono ?_;rintro e w7 ⟨⟨pv,rfl,hrow⟩,hB7⟩;obtain⟨pa,pc,rfl⟩:=ap hrow;have HO7:=zH (Rec.Own.mono hrow (En (show W1.heap.size≤W1.heap.size+1 by omega) (Nat.le_of_eq (by rw[ba]))));have HE7:=zH (HE1.o.below (bt (af _ _) hB7));have HB7:=zH (bt HB1.o (bt (af _ _) hB7));clear hB7 hrow x0 x1 x2 x3 x4 x5 x6 x7 hJl);obtain⟨z0,z1,z2,z3⟩:=cl4 HE7.o;obtain⟨g0,g1,g2,g3⟩:=fr4 HE7.o;have hEl:=HE7.o.lt;go_wp2_with fail;refine bodyPost_ret (aQ rfl rfl (bO (bi HE7.o _ _ _ _))) rfl ?_;have hc:=cH w7 E (.int .u8 2) (.int .i64 0) (.int .i64 0) (.string (bs R.2.1))
 refine⟨⟨_,rfl,Rec.Own.mono (R:=recKv) (cE HO7.o hc (fun k hk=>by have:=HE0.o;omega)) HB1.o.size⟩,HB7.o.trans (hc.below (fun k hk=>by rw[show k=E from hk];exact HEW.o) HB7.o.size)⟩
theorem uz (J:Nat)(t1 c1 t2 c2 t3 c3:Value)(j:Jb)(v:Value)(xs:List (List PR))(w:World)(h:eO w t1 c1 t2 c2 t3 c3 j)(hdo:cS w)(hJ:Blk w J 27 [t1,c1,t2,c2,t3,c3,.int .i64 j.parts,.int .i64 j.fuel])(hv:RR w v xs)(hl:xs.length≤1000000)(hm:∀ p∈xs,p.length≤1000000∧∀ x∈p,x.2.length≤140737488355328):Calls Tryz.prog 81 #[v,.func (.func 82) #[] #[.pointer (some ⟨J,0,none⟩)]] w fun e w'=>(∃ a c,e=.returned (.tuple #[.slice a (eJ j xs).1.length c,wrV (eJ j xs).2.1,.int .i64 ((eJ j xs).2.2:Int)])∧RR w' (.slice a (eJ j xs).1.length c) (eJ j xs).1)∧Bw_ w w':=by
 have HF:=zH (fun (k:Nat) (u:Value) (p:List PR) w' (hB:Below w.heap.size w w') (hu:RP w' u p) hpl hpm=>uw J t1 c1 t2 c2 t3 c3 j k u p w' (h.below hB) (hdo.below hB) (hJ.below hB) hu hpl hpm);have HXM:=zH hm;obtain⟨av,cv,rfl,_,_,hc⟩:=hv;have HC:=zH hc;obtain⟨W1,hW1⟩:=ex_ (w.alloc (.cells #[.int .u8 0,.int .i64 0,.int .i64 0,.string ⟨#[]⟩] 47));have hb1:=ba_ hW1;obtain⟨E,hE⟩:=ex_ w.heap.size;have he:=bn_ hE hW1;have HB1:=zH hb1;have HE1:=zH he;have HEW:=zH (show w.heap.size≤E by omega);have HI47:=zH (show(Tryz.prog.info? 47).map (·.size)=some 4 by kernel_rfl);go_enter Tryz.func81,Tryz.ntmps81;go_upto_region 1 with fail;rw[←hW1,←hE];clear hW1 hE hb1 he h hdo hJ hc hm;go_wp2_with fail
 go_loopw [4,14] (fun u t wr=>∃ (k:Nat) (out:List (List PR)),k≤xs.length∧out.length≤k∧t=.int .i64 (k:Int)∧Hid (GRP wr W1.heap.size u out)∧Hid (bK j out (xs.drop k)=bK j [] xs)∧Hid (Below W1.heap.size W1 wr)) (fun _ t _=>xs.length-(intOf t).toNat)
 case atStart=>exact⟨0,[],EG _,Ei _,rfl,GRP.nil _ _,rfl,Em _ _⟩
 case round =>
  obtain⟨k,out,hk,hok,rfl,HG,HAV,HBR⟩:=hrel;obtain⟨Av,Cv,rfl⟩:=GRP.slice HG.o
  by_cases h0:k<xs.length
  ·obtain⟨b1,o1,u1,rfl,e1,hu1⟩:=HC.o k h0
   have hdr:xs.drop k=xs[k]::xs.drop (k+1):=Ec h0;have hxm:=HXM.o _ (EM h0);obtain⟨x,hxe⟩:=ex_ (xs[k]'h0);rw[←hxe]at hu1 hxm hdr;have HD:=zH hdr;replace e1:=DK (bt HB1.o HBR.o) e1;have hu2:=hu1.below (bt HB1.o HBR.o);obtain⟨ua,uc,rfl,-,-⟩:=hu2.open;have HFK:=zH (HF.o k _ x wr (bt HB1.o HBR.o) hu2 hxm.1 hxm.2);obtain⟨R,hR⟩:=ex_ (cI j [x]);have HR:=zH hR;unfold wrV at HFK;rw[←hR]at HFK;have i0:=nn_ k;have i1:(k:Int)<(xs.length:Int):=by omega
   have HHH:=zH h0;have HBZ:=zH (show(out.length+1)*24≤140737488355328 by omega);clear hR hdr hxe h0 hxm hu1 hu2
   by_cases hz:R.2.2=0
   ·have t3:((R.2.2:Int) != 0)=false:=by rw[hz];rfl
    have HQ:=zH (show bK j out (x::xs.drop (k+1))=bK j (out++[R.1]) (xs.drop (k+1)) by rw[HR.o];exact lJ (by rw[←HR.o];exact hz));clear hz;go_upto_region 7 with(first|(refine bA w7.heap.size [.int .u8 0,.int .i64 0,.int .i64 0,.string ⟨#[]⟩] [.int .u8 ((2:Nat):Int),.int .i64 ((0:Nat):Int),.int .i64 ((0:Nat):Int),.string (bs R.2.1)] (Blk.new w7 _ _) rfl _ _ _ rfl rfl rfl HI47.o rfl (by simp[Value.oneCell']) ?_;intro W8 hw8;have HD8:=zH (show Blk W8 w7.heap.size 47 [.int .u8 ((2:Nat):Int),.int .i64 ((0:Nat):Int),.int .i64 ((0:Nat):Int),.string (bs R.2.1)] by rw[←hw8.o];exact(Blk.new w7 [.int .u8 0,.int .i64 0,.int .i64 0,.string ⟨#[]⟩] _).row _);have HB8:=zH (show Below wr.heap.size wr W8 from bt HB7.o (by rw[←hw8.o];exact aI (af _ _) (Ei _) _));have HO8:=zH (bn HO7.o (show Below w7.heap.size w7 W8 by rw[←hw8.o];exact aI (af _ _) (Ei _) _));have HG8:=zH (HG.o.below HB8.o);obtain⟨CS,hcs,hcs2⟩:=HG8.o;have HCS:=zH hcs;have HCS2:=zH hcs2;clear hw8 hcs hcs2)|(go_at_call 82;refine HFK.o.mono ?_;rintro e w7 ⟨⟨pv,rfl,hrow⟩,hB7⟩;obtain⟨pa,pc,rfl⟩:=ap hrow;have HO7:=zH hrow;have HB7:=zH hB7;clear hB7 hrow));exact G7
   ·have t3:((R.2.2:Int) != 0)=true:=by rw[bne_iff_ne];omega
    have HQ:=zH (show eJ j xs=([],(2,0,0,R.2.1),R.2.2) from p4 (l:=[]) (by rw[←HAV.o,HD.o,HR.o];exact kw (by rw[←HR.o];exact hz)) hz);clear hz;go_upto_region 6 with(first|(refine bA w7.heap.size [.int .u8 0,.int .i64 0,.int .i64 0,.string ⟨#[]⟩] [.int .u8 ((2:Nat):Int),.int .i64 ((0:Nat):Int),.int .i64 ((0:Nat):Int),.string (bs R.2.1)] (Blk.new w7 _ _) rfl _ _ _ rfl rfl rfl HI47.o rfl (by simp[Value.oneCell']) ?_;intro W8 hw8;have HD8:=zH (show Blk W8 w7.heap.size 47 [.int .u8 ((2:Nat):Int),.int .i64 ((0:Nat):Int),.int .i64 ((0:Nat):Int),.string (bs R.2.1)] by rw[←hw8.o];exact(Blk.new w7 [.int .u8 0,.int .i64 0,.int .i64 0,.string ⟨#[]⟩] _).row _);have HB8:=zH (show Below wr.heap.size wr W8 from bt HB7.o (by rw[←hw8.o];exact aI (af _ _) (Ei _) _));have HO8:=zH (bn HO7.o (show Below w7.heap.size w7 W8 by rw[←hw8.o];exact aI (af _ _) (Ei _) _));have HG8:=zH (HG.o.below HB8.o);obtain⟨CS,hcs,hcs2⟩:=HG8.o;have HCS:=zH hcs;have HCS2:=zH hcs2;clear hw8 hcs hcs2)|(go_at_call 82;refine HFK.o.mono ?_;rintro e w7 ⟨⟨pv,rfl,hrow⟩,hB7⟩;obtain⟨pa,pc,rfl⟩:=ap hrow;have HO7:=zH hrow;have HB7:=zH hB7;clear hB7 hrow));obtain⟨y0,y1,y2,y3⟩:=cl4 HD8.o;have he8:=(HE1.o.below HBR.o).below HB8.o;obtain⟨z0,z1,z2,z3⟩:=cl4 he8;obtain⟨g0,g1,g2,g3⟩:=fr4 he8;have hEl:=he8.lt;have HE8:=zH he8;have HBW:=zH (bt (bt HB1.o HBR.o) HB8.o);clear he8;go_region_law (fail);go_wp2_with fail
    all_goals
     refine bodyPost_ret (aQ rfl rfl (bO (bi HE8.o _ _ _ _))) rfl ?_;have hc:=cH W8 E (.int .u8 ((2:Nat):Int)) (.int .i64 ((0:Nat):Int)) (.int .i64 ((0:Nat):Int)) (.string (bs R.2.1));exact Hz
  ·have i1:¬(k:Int)<(xs.length:Int):=by omega
   have HQ:=zH (show eJ j xs=(out,wr0,0) from s7 (by rw[←HAV.o,Ex (by omega)];rfl));exact Hg
theorem vp {j:Jb}{files:LL_}(hz:(bB j files).2.2=0):cd j=true:=by
 cases h:cd j with
 | true=>rfl
 | false =>
  rw[it (by rw[h];decide)]at hz;exact absurd hz (by decide)
theorem pD (t1 c1 t2 c2 t3 c3:Value)(j:Jb)(v:Value)(files:LL_)(w:World)(h:eO w t1 c1 t2 c2 t3 c3 j)(hdo:cS w)(hv:aL.Row w v files)(hl:files.length≤1000000)(hm:∀ t∈files,t.length≤1000000)(ht:totalF files≤3000):Calls Tryz.prog 43 #[cg t1 c1 t2 c2 t3 c3 j,v] w fun e w'=>(∃ a c,e=.returned (.tuple #[.slice a (aY j files).1.length c,wrV (aY j files).2.1,.int .i64 ((aY j files).2.2:Int)])∧RR w' (.slice a (aY j files).1.length c) (aY j files).1)∧Bw_ w w':=by
 have HPP:=zH (fun w' (hB:Below w.heap.size w w')=>uy t1 c1 t2 c2 t3 c3 j v files w' (h.below hB) (hdo.below hB) (hv.below hB) hl hm (En ht (by decide)));have HEA:=zH (fun (J:Nat) (u:Value) ps w' (hB:Below w.heap.size w w') hJ hu h1 h2=>uz J t1 c1 t2 c2 t3 c3 j u ps w' (h.below hB) (hdo.below hB) hJ hu h1 h2);have HOK:=zH (pW j files);have HMY:=zH (fun hz=>vp (j:=j) (files:=files) hz);have HTL:=zH (En (iS j files) (Nat.mul_le_mul_left 256 ht));obtain⟨ta,tc,ca,cc,ta2,tc2,ca2,cc2,ta3,tc3,ca3,cc3,rfl,rfl,rfl,rfl,rfl,rfl⟩:=jo_ h.a.t h.a.c h.b.t h.b.c h.c.t h.c.c;obtain⟨av,cv,rfl,_,hc⟩:=an hv;unfold cg at HPP⊢;obtain⟨J,hJ⟩:=ex_ w.heap.size;obtain⟨W0,hW0⟩:=ex_ (w.alloc (.cells #[.slice ta j.mt.length tc,.slice ca j.mc.length cc,.slice ta2 j.jt.length tc2,.slice ca2 j.jc.length cc2,.slice ta3 j.tt.length tc3,.slice ca3 j.tc.length cc3,.int .i64 j.parts,.int .i64 j.fuel] 27));have hs0:W0.heap.size=J+1:=by rw[hW0,ba,hJ]
 obtain⟨W1,hW1⟩:=ex_ (W0.alloc (.cells #[.int .u8 0,.int .i64 0,.int .i64 0,.string ⟨#[]⟩] 47));have hb0:=ba_ hW0;have hb1:=ba_ hW1
 have hx:Blk W1 J 27 [.slice ta j.mt.length tc,.slice ca j.mc.length cc,.slice ta2 j.jt.length tc2,.slice ca2 j.jc.length cc2,.slice ta3 j.tt.length tc3,.slice ca3 j.tc.length cc3,.int .i64 j.parts,.int .i64 j.fuel]:=by
  have q:=bn_ hJ hW0;exact q.below hb1
 have he:Blk W1 (J+1) 47 [.int .u8 0,.int .i64 0,.int .i64 0,.string ⟨#[]⟩]:=by
  have q:=bm_ hW1
  rwa [hs0]at q
 obtain⟨x0,x1,x2,x3,x4,x5,x6,x7⟩:=cl8 hx;have HB1:=zH (bt hb0 hb1);have HX1:=zH hx;have HE1:=zH he;have HI47:=zH (show(Tryz.prog.info? 47).map (·.size)=some 4 by kernel_rfl);have HJW:=zH (show w.heap.size=J from hJ.symm);go_enter Tryz.func43,Tryz.ntmps43;go_upto_region 1 with fail;rw[←hJ,←hW0]
 try rw[hs0]
 rw[←hW1];clear hJ hW0 hW1 hs0 hb0 hb1 hx he h hdo hv hl hm ht hc;have HRW:=zH (nw j files);obtain⟨R,hR⟩:=ex_ (bB j files);unfold wrV at HPP;rw[←hR]at HPP HRW HTL HOK HMY;clear hR
 by_cases hz:R.2.2=0
 ·have t2:((R.2.2:Int) != 0)=false:=by rw[hz];rfl
  have HWW:=zH (show aY j files=eJ j (splitP R.1 j.parts.toNat) by rw[HRW.o,if_neg (fun z=>z hz)]);obtain⟨m,hpm,hm1,hm2⟩:=kA (HMY.o hz);rw[hpm,EP]at HWW;have HMB:=zH (show nR (m:Int)=true from Bq hm1 hm2);have HLE:=zH (show R.1.length≤1000000 from En HTL.o (by decide));have HSP:=zH (kn R.1 m);have HSL:=zH (kp R.1 m);have HQ1:=zH (show ∀ p∈splitP R.1 m,p.length≤1000000∧∀ x∈p,x.2.length≤140737488355328 from fun p hp=>⟨En (HSP.o p hp).2 HLE.o,fun x hx=>En (HOK.o x ((HSP.o p hp).1 x hx)).2 (by decide)⟩);have HSS:=zH (fun u w' hu=>yz u R.1 (m:Int) w' hu HLE.o (fun p hp=>En (HOK.o p hp).1 (by decide)));rw[hpm]at HPP HX1 HEA x6;have HML:=zH (show m≤1000000 by omega);clear hz hpm;go_upto_region 2 with(first|(refine bA w7.heap.size [.int .u8 0,.int .i64 0,.int .i64 0,.string ⟨#[]⟩] [.int .u8 (R.2.1.1:Int),.int .i64 (R.2.1.2.1:Int),.int .i64 (R.2.1.2.2.1:Int),.string (bs R.2.1.2.2.2)] (Blk.new w7 _ _) rfl _ _ _ rfl rfl rfl HI47.o rfl (by simp[Value.oneCell']) ?_;intro W8 hw8;have hB78:Below w7.heap.size w7 W8:=(by rw[←hw8.o];exact aI (af _ _) (Ei _) _);have HD8:=zH (show Blk W8 w7.heap.size 47 [.int .u8 (R.2.1.1:Int),.int .i64 (R.2.1.2.1:Int),.int .i64 (R.2.1.2.2.1:Int),.string (bs R.2.1.2.2.2)] by rw[←hw8.o];exact(Blk.new w7 [.int .u8 0,.int .i64 0,.int .i64 0,.string ⟨#[]⟩] _).row _);have HE8:=zH (HE7.o.below hB78);have HBB8:=zH (bt HB7.o hB78);have HO8:=zH (HO7.o.below hB78);have HX8:=zH (HX7.o.below hB78);clear hw8 hB78)|(go_at_call 80;refine(HPP.o _ HB1.o).mono ?_;rintro e w7 ⟨⟨pv,rfl,hro⟩,hB7⟩;obtain⟨pa,pc,rfl⟩:=ap hro;have HO7:=zH hro;have HE7:=zH (HE1.o.below hB7);have HX7:=zH (HX1.o.below hB7);have HB7:=zH (bt HB1.o hB7);clear hB7 hro x0 x1 x2 x3 x4 x5 x6 x7))
  have x6:=HX8.o.cell (k:=6) rfl;have hJl8:=HX8.o.lt;go_upto_region 5 with(go_at_call 54;refine(HSS.o _ _ (gu HO8.o.row)).mono ?_;rintro e w9 ⟨hres,hB9⟩;unfold SplitRes at hres;rw[HMB.o,if_pos rfl]at hres;obtain⟨D,rfl,hD,hor⟩:=hres;simp only[EP];rw[EP]at hor;have HOR:=zH hor.rr;have HX9:=zH (HX8.o.below hB9);have HE9:=zH (HE8.o.below hB9);have HB9:=zH (bt HBB8.o hB9);clear hD hor hB9 x6 hJl8);obtain⟨Q,hQ⟩:=ex_ (eJ j (splitP R.1 m));have HEA2:=zH (fun (v:Value) w' hB hJ hu=>HEA.o J v (splitP R.1 m) w' hB hJ hu (by rw[HSL.o];exact HML.o) HQ1.o);unfold wrV at HEA2;rw[←hQ]at HEA2 HWW;rw[HSL.o]at HOR;have HQS:=zH (show Q.2.1=wr0∨Q.1=[] by rw[hQ];exact s6 j _);clear hQ;go_wp2_with (go_at_call 81;refine(HEA2.o _ _ HB9.o HX9.o HOR.o).mono ?_;rintro e w10 ⟨⟨qa,qc,rfl,hrr⟩,hB10⟩;have HRR:=zH hrr;have he8:=HE9.o.below hB10;obtain⟨z0,z1,z2,z3⟩:=cl4 he8;obtain⟨g0,g1,g2,g3⟩:=fr4 he8;have hEl:=he8.lt;have HE10:=zH he8;have HB10:=zH (bt HB9.o hB10);clear hrr hB10 he8);refine bodyPost_ret (aQ rfl rfl (bO (bi HE10.o _ _ _ _))) rfl ?_;have hc:=cH w10 (J+1) (.int .u8 (Q.2.1.1:Int)) (.int .i64 (Q.2.1.2.1:Int)) (.int .i64 (Q.2.1.2.2.1:Int)) (.string (bs Q.2.1.2.2.2));rw[HWW.o];exact⟨⟨_,_,rfl,RR.set4I HE10.o HRR.o HQS.o⟩,HB10.o.trans (hc.below (fun k hk=>by rw[show k=J+1 from hk,HJW.o];omega) HB10.o.size)⟩
 ·have t2:((R.2.2:Int) != 0)=true:=by rw[bne_iff_ne];omega
  have HWW:=zH (show aY j files=([],R.2) by rw[HRW.o,if_pos hz]);clear hz;go_upto_region 3 with(first|(refine bA w7.heap.size [.int .u8 0,.int .i64 0,.int .i64 0,.string ⟨#[]⟩] [.int .u8 (R.2.1.1:Int),.int .i64 (R.2.1.2.1:Int),.int .i64 (R.2.1.2.2.1:Int),.string (bs R.2.1.2.2.2)] (Blk.new w7 _ _) rfl _ _ _ rfl rfl rfl HI47.o rfl (by simp[Value.oneCell']) ?_;intro W8 hw8;have hB78:Below w7.heap.size w7 W8:=(by rw[←hw8.o];exact aI (af _ _) (Ei _) _);have HD8:=zH (show Blk W8 w7.heap.size 47 [.int .u8 (R.2.1.1:Int),.int .i64 (R.2.1.2.1:Int),.int .i64 (R.2.1.2.2.1:Int),.string (bs R.2.1.2.2.2)] by rw[←hw8.o];exact(Blk.new w7 [.int .u8 0,.int .i64 0,.int .i64 0,.string ⟨#[]⟩] _).row _);have HE8:=zH (HE7.o.below hB78);have HBB8:=zH (bt HB7.o hB78);have HO8:=zH (HO7.o.below hB78);have HX8:=zH (HX7.o.below hB78);clear hw8 hB78)|(go_at_call 80;refine(HPP.o _ HB1.o).mono ?_;rintro e w7 ⟨⟨pv,rfl,hro⟩,hB7⟩;obtain⟨pa,pc,rfl⟩:=ap hro;have HO7:=zH hro;have HE7:=zH (HE1.o.below hB7);have HX7:=zH (HX1.o.below hB7);have HB7:=zH (bt HB1.o hB7);clear hB7 hro x0 x1 x2 x3 x4 x5 x6 x7));obtain⟨y0,y1,y2,y3⟩:=cl4 HD8.o;have he8:=HE8.o
  (obtain⟨z0,z1,z2,z3⟩:=cl4 he8;obtain⟨g0,g1,g2,g3⟩:=fr4 he8;have hEl:=he8.lt)
  clear he8;go_region_law (fail);go_wp2_with fail
  all_goals
   refine bodyPost_ret (aQ rfl rfl (bO (bi HE8.o _ _ _ _))) rfl ?_;have hc:=cH W8 (J+1) (.int .u8 (R.2.1.1:Int)) (.int .i64 (R.2.1.2.1:Int)) (.int .i64 (R.2.1.2.2.1:Int)) (.string (bs R.2.1.2.2.2));rw[HWW.o];exact⟨⟨none,0,rfl,D5 _⟩,bt (HBB8.o.trans (hc.below (fun k hk=>by rw[show k=J+1 from hk,HJW.o];omega) HBB8.o.size)) (b_drew _)⟩
end
section
theorem g6 {w w':World}{bZ:Nat}{e:TypeId}{size:Nat}{v:Value}{n:Nat}{xs:List Value}(h:w.ownsRow bZ e size v n xs)(hb:∀ b cs,bZ≤b→v.ownBlock=some b→w.heap[b]?=some (.cells cs e (0,0))→w'.heap[b]?=some (.cells cs e (0,0))):w'.ownsRow bZ e size v n xs:=by
 obtain⟨h1,h2⟩:=h;refine⟨h1,?_⟩;rcases h2 with h2|⟨g,cap,cur,hv,hg,hh,r⟩
 ·exact .inl h2
 ·exact .inr ⟨g,cap,cur,hv,hg,hb g cur hg (by rw[hv];rfl) hh,r⟩
def GTR (w:World)(bZ:Nat)(v:Value)(Z:List (List TR)):Prop:=∃ CS:List Value,w.ownsRow bZ 51 1 v Z.length CS ∧
 ∀ i (h:i<CS.length) (h':i<Z.length),dm.Own w bZ CS[i] Z[i]∧∀ b,CS[i].ownBlock=some b→v.ownBlock≠some b
theorem GTR.frame {w w':World}{bZ:Nat}{v:Value}{Z:List (List TR)}(h:GTR w bZ v Z)(hb:∀ b cs e,bZ≤b→(e=51∨e=77)→w.heap[b]?=some (.cells cs e (0,0))→w'.heap[b]?=some (.cells cs e (0,0))):GTR w' bZ v Z:=by
 obtain⟨CS,h1,h2⟩:=h;exact⟨CS,g6 h1 (fun b cs h _=>hb b cs _ h (.inl rfl)),fun i h h'=>⟨g6 (h2 i h h').1 (fun b cs h _=>hb b cs _ h (.inr rfl)),(h2 i h h').2⟩⟩
theorem GTR.below {w w':World}{bZ:Nat}{v:Value}{Z:List (List TR)}(h:GTR w bZ v Z)(hB:Below w.heap.size w w'):GTR w' bZ v Z :=
 h.frame fun b cs e _ _ hh=>(hB.block b (Array.getElem?_eq_some_iff.1 hh).1).trans hh
theorem GTR.mono {w:World}{bZ base':Nat}{v:Value}{Z:List (List TR)}(h:GTR w bZ v Z)(hb:base'≤bZ):GTR w base' v Z:=by
 obtain⟨CS,h1,h2⟩:=h;exact⟨CS,dL h1 hb,fun i h h'=>⟨Rec.Own.mono (h2 i h h').1 hb,(h2 i h h').2⟩⟩
theorem GTR.nil (w:World)(bZ:Nat):GTR w bZ (.slice none 0 0) []:=⟨[],World.ownsRow_nil _ _ _ _,fun i h _=>absurd h (by simp)⟩
theorem GTR.slice {w:World}{bZ:Nat}{v:Value}{Z:List (List TR)}(h:GTR w bZ v Z):∃ a c,v=.slice a Z.length c:=by
 obtain⟨CS,h1,_⟩:=h;exact ap h1
theorem GTR.read {w:World}{bZ:Nat}{v:Value}{Z:List (List TR)}(h:GTR w bZ v Z):∃ a cap,v=.slice a Z.length cap∧∀ k (hk:k<Z.length),∃ b off u,a=some ⟨b,off,none⟩∧w.cell? ⟨b,off+k,none⟩=some u∧dm.Row w u Z[k]:=by
 obtain⟨CS,h1,h2⟩:=h;have hl:CS.length=Z.length:=by have:=h1.1;omega
 obtain⟨a,cap,rfl,hn,hc⟩:=DQ h1;refine⟨a,cap,rfl,fun k hk=>?_⟩;obtain⟨b,off,ha,hu⟩:=hc k CS[k] (List.getElem?_eq_getElem (by omega));exact⟨b,off,CS[k],ha,hu,Rec.Own.row (h2 k (by omega) hk).1⟩
theorem GTR.snoc {w w':World}{bZ:Nat}{v v' u:Value}{Z:List (List TR)}{g:List TR}{CS:List Value}{gb cap:Nat}(h2:∀ i (h:i<CS.length) (h':i<Z.length),dm.Own w bZ CS[i] Z[i]∧∀ b,CS[i].ownBlock=some b→v.ownBlock≠some b)(hl:CS.length=Z.length)(hu:dm.Own w bZ u g)(hub:∀ b,u.ownBlock=some b→v.ownBlock≠some b)(hv:v'=.slice (some ⟨gb,0,none⟩) (Z.length+1) cap)(hown:w'.ownsRow bZ 51 1 v' (Z.length+1) (CS++[u]))(hfr:∀ j,j<w.heap.size→v.ownBlock≠some j→w'.heap[j]?=w.heap[j]?)(hg:v.ownBlock=some gb∨w.heap.size≤gb):GTR w' bZ v' (Z++[g]):=by
 have key:∀ (x:Value) (r:List TR),dm.Own w bZ x r→(∀ b,x.ownBlock=some b→v.ownBlock≠some b)→dm.Own w' bZ x r∧∀ b,x.ownBlock=some b→v'.ownBlock≠some b:=by
  intro x r hx hb;refine⟨g6 hx fun b cs _ h hh=>(hfr b (Array.getElem?_eq_some_iff.1 hh).1 (hb b h)).trans hh,fun b h=>?_⟩;subst hv;intro e;have e2:gb=b:=by simpa[Value.ownBlock] using e
  subst e2;rcases hg with hg|hg
  ·exact(hb gb h) hg
  ·have:=(World.ownsRow.lt hx gb h).2
   omega
 refine⟨CS++[u],by rw[Ev];exact hown,fun i h h'=>?_⟩
 by_cases hi:i<CS.length
 ·rw[EX hi,EX (by omega)]
  exact key _ _ (h2 i hi (by omega)).1 (h2 i hi (by omega)).2
 ·exact Id
theorem wh:(Tryz.prog.info? 51).map (fun i=>(i.zero,i.size,i.bytes))=some (some (.slice none 0 0),1,24):=by kernel_rfl
def cy (out:List (List TR)):List (List PR)→List (List PR)→List (List TR)
 | a::ar,b::bs=>cy (out++[ofF a b]) ar bs
 | _,_=>out
def fJ (j:Jb)(old now:LL_):List (List TR)×Wr×Nat :=
 if (aY j old).2.2≠0 then ([],(aY j old).2) else if (aY j now).2.2≠0 then ([],(aY j now).2) else (cy [] (aY j old).1 (aY j now).1,wr0,0)
theorem ng:∀ (a b:List (List PR)) (out:List (List TR)),a.length=b.length→(cy out a b).length=out.length+a.length
 | [],[],out,_=>by simp[cy]
 | x::ar,y::bs,out,h=>by
  rw[cy,ng ar bs _ (by simpa using h),Ev];simp only[Ea,ET];omega
 | [],y::bs,out,h=>by simp at h
 | x::ar,[],out,h=>by simp at h
theorem zp (j:Jb)(rows:List (List PR)):(cI j rows).1.length≤rows.flatten.length:=by
 unfold cI
 split
 ·have h:=pi j (grp (srt rows.flatten)) []
  have h2:=bX (srt rows.flatten).length (srt rows.flatten) (Ei _);rw[bC]at h2;simp only[ET,Ek]at h;omega
 ·simp
theorem ie (j:Jb)(files:LL_):∀ r∈(aY j files).1,r.length≤256*totalF files:=by
 unfold aY
 split
 ·simp
 ·split
  ·simp
  ·refine kx j (fun r=>r.length≤256*totalF files) _ [] (by simp) (fun p hp=>?_)
   have h1:=zp j [p];have h2:=(kn _ _ p hp).2;have h3:=iS j files;simp only[List.flatten_cons,List.flatten_nil,Ep]at h1;omega
end
section
attribute [local irreducible] wpG
theorem jS {j:Jb}{files:LL_}(h:(aY j files).2.2=0):(aY j files).2.1=wr0:=by
 unfold aY at h⊢
 split
 ·next h1=>rw[if_pos h1]at h;exact absurd h h1
 ·next h1 =>
  rw[if_neg h1]at h
  split
  ·next h2=>rw[if_pos h2]at h;exact absurd h h2
  ·rfl
theorem jq {j:Jb}{files:LL_}(h:(aY j files).2.2=0):j.parts.toNat≤16:=by
 have hz:(bB j files).2.2=0:=by
  unfold aY at h
  by_cases q:(bB j files).2.2=0
  ·exact q
  ·rw[if_pos q]at h;exact absurd h q
 cases hm:cd j with
 | true =>
  obtain⟨m,hp,-,h2⟩:=kA hm;omega
 | false =>
  rw[it (by rw[hm];decide)]at hz;exact absurd hz (by decide)
theorem mg {w:World}{b:Nat}{t:TypeId}{cs:List Value}(h:Blk w b t cs):w.setRow b cs.toArray=w:=by
 have e2:(w.setRow b cs.toArray).heap=w.heap:=by
  apply Array.ext_getElem?;intro i;unfold World.setRow;simp only[Array.getElem?_modify]
  split
  ·rename_i hi
   subst hi;unfold Blk at h;rw[h];simp
  ·rfl
 have e3:w.setRow b cs.toArray={ w with heap:=(w.setRow b cs.toArray).heap }:=rfl;rw[e3,e2]
def Ae (bZ:Nat)(l:List TR):aJ Bel:=⟨Option Addr×Nat,fun x=>.tuple #[.slice x.1 l.length x.2,.int .i64 0],fun x=>some fun w=>dm.Own w bZ (.slice x.1 l.length x.2) l,fun _ _ h _ _ hφ hB=>by cases h;exact Rec.Own.below hφ hB⟩
@[go_sem] theorem Dg (bZ:Nat) (l:List TR) (a:Option Addr) (c:Nat):(Ae bZ l).val (a,c)=.tuple #[.slice a l.length c,.int .i64 0]:=rfl
theorem Dj {a b:Nat}(h1:a≤400000)(h2:b≤400000):(a+b+1)*56≤140737488355328:=by omega
theorem G8 {T:Prop} (h:T:=by
 have t3:((S.2.2:Int) != 0)=true:=by rw[bne_iff_ne];omega
 rw[if_pos hy]at HJJ;clear hy;have hdd:Blk W13 D 47 [.int .u8 (S.2.1.1:Int),.int .i64 (S.2.1.2.1:Int),.int .i64 (S.2.1.2.2.1:Int),.string (bs S.2.1.2.2.2)]:=by rw[←HW13.o];exact HD12.o.row _
 have hcc:Chg (fun k=>k=D) w12 W13:=by rw[←HW13.o];exact iT _ _ _ rfl
 have hne:J+1≠D:=by
  have:=HEL.o;omega
 have he8:=HE12.o.chg hcc hne;have HBF:=zH (HB12.o.trans (hcc.below (fun k hk=>by rw[show k=D from hk];exact HDW.o) HB12.o.size));obtain⟨y0,y1,y2,y3⟩:=cl4 hdd
 (obtain⟨z0,z1,z2,z3⟩:=cl4 he8;obtain⟨g0,g1,g2,g3⟩:=fr4 he8;have hEl:=he8.lt)
 have HEF:=zH he8;have hDl:=hdd.lt;clear he8 hdd hcc hne;go_upto_region 6 with fail;go_region_law (fail);go_wp2_with fail
 all_goals
  refine bodyPost_ret (aQ rfl rfl (bO (bi HEF.o _ _ _ _))) rfl ?_;have hc:=cH W13 (J+1) (.int .u8 (S.2.1.1:Int)) (.int .i64 (S.2.1.2.1:Int)) (.int .i64 (S.2.1.2.2.1:Int)) (.string (bs S.2.1.2.2.2));rw[HJJ.o];exact⟨⟨none,0,rfl,GTR.nil _ _⟩,bt (HBF.o.trans (hc.below (fun k hk=>by rw[show k=J+1 from hk,HJW.o];omega) HBF.o.size)) (b_drew _)⟩
):T:=h
theorem G9 {T:Prop} (h:T:=by
 go_wp2_with (at_builtin;(refine gH W8' [.slice pa (ofF x y).length pc] 51 rfl _ _ 45 rfl W13.heap.size (.slice none 0 0) 1 24 Tryz.underlying45 wh rfl (by decide) _ out.length CS HCS.o rfl _ rfl rfl (by simp[Value.oneCell']) (by decide) HBZ.o (En HBR.o.size HB8'.o.size) ?_);intro g cap w10 hown9 hfr hgb hB9 hsz9;have HO9:=zH hown9;have HFR:=zH hfr;have HGB:=zH hgb;have HB10:=zH hB9;have HSZ9:=zH hsz9;clear hown9 hfr hgb hB9 hsz9);go_roundw
 case rel =>
  have hout:∀ b,(Value.slice pa (ofF x y).length pc).ownBlock=some b→(Value.slice Av out.length Cv).ownBlock≠some b:=by
   intro b hb e;have h1:=World.ownsRow.lt HO8'.o b hb;obtain⟨CS2,hc2,_⟩:=HG.o;have h2:=World.ownsRow.lt hc2 b e;omega
  have hsn:=GTR.snoc HCS2.o (by have:=HCS.o.1;omega) (Rec.Own.mono HO8'.o HBR.o.size) hout rfl HO9.o HFR.o HGB.o;refine⟨k+1,out++[ofF x y],HHH.o,by rw[Ev];simp;omega,by go_num,?_,by rw[←HQ.o];exact HAV.o,HBR.o.trans ((HB8'.o.mono HBR.o.size).trans HB10.o)⟩
  first|exact hsn|(rw[Ev];exact hsn)
 case measure=>have:=HHH.o;simp[intOf];omega
):T:=h
theorem Ha {T:Prop} (h:T:=by
 have t2:((R.2.2:Int) != 0)=true:=by rw[bne_iff_ne];omega
 rw[if_pos hz]at HJJ;clear hz;obtain⟨y0,y1,y2,y3⟩:=cl4 HD8.o;have he8:=HE8.o
 (obtain⟨z0,z1,z2,z3⟩:=cl4 he8;obtain⟨g0,g1,g2,g3⟩:=fr4 he8;have hEl:=he8.lt)
 have hDl:=HD8.o.lt;clear he8;go_upto_region 3 with fail;go_region_law (fail);go_wp2_with fail
 all_goals
  refine bodyPost_ret (aQ rfl rfl (bO (bi HE8.o _ _ _ _))) rfl ?_;have hc:=cH W8 (J+1) (.int .u8 (R.2.1.1:Int)) (.int .i64 (R.2.1.2.1:Int)) (.int .i64 (R.2.1.2.2.1:Int)) (.string (bs R.2.1.2.2.2));rw[HJJ.o];exact⟨⟨none,0,rfl,GTR.nil _ _⟩,bt (HBB8.o.trans (hc.below (fun k hk=>by rw[show k=J+1 from hk,HJW.o];omega) HBB8.o.size)) (b_drew _)⟩
):T:=h
theorem Hc {T:Prop} (h:T:=by
 have i1:¬(k:Int)<(R.1.length:Int):=by omega
 have HQ:=zH (show cy [] R.1 S.1=out by rw[←HAV.o,Ex (by omega)];unfold cy;rfl);clear h0;have he8:=HE12.o.below HBR.o
 (obtain⟨z0,z1,z2,z3⟩:=cl4 he8;obtain⟨g0,g1,g2,g3⟩:=fr4 he8;have hEl:=he8.lt)
 have HEF:=zH he8;clear he8;go_wp2_with fail;refine bodyPost_ret (aQ rfl rfl (bO (bi HEF.o _ _ _ _))) rfl ?_;rw[HJJ.o,HQ.o];rw[show(((wr.setCell ⟨J+1,0,none⟩ (.int .u8 0)).setCell ⟨J+1,1,none⟩ (.int .i64 0)).setCell ⟨J+1,2,none⟩ (.int .i64 0)).setCell ⟨J+1,3,none⟩ (.string ⟨#[]⟩)=wr from dI HEF.o];exact⟨⟨_,_,rfl,HG.o.mono HB12.o.size⟩,bt HB12.o HBR.o⟩
):T:=h
theorem Ig {T:Prop} (h:T:=by
 clear hB hS e1 e2;go_simp;exact hG _ (Bel.refl _)
):T:=h
theorem AQ (t1 c1 t2 c2 t3 c3:Value)(j:Jb)(v1:Value)(old:LL_)(v2:Value)(now:LL_)(w:World)(h:eO w t1 c1 t2 c2 t3 c3 j)(hdo:cS w)(hv1:aL.Row w v1 old)(hv2:aL.Row w v2 now)(hl1:old.length≤1000000)(hl2:now.length≤1000000)(hm1:∀ t∈old,t.length≤1000000)(hm2:∀ t∈now,t.length≤1000000)(ht1:totalF old≤1500)(ht2:totalF now≤1500):Calls Tryz.prog 20 #[cg t1 c1 t2 c2 t3 c3 j,v1,v2] w fun e w'=>(∃ a c,e=.returned (.tuple #[.slice a (fJ j old now).1.length c,wrV (fJ j old now).2.1,.int .i64 ((fJ j old now).2.2:Int)])∧GTR w' w.heap.size (.slice a (fJ j old now).1.length c) (fJ j old now).1)∧Bw_ w w':=by
 have HP1:=zH (fun w' (hB:Below w.heap.size w w')=>pD t1 c1 t2 c2 t3 c3 j v1 old w' (h.below hB) (hdo.below hB) (hv1.below hB) hl1 hm1 (En ht1 (by decide)));have HP2:=zH (fun w' (hB:Below w.heap.size w w')=>pD t1 c1 t2 c2 t3 c3 j v2 now w' (h.below hB) (hdo.below hB) (hv2.below hB) hl2 hm2 (En ht2 (by decide)));have HLA:=zH (show ∀ r∈(aY j old).1,r.length≤400000 from fun r hr=>En (ie j old r hr) (En (Nat.mul_le_mul_left 256 ht1) (by decide)));have HLB:=zH (show ∀ r∈(aY j now).1,r.length≤400000 from fun r hr=>En (ie j now r hr) (En (Nat.mul_le_mul_left 256 ht2) (by decide)));have HOA:=zH (iD j old);have HOB:=zH (iD j now);have HNA:=zH (ez j old);have HNB:=zH (ez j now);have HWA:=zH (jS (j:=j) (files:=old));have HWB:=zH (jS (j:=j) (files:=now));have HPB:=zH (jq (j:=j) (files:=old));obtain⟨ta,tc,ca,cc,ta2,tc2,ca2,cc2,ta3,tc3,ca3,cc3,rfl,rfl,rfl,rfl,rfl,rfl⟩:=jo_ h.a.t h.a.c h.b.t h.b.c h.c.t h.c.c;obtain⟨av1,cv1,rfl,-,-⟩:=an hv1;obtain⟨av2,cv2,rfl,-,-⟩:=an hv2;unfold cg at HP1 HP2⊢;obtain⟨J,hJ⟩:=ex_ w.heap.size;obtain⟨W0,hW0⟩:=ex_ (w.alloc (.cells #[.slice ta j.mt.length tc,.slice ca j.mc.length cc,.slice ta2 j.jt.length tc2,.slice ca2 j.jc.length cc2,.slice ta3 j.tt.length tc3,.slice ca3 j.tc.length cc3,.int .i64 j.parts,.int .i64 j.fuel] 27));have hs0:W0.heap.size=J+1:=by rw[hW0,ba,hJ]
 obtain⟨W1,hW1⟩:=ex_ (W0.alloc (.cells #[.int .u8 0,.int .i64 0,.int .i64 0,.string ⟨#[]⟩] 47));have hb0:=ba_ hW0;have hb1:=ba_ hW1
 have hx:Blk W1 J 27 [.slice ta j.mt.length tc,.slice ca j.mc.length cc,.slice ta2 j.jt.length tc2,.slice ca2 j.jc.length cc2,.slice ta3 j.tt.length tc3,.slice ca3 j.tc.length cc3,.int .i64 j.parts,.int .i64 j.fuel]:=by
  have q:=bn_ hJ hW0;exact q.below hb1
 have he:Blk W1 (J+1) 47 [.int .u8 0,.int .i64 0,.int .i64 0,.string ⟨#[]⟩]:=by
  have q:=bm_ hW1
  rwa [hs0]at q
 obtain⟨x0,x1,x2,x3,x4,x5,x6,x7⟩:=cl8 hx;have HB1:=zH (bt hb0 hb1);have HX1:=zH hx;have HE1:=zH he;have HI47:=zH (show(Tryz.prog.info? 47).map (·.size)=some 4 by kernel_rfl);have HJW:=zH (show w.heap.size=J from hJ.symm);go_enter Tryz.func20,Tryz.ntmps20;go_upto_region 1 with fail;rw[←hJ,←hW0]
 try rw[hs0]
 rw[←hW1];clear hJ hW0 hW1 hs0 hb0 hb1 hx he h hdo hv1 hv2 hl1 hl2 hm1 hm2 ht1 ht2;have HJJ:=zH (show fJ j old now=if (aY j old).2.2≠0 then ([],(aY j old).2) else if (aY j now).2.2≠0 then ([],(aY j now).2) else (cy [] (aY j old).1 (aY j now).1,wr0,0) from rfl);unfold wrV at HP1 HP2;obtain⟨R,hR⟩:=ex_ (aY j old);rw[←hR]at HP1 HJJ HLA HOA HNA HWA HPB;clear hR;obtain⟨S,hS⟩:=ex_ (aY j now);rw[←hS]at HP2 HJJ HLB HOB HNB HWB;clear hS;go_upto_region 2 with(first|(refine bA w7.heap.size [.int .u8 0,.int .i64 0,.int .i64 0,.string ⟨#[]⟩] [.int .u8 (R.2.1.1:Int),.int .i64 (R.2.1.2.1:Int),.int .i64 (R.2.1.2.2.1:Int),.string (bs R.2.1.2.2.2)] (Blk.new w7 _ _) rfl _ _ _ rfl rfl rfl HI47.o rfl (by simp[Value.oneCell']) ?_;intro W8 hw8;have hB78:Below w7.heap.size w7 W8:=(by rw[←hw8.o];exact aI (af _ _) (Ei _) _);have HD8:=zH (show Blk W8 w7.heap.size 47 [.int .u8 (R.2.1.1:Int),.int .i64 (R.2.1.2.1:Int),.int .i64 (R.2.1.2.2.1:Int),.string (bs R.2.1.2.2.2)] by rw[←hw8.o];exact(Blk.new w7 [.int .u8 0,.int .i64 0,.int .i64 0,.string ⟨#[]⟩] _).row _);have HE8:=zH (HE7.o.below hB78);have HBB8:=zH (bt HB7.o hB78);have HRA8:=zH (HRA7.o.below hB78);have HX8:=zH (HX7.o.below hB78);clear hw8 hB78)|(go_at_call 43;refine(HP1.o _ HB1.o).mono ?_;rintro e w7 ⟨⟨pa,pc,rfl,hro⟩,hB7⟩;have HRA7:=zH hro;have HE7:=zH (HE1.o.below hB7);have HX7:=zH (HX1.o.below hB7);have HB7:=zH (bt HB1.o hB7);clear hB7 hro x0 x1 x2 x3 x4 x5 x6 x7));obtain⟨D,hD⟩:=ex_ w7.heap.size;have HEL:=zH (show J+1<D by rw[hD];exact HE7.o.lt);have HDW:=zH (show w.heap.size≤D by rw[hD];exact HB7.o.size)
 rw[←hD];rw[←hD]at HD8;clear hD
 by_cases hz:R.2.2=0
 ·have t2:((R.2.2:Int) != 0)=false:=by rw[hz];rfl
  rw[if_neg (fun q=>q hz)]at HJJ;have HN1:=zH (HNA.o hz);have hw1:=HWA.o hz;have HPN:=zH (HPB.o hz);have HDZ:=zH (show Blk W8 D 47 [.int .u8 0,.int .i64 0,.int .i64 0,.string ⟨#[]⟩] by have q:=HD8.o;rw[hw1]at q;exact q);clear hz hw1 HWA HNA HPB HP1;have hx8:=HX8.o;obtain⟨x0,x1,x2,x3,x4,x5,x6,x7⟩:=cl8 hx8;clear hx8;go_upto_region 5 with(first|(refine bA D [.int .u8 0,.int .i64 0,.int .i64 0,.string ⟨#[]⟩] [.int .u8 (S.2.1.1:Int),.int .i64 (S.2.1.2.1:Int),.int .i64 (S.2.1.2.2.1:Int),.string (bs S.2.1.2.2.2)] HD12.o rfl _ _ _ rfl rfl rfl HI47.o rfl (by simp[Value.oneCell']) ?_;intro W13 hw13;have HW13:=zH hw13.o;clear hw13)|(go_at_call 43;refine(HP2.o _ HBB8.o).mono ?_;rintro e w12 ⟨⟨qa,qc,rfl,hro⟩,hB12⟩;have HRB12:=zH hro;have HRA12:=zH (HRA8.o.below hB12);have HE12:=zH (HE8.o.below hB12);have HD12:=zH (HDZ.o.below hB12);have HB12:=zH (bt HBB8.o hB12);clear hB12 hro x0 x1 x2 x3 x4 x5 x6 x7))
  by_cases hy:S.2.2=0
  ·have t3:((S.2.2:Int) != 0)=false:=by rw[hy];rfl
   rw[if_neg (fun q=>q hy)]at HJJ;have hn2:=HNB.o hy;have hw2:=HWB.o hy
   have hw13:W13=w12:=by
    rw[←HW13.o,hw2];exact mg HD12.o
   subst hw13;have hnn:R.1.length=S.1.length:=by rw[HN1.o,hn2]
   have HRL:=zH (show R.1.length≤1000000 by rw[HN1.o];exact En HPN.o (by decide));clear hy hw2 HW13 HNB HWB HP2 hn2;obtain⟨_,_,hv1,_,_,hc1⟩:=HRA12.o;injection hv1 with q1 _ q3
   subst q1 q3;have HC1:=zH hc1;obtain⟨_,_,hv2,_,_,hc2⟩:=HRB12.o;injection hv2 with q1 _ q3
   subst q1 q3;have HC2:=zH hc2;have HNN:=zH hnn;clear hc1 hc2 hnn;go_wp2_with fail
   go_loopw [13,41] (fun u t wr=>∃ (k:Nat) (out:List (List TR)),k≤R.1.length∧out.length≤k∧t=.int .i64 (k:Int)∧Hid (GTR wr W13.heap.size u out)∧Hid (cy out (R.1.drop k) (S.1.drop k)=cy [] R.1 S.1)∧Hid (Below W13.heap.size W13 wr)) (fun _ t _=>R.1.length-(intOf t).toNat)
   case atStart=>exact⟨0,[],EG _,Ei _,rfl,GTR.nil _ _,rfl,Em _ _⟩
   case round =>
    obtain⟨k,out,hk,hok,rfl,HG,HAV,HBR⟩:=hrel;obtain⟨Av,Cv,rfl⟩:=GTR.slice HG.o;have hrl:=HRL.o
    by_cases h0:k<R.1.length
    ·have h02:k<S.1.length:=by have:=HNN.o;omega
     obtain⟨b1,o1,u1,rfl,e1,hu1⟩:=HC1.o k h0;obtain⟨b2,o2,u2,rfl,e2,hu2⟩:=HC2.o k h02;have hdr:R.1.drop k=R.1[k]::R.1.drop (k+1):=Ec h0;have hds:S.1.drop k=S.1[k]::S.1.drop (k+1):=Ec h02;have hxl:=HLA.o _ (EM h0);have hyl:=HLB.o _ (EM h02);have hxo:=HOA.o _ (EM h0);have hyo:=HOB.o _ (EM h02);obtain⟨x,hxe⟩:=ex_ (R.1[k]'h0);obtain⟨y,hye⟩:=ex_ (S.1[k]'h02);rw[←hxe]at hxl hxo hdr hu1;rw[←hye]at hyl hyo hds hu2;have HQ:=zH (show cy out (R.1.drop k) (S.1.drop k)=cy (out++[ofF x y]) (R.1.drop (k+1)) (S.1.drop (k+1)) by rw[hdr,hds];rfl);replace e1:=DK HBR.o e1;replace e2:=DK HBR.o e2;have hv1:=hu1.below HBR.o;have hv2:=hu2.below HBR.o;obtain⟨ua,uc,rfl,-,-⟩:=hv1.open;obtain⟨va,vc,rfl,-,-⟩:=hv2.open;have HON:=zH (show(cP x&&cP y)=true by rw[hxo,hyo];rfl);have HFK:=zH (fun w' (hB:Bel wr w')=>show Calls Tryz.prog _ #[.slice ua x.length uc,.slice va y.length vc] w' _ from vN _ _ x y w' (hv1.below hB) (hv2.below hB) (Dj hxl hyl));have HE1:=zH e1;have HE2:=zH e2;have i0:=nn_ k;have i1:(k:Int)<(R.1.length:Int):=by omega
     have i2:(k:Int)<(S.1.length:Int):=by omega
     have HHH:=zH h0;have HBZ:=zH (show(out.length+1)*24≤140737488355328 by have:=HRL.o;omega);clear hdr hds hxe hye h0 h02 hxl hyl hxo hyo hu1 hu2 hv1 hv2;go_upto_region 11 with fail;refine rk_ [(3,.exact _ (.slice ua x.length uc)),(7,.exact _ (.slice va y.length vc)),(8,Ae wr.heap.size (ofF x y))] ?_;refine cG ?_;refine gE_ (fun w' G hB hS hG=>?_) (fun K hK=>?_)
     ·have y:=DK hB HE1.o
      exact Ig
     refine cO ?_;clear hK K;refine gE_ (fun w' G hB hS hG=>?_) (fun K hK=>?_)
     ·have y:=DK hB HE2.o
      exact Ig
     refine cO ?_;clear hK K;refine gk_ (Ae wr.heap.size (ofF x y)) (fun w' G hB hS hG=>?_) (fun (q6:Option Addr×Nat) K hK=>?_)
     ·have hu:=HFK.o w' hB
      have HSZ:=zH (show wr.heap.size≤w'.heap.size from hB.size);clear hB hS e1 e2;go_simp;refine hu.mono ?_;rintro e w'' ⟨hres,hB2⟩;obtain⟨pv,rfl,ho⟩:=iw.good hres HON.o;obtain⟨pa,pc,rfl⟩:=ap ho;exact⟨_,rfl,hG (pa,pc) w'' hB2 (fun φ h=>by cases h;exact Rec.Own.mono ho HSZ.o)⟩
     obtain⟨pa,pc⟩:=q6;refine cO ?_;clear hK K;refine dF ?_;intro W8' hB8 hA8;have HO8':=zH (show dm.Own W8' wr.heap.size (.slice pa (ofF x y).length pc) (ofF x y) from lA hA8);have HB8':=zH (show Below wr.heap.size wr W8' from hB8);have HG8:=zH (HG.o.below HB8'.o);obtain⟨CS,hcs,hcs2⟩:=HG8.o;have HCS:=zH hcs;have HCS2:=zH hcs2;clear hA8 hB8 hcs hcs2 e1 e2;have t5:((0:Int) != 0)=false:=rfl;go_upto_region 14 with fail
     all_goals
      exact G9
    ·exact Hc
  ·exact G8
 ·exact Ha
end
