/- Lemmas for MapperTells: walks, plain laws. -/
import Derived.Test.YtckhfapcmjlmbaaGreatDoorMapperTellsK24
set_option linter.unusedSimpArgs false
set_option linter.unusedVariables false
set_option maxRecDepth 100000
set_option maxHeartbeats 16000000
namespace Go.Proofs.YtckhfapcmjlmbaaGreatDoor
open Go.RowKit Oct
section
attribute [local irreducible] wpG
theorem yT (j:Jb)(i:Nat)(hi:i<3):∃ T C,psJ j (i+1)=psJ j i++num (gd T C).length 4++gd T C∧((i=0∧T=j.mt∧C=j.mc)∨(i=1∧T=j.jt∧C=j.jc)∨(i=2∧T=j.tt∧C=j.tc)):=by
 obtain rfl|rfl|rfl:i=0∨i=1∨i=2:=by omega
 ·exact⟨j.mt,j.mc,by simp[psJ,fd],.inl ⟨rfl,rfl,rfl⟩⟩
 ·exact⟨j.jt,j.jc,by simp[psJ,fd],.inr (.inl ⟨rfl,rfl,rfl⟩)⟩
 ·exact⟨j.tt,j.tc,by simp[psJ,fd,gD],.inr (.inr ⟨rfl,rfl,rfl⟩)⟩
theorem Ak {j:Jb}(hm:bJ j=true)(i:Nat)(hi:i≤3):(psJ j i).length≤10000:=by
 have q:=mR hm;obtain rfl|rfl|rfl|rfl:i=0∨i=1∨i=2∨i=3:=by omega
 all_goals
  unfold gD at q;simp only[psJ,gD,DL]at q⊢;omega
theorem tI (t1 c1 t2 c2 t3 c3:Value)(j:Jb)(w:World)(h:dH w t1 c1 t2 c2 t3 c3 j)(hm:bJ j=true):Calls Tryz.prog 92 #[bM t1 c1 t2 c2 t3 c3 j] w fun e w'=>e=.returned (.string (bs (gD j)))∧Bw_ w w':=by
 obtain⟨m1,m2,m3⟩:=nn hm;obtain⟨-,hp1,hp2,hf1,hf2⟩:=mn hm;have HPM:=zH (fun w' (hB:Below w.heap.size w w')=>mO t1 c1 j.mt j.mc w' (h.below hB).a.t (h.below hB).a.c m1);have HPJ:=zH (fun w' (hB:Below w.heap.size w w')=>mO t2 c2 j.jt j.jc w' (h.below hB).b.t (h.below hB).b.c m2);have HPT:=zH (fun w' (hB:Below w.heap.size w w')=>mO t3 c3 j.tt j.tc w' (h.below hB).c.t (h.below hB).c.c m3);have HLM:=zH (dr m1);have HLJ:=zH (dr m2);have HLT:=zH (dr m3);have HPL:=zH (fun i hi=>Ak hm i hi);obtain⟨ta,tc,ca,cc,ta2,tc2,ca2,cc2,ta3,tc3,ca3,cc3,rfl,rfl,rfl,rfl,rfl,rfl⟩:=jo_ h.a.t h.a.c h.b.t h.b.c h.c.t h.c.c;unfold bM;obtain⟨P,hP⟩:=ex_ j.parts;obtain⟨F,hF⟩:=ex_ j.fuel;have HP:=zH hP;have HF:=zH hF;rw[←hP]at hp1 hp2;rw[←hF]at hf1 hf2;rw[←hP,←hF];clear hP hF;obtain⟨W1,hW1⟩:=ex_ (w.alloc (.cells #[.slice ta j.mt.length tc,.slice ca j.mc.length cc,.slice ta2 j.jt.length tc2,.slice ca2 j.jc.length cc2,.slice ta3 j.tt.length tc3,.slice ca3 j.tc.length cc3,.int .i64 P,.int .i64 F] 27));have hb1:=ba_ hW1;obtain⟨J,hJ⟩:=ex_ w.heap.size;have hx:=bn_ hJ hW1;obtain⟨x0,x1,x2,x3,x4,x5,x6,x7⟩:=cl8 hx;have HB1:=zH hb1;have HX:=zH hx;go_enter Tryz.func92,Tryz.ntmps92;go_upto_region 1 with fail;rw[←hW1,←hJ];clear hW1 hJ hb1 hx h hm m1 m2 m3;obtain⟨pb,hpb⟩:∃ pb:UInt8,(pb.toNat:Int)=P:=⟨UInt8.ofNat P.toNat,by rw[UInt8.toNat_ofNat'];omega⟩
 obtain⟨fn,hfn⟩:∃ fn:Nat,(fn:Int)=F:=⟨F.toNat,by omega⟩
 have HPB:=zH (show fV j=pb::num fn 4 by
  unfold fV;rw[←HP.o,←HF.o,←hpb,←hfn];simp)
 have HNU:=zH (fun w'=>show Calls Tryz.prog 89 #[.int .u64 F,.int .i64 4] w' fun e w''=>e=.returned (.string (bs (num fn 4)))∧Below w'.heap.size w' w'' by
  have q:=kB F 4 w' (by omega) (by omega) (by omega) (by omega);rw[show F.toNat=fn by omega]at q;exact q)
 have HCV:=zH (fun w' (a:Option Addr) (c:Nat) (h:aJ w' (.slice a 1 c) 1 [.int .u8 P])=>show(convert 132 9 (.slice a 1 c)).run Tryz.prog w'=.ok (.string (bs [pb])) w' by rw[←hpb]at h;exact uR h);obtain⟨nf,hnf⟩:=ex_ (num fn 4);have hnl:(nf.length:Int)=4:=by rw[hnf,aX];rfl
 rw[←hnf]at HNU HPB;clear hpb hfn hnf x0 x1 x2 x3 x4 x5;refine rk_ [(1,.exact _ (.int .i64 P)),(3,eP 1 [.int .u8 P]),(4,.exact _ (.string (bs [pb]))),(6,.exact _ (.int .i64 F)),(8,.exact _ (.string (bs nf)))] ?_;refine cG ?_;refine gE_ (fun w' G hB hS hG=>?_) (fun K hK=>?_)
 ·have y:=C8 hB x6
  go_simp;exact hG _ (Bel.refl _)
 refine cO ?_;clear hK K;refine gk_ (eP 1 [.int .u8 P]) (fun w' G hB hS hG=>?_) (fun x K hK=>?_)
 ·go_simp
  exact gN hG rfl
 obtain⟨ad,c⟩:=x;refine cO ?_;clear hK K;refine gE_ (fun w' G hB hS hG=>?_) (fun K hK=>?_)
 ·exact GF
 refine cO ?_;clear hK K;refine gE_ (fun w' G hB hS hG=>?_) (fun K hK=>?_)
 ·have y:=C8 hB x7
  go_simp;exact hG _ (Bel.refl _)
 refine cO ?_;clear hK K;refine gE_ (fun w' G hB hS hG=>?_) (fun K hK=>?_)
 ·have hu:=HNU.o w'
  go_simp;exact aO hG hu
 refine cO ?_;clear hK K;refine dm ?_;intro w3 hB3 hA3;have HX3:=zH (HX.o.below hB3);have HB3:=zH (bt HB1.o hB3);clear hA3 hB3 x6 x7;obtain⟨x0,x1,x2,x3,x4,x5⟩:=cl6 HX3.o;obtain⟨W4,hW4⟩:=ex_ (w3.alloc (.cells #[.slice ta j.mt.length tc,.slice ca j.mc.length cc,.slice ta2 j.jt.length tc2,.slice ca2 j.jc.length cc2,.slice ta3 j.tt.length tc3,.slice ca3 j.tc.length cc3] 25));have hb4:=ba_ hW4;have hy:=bm_ hW4;obtain⟨B,hB⟩:=ex_ w3.heap.size;rw[←hB]at hy;have HY:=zH hy;have HB4:=zH (bt HB3.o hb4);have HPS0:=zH (show bs (pb::nf)=bs (psJ j 0) by show _=bs (fV j);rw[HPB.o]);go_upto_region 4 with fail;rw[←hW4]
 try rw[←hB]
 rw[HPS0.o];clear hW4 hb4 hy hB HPS0 x0 x1 x2 x3 x4 x5 hnl hp1 hp2 hf1 hf2
 go_loopw [3,5] (fun s t wr=>∃ i:Nat,i≤3∧s=.string (bs (psJ j i))∧t=.int .i64 (i:Int)∧Hid (Below W4.heap.size W4 wr)) (fun _ t _=>3-(intOf t).toNat)
 case atStart=>exact⟨0,by omega,rfl,rfl,DF _ _⟩
 case round =>
  obtain⟨i,hi,rfl,rfl,HBR⟩:=hrel
  by_cases h0:i<3
  ·obtain⟨T,C,hps,hcase⟩:=yT j i h0
   have hyy:=HY.o.below HBR.o
   obtain⟨tv,cv,e1,e2,hput,hpl⟩:∃ tv cv,wr.cell? ⟨B,i*2,none⟩=some tv∧wr.cell? ⟨B,i*2+1,none⟩=some cv∧(∀ w',Below w.heap.size w w'→Calls Tryz.prog 132 #[.agg #[tv,cv]] w' fun e w''=>e=.returned (.string (bs (gd T C)))∧Below w'.heap.size w' w'')∧(gd T C).length≤2000:=by
    rcases hcase with ⟨rfl,rfl,rfl⟩|⟨rfl,rfl,rfl⟩|⟨rfl,rfl,rfl⟩
    ·exact⟨_,_,hyy.cell (k:=0) rfl,hyy.cell (k:=1) rfl,HPM.o,HLM.o⟩
    ·exact⟨_,_,hyy.cell (k:=2) rfl,hyy.cell (k:=3) rfl,HPJ.o,HLJ.o⟩
    ·exact⟨_,_,hyy.cell (k:=4) rfl,hyy.cell (k:=5) rfl,HPT.o,HLT.o⟩
   have HPU:=zH (hput wr (bt HB4.o HBR.o));have HSP:=zH hps;have hsl:=HPL.o i (by omega);obtain⟨X,hX⟩:=ex_ (gd T C);rw[←hX]at HPU HSP hpl;obtain⟨PS,hPS⟩:=ex_ (psJ j i);rw[←hPS]at HSP hsl⊢;have hxn:(num X.length 4).length=4:=aX _ _;have HNX:=zH (fun w'=>show Calls Tryz.prog 89 #[.int .u64 (X.length:Int),.int .i64 4] w' fun e w''=>e=.returned (.string (bs (num X.length 4)))∧Below w'.heap.size w' w'' from kB (X.length:Int) 4 w' (by omega) (by omega) (by omega) (by omega));obtain⟨NX,hNX⟩:=ex_ (num X.length 4);rw[←hNX]at HNX HSP hxn;have i0:=nn_ i;have i1:(i:Int)<3:=by omega
   have b1:(X.length:Int)≤2000:=by omega
   have b2:(PS.length:Int)≤10000:=by omega
   have b3:(NX.length:Int)=4:=by omega
   clear hcase hyy hput hps hX hPS hNX hpl hsl hxn;go_wp2_with (first|(go_at_call 89;refine(HNX.o _).mono ?_;rintro e w6 ⟨rfl,hB6⟩;have HB6:=zH (bt HB5.o hB6);clear hB6)|(go_at_call 132;refine HPU.o.mono ?_;rintro e w5 ⟨rfl,hB5⟩;have HB5:=zH (bt HBR.o hB5);clear hB5));go_roundw
   case rel=>exact⟨i+1,by omega,by rw[HSP.o];first|rfl|simp[DK],by go_num,HB6.o⟩
   case measure=>simp[intOf];omega
  ·have i1:¬(i:Int)<3:=by omega
   obtain rfl:i=3:=by omega
   clear h0;go_wp2_with fail;go_ret;exact⟨rfl,bt HB4.o HBR.o⟩
theorem wL (t1 c1 t2 c2 t3 c3:Value)(j:Jb)(w:World)(h:dH w t1 c1 t2 c2 t3 c3 j)(hm:bJ j=true):Calls Tryz.prog 49 #[bM t1 c1 t2 c2 t3 c3 j] w fun e w'=>e=.returned (.string (bs (fJ (gD j))))∧Bw_ w w':=by
 have HP:=zH (fun w' (hB:Below w.heap.size w w')=>tI t1 c1 t2 c2 t3 c3 j w' (h.below hB) hm);have HS:=zH (mR hm);obtain⟨PB,hPB⟩:=ex_ (gD j);rw[←hPB]at HP HS⊢;clear hPB;obtain⟨ta,tc,ca,cc,ta2,tc2,ca2,cc2,ta3,tc3,ca3,cc3,rfl,rfl,rfl,rfl,rfl,rfl⟩:=jo_ h.a.t h.a.c h.b.t h.b.c h.c.t h.c.c;unfold bM at HP⊢;obtain⟨W1,hW1⟩:=ex_ (w.alloc (.cells #[.slice ta j.mt.length tc,.slice ca j.mc.length cc,.slice ta2 j.jt.length tc2,.slice ca2 j.jc.length cc2,.slice ta3 j.tt.length tc3,.slice ca3 j.tc.length cc3,.int .i64 j.parts,.int .i64 j.fuel] 27));have hb1:=ba_ hW1;obtain⟨J,hJ⟩:=ex_ w.heap.size;have hx:=bn_ hJ hW1;obtain⟨x0,x1,x2,x3,x4,x5,x6,x7⟩:=cl8 hx;have HB1:=zH hb1;have HX:=zH hx;go_enter Tryz.func49,Tryz.ntmps49;go_upto_region 1 with fail;rw[←hW1,←hJ];clear hW1 hJ hb1 hx h hm;go_wp2_with (first|(go_at_call 92;refine(HP.o _ HB1.o).mono ?_;rintro e w2 ⟨rfl,hB2⟩;have HB2:=zH (bt HB1.o hB2);clear hB2)|(go_at_call 50;refine(rq PB w2 (DG HS.o (by decide))).mono ?_;rintro e w3 ⟨rfl,hB3⟩;have HB3:=zH (bt HB2.o hB3);clear hB3));go_ret;exact⟨rfl,HB3.o⟩
def rX (j:Jb)(text:LU_):LU_×Int:=if bJ j=true then row [[109,97,112],fJ (gD j),text] else ([],2)
theorem pj {id text:LU_}(hi:id.length≤64)(ht:text.length≤3000):(texts [[109,97,112],id,text]).length≤1000000000:=by
 simp[texts];omega
theorem rQ (t1 c1 t2 c2 t3 c3:Value)(j:Jb)(text:LU_)(w:World)(h:dH w t1 c1 t2 c2 t3 c3 j)(ht:text.length≤3000):Calls Tryz.prog 34 #[bM t1 c1 t2 c2 t3 c3 j,.string (bs text)] w fun e w'=>e=.returned (txV (rX j text))∧Bw_ w w':=by
 cases hm:bJ j with
 | true =>
  have HI:=zH (fun w' (hB:Below w.heap.size w w')=>AF t1 c1 t2 c2 t3 c3 j w' (h.below hB) hm);have HK:=zH (show rX j text=row [[109,97,112],fJ (gD j),text] from if_pos hm);have HTX:=zH (pj (id:=fJ (gD j)) (by rw[gm];decide) ht);obtain⟨ID,hID⟩:=ex_ (fJ (gD j));rw[←hID]at HI HK HTX;have HRW:=zH (fun w'=>vq (.slice (some ⟨w'.heap.size,0,none⟩) 3 3) [[109,97,112],ID,text] (w'.alloc (.cells #[.string ⟨#[109,97,112]⟩,.string (bs ID),.string (bs text)] 9)) (aJ.new w' [.string ⟨#[109,97,112]⟩,.string (bs ID),.string (bs text)] 3 9 3) HTX.o (by simp));clear hm hID;obtain⟨ta,tc,ca,cc,ta2,tc2,ca2,cc2,ta3,tc3,ca3,cc3,rfl,rfl,rfl,rfl,rfl,rfl⟩:=jo_ h.a.t h.a.c h.b.t h.b.c h.c.t h.c.c;unfold bM at HI⊢;rw[HK.o];obtain⟨RV,hRV⟩:=ex_ (row [[109,97,112],ID,text]);rw[←hRV]at HRW⊢;unfold txV at HRW⊢;clear hRV HK;obtain⟨W1,hW1⟩:=ex_ (w.alloc (.cells #[.slice ta j.mt.length tc,.slice ca j.mc.length cc,.slice ta2 j.jt.length tc2,.slice ca2 j.jc.length cc2,.slice ta3 j.tt.length tc3,.slice ca3 j.tc.length cc3,.int .i64 j.parts,.int .i64 j.fuel] 27));have hb1:=ba_ hW1;obtain⟨J,hJ⟩:=ex_ w.heap.size;have hx:=bn_ hJ hW1;obtain⟨x0,x1,x2,x3,x4,x5,x6,x7⟩:=cl8 hx;have HB1:=zH hb1;have HX:=zH hx;go_enter Tryz.func34,Tryz.ntmps34;go_upto_region 1 with fail;rw[←hW1,←hJ];clear hW1 hJ hb1 hx h;go_wp2_with (first|(go_at_call 45;refine(HRW.o w2).mono ?_;rintro e w3 ⟨rfl,hB3⟩;have HB3:=zH (bt (bt HB2.o (af _ _)) hB3);clear hB3)|(go_at_call 43;refine(HI.o _ HB1.o).mono ?_;rintro e w2 ⟨rfl,hB2⟩;have HB2:=zH (bt HB1.o hB2);clear hB2 x0 x1 x2 x3 x4 x5 x6 x7))
  go_ret2;exact⟨rfl,HB3.o⟩
 | false =>
  have HI:=zH (fun w' (hB:Below w.heap.size w w')=>BC t1 c1 t2 c2 t3 c3 j w' (h.below hB) hm);have HK:=zH (show rX j text=([],2) from if_neg (by rw[hm];decide));clear hm;obtain⟨ta,tc,ca,cc,ta2,tc2,ca2,cc2,ta3,tc3,ca3,cc3,rfl,rfl,rfl,rfl,rfl,rfl⟩:=jo_ h.a.t h.a.c h.b.t h.b.c h.c.t h.c.c;unfold bM at HI⊢;rw[HK.o];unfold txV;obtain⟨W1,hW1⟩:=ex_ (w.alloc (.cells #[.slice ta j.mt.length tc,.slice ca j.mc.length cc,.slice ta2 j.jt.length tc2,.slice ca2 j.jc.length cc2,.slice ta3 j.tt.length tc3,.slice ca3 j.tc.length cc3,.int .i64 j.parts,.int .i64 j.fuel] 27));have hb1:=ba_ hW1;obtain⟨J,hJ⟩:=ex_ w.heap.size;have hx:=bn_ hJ hW1;obtain⟨x0,x1,x2,x3,x4,x5,x6,x7⟩:=cl8 hx;have HB1:=zH hb1;have HX:=zH hx;go_enter Tryz.func34,Tryz.ntmps34;go_upto_region 1 with fail;rw[←hW1,←hJ];clear hW1 hJ hb1 hx h;go_wp2_with (go_at_call 43;refine(HI.o _ HB1.o).mono ?_;rintro e w2 ⟨rfl,hB2⟩;have HB2:=zH (bt HB1.o hB2);clear hB2 x0 x1 x2 x3 x4 x5 x6 x7);go_ret2;exact⟨rfl,HB2.o⟩
theorem tN (t1 c1 t2 c2 t3 c3:Value)(j:Jb)(text:LU_)(w:World)(h:dH w t1 c1 t2 c2 t3 c3 j)(hm:bJ j=true)(ht:text.length≤3000):Calls Tryz.prog 36 #[bM t1 c1 t2 c2 t3 c3 j,.string (bs text)] w fun e w'=>e=.returned (txV (rX j text))∧Bw_ w w':=by
 have HI:=zH (fun w' (hB:Below w.heap.size w w')=>wL t1 c1 t2 c2 t3 c3 j w' (h.below hB) hm);have HK:=zH (show rX j text=row [[109,97,112],fJ (gD j),text] from if_pos hm);have HTX:=zH (pj (id:=fJ (gD j)) (by rw[gm];decide) ht);obtain⟨ID,hID⟩:=ex_ (fJ (gD j));rw[←hID]at HI HK HTX;have HRW:=zH (fun w'=>yM (.slice (some ⟨w'.heap.size,0,none⟩) 3 3) [[109,97,112],ID,text] (w'.alloc (.cells #[.string ⟨#[109,97,112]⟩,.string (bs ID),.string (bs text)] 9)) (aJ.new w' [.string ⟨#[109,97,112]⟩,.string (bs ID),.string (bs text)] 3 9 3) HTX.o (by simp));clear hm hID;obtain⟨ta,tc,ca,cc,ta2,tc2,ca2,cc2,ta3,tc3,ca3,cc3,rfl,rfl,rfl,rfl,rfl,rfl⟩:=jo_ h.a.t h.a.c h.b.t h.b.c h.c.t h.c.c;unfold bM at HI⊢;rw[HK.o];obtain⟨RV,hRV⟩:=ex_ (row [[109,97,112],ID,text]);rw[←hRV]at HRW⊢;unfold txV at HRW⊢;clear hRV HK;obtain⟨W1,hW1⟩:=ex_ (w.alloc (.cells #[.slice ta j.mt.length tc,.slice ca j.mc.length cc,.slice ta2 j.jt.length tc2,.slice ca2 j.jc.length cc2,.slice ta3 j.tt.length tc3,.slice ca3 j.tc.length cc3,.int .i64 j.parts,.int .i64 j.fuel] 27));have hb1:=ba_ hW1;obtain⟨J,hJ⟩:=ex_ w.heap.size;have hx:=bn_ hJ hW1;obtain⟨x0,x1,x2,x3,x4,x5,x6,x7⟩:=cl8 hx;have HB1:=zH hb1;have HX:=zH hx;go_enter Tryz.func36,Tryz.ntmps36;go_upto_region 1 with fail;rw[←hW1,←hJ];clear hW1 hJ hb1 hx h;go_wp2_with (first|(go_at_call 48;refine(HRW.o w2).mono ?_;rintro e w3 ⟨rfl,hB3⟩;have HB3:=zH (bt (bt HB2.o (af _ _)) hB3);clear hB3)|(go_at_call 49;refine(HI.o _ HB1.o).mono ?_;rintro e w2 ⟨rfl,hB2⟩;have HB2:=zH (bt HB1.o hB2);clear hB2 x0 x1 x2 x3 x4 x5 x6 x7))
 go_ret2;exact⟨rfl,HB3.o⟩
theorem xf (J:Nat)(t1 c1 t2 c2 t3 c3:Value)(j:Jb)(u:Value)(p:List PR)(w:World)(h:dH w t1 c1 t2 c2 t3 c3 j)(hdo:de w)(hJ:Blk w J 27 [t1,c1,t2,c2,t3,c3,.int .i64 j.parts,.int .i64 j.fuel])(hu:RP w u p)(hpl:p.length≤1000000)(hpm:∀ x∈p,x.2.length≤140737488355328):Calls Tryz.prog 70 #[u,.pointer (some ⟨J,0,none⟩)] w fun e w'=>(∃ pv,e=.returned (.tuple #[pv,.int .i64 ((cM j [p]).2.2:Int)])∧recKv.Own w' w.heap.size pv (cM j [p]).1)∧Bw_ w w':=by
 have HP:=zH (fun (rv:Value) w' (hB:Below w.heap.size w w') hrv=>uE t1 c1 t2 c2 t3 c3 rv j [p] w' (h.below hB) (hdo.below hB) hrv (by simp) (by simpa using hpl) (by simpa using hpm));obtain⟨ta,tc,ca,cc,ta2,tc2,ca2,cc2,ta3,tc3,ca3,cc3,rfl,rfl,rfl,rfl,rfl,rfl⟩:=jo_ h.a.t h.a.c h.b.t h.b.c h.c.t h.c.c;obtain⟨ua,uc,rfl,-,-⟩:=hu.open;have HU:=zH hu;clear hu;unfold bM at HP;have hx:=hJ;obtain⟨x0,x1,x2,x3,x4,x5,x6,x7⟩:=cl8 hx;have hJl:=hx.lt;obtain⟨R,hR⟩:=ex_ (cM j [p]);rw[←hR]at HP⊢;clear hR hx hJ h hdo;go_enter Tryz.func70,Tryz.ntmps70;go_wp2_with (go_at_call 53;refine(HP.o _ _ (af _ _) (RR.oneI HU.o)).mono ?_;rintro e w7 ⟨⟨pv,rfl,hrow⟩,hB7⟩;obtain⟨pa,pc,rfl⟩:=ap hrow;have HO7:=zH (Rec.Own.mono hrow (DG (show w.heap.size≤w.heap.size+1 by omega) (Nat.le_of_eq (by rw[bo]))));have HB7:=zH (bt (af _ _) hB7);clear hB7 hrow x0 x1 x2 x3 x4 x5 x6 x7 hJl);go_ret2;exact⟨⟨_,rfl,HO7.o⟩,HB7.o⟩
theorem Gp {T:Prop} (h:T:=by
 intro b hb;have h1:=World.ownsRow.lt HO8.o b hb;refine⟨h1.2,fun e=>?_⟩;obtain⟨CS2,hc2,_⟩:=HG.o;have h2:=World.ownsRow.lt hc2 b e;omega
):T:=h
theorem xg (J:Nat)(t1 c1 t2 c2 t3 c3:Value)(j:Jb)(v:Value)(xs:List (List PR))(w:World)(h:dH w t1 c1 t2 c2 t3 c3 j)(hdo:de w)(hJ:Blk w J 27 [t1,c1,t2,c2,t3,c3,.int .i64 j.parts,.int .i64 j.fuel])(hv:RR w v xs)(hl:xs.length≤1000000)(hm:∀ p∈xs,p.length≤1000000∧∀ x∈p,x.2.length≤140737488355328):Calls Tryz.prog 69 #[v,.func (.func 70) #[] #[.pointer (some ⟨J,0,none⟩)]] w fun e w'=>(∃ a c,e=.returned (.tuple #[.slice a (bi j [] xs).1.length c,.int .i64 ((bi j [] xs).2.2:Int)])∧RR w' (.slice a (bi j [] xs).1.length c) (bi j [] xs).1)∧Bw_ w w':=by
 have HF:=zH (fun (u:Value) (p:List PR) w' (hB:Below w.heap.size w w') (hu:RP w' u p) hpl hpm=>xf J t1 c1 t2 c2 t3 c3 j u p w' (h.below hB) (hdo.below hB) (hJ.below hB) hu hpl hpm);have HXM:=zH hm;obtain⟨av,cv,rfl,_,_,hc⟩:=hv;have HC:=zH hc;go_enter Tryz.func69,Tryz.ntmps69;clear h hdo hJ hc hm;go_wp2_with fail
 go_loopw [4,12] (fun u t wr=>∃ (k:Nat) (out:List (List PR)),k≤xs.length∧out.length≤k∧t=.int .i64 (k:Int)∧Hid (GRP wr w.heap.size u out)∧Hid (bi j out (xs.drop k)=bi j [] xs)∧Hid (Below w.heap.size w wr)) (fun _ t _=>xs.length-(intOf t).toNat)
 case atStart=>exact⟨0,[],D6 _,DC _,rfl,GRP.nil _ _,rfl,DF _ _⟩
 case round =>
  obtain⟨k,out,hk,hok,rfl,HG,HAV,HBR⟩:=hrel;obtain⟨Av,Cv,rfl⟩:=GRP.slice HG.o
  by_cases h0:k<xs.length
  ·obtain⟨b1,o1,u1,rfl,e1,hu1⟩:=HC.o k h0
   have hdr:xs.drop k=xs[k]::xs.drop (k+1):=Dw h0;have hxm:=HXM.o _ (DY h0);obtain⟨x,hxe⟩:=ex_ (xs[k]'h0);rw[←hxe]at hu1 hxm hdr;have HD:=zH hdr;replace e1:=C8 HBR.o e1;have hu2:=hu1.below HBR.o;obtain⟨ua,uc,rfl,-,-⟩:=hu2.open;have HFK:=zH (HF.o _ x wr HBR.o hu2 hxm.1 hxm.2);obtain⟨R,hR⟩:=ex_ (cM j [x]);have HR:=zH hR;rw[←hR]at HFK;have i0:=nn_ k;have i1:(k:Int)<(xs.length:Int):=by omega
   have HHH:=zH h0;have HBZ:=zH (show(out.length+1)*24≤140737488355328 by omega);clear hR hdr hxe h0 hxm hu1 hu2
   by_cases hz:R.2.2=0
   ·have t3:((R.2.2:Int) != 0)=false:=by rw[hz];rfl
    have HQ:=zH (show bi j out (x::xs.drop (k+1))=bi j (out++[R.1]) (xs.drop (k+1)) by rw[HR.o];exact kY (by rw[←HR.o];exact hz));clear hz;go_upto_region 7 with(go_at_call 70;refine HFK.o.mono ?_;rintro e W8 ⟨⟨pv,rfl,hrow⟩,hB7⟩;obtain⟨pa,pc,rfl⟩:=ap hrow;have HO8:=zH hrow;have HB8:=zH hB7;have HG8:=zH (HG.o.below hB7);obtain⟨CS,hcs,hcs2⟩:=HG8.o;have HCS:=zH hcs;have HCS2:=zH hcs2;clear hB7 hrow hcs hcs2);go_wp2_with (at_builtin;(refine jb W8 [.slice pa R.1.length pc] 29 rfl _ _ 32 rfl w.heap.size (.slice none 0 0) 1 24 Tryz.underlying32 iU rfl (by decide) _ out.length CS HCS.o rfl _ rfl rfl (by simp[Value.oneCell']) (by decide) HBZ.o (DG HBR.o.size HB8.o.size) ?_);intro g cap w9 hown9 hfr hgb hB9 hsz9;have HO9:=zH hown9;have HFR:=zH hfr;have HGB:=zH hgb;have HB9:=zH hB9;have HSZ9:=zH hsz9;clear hown9 hfr hgb hB9 hsz9);go_roundw
    case rel =>
     have hout:∀ b,(Value.slice pa R.1.length pc).ownBlock=some b→b<W8.heap.size∧(Value.slice Av out.length Cv).ownBlock≠some b:=by
      exact Gp
     have hsn:=GRP.snoc HCS2.o (by have:=HCS.o.1;omega) (fc (Rec.Own.row (R:=recKv) HO8.o)) hout rfl HO9.o HFR.o HGB.o HSZ9.o;refine⟨k+1,out++[R.1],HHH.o,by rw[DL];simp;omega,by go_num,?_,by rw[←HQ.o,←HD.o];exact HAV.o,HBR.o.trans ((HB8.o.mono HBR.o.size).trans HB9.o)⟩
     first|exact hsn|(rw[DL];exact hsn)
    case measure=>have:=HHH.o;simp[intOf];omega
   ·have t3:((R.2.2:Int) != 0)=true:=by rw[bne_iff_ne];omega
    have HQ:=zH (show bi j [] xs=([],R.2.1,R.2.2) by rw[←HAV.o,HD.o,HR.o];exact jM (by rw[←HR.o];exact hz));clear hz;go_wp2_with (go_at_call 70;refine HFK.o.mono ?_;rintro e W8 ⟨⟨pv,rfl,hrow⟩,hB7⟩;obtain⟨pa,pc,rfl⟩:=ap hrow;have HB8:=zH (bt HBR.o hB7);clear hB7 hrow);go_ret2;rw[HQ.o];exact⟨⟨none,0,rfl,Do _⟩,HB8.o⟩
  ·have i1:¬(k:Int)<(xs.length:Int):=by omega
   have HQ:=zH (show bi j [] xs=(out,[],0) by rw[←HAV.o,Ef (by omega)];rfl);clear h0;go_wp2_with fail;go_ret2;rw[HQ.o];exact⟨⟨_,_,rfl,HG.o.rr⟩,HBR.o⟩
def gE (xs:List (List PR)):LL_:=xs.map fun p=>(iB p).1
def nF (l:LL_):List (List PR):=l.map fun x=>(lk x).getD []
theorem kx (xs:List (List PR)):(gE xs).length=xs.length:=by simp[gE]
theorem nE (l:LL_):(nF l).length=l.length:=by simp[nF]
theorem wQ {xs:List (List PR)}{k:Nat}(h:k<xs.length):bO ((gE xs).take (k+1))=bO ((gE xs).take k)++[.string (bs (iB xs[k]).1)]:=by
 have hk:k<(gE xs).length:=by rw[kx];exact h
 rw[Dz hk];simp[bO,gE]
theorem xu {l:LL_}{k:Nat}(h:k<l.length):(nF l).take (k+1)=(nF l).take k++[(lk l[k]).getD []]:=by
 have hk:k<(nF l).length:=by rw[nE];exact h
 rw[Dz hk];simp[nF]
theorem xe (u:Value)(p:List PR)(w:World)(hu:RP w u p)(hs:(texts (tx p)).length≤1000000000)(hl:p.length≤1000000000):Calls Tryz.prog 100 #[u] w fun e w'=>e=.returned (.tuple #[.string (bs (iB p).1),.int .i64 (iB p).2])∧Bw_ w w':=by
 have HP:=zH (zQ u p w hu hs hl);obtain⟨ua,uc,rfl,-,-⟩:=hu.open;obtain⟨R,hR⟩:=ex_ (iB p);rw[←hR]at HP⊢;unfold txV at HP;clear hR hu hs hl;go_enter Tryz.func100,Tryz.ntmps100;go_wp2_with (go_at_call 44;refine HP.o.mono ?_;rintro e w7 ⟨rfl,hB7⟩;have HB7:=zH hB7;clear hB7);go_ret2;exact⟨rfl,HB7.o⟩
theorem rR (v:Value)(xs:List (List PR))(w:World)(hv:RR w v xs)(hl:xs.length≤1000000)(hm:∀ p∈xs,(iB p).2=0∧(texts (tx p)).length≤1000000000∧p.length≤1000000000):Calls Tryz.prog 99 #[v,.func (.func 100) #[] #[]] w fun e w'=>(∃ a c,e=.returned (.tuple #[.slice a xs.length c,.int .i64 0])∧aJ w' (.slice a xs.length c) xs.length (bO (gE xs)))∧Bw_ w w':=by
 have HF:=zH (fun (u:Value) (p:List PR) w' (hu:RP w' u p) h1 h2=>xe u p w' hu h1 h2);have HXM:=zH hm;obtain⟨av,cv,rfl,_,_,hc⟩:=hv;have HC:=zH hc;go_enter Tryz.func99,Tryz.ntmps99;clear hc hm;go_wp2_with fail
 go_loopw [4,12] (fun u t wr=>∃ (k:Nat),k≤xs.length∧t=.int .i64 (k:Int)∧Hid (wr.ownsRow w.heap.size 9 1 u k (bO ((gE xs).take k)))∧Hid (Below w.heap.size w wr)) (fun _ t _=>xs.length-(intOf t).toNat)
 case atStart=>exact⟨0,D6 _,rfl,World.ownsRow_nil _ _ _ _,DF _ _⟩
 case round =>
  obtain⟨k,hk,rfl,HO,HBR⟩:=hrel;obtain⟨Av,Cv,rfl⟩:=ap HO.o
  by_cases h0:k<xs.length
  ·obtain⟨b1,o1,u1,rfl,e1,hu1⟩:=HC.o k h0
   have hxm:=HXM.o _ (DY h0);have htk:=zH (wQ h0);obtain⟨x,hxe⟩:=ex_ (xs[k]'h0);rw[←hxe]at hu1 hxm htk;replace e1:=C8 HBR.o e1;have hu2:=hu1.below HBR.o;obtain⟨ua,uc,rfl,-,-⟩:=hu2.open;have HFK:=zH (HF.o _ x wr hu2 hxm.2.1 hxm.2.2);have hz:=hxm.1;obtain⟨R,hR⟩:=ex_ (iB x);rw[←hR]at HFK hz htk;obtain⟨Rb,Rz⟩:=R;dsimp only at HFK hz htk;subst hz;have i0:=nn_ k;have i1:(k:Int)<(xs.length:Int):=by omega
   have HHH:=zH h0;have HBZ:=zH (show(k+1)*16≤140737488355328 by omega);clear hR hxe h0 hxm hu1 hu2;go_upto_region 7 with(go_at_call 100;refine HFK.o.mono ?_;rintro e W8 ⟨rfl,hB7⟩;have HB8:=zH hB7;have HO8:=zH (bD HO.o hB7);clear hB7);go_wp2_with (at_builtin;go_must (refine append1 W8 [.string (bs Rb)] 9 rfl _ _ 22 rfl w.heap.size (.string ByteArray.empty) 1 16 Tryz.underlying22 r9 rfl (by decide) (.slice Av k Cv) k _ rfl HO8.o _ rfl rfl (by simp[Value.oneCell']) HBZ.o (by decide) (DG HBR.o.size HB8.o.size) ?_);intro v3 w3 hown3 hB3;obtain⟨g,cap,rfl⟩:=ownsRow_succ hown3;have HO3:=zH hown3;have HB3:=zH hB3;clear hown3 hB3);go_roundw
   case rel =>
    exact⟨k+1,HHH.o,by go_num,by rw[htk.o];exact HO3.o,HBR.o.trans ((HB8.o.mono HBR.o.size).trans HB3.o)⟩
   case measure=>have:=HHH.o;simp[intOf];omega
  ·have i1:¬(k:Int)<(xs.length:Int):=by omega
   obtain rfl:k=xs.length:=by omega
   clear h0;go_wp2_with fail;go_ret2;have ho:=HO.o;rw[DB (by rw[kx];exact DC _)]at ho;exact⟨⟨_,_,rfl,Dd ho⟩,HBR.o⟩
theorem rS (v:Value)(l:LL_)(w:World)(hv:aJ w v l.length (bO l))(hl:l.length≤1000000)(hm:∀ x∈l,(lk x).isSome=true∧x.length≤140737488355328):Calls Tryz.prog 102 #[v,.func (.func 103) #[] #[]] w fun e w'=>(∃ a c,e=.returned (.tuple #[.slice a l.length c,.int .i64 0])∧RR w' (.slice a l.length c) (nF l))∧Bw_ w w':=by
 have HF:=zH (fun (x:LU_) w' h1=>zT x w' h1);have HXM:=zH hm;obtain⟨av,cv,rfl,hc1,hc⟩:=hv;have HC:=zH hc;go_enter Tryz.func102,Tryz.ntmps102;clear hc hm;go_wp2_with fail
 go_loopw [4,12] (fun u t wr=>∃ (k:Nat),k≤l.length∧t=.int .i64 (k:Int)∧Hid (GRP wr w.heap.size u ((nF l).take k))∧Hid (Below w.heap.size w wr)) (fun _ t _=>l.length-(intOf t).toNat)
 case atStart=>exact⟨0,D6 _,rfl,GRP.nil _ _,DF _ _⟩
 case round =>
  obtain⟨k,hk,rfl,HG,HBR⟩:=hrel;have hlk:((nF l).take k).length=k:=by rw[DU,nE];omega
  obtain⟨Av,Cv,hAC⟩:=GRP.slice HG.o;rw[hlk]at hAC;subst hAC
  by_cases h0:k<l.length
  ·have hcx:=HC.o k (.string (bs l[k])) (by rw[bO,List.getElem?_map,List.getElem?_eq_getElem h0];rfl)
   obtain⟨b1,o1,rfl,e1⟩:=hcx;have hxm:=HXM.o _ (DY h0);have htk:=zH (xu h0);obtain⟨x,hxe⟩:=ex_ (l[k]'h0);rw[←hxe]at e1 hxm htk;replace e1:=C8 HBR.o e1;have HFK:=zH (HF.o x wr hxm.2);obtain⟨P,hP⟩:=Option.isSome_iff_exists.mp hxm.1;rw[hP]at HFK htk;have i0:=nn_ k;have i1:(k:Int)<(l.length:Int):=by omega
   have HHH:=zH h0;have HLK:=zH hlk;have HBZ:=zH (show(k+1)*24≤140737488355328 by omega);clear hP hxe h0 hxm hlk;go_upto_region 7 with(go_at_call 103;refine HFK.o.mono ?_;rintro e W8 ⟨⟨pv,rfl,hrow⟩,hB7⟩;obtain⟨pa,pc,rfl⟩:=ap hrow;have HO8:=zH hrow;have HB8:=zH hB7;have HG8:=zH (HG.o.below hB7);obtain⟨CS,hcs,hcs2⟩:=HG8.o;rw[HLK.o]at hcs;have HCS:=zH hcs;have HCS2:=zH hcs2;clear hB7 hrow hcs hcs2);go_wp2_with (at_builtin;(refine jb W8 [.slice pa P.length pc] 29 rfl _ _ 32 rfl w.heap.size (.slice none 0 0) 1 24 Tryz.underlying32 iU rfl (by decide) _ k CS HCS.o rfl _ rfl rfl (by simp[Value.oneCell']) (by decide) HBZ.o (DG HBR.o.size HB8.o.size) ?_);intro g cap w9 hown9 hfr hgb hB9 hsz9;have HO9:=zH hown9;have HFR:=zH hfr;have HGB:=zH hgb;have HB9:=zH hB9;have HSZ9:=zH hsz9;clear hown9 hfr hgb hB9 hsz9);go_roundw
   case rel =>
    have hout:∀ b,(Value.slice pa P.length pc).ownBlock=some b→b<W8.heap.size∧(Value.slice Av k Cv).ownBlock≠some b:=by
     exact Gp
    have hsn:=GRP.snoc HCS2.o (by have:=HCS.o.1;rw[HLK.o];omega) (OP.reads HO8.o) hout (by rw[HLK.o]) (by rw[HLK.o];exact HO9.o) HFR.o HGB.o HSZ9.o;refine⟨k+1,HHH.o,by go_num,by rw[htk.o];exact hsn,HBR.o.trans ((HB8.o.mono HBR.o.size).trans HB9.o)⟩
   case measure=>have:=HHH.o;simp[intOf];omega
  ·have i1:¬(k:Int)<(l.length:Int):=by omega
   obtain rfl:k=l.length:=by omega
   have HG2:=HG.o.rr;rw[DB (by rw[nE];exact DC _)]at HG2;have HG3:=zH HG2;clear h0 HG2 hlk;go_wp2_with fail;go_ret2;exact⟨⟨_,_,rfl,HG3.o⟩,HBR.o⟩
theorem pD (va vb:Value)(Z:List (List PR))(w:World)(ha:RR w va Z)(hb:RR w vb Z)(hl:Z.length≤1000000)(hm:∀ r∈Z,r.length≤140737488355328):Calls Tryz.prog 35 #[va,vb] w fun e w'=>e=.returned (.bool true)∧Bw_ w w':=by
 obtain⟨aa,ca,rfl,-,-,hca⟩:=ha;obtain⟨ab,cb,rfl,-,-,hcb⟩:=hb;have HCA:=zH hca;have HCB:=zH hcb;have HM:=zH hm;clear hca hcb hm;go_enter Tryz.func35,Tryz.ntmps35;go_wp2_with fail
 go_loopw [5] (fun t wr=>∃ k:Nat,k≤Z.length∧t=.int .i64 (k:Int)∧Hid (Below w.heap.size w wr)) (fun t _=>Z.length-(intOf t).toNat)
 case atStart=>exact⟨0,D6 _,rfl,DF _ _⟩
 case round =>
  obtain⟨k,hk,rfl,HB⟩:=hrel
  by_cases h0:k<Z.length
  ·obtain⟨b1,o1,u1,rfl,d1,hu1⟩:=HCA.o k h0
   obtain⟨b2,o2,u2,rfl,d2,hu2⟩:=HCB.o k h0;have hrm:=HM.o _ (DY h0);obtain⟨r,hr⟩:=ex_ (Z[k]'h0);rw[←hr]at hu1 hu2 hrm;replace d1:=C8 HB.o d1;replace d2:=C8 HB.o d2;have hv1:=hu1.below HB.o;have hv2:=hu2.below HB.o;obtain⟨ua,uc,rfl,-,-⟩:=hv1.open;obtain⟨va,vc,rfl,-,-⟩:=hv2.open;have HD1:=zH d1;have HD2:=zH d2;have HU1:=zH hv1;have HU2:=zH hv2;have HRM:=zH hrm;have i0:=nn_ k;have i1:(k:Int)<(Z.length:Int):=by omega
   have HI:=zH h0;clear hr h0 hu1 hu2 hv1 hv2 hrm;go_upto_region 6 with fail;refine rk_ [(3,.exact _ (.slice ua r.length uc)),(7,.exact _ (.slice va r.length vc)),(8,.exact _ (.bool true))] ?_;refine cG ?_;refine gE_ (fun w' G hB hS hG=>?_) (fun K hK=>?_)
   ·have cc:=C8 hB HD1.o
    clear hB hS d1 d2;go_simp;exact hG _ (Bel.refl _)
   refine cO ?_;clear hK K;refine gE_ (fun w' G hB hS hG=>?_) (fun K hK=>?_)
   ·have cc:=C8 hB HD2.o
    clear hB hS d1 d2;go_simp;exact hG _ (Bel.refl _)
   refine cO ?_;clear hK K;refine gE_ (fun w' G hB hS hG=>?_) (fun K hK=>?_)
   ·have hu:=tH _ _ r r w' (HU1.o.below hB) (HU2.o.below hB) HRM.o HRM.o
    rw[decide_eq_true rfl]at hu;clear hB hS d1 d2;go_simp;exact aO hG hu
   refine cO ?_;clear hK K;refine dm ?_;intro w12 hB12 hA12;have HB12:=zH (bt HB.o hB12);clear hA12 hB12 d1 d2;go_wp2_with fail;go_roundw
   case rel=>exact⟨k+1,HI.o,by go_num,HB12.o⟩
   case measure=>have:=HI.o;simp[intOf];omega
  ·have i1:¬(k:Int)<(Z.length:Int):=by omega
   clear h0;go_wp2_with fail;go_ret;exact⟨rfl,HB.o⟩
theorem jN {j:Jb}{text:LU_}(hz:(bC j text).2.2=0):bJ j=true:=by
 cases h:bJ j with
 | true=>rfl
 | false =>
  rw[kZ (by rw[h];decide)]at hz;exact absurd hz (by decide)
theorem nr {j:Jb}{text:LU_}(h:(bC j text).2.2≠0):iD j text=([],(bC j text).2):=if_pos h
theorem lf {j:Jb}{text:LU_}(h:(bC j text).2.2=0)(h2:(bi j [] (splitP (bC j text).1 j.parts.toNat)).2.2≠0):iD j text=([],(bY text).length,(bi j [] (splitP (bC j text).1 j.parts.toNat)).2.2):=(if_neg (fun q=>q h)).trans (if_pos h2)
theorem qb {j:Jb}{text:LU_}(h:(bC j text).2.2=0)(h2:(bi j [] (splitP (bC j text).1 j.parts.toNat)).2.2=0):iD j text=((bi j [] (splitP (bC j text).1 j.parts.toNat)).1,0,0):=(if_neg (fun q=>q h)).trans (if_neg (fun q=>q h2))
theorem nv (t1 c1 t2 c2 t3 c3:Value)(j:Jb)(text:LU_)(w:World)(h:dH w t1 c1 t2 c2 t3 c3 j)(hdo:de w)(ht:text.length≤3000):Calls Tryz.prog 32 #[bM t1 c1 t2 c2 t3 c3 j,.string (bs text)] w fun e w'=>(∃ a c,e=.returned (.tuple #[.slice a (iD j text).1.length c,.int .i64 ((iD j text).2.1:Int),.int .i64 ((iD j text).2.2:Int)])∧RR w' (.slice a (iD j text).1.length c) (iD j text).1)∧Bw_ w w':=by
 have HPP:=zH (fun w' (hB:Below w.heap.size w w')=>nu t1 c1 t2 c2 t3 c3 j text w' (h.below hB) (hdo.below hB) (DG ht (by decide)));have HEA:=zH (fun (J:Nat) (u:Value) ps w' (hB:Below w.heap.size w w') hJ hu h1 h2=>xg J t1 c1 t2 c2 t3 c3 j u ps w' (h.below hB) (hdo.below hB) hJ hu h1 h2);have HRC:=zH (fun w'=>lX text w' (DG ht (by decide)));have HOK:=zH (o9 j text);have HMY:=zH (fun hz=>jN (j:=j) (text:=text) hz);have HTL:=zH (DG (ii j text) (Nat.mul_le_mul_left 256 ht));have HBAD:=zH (nr (j:=j) (text:=text));have HHALF:=zH (lf (j:=j) (text:=text));have HOKJ:=zH (qb (j:=j) (text:=text));obtain⟨ta,tc,ca,cc,ta2,tc2,ca2,cc2,ta3,tc3,ca3,cc3,rfl,rfl,rfl,rfl,rfl,rfl⟩:=jo_ h.a.t h.a.c h.b.t h.b.c h.c.t h.c.c;unfold bM at HPP⊢;obtain⟨W1,hW1⟩:=ex_ (w.alloc (.cells #[.slice ta j.mt.length tc,.slice ca j.mc.length cc,.slice ta2 j.jt.length tc2,.slice ca2 j.jc.length cc2,.slice ta3 j.tt.length tc3,.slice ca3 j.tc.length cc3,.int .i64 j.parts,.int .i64 j.fuel] 27));have hb1:=ba_ hW1;obtain⟨J,hJ⟩:=ex_ w.heap.size;have hx:=bn_ hJ hW1;obtain⟨x0,x1,x2,x3,x4,x5,x6,x7⟩:=cl8 hx;have HB1:=zH hb1;have HX1:=zH hx;go_enter Tryz.func32,Tryz.ntmps32;go_upto_region 1 with fail;rw[←hW1,←hJ];clear hW1 hJ hb1 hx h hdo ht;obtain⟨R,hR⟩:=ex_ (bC j text);rw[←hR]at HPP HOK HMY HTL HBAD HHALF HOKJ;clear hR
 by_cases hz:R.2.2=0
 ·have t2:((R.2.2:Int) != 0)=false:=by rw[hz];rfl
  obtain⟨m,hpm,hm1,hm2⟩:=jQ (HMY.o hz);have HF1:=zH (HHALF.o hz);have HF2:=zH (HOKJ.o hz);rw[hpm,DI]at HF1 HF2;have HMB:=zH (show np (m:Int)=true from AB hm1 hm2);have HLE:=zH (show R.1.length≤1000000 from DG HTL.o (by decide));have HSP:=zH (jG R.1 m);have HSL:=zH (jH R.1 m);have HQ1:=zH (show ∀ p∈splitP R.1 m,p.length≤1000000∧∀ x∈p,x.2.length≤140737488355328 from fun p hp=>⟨DG (HSP.o p hp).2 HLE.o,fun x hx=>DG (HOK.o x ((HSP.o p hp).1 x hx)).2 (by decide)⟩);have HSS:=zH (fun u w' hu=>xG u R.1 (m:Int) w' hu HLE.o (fun p hp=>DG (HOK.o p hp).1 (by decide)));rw[hpm]at HPP HX1 HEA x6;have HML:=zH (show m≤1000000 by omega);clear hz hpm HBAD HHALF HOKJ;go_upto_region 4 with(go_at_call 30;refine(HPP.o _ HB1.o).mono ?_;rintro e w7 ⟨⟨pv,rfl,hro⟩,hB7⟩;obtain⟨pa,pc,rfl⟩:=ap hro;have HO7:=zH hro;have HX7:=zH (HX1.o.below hB7);have HB7:=zH (bt HB1.o hB7);clear hB7 hro x0 x1 x2 x3 x4 x5 x6 x7);have x6:=HX7.o.cell (k:=6) rfl;have hJl8:=HX7.o.lt;go_upto_region 5 with(go_at_call 68;refine(HSS.o _ _ (fc HO7.o.row)).mono ?_;rintro e w9 ⟨hres,hB9⟩;unfold SplitRes at hres;rw[HMB.o,if_pos rfl]at hres;obtain⟨D,rfl,hD,hor⟩:=hres;simp only[DI];rw[DI]at hor;have HOR:=zH hor.rr;have HX9:=zH (HX7.o.below hB9);have HB9:=zH (bt HB7.o hB9);clear hD hor hB9 x6 hJl8);have HEA2:=zH (fun (v:Value) w' hB hJ hu=>HEA.o J v (splitP R.1 m) w' hB hJ hu (by rw[HSL.o];exact HML.o) HQ1.o);obtain⟨Q,hQ⟩:=ex_ (bi j [] (splitP R.1 m));rw[←hQ]at HEA2 HF1 HF2;rw[HSL.o]at HOR;clear hQ
  by_cases hq:Q.2.2=0
  ·have t3:((Q.2.2:Int) != 0)=false:=by rw[hq];rfl
   have HWW:=zH (HF2.o hq);clear hq;go_wp2_with (go_at_call 69;refine(HEA2.o _ _ HB9.o HX9.o HOR.o).mono ?_;rintro e w10 ⟨⟨qa,qc,rfl,hrr⟩,hB10⟩;have HRR:=zH hrr;have HB10:=zH (bt HB9.o hB10);clear hrr hB10);go_ret3;rw[HWW.o];exact⟨⟨_,_,rfl,HRR.o⟩,HB10.o⟩
  ·have t3:((Q.2.2:Int) != 0)=true:=by rw[bne_iff_ne];omega
   have HWW:=zH (HF1.o hq);clear hq;go_wp2_with (first|(go_at_call 62;refine(HRC.o _).mono ?_;rintro e w11 ⟨⟨rv,rfl,hro⟩,hB11⟩;obtain⟨ra,rc,rfl⟩:=ap hro;have HB11:=zH (bt HB10.o hB11);clear hro hB11)|(go_at_call 69;refine(HEA2.o _ _ HB9.o HX9.o HOR.o).mono ?_;rintro e w10 ⟨⟨qa,qc,rfl,hrr⟩,hB10⟩;have HRR:=zH hrr;have HB10:=zH (bt HB9.o hB10);clear hrr hB10));go_ret3;rw[HWW.o];exact⟨⟨none,0,rfl,Do _⟩,HB11.o⟩
 ·have t2:((R.2.2:Int) != 0)=true:=by rw[bne_iff_ne];omega
  have HWW:=zH (HBAD.o hz);clear hz;go_wp2_with (go_at_call 30;refine(HPP.o _ HB1.o).mono ?_;rintro e w7 ⟨⟨pv,rfl,hro⟩,hB7⟩;obtain⟨pa,pc,rfl⟩:=ap hro;have HB7:=zH (bt HB1.o hB7);clear hB7 hro x0 x1 x2 x3 x4 x5 x6 x7);go_ret3;rw[HWW.o];exact⟨⟨none,0,rfl,Do _⟩,HB7.o⟩
theorem AC (v:Value)(xs:List (List PR))(w:World)(hv:RR w v xs)(hl:xs.length≤1000000)(hm:∀ p∈xs,(iB p).2=0∧(texts (tx p)).length≤1000000000∧p.length≤1000000000)(ht:(texts (gE xs)).length≤1000000000):Calls Tryz.prog 59 #[v] w fun e w'=>e=.returned (.tuple #[.string (bs (row (gE xs)).1),.int .i64 (row (gE xs)).2])∧Bw_ w w':=by
 have HP:=zH (rR v xs w hv hl hm);have HRW:=zH (fun (v:Value) w' (h:aJ w' v xs.length (bO (gE xs)))=>vq v (gE xs) w' (by rw[kx];exact h) ht (by rw[kx];omega));obtain⟨R,hR⟩:=ex_ (row (gE xs));rw[←hR]at HRW⊢;unfold txV at HRW;obtain⟨av,cv,rfl,-,-,-⟩:=hv;obtain⟨TB,hTB⟩:=ex_ (bO (gE xs));rw[←hTB]at HRW HP;clear hR hl hm ht hTB;go_enter Tryz.func59,Tryz.ntmps59;go_wp2_with (first|(go_at_call 45;refine(HRW.o _ _ HR2.o).mono ?_;rintro e w3 ⟨rfl,hB3⟩;have HB3:=zH (bt HB2.o hB3);clear hB3)|(go_at_call 99;refine HP.o.mono ?_;rintro e w2 ⟨⟨a2,c2,rfl,hr2⟩,hB2⟩;have HB2:=zH hB2;have HR2:=zH hr2;clear hr2 hB2));go_ret2;exact⟨rfl,HB3.o⟩
theorem AD (s:LU_)(l:LL_)(w:World)(hs:s.length≤140737488355328)(hr:ib s=some l)(hl:l.length≤1000000)(hm:∀ x∈l,(lk x).isSome=true∧x.length≤140737488355328):Calls Tryz.prog 60 #[.string (bs s)] w fun e w'=>(∃ a c,e=.returned (.tuple #[.slice a l.length c,.int .i64 0])∧RR w' (.slice a l.length c) (nF l))∧Bw_ w w':=by
 have HP:=lY s w hs;rw[hr]at HP;replace HP:=zH HP;have HE:=zH (fun (v:Value) w' (h:aJ w' v l.length (bO l))=>rS v l w' h hl hm);clear hr hl hm hs;go_enter Tryz.func60,Tryz.ntmps60;go_wp2_with (first|(go_at_call 101;refine HP.o.mono ?_;rintro e w2 ⟨⟨v2,rfl,hr2⟩,hB2⟩;have HR2:=zH (Dd hr2);obtain⟨a2,c2,rfl⟩:=ap hr2;have HB2:=zH hB2;clear hr2 hB2)|(go_at_call 102;refine(HE.o _ _ HR2.o).mono ?_;rintro e w3 ⟨⟨a3,c3,rfl,hr3⟩,hB3⟩;have HB3:=zH (bt HB2.o hB3);have HR3:=zH hr3;clear hr3 hB3));go_ret2;exact⟨⟨_,_,rfl,HR3.o⟩,HB3.o⟩
theorem AE (s:LU_)(w:World)(hs:s.length≤140737488355328)(hr:ib s=none):Calls Tryz.prog 60 #[.string (bs s)] w fun e w'=>e=.returned (.tuple #[.slice none 0 0,.int .i64 7])∧Bw_ w w':=by
 have HP:=lY s w hs;rw[hr]at HP;replace HP:=zH HP;clear hr hs;go_enter Tryz.func60,Tryz.ntmps60;go_wp2_with (go_at_call 101;refine HP.o.mono ?_;rintro e w2 ⟨rfl,hB2⟩;have HB2:=zH hB2;clear hB2);go_ret2;exact⟨rfl,HB2.o⟩
def m19:List (List PR):=[[([97],[50]),([98],[49])]]
def s19:LU_:=(row (gE m19)).1
theorem BV:iD (i8 1) [97,10,98,10,97]=(m19,0,0):=by decide +kernel
theorem BU:row (gE m19)=(s19,0):=by decide +kernel
theorem BT:ib s19=some (gE m19):=by decide +kernel
theorem BS:nF (gE m19)=m19:=by decide +kernel
theorem BR:iD zp []=([],0,2):=by decide +kernel
theorem BQ:rX zp []=([],2):=by decide +kernel
theorem BO:ib [120]=none:=by decide +kernel
theorem BN:∀ p∈m19,(iB p).2=0∧(texts (tx p)).length≤1000000000∧p.length≤1000000000:=by decide +kernel
theorem BM:∀ x∈gE m19,(lk x).isSome=true∧x.length≤140737488355328:=by decide +kernel
theorem sJ (w:World)(hE:jy w)(hg:1<w.heap.size)(hG:cU w)(hdo:de w):Calls Tryz.prog 29 #[] w fun e w'=>e=.returned (.bool true)∧Bw_ w w':=by
 have HC:=zH (xN 1 w);have HJ:=zH (fun e w' (hB:Below w.heap.size w w') (hc:qu 1 w.heap.size e w')=>hc.job (by decide) (by decide) (hE.below hB hg) (Dv hg hB.size) (hG.below hB));have HDO:=zH (fun w' (hB:Below w.heap.size w w')=>hdo.below hB)
 have HJZ:=zH (fun w' (hB:Below w.heap.size w w')=>show dH w' (.slice none 0 0) (.slice none 0 0) (.slice none 0 0) (.slice none 0 0) (.slice none 0 0) (.slice none 0 0) zp from
   ⟨⟨Rec.Row.nil _,Rec.Row.nil _,D6 _,D6 _,fun s hs=>(by cases hs),hE.below hB hg,Dv hg hB.size⟩,⟨Rec.Row.nil _,Rec.Row.nil _,D6 _,D6 _,fun s hs=>(by cases hs),hE.below hB hg,Dv hg hB.size⟩,
    ⟨Rec.Row.nil _,Rec.Row.nil _,D6 _,D6 _,fun s hs=>(by cases hs),hE.below hB hg,Dv hg hB.size⟩,by decide,by decide,by decide,by decide,hG.below hB⟩)
 have HM1:=zH (fun w1 (hB1:Below w.heap.size w w1) (a1:Option Addr) (k1:Nat) (a2:Option Addr) (k2:Nat) (a3:Option Addr) (k3:Nat) (hj:dH w1 (.slice none 0 0) (.slice a1 4 k1) (.slice none 0 0) (.slice a2 6 k2) (.slice none 0 0) (.slice a3 3 k3) (i8 1)) w' (hB:Below w1.heap.size w1 w')=>show Calls Tryz.prog 32 #[.agg #[.slice none 0 0,.slice a1 4 k1,.slice none 0 0,.slice a2 6 k2,.slice none 0 0,.slice a3 3 k3,.int .i64 1,.int .i64 100],.string ⟨#[97,10,98,10,97]⟩] w' fun e w''=>(∃ a c,e=.returned (.tuple #[.slice a 1 c,.int .i64 0,.int .i64 0])∧RR w'' (.slice a 1 c) m19)∧Below w'.heap.size w' w'' by
  have h:=nv _ _ _ _ _ _ (i8 1) [97,10,98,10,97] w' (hj.below hB) (hdo.below (bt hB1 hB)) (by decide);rw[BV]at h;exact h)
 have HMZ:=zH (fun w' (hB:Below w.heap.size w w')=>show Calls Tryz.prog 32 #[.agg #[.slice none 0 0,.slice none 0 0,.slice none 0 0,.slice none 0 0,.slice none 0 0,.slice none 0 0,.int .i64 0,.int .i64 0],.string ⟨#[]⟩] w' fun e w''=>(∃ ta tc,e=.returned (.tuple #[.slice ta 0 tc,.int .i64 0,.int .i64 2]))∧Below w'.heap.size w' w'' by
  have h:=nv _ _ _ _ _ _ zp [] w' (HJZ.o w' hB) (hdo.below hB) (by decide);rw[BR]at h;refine h.mono ?_;rintro e w'' ⟨⟨ta,tc,rfl,_⟩,hB2⟩;exact⟨⟨ta,tc,rfl⟩,hB2⟩)
 have HKZ:=zH (fun w' (hB:Below w.heap.size w w')=>show Calls Tryz.prog 34 #[.agg #[.slice none 0 0,.slice none 0 0,.slice none 0 0,.slice none 0 0,.slice none 0 0,.slice none 0 0,.int .i64 0,.int .i64 0],.string ⟨#[]⟩] w' fun e w''=>e=.returned (.tuple #[.string ⟨#[]⟩,.int .i64 2])∧Below w'.heap.size w' w'' by
  have h:=rQ _ _ _ _ _ _ zp [] w' (HJZ.o w' hB) (by decide);rw[BQ]at h;exact h)
 have HPU:=zH (fun (v:Value) w' (hv:RR w' v m19)=>show Calls Tryz.prog 59 #[v] w' fun e w''=>e=.returned (.tuple #[.string (bs s19),.int .i64 0])∧Below w'.heap.size w' w'' by
  have h:=AC v m19 w' hv (by decide) BN (by decide +kernel);rw[BU]at h;exact h)
 have HGE:=zH (fun w'=>show Calls Tryz.prog 60 #[.string (bs s19)] w' fun e w''=>(∃ a c,e=.returned (.tuple #[.slice a 1 c,.int .i64 0])∧RR w'' (.slice a 1 c) m19)∧Below w'.heap.size w' w'' by
  have h:=AD s19 (gE m19) w' (by decide +kernel) BT (by decide) BM;rw[BS]at h;exact h)
 have HGX:=zH (fun w'=>show Calls Tryz.prog 60 #[.string ⟨#[120]⟩] w' fun e w''=>e=.returned (.tuple #[.slice none 0 0,.int .i64 7])∧Below w'.heap.size w' w'' from AE [120] w' (by decide) BO);have HSE:=zH (fun (va vb:Value) w' (ha:RR w' va m19) (hb:RR w' vb m19)=>show Calls Tryz.prog 35 #[va,vb] w' fun e w''=>e=.returned (.bool true)∧Below w'.heap.size w' w'' from pD va vb m19 w' ha hb (by decide) (by decide))
 have HS1:=zH (fun w' (va:Value) (hv:RR w' va m19)=>show Calls Tryz.prog 35 #[va,.slice (some ⟨w'.heap.size+1,0,none⟩) 1 1] ((w'.alloc (.cells #[.string ⟨#[97]⟩,.string ⟨#[50]⟩,.string ⟨#[98]⟩,.string ⟨#[49]⟩] 70)).alloc (.cells #[.slice (some ⟨w'.heap.size,0,none⟩) 2 2] 29)) fun e w''=>e=.returned (.bool true)∧Below w'.heap.size w' w'' by
  have hbb:=bt (af w' (.cells #[.string ⟨#[97]⟩,.string ⟨#[50]⟩,.string ⟨#[98]⟩,.string ⟨#[49]⟩] 70)) (af _ (.cells #[.slice (some ⟨w'.heap.size,0,none⟩) 2 2] 29));have hr:=RR.oneI (RP.new w' [([97],[50]),([98],[49])] 70);have hz:(w'.alloc (.cells (aU [([97],[50]),([98],[49])]).toArray 70)).heap.size=w'.heap.size+1:=by simp
  rw[hz]at hr;exact(HSE.o va _ _ (hv.below hbb) hr).mono fun e w'' h=>⟨h.1,bt hbb h.2⟩)
 obtain⟨S,hS⟩:=ex_ s19;rw[←hS]at HPU HGE;obtain⟨M,hM⟩:=ex_ m19;rw[←hM]at HPU HGE HM1 HS1 HSE;clear hE hg hG hdo hS hM;go_enter Tryz.func29,Tryz.ntmps29
 go_upto_region 2 with(first
  | (go_at_call 32;refine(HMP.o _ (dM _)).mono ?_;rintro e w2 ⟨⟨a4,k4,rfl,hr2⟩,hB2⟩;have HB2:=zH (bt HB1.o hB2);have HR2:=zH hr2;clear hr2 hB2 HMP)
  | (go_at_call 37;refine HC.o.mono ?_;rintro e w1 ⟨hc,hB1⟩;obtain⟨a1,k1,a2,k2,a3,k3,rfl,hj⟩:=HJ.o e w1 hB1 hc;have HB1:=zH hB1;have HMP:=zH (fun w' (hB:Below w1.heap.size w1 w')=>HM1.o w1 hB1 a1 k1 a2 k2 a3 k3 hj w' hB);clear hc hj hB1 HC HJ HM1))
 go_wp2_with (first
  | (go_at_call 59;refine(HPU.o _ _ HR2.o).mono ?_;rintro e w3 ⟨rfl,hB⟩;have HB3:=zH (bt HB2.o hB);have HR3:=zH (HR2.o.below hB);clear HPU hB)
  | (go_at_call 60;refine(HGE.o w3).mono ?_;rintro e w4 ⟨⟨a5,k5,rfl,hr4⟩,hB⟩;have HB4:=zH (bt HB3.o hB);have HR4:=zH (HR3.o.below hB);have HG4:=zH hr4;clear HGE hr4 hB HR3)
  | (go_at_call 32;refine(HMZ.o w4 HB4.o).mono ?_;rintro e w5 ⟨⟨a6,k6,rfl⟩,hB⟩;have HB5:=zH (bt HB4.o hB);have HR5:=zH (HR4.o.below hB);have HG5:=zH (HG4.o.below hB);clear HMZ hB)
  | (go_at_call 60;refine(HGX.o w5).mono ?_;rintro e w6 ⟨rfl,hB⟩;have HB6:=zH (bt HB5.o hB);have HR6:=zH (HR5.o.below hB);have HG6:=zH (HG5.o.below hB);clear HGX hB)
  | (go_at_call 34;refine(HKZ.o w6 HB6.o).mono ?_;rintro e w7 ⟨rfl,hB⟩;have HB7:=zH (bt HB6.o hB);have HR7:=zH (HR6.o.below hB);have HG7:=zH (HG6.o.below hB);clear HKZ hB)
  | (go_at_call 35;refine(HS1.o w7 _ HR7.o).mono ?_;rintro e w8 ⟨rfl,hB⟩;have HB8:=zH (bt HB7.o hB);have HR8:=zH (HR7.o.below hB);have HG8:=zH (HG7.o.below hB);clear HS1 hB)
  | (go_at_call 35;refine(HSE.o _ _ w8 HR8.o HG8.o).mono ?_;rintro e w9 ⟨rfl,hB⟩;have HB9:=zH (bt HB8.o hB);clear hB))
 go_ret;exact⟨rfl,HB9.o⟩
theorem tL (t1 c1 t2 c2 t3 c3:Value)(j:Jb)(text:LU_)(w:World)(h:dH w t1 c1 t2 c2 t3 c3 j)(ht:text.length≤3000):Calls Tryz.prog 33 #[bM t1 c1 t2 c2 t3 c3 j,.string (bs text)] w fun e w'=>(∃ a c,e=.returned (.tuple #[.slice a (iD j text).1.length c,.int .i64 ((iD j text).2.1:Int),.int .i64 ((iD j text).2.2:Int)])∧RR w' (.slice a (iD j text).1.length c) (iD j text).1)∧Bw_ w w':=by
 have HPP:=zH (fun w' (hB:Below w.heap.size w w')=>kt t1 c1 t2 c2 t3 c3 j text w' (h.below hB) (DG ht (by decide)));have HRR:=zH (fun (u:Value) (p:List PR) w' (hB:Below w.heap.size w w') hu (h1:p.length≤1000000) (h2:∀ x∈p,x.2.length≤140737488355328)=>rt t1 c1 t2 c2 t3 c3 u j [p] w' (h.below hB) hu (by simp) (by simpa using h1) (by simpa using h1) (by simpa using h2));have HRC:=zH (fun w'=>kr text w' (DG ht (by decide)));have HOK:=zH (o9 j text);have HMY:=zH (fun hz=>jN (j:=j) (text:=text) hz);have HTL:=zH (DG (ii j text) (Nat.mul_le_mul_left 256 ht));have HBAD:=zH (nr (j:=j) (text:=text));have HHALF:=zH (lf (j:=j) (text:=text));have HOKJ:=zH (qb (j:=j) (text:=text));obtain⟨ta,tc,ca,cc,ta2,tc2,ca2,cc2,ta3,tc3,ca3,cc3,rfl,rfl,rfl,rfl,rfl,rfl⟩:=jo_ h.a.t h.a.c h.b.t h.b.c h.c.t h.c.c;unfold bM at HPP HRR⊢;obtain⟨W1,hW1⟩:=ex_ (w.alloc (.cells #[.slice ta j.mt.length tc,.slice ca j.mc.length cc,.slice ta2 j.jt.length tc2,.slice ca2 j.jc.length cc2,.slice ta3 j.tt.length tc3,.slice ca3 j.tc.length cc3,.int .i64 j.parts,.int .i64 j.fuel] 27));have hb1:=ba_ hW1;obtain⟨J,hJ⟩:=ex_ w.heap.size;have hx:=bn_ hJ hW1;obtain⟨x0,x1,x2,x3,x4,x5,x6,x7⟩:=cl8 hx;have HB1:=zH hb1;have HX1:=zH hx;go_enter Tryz.func33,Tryz.ntmps33;go_upto_region 1 with fail;rw[←hW1,←hJ];clear hW1 hJ hb1 hx h ht;obtain⟨R,hR⟩:=ex_ (bC j text);rw[←hR]at HPP HOK HMY HTL HBAD HHALF HOKJ;clear hR
 by_cases hz:R.2.2=0
 ·have t2:((R.2.2:Int) != 0)=false:=by rw[hz];rfl
  obtain⟨m,hpm,hm1,hm2⟩:=jQ (HMY.o hz);have HF1:=zH (HHALF.o hz);have HF2:=zH (HOKJ.o hz);rw[hpm,DI]at HF1 HF2;have HLE:=zH (show R.1.length≤1000000 from DG HTL.o (by decide));have HSP:=zH (jG R.1 m);have HSL:=zH (jH R.1 m);have HQ1:=zH (show ∀ p∈splitP R.1 m,p.length≤1000000∧∀ x∈p,x.2.length≤140737488355328 from fun p hp=>⟨DG (HSP.o p hp).2 HLE.o,fun x hx=>DG (HOK.o x ((HSP.o p hp).1 x hx)).2 (by decide)⟩);have HSS:=zH (fun u w' hu=>tF u R.1 m w' hu HLE.o (fun p hp=>DG (HOK.o p hp).1 (by decide)) hm1 hm2);rw[hpm]at HPP HX1 HRR x6;have hm3:m≤1000000:=by omega
  clear hz hpm hm1 hm2 HBAD HHALF HOKJ;go_upto_region 4 with(go_at_call 31;refine(HPP.o _ HB1.o).mono ?_;rintro e w7 ⟨⟨pv,rfl,hro⟩,hB7⟩;obtain⟨pa,pc,rfl⟩:=ap hro;have HO7:=zH hro;have HX7:=zH (HX1.o.below hB7);have HB7:=zH (bt HB1.o hB7);clear hB7 hro x0 x1 x2 x3 x4 x5 x6 x7);have x6:=HX7.o.cell (k:=6) rfl;have hJl8:=HX7.o.lt;go_upto_region 5 with(go_at_call 71;refine(HSS.o _ _ (fc HO7.o.row)).mono ?_;rintro e w9 ⟨D,rfl,hD,hor,hB9⟩;have HOR:=zH hor.rr;have HX9:=zH (HX7.o.below hB9);have HB9:=zH (bt HB7.o hB9);clear hD hor hB9 x6 hJl8);obtain⟨xs,hxs⟩:=ex_ (splitP R.1 m);have hxl:xs.length=m:=by rw[hxs];exact HSL.o
  rw[←hxs]at HOR HQ1 HF1 HF2;rw[←hxl];rw[←hxl]at HX9 HRR hm3;clear hxs HSP HSL HSS HMY HTL HOK HX7 HX1;obtain⟨_,_,hv9,_,_,hc9⟩:=HOR.o;injection hv9 with q1 _ q3
  subst q1 q3;have HC9:=zH hc9;clear hc9 hxl;go_upto_region 7 with fail
  go_loopw [11,12] (fun u t wr=>∃ (k:Nat) (out:List (List PR)),k≤xs.length∧out.length≤k∧t=.int .i64 (k:Int)∧Hid (GRP wr w9.heap.size u out)∧Hid (bi j out (xs.drop k)=bi j [] xs)∧Hid (Below w9.heap.size w9 wr)) (fun _ t _=>xs.length-(intOf t).toNat)
  case atStart=>exact⟨0,[],D6 _,DC _,rfl,GRP.nil _ _,rfl,DF _ _⟩
  case round =>
   obtain⟨k,out,hk,hok,rfl,HG,HAV,HBR⟩:=hrel;obtain⟨Av,Cv,rfl⟩:=GRP.slice HG.o
   by_cases h0:k<xs.length
   ·obtain⟨b1,o1,u1,hA,e1,hu1⟩:=HC9.o k h0
    cases hA
    rw[DE]at e1;have hdr:xs.drop k=xs[k]::xs.drop (k+1):=Dw h0;have hxm:=HQ1.o _ (DY h0);obtain⟨x,hxe⟩:=ex_ (xs[k]'h0);rw[←hxe]at hxm hdr hu1;have HD:=zH hdr;replace e1:=C8 HBR.o e1;have hu2:=hu1.below HBR.o;obtain⟨ua,uc,rfl,-,-⟩:=hu2.open;have hxx:=HX9.o.below HBR.o;obtain⟨x0,x1,x2,x3,x4,x5,x6,x7⟩:=cl8 hxx;have hJl:=hxx.lt;have hDl:D<wr.heap.size:=aD e1;obtain⟨R,hR⟩:=ex_ (cM j [x]);have HR:=zH hR;have HFK:=zH (fun (v:Value) w' (hB:Below w.heap.size w w') (hv:RR w' v [x])=>show Calls Tryz.prog 72 _ w' fun e w''=>(∃ pv,e=.returned (.tuple #[pv,.string (bs R.2.1),.int .i64 (R.2.2:Int)])∧recKv.Own w'' w'.heap.size pv R.1)∧Below w'.heap.size w' w'' by have q:=HRR.o v x w' hB hv hxm.1 hxm.2;rw[←hR]at q;exact q);have HU2:=zH hu2;have HXX:=zH hxx;have HE1x:=zH e1;have HBX:=zH (bt HB9.o HBR.o);have i0:=nn_ k;have i1:(k:Int)<(xs.length:Int):=by omega
    have HHH:=zH h0;have HBZ:=zH (show(out.length+1)*24≤140737488355328 by omega);have HWS:=zH (show w.heap.size≤w9.heap.size from HB9.o.size);clear hR hdr hxe h0 hxm hxx hu1 hu2;go_upto_region 9 with fail;refine rk_ [(0,.exact _ (.agg #[.slice ta j.mt.length tc,.slice ca j.mc.length cc,.slice ta2 j.jt.length tc2,.slice ca2 j.jc.length cc2,.slice ta3 j.tt.length tc3,.slice ca3 j.tc.length cc3,.int .i64 (xs.length:Int),.int .i64 j.fuel])),(4,.exact _ (.slice ua x.length uc)),(5,uf x),(6,zo wr.heap.size R.1 (.string (bs R.2.1)) (.int .i64 (R.2.2:Int)))] ?_;refine cG ?_;refine gE_ (fun w' G hB hS hG=>?_) (fun K hK=>?_)
    ·have hx:=HXX.o.below hB
     obtain⟨y0,y1,y2,y3,y4,y5,y6,y7⟩:=cl8 hx;clear hB hS hx x0 x1 x2 x3 x4 x5 x6 x7 e1;go_simp;exact hG _ (Bel.refl _)
    refine cO ?_;clear hK K;refine gE_ (fun w' G hB hS hG=>?_) (fun K hK=>?_)
    ·have y:=C8 hB HE1x.o
     clear hB hS x0 x1 x2 x3 x4 x5 x6 x7 e1;go_simp;exact hG _ (Bel.refl _)
    refine cO ?_;clear hK K;refine gk_ (uf x) (fun w' G hB hS hG=>?_) (fun (q5:Nat) K hK=>?_)
    ·have hq:=RR.oneI (HU2.o.below hB)
     clear hB hS x0 x1 x2 x3 x4 x5 x6 x7 e1;go_simp;exact hG w'.heap.size _ (af _ _) (fun φ h=>by cases h;exact hq)
    refine cO ?_;clear hK K;refine gk_ (zo wr.heap.size R.1 (.string (bs R.2.1)) (.int .i64 (R.2.2:Int))) (fun w' G hB hS hG=>?_) (fun (q6:Option Addr×Nat) K hK=>?_)
    ·have hrr:RR w' (.slice (some ⟨q5,0,none⟩) 1 1) [x]:=at0 hS (by kernel_rfl)
     have hu:=HFK.o _ w' (bt HBX.o hB) hrr;have HSZ:=zH (show wr.heap.size≤w'.heap.size from hB.size);clear hB hS hrr x0 x1 x2 x3 x4 x5 x6 x7 e1;go_simp;refine hu.mono ?_;rintro e w'' ⟨⟨pv,rfl,ho⟩,hB2⟩;obtain⟨pa,pc,rfl⟩:=ap ho;exact⟨_,rfl,hG (pa,pc) w'' hB2 (fun φ h=>by cases h;exact Rec.Own.mono ho HSZ.o)⟩
    obtain⟨pa,pc⟩:=q6;refine cO ?_;clear hK K;refine dm ?_;intro W8 hB8 hA8;have HO8:=zH (show recKv.Own W8 wr.heap.size (.slice pa R.1.length pc) R.1 from oA hA8);have HB8:=zH (show Below wr.heap.size wr W8 from hB8);have HG8:=zH (HG.o.below HB8.o);obtain⟨CS,hcs,hcs2⟩:=HG8.o;have HCS:=zH hcs;have HCS2:=zH hcs2;clear hA8 hB8 hcs hcs2 x0 x1 x2 x3 x4 x5 x6 x7 e1 hJl hDl
    by_cases hz:R.2.2=0
    ·have t3:((R.2.2:Int) != 0)=false:=by rw[hz];rfl
     have HQ:=zH (show bi j out (x::xs.drop (k+1))=bi j (out++[R.1]) (xs.drop (k+1)) by rw[HR.o];exact kY (by rw[←HR.o];exact hz));clear hz
     all_goals
      go_wp2_with (at_builtin;(refine jb W8 [.slice pa R.1.length pc] 29 rfl _ _ 32 rfl w9.heap.size (.slice none 0 0) 1 24 Tryz.underlying32 iU rfl (by decide) _ out.length CS HCS.o rfl _ rfl rfl (by simp[Value.oneCell']) (by decide) HBZ.o (DG HBR.o.size HB8.o.size) ?_);intro g cap w10 hown9 hfr hgb hB9 hsz9;have HO9:=zH hown9;have HFR:=zH hfr;have HGB:=zH hgb;have HB10:=zH hB9;have HSZ9:=zH hsz9;clear hown9 hfr hgb hB9 hsz9);go_roundw
      case rel =>
       have hout:∀ b,(Value.slice pa R.1.length pc).ownBlock=some b→b<W8.heap.size∧(Value.slice Av out.length Cv).ownBlock≠some b:=by
        exact Gp
       have hsn:=GRP.snoc HCS2.o (by have:=HCS.o.1;omega) (fc (Rec.Own.row (R:=recKv) HO8.o)) hout rfl HO9.o HFR.o HGB.o HSZ9.o;refine⟨k+1,out++[R.1],HHH.o,by rw[DL];simp;omega,by go_num,?_,by rw[←HQ.o,←HD.o];exact HAV.o,HBR.o.trans ((HB8.o.mono HBR.o.size).trans HB10.o)⟩
       first|exact hsn|(rw[DL];exact hsn)
      case measure=>have:=HHH.o;simp[intOf];omega
    ·have t3:((R.2.2:Int) != 0)=true:=by rw[bne_iff_ne];omega
     have HQ:=zH (show bi j [] xs=([],R.2.1,R.2.2) by rw[←HAV.o,HD.o,HR.o];exact jM (by rw[←HR.o];exact hz));have HWW:=zH (HF1.o (by rw[HQ.o];exact hz));clear hz;go_wp2_with (go_at_call 65;refine(HRC.o _).mono ?_;rintro e w11 ⟨⟨rv,rfl,hro⟩,hB11⟩;obtain⟨ra,rc,rfl⟩:=ap hro;have HB11:=zH (bt (bt (bt HB9.o HBR.o) HB8.o) hB11);clear hro hB11);go_ret3;rw[HWW.o,HQ.o];exact⟨⟨none,0,rfl,Do _⟩,HB11.o⟩
   ·have i1:¬(k:Int)<(xs.length:Int):=by omega
    have HQ:=zH (show bi j [] xs=(out,[],0) by rw[←HAV.o,Ef (by omega)];rfl);have HWW:=zH (HF2.o (by rw[HQ.o]));clear h0;go_wp2_with fail;go_ret3;rw[HWW.o,HQ.o];exact⟨⟨_,_,rfl,HG.o.rr⟩,bt HB9.o HBR.o⟩
 ·have t2:((R.2.2:Int) != 0)=true:=by rw[bne_iff_ne];omega
  have HWW:=zH (HBAD.o hz);clear hz;go_wp2_with (go_at_call 31;refine(HPP.o _ HB1.o).mono ?_;rintro e w7 ⟨⟨pv,rfl,hro⟩,hB7⟩;obtain⟨pa,pc,rfl⟩:=ap hro;have HB7:=zH (bt HB1.o hB7);clear hB7 hro x0 x1 x2 x3 x4 x5 x6 x7);go_ret3;rw[HWW.o];exact⟨⟨none,0,rfl,Do _⟩,HB7.o⟩
theorem xd (j:Jb)(text:LU_)(h:text.length≤3000):(iD j text).1.length≤1000000∧∀ r∈(iD j text).1,r.length≤1000000:=by
 by_cases hz:(bC j text).2.2=0
 ·by_cases hq:(bi j [] (splitP (bC j text).1 j.parts.toNat)).2.2=0
  ·rw[qb hz hq]
   obtain⟨m,hpm,hm1,hm2⟩:=jQ (jN hz);have hl:=mY j (splitP (bC j text).1 j.parts.toNat) [] hq;rw[jH,hpm,DI]at hl;have hp:=ii j text;refine⟨by simp only[hpm,DI];rw[hl];simp;omega,?_⟩;refine mZ j (fun r=>r.length≤1000000) _ [] (by simp) ?_;intro p hp2;have h2:=(jG _ _ p hp2).2;exact wj j [p] (by simp;omega)
  ·rw[lf hz hq]
   exact⟨by simp,by simp⟩
 ·rw[nr hz]
  exact⟨by simp,by simp⟩
theorem zn {j:Jb}(h:bJ j=false)(text:LU_):rX j text=([],2):=if_neg (by rw[h];decide)
theorem Gd {T:Prop} (h:T:=by
 go_wp2_with (first|(go_at_call 29;refine(HAV.o _ HB3.o).mono ?_;rintro e w4 ⟨rfl,hB4⟩;have HB4:=zH (bt HB3.o hB4);clear hB4)|(go_at_call 28;refine(HSL.o _ HB2.o).mono ?_;rintro e w3 ⟨rfl,hB3⟩;have HB3:=zH (bt HB2.o hB3);clear hB3 x0 x1 x2 x3 x4 x5 x6 x7));go_ret;exact⟨rfl,HB4.o⟩
):T:=h
theorem mg (t1 c1 t2 c2 t3 c3:Value)(j:Jb)(text:LU_)(w:World)(hj:qr w t1 c1 t2 c2 t3 c3 j)(hl1:text.length≤140737488355328)(hE:jy w)(hg:1<w.heap.size)(hG:cU w)(hdo:de w):Calls Tryz.prog 4 #[bM t1 c1 t2 c2 t3 c3 j,.string (bs text)] w fun e w'=>e=.returned (.bool true)∧Bw_ w w':=by
 have HLA:=zH (fun w' (hB:Below w.heap.size w w')=>sP t1 c1 t2 c2 t3 c3 j w' (hj.below hB));have HSL:=zH (fun w' (hB:Below w.heap.size w w')=>zP t1 c1 t2 c2 t3 c3 j w' (hj.below hB));have HAV:=zH (fun w' (hB:Below w.heap.size w w')=>sJ w' (hE.below hB hg) (Dv hg hB.size) (hG.below hB) (hdo.below hB));have HJR:=zH (fun (hl:dL j=false)=>hj.job hl hE hg hG);have HPA:=zH (fun (hl:dL j=false) (ht:text.length≤300) w' (hB:Below w.heap.size w w')=>nu t1 c1 t2 c2 t3 c3 j text w' ((HJR.o hl).below hB) (hdo.below hB) (DG ht (by decide)));have HPR:=zH (fun (hl:dL j=false) (ht:text.length≤300) w' (hB:Below w.heap.size w w')=>kt t1 c1 t2 c2 t3 c3 j text w' ((HJR.o hl).below hB) (DG ht (by decide)));have HMA:=zH (fun (hl:dL j=false) (ht:text.length≤300) w' (hB:Below w.heap.size w w')=>nv t1 c1 t2 c2 t3 c3 j text w' ((HJR.o hl).below hB) (hdo.below hB) (DG ht (by decide)));have HMR:=zH (fun (hl:dL j=false) (ht:text.length≤300) w' (hB:Below w.heap.size w w')=>tL t1 c1 t2 c2 t3 c3 j text w' ((HJR.o hl).below hB) (DG ht (by decide)));have HKA:=zH (fun (hl:dL j=false) (ht:text.length≤300) w' (hB:Below w.heap.size w w')=>rQ t1 c1 t2 c2 t3 c3 j text w' ((HJR.o hl).below hB) (DG ht (by decide)));have HMY:=zH (fun (hl:dL j=false) w' (hB:Below w.heap.size w w')=>ie t1 c1 t2 c2 t3 c3 j w' ((HJR.o hl).below hB));have HKR:=zH (fun (hl:dL j=false) (ht:text.length≤300) (hm:bJ j=true) w' (hB:Below w.heap.size w w')=>tN t1 c1 t2 c2 t3 c3 j text w' ((HJR.o hl).below hB) hm (DG ht (by decide)));have HTL:=zH (ii j text)
 have HRW:=zH (fun h=>xd j text h);have HNO:=zH (fun h=>zn (j:=j) h text);obtain⟨ta,tc,ca,cc,ta2,tc2,ca2,cc2,ta3,tc3,ca3,cc3,rfl,rfl,rfl,rfl,rfl,rfl⟩:=jo_ hj.a.t hj.a.c hj.b.t hj.b.c hj.c.t hj.c.c;unfold bM at HLA HSL HPA HPR HMA HMR HKA HMY HKR⊢;unfold txV at HKA HKR;obtain⟨R,hR⟩:=ex_ (bC j text);obtain⟨Q,hQ⟩:=ex_ (iD j text);obtain⟨K,hK⟩:=ex_ (rX j text);rw[←hR]at HPA HPR HTL;rw[←hQ]at HMA HMR HRW;rw[←hK]at HKA HKR HNO;clear hR hQ hK;obtain⟨P,hP⟩:=ex_ j.parts;obtain⟨F,hF⟩:=ex_ j.fuel;rw[←hP,←hF]at HLA HSL HPA HPR HMA HMR HKA HMY HKR⊢;clear hP hF;obtain⟨W1,hW1⟩:=ex_ (w.alloc (.cells #[.slice ta j.mt.length tc,.slice ca j.mc.length cc,.slice ta2 j.jt.length tc2,.slice ca2 j.jc.length cc2,.slice ta3 j.tt.length tc3,.slice ca3 j.tc.length cc3,.int .i64 P,.int .i64 F] 27));have hb1:=ba_ hW1;obtain⟨J,hJ⟩:=ex_ w.heap.size;have hx:=bn_ hJ hW1;have HB1:=zH hb1;have HX1:=zH hx;obtain⟨x0,x1,x2,x3,x4,x5,x6,x7⟩:=cl8 HX1.o;have r1:(text.length:Int)≤140737488355328:=by omega
 go_enter Tryz.func4,Tryz.ntmps4;go_upto_region 1 with fail;rw[←hW1,←hJ];clear hW1 hJ hb1 hx hj hl1 hE hg hG hdo
 by_cases hla:dL j=true
 ·rw[hla]at HLA
  clear hla;go_wp2_with (first|(go_at_call 29;refine(HAV.o _ HB2.o).mono ?_;rintro e w3 ⟨rfl,hB3⟩;have HB3:=zH (bt HB2.o hB3);clear hB3)|(go_at_call 27;refine(HLA.o _ HB1.o).mono ?_;rintro e w2 ⟨rfl,hB2⟩;have HB2:=zH (bt HB1.o hB2);clear hB2 x0 x1 x2 x3 x4 x5 x6 x7));go_ret;exact⟨rfl,HB3.o⟩
 ·have hlf:dL j=false:=by cases q:dL j with
   | false=>rfl
   | true=>exact absurd q hla
  rw[hlf]at HLA;go_wp2_with fail;refine(HLA.o _ HB1.o).mono ?_;rintro e w2 ⟨rfl,hB2⟩;have HX2:=zH (HX1.o.below hB2);have HB2:=zH (bt HB1.o hB2);clear hB2 x0 x1 x2 x3 x4 x5 x6 x7 hla;obtain⟨x0,x1,x2,x3,x4,x5,x6,x7⟩:=cl8 HX2.o
  by_cases hs:qM j=true
  ·rw[hs]at HSL
   clear hs hlf;exact Gd
  ·have hsf:qM j=false:=by cases q:qM j with
    | false=>rfl
    | true=>exact absurd q hs
   rw[hsf]at HSL;have HLF:=zH hlf;clear hs hsf hlf
   by_cases h300:300<text.length
   ·have m1:(300:Int)<(text.length:Int):=by omega
    clear h300;exact Gd
   ·have m1:¬(300:Int)<(text.length:Int):=by omega
    have HL3:=zH (show text.length≤300 by omega);clear h300;go_upto_region 3 with(go_at_call 28;refine(HSL.o _ HB2.o).mono ?_;rintro e w3 ⟨rfl,hB3⟩;have HX3:=zH (HX2.o.below hB3);have HB3:=zH (bt HB2.o hB3);clear hB3 x0 x1 x2 x3 x4 x5 x6 x7);clear m1 r1;have HGP:=zH (HPA.o HLF.o HL3.o);have HGQ:=zH (HPR.o HLF.o HL3.o);have HGM:=zH (HMA.o HLF.o HL3.o);have HGN:=zH (HMR.o HLF.o HL3.o);have HGK:=zH (HKA.o HLF.o HL3.o);have HGY:=zH (HMY.o HLF.o);have HGR:=zH (HKR.o HLF.o HL3.o);have HRL:=zH (show R.1.length≤140737488355328 from by have:=HTL.o;have:=HL3.o;omega);have HQ1:=zH (show Q.1.length≤1000000 from(HRW.o (DG HL3.o (by decide))).1);have HQ2:=zH (show ∀ r∈Q.1,r.length≤140737488355328 from fun r hr=>DG ((HRW.o (DG HL3.o (by decide))).2 r hr) (by decide));clear HPA HPR HMA HMR HKA HMY HKR HTL HRW;obtain⟨x0,x1,x2,x3,x4,x5,x6,x7⟩:=cl8 HX3.o;go_wp2_with fail;refine(HGP.o _ HB3.o).mono ?_;rintro e w4 ⟨⟨pv,rfl,hr⟩,hB4⟩;have HX4:=zH (HX3.o.below hB4);have hr4:=fc (Rec.Own.row (R:=recKv) hr);obtain⟨pa,pc,rfl,_,-⟩:=hr4.open;have HA4:=zH hr4;clear hr hr4;have HB4:=zH (bt HB3.o hB4);clear hB4 x0 x1 x2 x3 x4 x5 x6 x7;obtain⟨x0,x1,x2,x3,x4,x5,x6,x7⟩:=cl8 HX4.o;go_wp2_with fail;refine(HGQ.o _ HB4.o).mono ?_;rintro e w5 ⟨⟨pv,rfl,hr⟩,hB5⟩;have HX5:=zH (HX4.o.below hB5);have HA5:=zH (HA4.o.below hB5);have hr5:=fc (Rec.Own.row (R:=recKv) hr);obtain⟨qa,qc,rfl,_,-⟩:=hr5.open;have HC5:=zH hr5;clear hr hr5;have HB5:=zH (bt HB4.o hB5);clear hB5 x0 x1 x2 x3 x4 x5 x6 x7;obtain⟨x0,x1,x2,x3,x4,x5,x6,x7⟩:=cl8 HX5.o
    go_wp2_with fail;refine(HGM.o _ HB5.o).mono ?_;rintro e w6 ⟨⟨ma,mc,rfl,hr⟩,hB6⟩;have HX6:=zH (HX5.o.below hB6);have HA6:=zH (HA5.o.below hB6);have HC6:=zH (HC5.o.below hB6);have HD6:=zH hr;clear hr;have HB6:=zH (bt HB5.o hB6);clear hB6 x0 x1 x2 x3 x4 x5 x6 x7;obtain⟨x0,x1,x2,x3,x4,x5,x6,x7⟩:=cl8 HX6.o;go_wp2_with fail;refine(HGN.o _ HB6.o).mono ?_;rintro e w7 ⟨⟨na,nc,rfl,hr⟩,hB7⟩;have HX7:=zH (HX6.o.below hB7);have HA7:=zH (HA6.o.below hB7);have HC7:=zH (HC6.o.below hB7);have HD7:=zH (HD6.o.below hB7);have HF7:=zH hr;clear hr;have HB7:=zH (bt HB6.o hB7);clear hB7 x0 x1 x2 x3 x4 x5 x6 x7;obtain⟨x0,x1,x2,x3,x4,x5,x6,x7⟩:=cl8 HX7.o;go_wp2_with fail;refine(HGK.o _ HB7.o).mono ?_;rintro e w8 ⟨rfl,hB8⟩;have HX8:=zH (HX7.o.below hB8);have HA8:=zH (HA7.o.below hB8);have HC8:=zH (HC7.o.below hB8);have HD8:=zH (HD7.o.below hB8);have HF8:=zH (HF7.o.below hB8);have HB8:=zH (bt HB7.o hB8);clear hB8 x0 x1 x2 x3 x4 x5 x6 x7
    have HSA:=zH (fun w' (hB:Below w8.heap.size w8 w')=>show Calls Tryz.prog 21 #[.slice pa R.1.length pc,.slice qa R.1.length qc] w' fun e w''=>e=.returned (.bool true)∧Below w'.heap.size w' w'' by
     have h:=tf _ _ R.1 R.1 w' (HA8.o.below hB) (HC8.o.below hB) HRL.o HRL.o;rw[decide_eq_true rfl]at h;exact h)
    have HSB:=zH (fun w' (hB:Below w8.heap.size w8 w')=>show Calls Tryz.prog 35 #[.slice ma Q.1.length mc,.slice na Q.1.length nc] w' fun e w''=>e=.returned (.bool true)∧Below w'.heap.size w' w'' from pD _ _ Q.1 w' (HD8.o.below hB) (HF8.o.below hB) HQ1.o HQ2.o);clear HA4 HA5 HA6 HA7 HC5 HC6 HC7 HD6 HD7 HF7 HA8 HC8 HD8 HF8 HGP HGQ HGM HGN HGK
    go_upto_region 10 with(first
     | (go_at_call 21;refine(HSA.o _ (dM _)).mono ?_;rintro e w9 ⟨rfl,hB9⟩;have HB9:=zH hB9;clear hB9 HSA)
     | (go_at_call 35;refine(HSB.o _ HB9.o).mono ?_;rintro e w10 ⟨rfl,hB10⟩;have HX10:=zH (HX8.o.below (bt HB9.o hB10));have HB10:=zH (bt HB8.o (bt HB9.o hB10));clear hB10 HSB))
    obtain⟨x0,x1,x2,x3,x4,x5,x6,x7⟩:=cl8 HX10.o
    cases hm:bJ j with
    | true =>
     rw[hm]at HGY;have HGR2:=zH (HGR.o hm);clear hm HGR HNO;go_wp2_with fail;refine(HGY.o _ HB10.o).mono ?_;rintro e w11 ⟨rfl,hB11⟩;have HX11:=zH (HX10.o.below hB11);have HB11:=zH (bt HB10.o hB11);clear hB11 x0 x1 x2 x3 x4 x5 x6 x7;obtain⟨x0,x1,x2,x3,x4,x5,x6,x7⟩:=cl8 HX11.o
     go_wp2_with (first
      | (go_at_call 36;refine(HGR2.o _ HB11.o).mono ?_;rintro e w12 ⟨rfl,hB12⟩;have HB12:=zH (bt HB11.o hB12);clear hB12 x0 x1 x2 x3 x4 x5 x6 x7)
      | (go_at_call 29;refine(HAV.o _ HB12.o).mono ?_;rintro e w13 ⟨rfl,hB13⟩;have HB13:=zH (bt HB12.o hB13);clear hB13))
     go_ret;exact⟨rfl,HB13.o⟩
    | false =>
     rw[hm]at HGY;have hk:=HNO.o hm;subst hk;clear hm HGR HNO
     go_wp2_with (first
      | (go_at_call 16;refine(HGY.o _ HB10.o).mono ?_;rintro e w11 ⟨rfl,hB11⟩;have HB11:=zH (bt HB10.o hB11);clear hB11 x0 x1 x2 x3 x4 x5 x6 x7)
      | (go_at_call 29;refine(HAV.o _ HB11.o).mono ?_;rintro e w12 ⟨rfl,hB12⟩;have HB12:=zH (bt HB11.o hB12);clear hB12))
     go_ret;exact⟨rfl,HB12.o⟩
end
