/- Lemmas. -/
import Derived.Test.YtfjpghgdebpliaaGreatDoorContractPlaysK11
import Derived.Test.YtfjpghgdebpliaaGreatDoorContractPlaysK23
set_option linter.unusedSimpArgs false
set_option linter.unusedVariables false
set_option maxRecDepth 100000
set_option maxHeartbeats 16000000
namespace Go.Proofs.YtfjpghgdebpliaaGreatDoor
attribute [local irreducible] wpG
open Go.Proofs.Tryz
open Go.RowKit Oct
theorem DF (j:Jb)(i:Nat)(hi:i<3):∃ T C,psJ j (i+1)=psJ j i++num (iJ T C).length 4++iJ T C∧((i=0∧T=j.mt∧C=j.mc)∨(i=1∧T=j.jt∧C=j.jc)∨(i=2∧T=j.tt∧C=j.tc)):=by
 obtain rfl|rfl|rfl:i=0∨i=1∨i=2:=Y
 ·exact⟨j.mt,j.mc,by simp[psJ,gG],.inl ⟨rfl,rfl,rfl⟩⟩
 ·exact⟨j.jt,j.jc,by simp[psJ,gG],.inr (.inl ⟨rfl,rfl,rfl⟩)⟩
 ·exact⟨j.tt,j.tc,by simp[psJ,gG,cR],.inr (.inr ⟨rfl,rfl,rfl⟩)⟩
theorem E4 {j:Jb}(hm:bK j=true)(i:Nat)(hi:i≤3):(psJ j i).length≤10000:=by
 have ap:=qi hm;obtain rfl|rfl|rfl|rfl:i=0∨i=1∨i=2∨i=3:=Y
 all_goals
  unfold cR at ap;simp only[psJ,cR,Jh]at ap⊢;omega
theorem yn (t1 c1 t2 c2 t3 c3:V_)(j:Jb)(w:Z)(h:dD w t1 c1 t2 c2 t3 c3 j)(hm:bK j=true):R_ 68 #[bM t1 c1 t2 c2 t3 c3 j] w (s_ (cR j)):=by
 obtain⟨m1,m2,m3⟩:=qw hm;obtain⟨-,ae,au,bb,n⟩:=tY hm;obtain⟨ak,an,bE,dv,A,V,ai⟩:=zH7 (fun w' (hB:Bw_ w w')=>qd t1 c1 j.mt j.mc w' (h.below hB).a.t (h.below hB).a.c m1) (fun w' (hB:Bw_ w w')=>qd t2 c2 j.jt j.jc w' (h.below hB).b.t (h.below hB).b.c m2) (fun w' (hB:Bw_ w w')=>qd t3 c3 j.tt j.tc w' (h.below hB).c.t (h.below hB).c.c m3) (ey m1) (ey m2) (ey m3) (fun i hi=>E4 hm i hi);obtain⟨ta,tc,ca,cc,aV,bd,be,bf,bg,bh,bi,bk,rfl,rfl,rfl,rfl,rfl,rfl⟩:=jo_ h.a.t h.a.c h.b.t h.b.c h.c.t h.c.c;unfold bM;obtain⟨P,hP⟩:=H j.parts;obtain⟨am,hF⟩:=H j.fuel;have HP:=O hP;have HF:=O hF;rw[←hP]at ae au;rw[←hF]at bb n;rw[←hP,←hF];clear hP hF;obtain⟨W1,aA⟩:=H (w.alloc (.cells #[.slice ta j.mt.length tc,.slice ca j.mc.length cc,.slice aV j.jt.length bd,.slice be j.jc.length bf,.slice bg j.tt.length bh,.slice bi j.tc.length bk,F P,F am] 27));have a8:=ba_ aA;obtain⟨J,hJ⟩:=H w.heap.size;have hx:=bn_ hJ aA;obtain⟨x0,x1,x2,x3,x4,x5,x6,x7⟩:=cl8 hx;have a_:=O a8;have HX:=O hx;go_enter func68,ntmps68;go_upto_region 1 with fail;rw[←aA,←hJ];clear aA hJ a8 hx h hm m1 m2 m3;obtain⟨pb,f⟩:∃ pb:U8_,(pb.toNat:Int)=P:=⟨UInt8.ofNat P.toNat,by rw[UInt8.toNat_ofNat'];omega⟩
 obtain⟨fn,af⟩:∃ fn:Nat,(fn:Int)=am:=⟨am.toNat,by omega⟩
 have ac:=O (show iB j=pb::num fn 4 by
  unfold iB;rw[←HP.o,←HF.o,←f,←af];simp)
 have bm:=O (fun w'=>show C_ 65 #[.int .u64 am,F 4] w' fun e bc=>e=.returned (s_ (num fn 4))∧Bw_ w' bc by
  have ap:=mN am 4 w' Y Y Y Y;rw[show am.toNat=fn by omega]at ap;exact ap)
 have cr:=O (fun w' (a:OA_) (c:Nat) (h:aO w' (.slice a 1 c) 1 [.int .u8 P])=>show(convert 114 9 (.slice a 1 c)).run prog w'=.ok (s_ [pb]) w' by rw[←f]at h;exact zN h);obtain⟨nf,ay⟩:=H (num fn 4);have aQ:(nf.length:Int)=4:=by rw[ay,aZ];rfl
 rw[←ay]at bm ac;clear f af ay x0 x1 x2 x3 x4 x5;refine rk_ [(1,.exact _ (F P)),(3,dc 1 [.int .u8 P]),(4,.exact _ (s_ [pb])),(6,.exact _ (F am)),(8,.exact _ (s_ nf))] ?_;refine cG ?_;refine gl_ x6 ?_;refine gk_ (dc 1 [.int .u8 P]) (fun w' G hB hS hG=>?_) (fun x K hK=>?_)
 ·go_simp
  exact ew hG rfl
 obtain⟨ad,c⟩:=x;refine cO ?_;clear hK K;refine gj_ (fun w' G hB hS hG=>?_) ?_
 ·exact MH
 refine gl_ x7 ?_;refine gj_ (fun w' G hB hS hG=>?_) ?_
 ·have hu:=bm.o w'
  go_simp;exact aT hG hu
 refine eQ ?_;intro w3 al ao;have a4:=O (HX.o.below al);have aW:=O (bt a_.o al);clear ao al x6 x7;obtain⟨x0,x1,x2,x3,x4,x5⟩:=cl6 a4.o;obtain⟨W4,bw⟩:=H (w3.alloc (.cells #[.slice ta j.mt.length tc,.slice ca j.mc.length cc,.slice aV j.jt.length bd,.slice be j.jc.length bf,.slice bg j.tt.length bh,.slice bi j.tc.length bk] 25));have bC:=ba_ bw;have hy:=bm_ bw;obtain⟨B,hB⟩:=H w3.heap.size;rw[←hB]at hy;have HY:=O hy;have ba:=O (bt aW.o bC);have d:=O (show bs (pb::nf)=bs (psJ j 0) by show _=bs (iB j);rw[ac.o]);go_upto_region 4 with fail;rw[←bw]
 try rw[←hB]
 rw[d.o];clear bw bC hy hB d x0 x1 x2 x3 x4 x5 aQ ae au bb n
 go_loopw [3,5] (fun s t wr=>∃ i:Nat,i≤3∧s=s_ (psJ j i)∧t=F i∧Hid (Bw_ W4 wr)) (fun _ t _=>3-(intOf t).toNat)
 case atStart=>exact⟨0,by omega,rfl,rfl,Ja _ _⟩
 case round =>
  obtain⟨i,hi,rfl,rfl,m⟩:=hrel
  by_cases h0:i<3
  ·obtain⟨T,C,aK,b⟩:=DF j i h0
   have hyy:=HY.o.below m.o
   obtain⟨tv,cv,e1,e2,cH,I⟩:∃ tv cv,wr.cell? ⟨B,i*2,none⟩=some tv∧wr.cell? ⟨B,i*2+1,none⟩=some cv∧(∀ w',Bw_ w w'→C_ 94 #[.agg #[tv,cv]] w' fun e bc=>e=.returned (s_ (iJ T C))∧Bw_ w' bc)∧(iJ T C).length≤2000:=by
    rcases b with ⟨rfl,rfl,rfl⟩|⟨rfl,rfl,rfl⟩|⟨rfl,rfl,rfl⟩
    ·exact⟨_,_,hyy.c 0,hyy.c 1,ak.o,dv.o⟩
    ·exact⟨_,_,hyy.c 2,hyy.c 3,an.o,A.o⟩
    ·exact⟨_,_,hyy.c 4,hyy.c 5,bE.o,V.o⟩
   have bo:=O (cH wr (bt ba.o m.o));have aj:=O aK;have bj:=ai.o i Y;obtain⟨X,hX⟩:=H (iJ T C);rw[←hX]at bo aj I;obtain⟨D,r⟩:=H (psJ j i);rw[←r]at aj bj⊢;have q:(num X.length 4).length=4:=aZ _ _;have bR:=O (fun w'=>show C_ 65 #[.int .u64 X.length,F 4] w' fun e bc=>e=.returned (s_ (num X.length 4))∧Bw_ w' bc from mN (X.length:Int) 4 w' Y Y Y Y);obtain⟨E,u⟩:=H (num X.length 4);rw[←u]at bR aj q;have i0:=nn_ i;have i1:(i:Int)<3:=Y;have b1:(X.length:Int)≤2000:=Y;have b2:(D.length:Int)≤10000:=Y;have b3:(E.length:Int)=4:=Y;clear b hyy cH aK hX r u I bj q;go_wp2_with (first|(go_at_call 65;refine mB_ (bR.o _) aJ fun w6 bn=>?_)|(go_at_call 94;refine mB_ bo.o m fun w5 aJ=>?_));go_roundw
   case rel=>exact⟨i+1,by omega,by rw[aj.o];first|rfl|simp[Jg],by go_num,bn.o⟩
   case measure=>simp[intOf];omega
  ·have i1:¬(i:Int)<3:=Y
   obtain rfl:i=3:=Y;clear h0;go_wp2_with fail;go_ret;exact⟨rfl,bt ba.o m.o⟩
theorem nM (t1 c1 t2 c2 t3 c3:V_)(j:Jb)(w:Z)(h:dD w t1 c1 t2 c2 t3 c3 j)(hm:bK j=true):R_ 40 #[bM t1 c1 t2 c2 t3 c3 j] w (s_ (cU (cR j))):=by
 have HP:=O (fun w' (hB:Bw_ w w')=>yn t1 c1 t2 c2 t3 c3 j w' (h.below hB) hm);have HS:=O (qi hm);obtain⟨b,a⟩:=H (cR j);rw[←a]at HP HS⊢;clear a;obtain⟨ta,tc,ca,cc,aV,bd,be,bf,bg,bh,bi,bk,rfl,rfl,rfl,rfl,rfl,rfl⟩:=jo_ h.a.t h.a.c h.b.t h.b.c h.c.t h.c.c;unfold bM at HP⊢;obtain⟨W1,aA⟩:=H (w.alloc (.cells #[.slice ta j.mt.length tc,.slice ca j.mc.length cc,.slice aV j.jt.length bd,.slice be j.jc.length bf,.slice bg j.tt.length bh,.slice bi j.tc.length bk,F j.parts,F j.fuel] 27));have a8:=ba_ aA;obtain⟨J,hJ⟩:=H w.heap.size;have hx:=bn_ hJ aA;obtain⟨x0,x1,x2,x3,x4,x5,x6,x7⟩:=cl8 hx;have a_:=O a8;have HX:=O hx;go_enter func40,ntmps40;go_upto_region 1 with fail;rw[←aA,←hJ];clear aA hJ a8 hx h hm;go_wp2_with (first|(go_at_call 68;refine mB_ (HP.o _ a_.o) a_ fun w2 a9=>?_)|(go_at_call 41;refine mB_ (qb b w2 (Jc HS.o d_)) a9 fun w3 aW=>?_));go_ret;exact⟨rfl,aW.o⟩





def m19:LQ_:=[[([97],[50]),([98],[49])]]