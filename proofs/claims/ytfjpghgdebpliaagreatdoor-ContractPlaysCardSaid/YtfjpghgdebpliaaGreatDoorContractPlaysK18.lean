/- Lemmas. -/
import Derived.Recover
import Derived.Lib.QuietBelow
import Derived.Test.YtfjpghgdebpliaaGreatDoorContractPlaysK8
import Derived.Test.YtfjpghgdebpliaaGreatDoorContractPlaysK17
import Derived.Test.YtfjpghgdebpliaaGreatDoorContractPlaysK19
set_option linter.unusedSimpArgs false
set_option linter.unusedVariables false
set_option maxRecDepth 100000
set_option maxHeartbeats 16000000
namespace Go.Proofs.YtfjpghgdebpliaaGreatDoor
attribute [local irreducible] wpG
open Go.Proofs.Tryz
open Go.RowKit Oct
theorem so (J:Nat)(w:Z):C_ 88 #[p_ J] w fun e w'=>(∃ D t,e=.returned (.slice (some ⟨D,0,none⟩) 3 3)∧w.heap.size≤D∧Blk w' D t [.int .u8 1,p_ J,.int .u8 2,.pointer (some ⟨J,2,none⟩),.int .u8 3,.pointer (some ⟨J,4,none⟩)])∧Bw_ w w':=by
 go_enter func88,ntmps88;go_upto_region 1 with fail;go_region;go_wp2_with fail;go_ret;exact⟨⟨w.heap.size,_,rfl,I6 _,(Blk.new w _ _).below (b_drew _)⟩,bt (af _ _) (b_drew _)⟩
theorem Lx {T:Prop} (h:T:=by
 clear i;go_wp2_with fail;go_ret3;rw[HZ.o];exact⟨rfl,a7.o⟩
):T:=h
theorem Ly {T:Prop} (h:T:=by
 go_wp2_with fail;go_ret3;rw[HZ.o];exact⟨rfl,bt a7.o aK.o⟩
):T:=h
theorem mi (t1 c1 t2 c2 t3 c3:V_)(j:Jb)(w:Z)(h:dD w t1 c1 t2 c2 t3 c3 j):R_ 72 #[bM t1 c1 t2 c2 t3 c3 j] w (.tuple #[.int .u8 ((bO j).1:Int),F ((bO j).2.1:Int),F ((bO j).2.2:Int)]):=by
 have HA:=O (fun w' (hB:Bw_ w w')=>k9 t1 c1 j.mt j.mc 1 w' (h.a.below hB));have HB:=O (fun w' (hB:Bw_ w w')=>k9 t2 c2 j.jt j.jc 2 w' (h.b.below hB));have HC:=O (fun w' (hB:Bw_ w w')=>k9 t3 c3 j.tt j.tc 3 w' (h.c.below hB));obtain⟨ta,tc,ca,cc,aV,bd,be,bf,bg,bh,bi,bk,rfl,rfl,rfl,rfl,rfl,rfl⟩:=jo_ h.a.t h.a.c h.b.t h.b.c h.c.t h.c.c;unfold bM;have p0:=h.p0;have p1:=h.p1;have f0:=h.f0;have f1:=h.f1;clear h;obtain⟨P,hP⟩:=H j.parts;obtain⟨n,l⟩:=H j.fuel;have HP:=O hP;have v:=O l;rw[←hP]at p0 p1⊢;rw[←l]at f0 f1⊢;clear hP l;go_enter func72,ntmps72;go_upto_region 1 with fail;obtain⟨W1,aA⟩:=H (w.alloc (.cells #[.slice ta j.mt.length tc,.slice ca j.mc.length cc,.slice aV j.jt.length bd,.slice be j.jc.length bf,.slice bg j.tt.length bh,.slice bi j.tc.length bk,F P,F n] 27));have a8:=ba_ aA;obtain⟨J,hJ⟩:=H w.heap.size;have hx:=bn_ hJ aA;obtain⟨x0,x1,x2,x3,x4,x5,x6,x7⟩:=cl8 hx;rw[←aA,←hJ];have a_:=O a8;have HX:=O hx;clear aA a8 hx hJ;go_upto_region 2 with fail;obtain⟨A,X⟩:=H W1.heap.size;obtain⟨W2,ae⟩:=H (W1.alloc (.cells #[.slice ta j.mt.length tc,.slice ca j.mc.length cc,.slice aV j.jt.length bd,.slice be j.jc.length bf,.slice bg j.tt.length bh,.slice bi j.tc.length bk,F P,F n] 159));have aY:=ba_ ae;have hh:=bn_ X ae;rw[←ae,←X];obtain⟨bL,I,o⟩:=zH3 (HX.o.below aY) hh (bt a_.o aY);clear x0 x1 x2 x3 x4 x5 x6 x7 ae X aY hh HX
 go_upto_region 3 with(first|(go_at_call 88;refine(so A W2).mono ?_;rintro e w3⟨⟨D,t,rfl,ab,hd⟩,al⟩;obtain⟨aR,HH,HD,a9⟩:=zH4 (bL.o.below al) (I.o.below al) hd (bt o.o al);clear ab hd al)|fail)
 go_loopw [16] (fun t wr=>∃ k:Nat,k≤3∧t=F k∧Hid (Bw_ w3 wr)∧Hid ((1≤k→e1J j=0)∧(2≤k→e2J j=0)∧(3≤k→e3J j=0))) (fun t _=>3-(intOf t).toNat)
 case atStart=>exact⟨0,by omega,rfl,Ja _ _,fun h=>by omega,fun h=>by omega,fun h=>by omega⟩
 case round =>
  obtain⟨k,hk,rfl,m,f⟩:=hrel;have hd:=HD.o.below m.o;have a7:=O (bt a9.o m.o);rcases(by omega:k=0∨k=1∨k=2∨k=3) with rfl|rfl|rfl|rfl
  ·obtain⟨d0,d1⟩:=cl2 hd
   obtain⟨s,g⟩:=H ((az j.mt j.mc 1).2.1);obtain⟨ac,b⟩:=H ((az j.mt j.mc 1).1);have a:=O g;have c:=O b;clear g b;go_wp2_with fail;go_upto_region 5 with fail;obtain⟨T,hT⟩:=H wr.heap.size;obtain⟨U,hU⟩:=H (wr.alloc (.cells #[.int .u8 1,p_ A] 163));have u:=ba_ hU;have hu:=bn_ hT hU;have d:=(HH.o.below m.o).below u;obtain⟨u0,u1⟩:=cl2 hu;obtain⟨v0,v1⟩:=cl2 d;have a3:T<U.heap.size:=aG u0;have aa:A<U.heap.size:=aG v0;have HG:=O (HA.o U.drew (bt (bt a7.o u) (b_drew U)));have bG:=O u;rw[←hU,←hT];clear hd d0 d1 hU hT u hu d
   by_cases hz:s=0
   ·have t1:((s:Int) != 0)=false:=by rw[hz];rfl
    have HZ:=O (show e1J j=0 by rw[←hz,a.o];rfl);clear hz;go_region_law (refine aN rfl 102 #[.agg #[.slice ta j.mt.length tc,.slice ca j.mc.length cc],.int .u8 1] yzc HG.o ?_;rintro e w7⟨rfl,aH⟩;rw[←a.o,←c.o];have u0:=IF (bt (b_drew U) aH) u0;have aK:=O (bt bG.o (bt (b_drew U) aH));clear aH)
    all_goals
     go_wp2_with fail;go_roundw
     case rel=>exact⟨1,by omega,rfl,bt m.o aK.o,fun _=>HZ.o,fun h=>by omega,fun h=>by omega⟩
     case measure=>decide
   ·have t1:((s:Int) != 0)=true:=by rw[bne_iff_ne];omega
    have HZ:=O (show bO j=(1,ac,s) by rw[a.o,c.o];exact xe (fun h=>hz (by rw[a.o];exact h)));clear hz;go_region_law (refine aN rfl 102 #[.agg #[.slice ta j.mt.length tc,.slice ca j.mc.length cc],.int .u8 1] yzc HG.o ?_;rintro e w7⟨rfl,aH⟩;rw[←a.o,←c.o];have u0:=IF (bt (b_drew U) aH) u0;have aK:=O (bt bG.o (bt (b_drew U) aH));clear aH)
    all_goals
     exact Ly
  ·have d0:=hd.c 2
   have d1:=hd.c 3;obtain⟨s,g⟩:=H ((az j.jt j.jc 2).2.1);obtain⟨ac,b⟩:=H ((az j.jt j.jc 2).1);have a:=O g;have c:=O b;clear g b;go_wp2_with fail;go_upto_region 5 with fail;obtain⟨T,hT⟩:=H wr.heap.size;obtain⟨U,hU⟩:=H (wr.alloc (.cells #[.int .u8 2,.pointer (some ⟨A,2,none⟩)] 163));have u:=ba_ hU;have hu:=bn_ hT hU;have d:=(HH.o.below m.o).below u;obtain⟨u0,u1⟩:=cl2 hu;have v0:=d.c 2;have v1:=d.c 3;have a3:T<U.heap.size:=aG u0;have aa:A<U.heap.size:=aG v0;have HG:=O (HB.o U.drew (bt (bt a7.o u) (b_drew U)));have bG:=O u;rw[←hU,←hT];clear hd d0 d1 hU hT u hu d
   by_cases hz:s=0
   ·have t1:((s:Int) != 0)=false:=by rw[hz];rfl
    have HZ:=O (show e2J j=0 by rw[←hz,a.o];rfl);clear hz;go_region_law (refine aN rfl 102 #[.agg #[.slice aV j.jt.length bd,.slice be j.jc.length bf],.int .u8 2] yzc HG.o ?_;rintro e w7⟨rfl,aH⟩;rw[←a.o,←c.o];have u0:=IF (bt (b_drew U) aH) u0;have aK:=O (bt bG.o (bt (b_drew U) aH));clear aH)
    all_goals
     go_wp2_with fail;go_roundw
     case rel=>exact⟨2,by omega,rfl,bt m.o aK.o,fun _=>f.o.1 Y,fun _=>HZ.o,fun h=>by omega⟩
     case measure=>decide
   ·have t1:((s:Int) != 0)=true:=by rw[bne_iff_ne];omega
    have HZ:=O (show bO j=(2,ac,s) by rw[a.o,c.o];exact xd (f.o.1 Y) (fun h=>hz (by rw[a.o];exact h)));clear hz;go_region_law (refine aN rfl 102 #[.agg #[.slice aV j.jt.length bd,.slice be j.jc.length bf],.int .u8 2] yzc HG.o ?_;rintro e w7⟨rfl,aH⟩;rw[←a.o,←c.o];have u0:=IF (bt (b_drew U) aH) u0;have aK:=O (bt bG.o (bt (b_drew U) aH));clear aH)
    all_goals
     exact Ly
  ·have d0:=hd.c 4
   have d1:=hd.c 5;obtain⟨s,g⟩:=H ((az j.tt j.tc 3).2.1);obtain⟨ac,b⟩:=H ((az j.tt j.tc 3).1);have a:=O g;have c:=O b;clear g b;go_wp2_with fail;go_upto_region 5 with fail;obtain⟨T,hT⟩:=H wr.heap.size;obtain⟨U,hU⟩:=H (wr.alloc (.cells #[.int .u8 3,.pointer (some ⟨A,4,none⟩)] 163));have u:=ba_ hU;have hu:=bn_ hT hU;have d:=(HH.o.below m.o).below u;obtain⟨u0,u1⟩:=cl2 hu;have v0:=d.c 4;have v1:=d.c 5;have a3:T<U.heap.size:=aG u0;have aa:A<U.heap.size:=aG v0;have HG:=O (HC.o U.drew (bt (bt a7.o u) (b_drew U)));have bG:=O u;rw[←hU,←hT];clear hd d0 d1 hU hT u hu d
   by_cases hz:s=0
   ·have t1:((s:Int) != 0)=false:=by rw[hz];rfl
    have HZ:=O (show e3J j=0 by rw[←hz,a.o];rfl);clear hz;go_region_law (refine aN rfl 102 #[.agg #[.slice bg j.tt.length bh,.slice bi j.tc.length bk],.int .u8 3] yzc HG.o ?_;rintro e w7⟨rfl,aH⟩;rw[←a.o,←c.o];have u0:=IF (bt (b_drew U) aH) u0;have aK:=O (bt bG.o (bt (b_drew U) aH));clear aH)
    all_goals
     go_wp2_with fail;go_roundw
     case rel=>exact⟨3,by omega,rfl,bt m.o aK.o,fun _=>f.o.1 Y,fun _=>f.o.2.1 Y,fun _=>HZ.o⟩
     case measure=>decide
   ·have t1:((s:Int) != 0)=true:=by rw[bne_iff_ne];omega
    have HZ:=O (show bO j=(3,ac,s) by rw[a.o,c.o];exact xc (f.o.1 Y) (f.o.2.1 Y) (fun h=>hz (by rw[a.o];exact h)));clear hz;go_region_law (refine aN rfl 102 #[.agg #[.slice bg j.tt.length bh,.slice bi j.tc.length bk],.int .u8 3] yzc HG.o ?_;rintro e w7⟨rfl,aH⟩;rw[←a.o,←c.o];have u0:=IF (bt (b_drew U) aH) u0;have aK:=O (bt bG.o (bt (b_drew U) aH));clear aH)
    all_goals
     exact Ly
  ·have hx:=aR.o.below m.o
   have x6:=hx.c 6;have x7:=hx.c 7;have H4:=O (wZ (f.o.1 Y) (f.o.2.1 Y) (f.o.2.2 Y));rw[←HP.o,←v.o]at H4;clear hx hd;have i:(P<1∨16<P∨n<1∨65536<n)→Hid (bO j=(0,0,2)):=fun hc=>H4.o.trans (if_pos hc)
   by_cases q1:P<1
   ·have HZ:=i (.inl q1)
    exact Lx
   ·by_cases q2:16<P
    ·have HZ:=i (.inr (.inl q2))
     exact Lx
    ·by_cases q3:n<1
     ·have HZ:=i (.inr (.inr (.inl q3)))
      exact Lx
     ·by_cases q4:65536<n
      ·have HZ:=i (.inr (.inr (.inr q4)))
       exact Lx
      ·have HZ:=O (show bO j=(0,0,0) from H4.o.trans (if_neg (by rintro (h|h|h|h)<;>omega)))
       exact Lx
theorem wD (t1 c1 t2 c2 t3 c3:V_)(j:Jb)(w:Z)(h:dD w t1 c1 t2 c2 t3 c3 j):R_ 86 #[bM t1 c1 t2 c2 t3 c3 j] w (.bool (bK j)):=by
 have f:=O (fun w' (hB:Bw_ w w')=>mi t1 c1 t2 c2 t3 c3 j w' (h.below hB));obtain⟨ta,tc,ca,cc,aV,bd,be,bf,bg,bh,bi,bk,rfl,rfl,rfl,rfl,rfl,rfl⟩:=jo_ h.a.t h.a.c h.b.t h.b.c h.c.t h.c.c;unfold bM at f⊢;clear h;obtain⟨W1,aA⟩:=H (w.alloc (.cells #[.slice ta j.mt.length tc,.slice ca j.mc.length cc,.slice aV j.jt.length bd,.slice be j.jc.length bf,.slice bg j.tt.length bh,.slice bi j.tc.length bk,F j.parts,F j.fuel] 27));have a8:=ba_ aA;obtain⟨J,hJ⟩:=H w.heap.size;have hx:=bn_ hJ aA;obtain⟨x0,x1,x2,x3,x4,x5,x6,x7⟩:=cl8 hx;have a_:=O a8;go_enter func86,ntmps86;go_upto_region 1 with fail;rw[←aA,←hJ];obtain⟨m,hm⟩:=H (bK j);have a:(((bO j).2.2:Int)==0)=m:=by rw[hm];unfold bK;cases h:(bO j).2.2<;>rfl
 have HM:=O hm;clear aA hJ a8 hx hm;go_wp2_with (go_at_call 72;refine(f.o _ a_.o).mono ?_;rintro e w3⟨rfl,al⟩;have aW:=O al;clear al);go_ret;exact⟨by rw[←HM.o];rfl,bt a_.o aW.o⟩
def mh (j:Jb)(texts:LL_)(I:LJ_)(ag:U8_)(ins:LL_):Nat×LX_×q:=if bK j=true then vmV texts I ag ins j.fuel else (2,[],[])
def Iy (B:Nat)(r:Nat×LX_×q)(e:Ending)(w:Z):Prop :=
 ∃ a c n,e=.returned (.tuple #[.agg #[.slice a r.2.1.length c,.string (bs r.2.2),.int .i64 n],.int .i64 r.1])∧recKv.Row w (.slice a r.2.1.length c) r.2.1∧∀ k,(Value.slice a r.2.1.length c).ownBlock=some k→B≤k
theorem DY (J:Nat)(tt:T_)(t1 c1 t2 c2 t3 c3 tv cv iv:V_)(j:Jb)(texts:LL_)(I:LJ_)(ag:U8_)(ins:LL_)(w:Z)(h:dD w t1 c1 t2 c2 t3 c3 j)(hJ:Blk w J tt [t1,c1,t2,c2,t3,c3,F j.parts,F j.fuel])(hA:pm w tv cv texts I)(hi:aP.Row w iv ins)(b5:ins.length≤10)(L:∀ s∈ins,s.length≤140737488355328)(aT:dp w):C_ 145 #[p_ J,.agg #[tv,cv],.int .u8 ag.toNat,iv] w fun e w'=>Iy w.heap.size (mh j texts I ag ins) e w'∧Bw_ w w':=by
 have E:=O (fun w' (hB:Bw_ w w')=>wD t1 c1 t2 c2 t3 c3 j w' (h.below hB));have d:=O (fun w' (hB:Bw_ w w')=>FL tv cv iv texts I ag ins j.fuel w' (hA.below hB) (hi.below hB) b5 hA.lc L h.f0 h.f1 (h.g.below hB) (aT.below hB));obtain⟨ta,tc,ca,cc,aV,bd,be,bf,bg,bh,bi,bk,rfl,rfl,rfl,rfl,rfl,rfl⟩:=jo_ h.a.t h.a.c h.b.t h.b.c h.c.t h.c.c;obtain⟨ak,ct,rfl,-,-⟩:=au hA.t;obtain⟨ac,bI,rfl,-,-⟩:=aj hA.c;obtain⟨ai,ci,rfl,-,-⟩:=au hi;unfold bM at E;have a:=O (show bK j=true→mh j texts I ag ins=vmV texts I ag ins j.fuel from fun h=>if_pos h);have u:=O (show ¬bK j=true→mh j texts I ag ins=(2,[],[]) from fun h=>if_neg h);obtain⟨B4,aQ⟩:=H w.heap.size;obtain⟨W1,aA⟩:=H ((w.alloc (.cells #[.slice ak texts.length ct,.slice ac I.length bI] 25)).alloc (.cells #[e_,.string ⟨#[]⟩,F 0] 234));have a8:B_ w.heap.size w W1:=by rw[aA];exact bt (af _ _) (af _ _)
 have bp:(w.alloc (.cells #[.slice ak texts.length ct,.slice ac I.length bI] 25)).heap.size=B4+1:=by rw[aQ];exact bP _ _
 have hx:Blk W1 B4 25 [.slice ak texts.length ct,.slice ac I.length bI]:=by rw[aQ,aA];exact(Blk.new w _ _).below (af _ _)
 have hy:Blk W1 (B4+1) 234 [e_,.string ⟨#[]⟩,F 0]:=by rw[aA,←bp];exact Blk.new _ _ _
 have a6:W1.heap.size=B4+2:=by rw[aA,bP,bp]
 have bS:=hJ.below a8;obtain⟨j0,j1,j2,j3,j4,j5,j6,c⟩:=cl8 bS;obtain⟨a_,HX,HY,ba,aL,cg⟩:=zH6 a8 hx hy aQ a6 bS;go_enter func145,ntmps145;go_upto_region 1 with fail;rw[←aA,←aQ];clear aA aQ h hJ hA hi a8 hx hy bp a6 L aT bS
 by_cases o:bK j=true
 ·have x:=O (a.o o)
  rw[o]at E;obtain⟨V,hV⟩:=H (vmV texts I ag ins j.fuel);rw[←hV]at d x;clear o hV a u;go_upto_region 3 with(go_at_call 86;refine(E.o _ a_.o).mono ?_;rintro e w2⟨rfl,ax⟩);have a9:=O (bt a_.o ax);have N:=O (HY.o.below ax);have bA:=O (show B4+2≤w2.heap.size by rw[←aL.o];exact ax.size);have x0:=(HX.o.below ax).c 0;have x1:=(HX.o.below ax).c 1;have c:=(cg.o.below ax).c 7;have g:J<w2.heap.size:=(cg.o.below ax).lt;have am:B4<w2.heap.size:=aG x0;have HG:=O (d.o w2.drew (bt a9.o (b_drew _)));clear j0 j1 j2 j3 j4 j5 j6 ax HY HX cg E d;go_region_law (refine aN rfl 164 #[.agg #[.slice ak texts.length ct,.slice ac I.length bI],.int .u8 ag.toNat,.slice ai ins.length ci,F j.fuel] yzc HG.o ?_;rintro e w7⟨⟨pv,n,rfl,m,aw⟩,aH⟩;obtain⟨P,pc,rfl,-,-⟩:=Rec.Row.open m;have f:=N.o.below (bt (b_drew w2) aH);obtain⟨y0,y1,y2⟩:=cl3 f;obtain⟨k0,k1,k2⟩:=fr3 f;obtain⟨M,aR,b3⟩:=zH3 f m aw;have aK:=O (bt a9.o (bt (b_drew w2) aH));clear aH f m aw)
  all_goals
   go_wp2_with fail;obtain⟨y,aI⟩:=dr M.o (.slice P V.2.1.length pc) (s_ V.2.2) (F n);refine bodyPost_ret (aX rfl rfl (ek (y.c 0) (y.c 1) (y.c 2))) rfl ?_;rw[x.o];refine⟨⟨_,_,_,rfl,aR.o.chgN aI (fun b hb e=>?_),fun k hk=>Jc a9.o.size (b3.o k hk)⟩,aK.o.trans (aI.below (fun k hk=>by rw[show k=B4+1 from hk,ba.o];exact Nat.le_succ _) aK.o.size)⟩;have h1:w2.heap.size≤b:=b3.o b hb;rw[show b=B4+1 from e]at h1;have:=bA.o;omega
 ·have HN:=O (u.o o)
  have a0:bK j=false:=by cases h:bK j with
   | false=>rfl
   | true=>exact absurd h o
  rw[a0]at E;clear o a0 d a u;go_wp2_with (go_at_call 86;refine(E.o _ a_.o).mono ?_;rintro e w2⟨rfl,ax⟩;have f:=HY.o.below ax;obtain⟨y0,y1,y2⟩:=cl3 f;obtain⟨k0,k1,k2⟩:=fr3 f;have M:=O f;have a9:=O (bt a_.o ax);clear f ax);exact Md
theorem BQ (t1 c1 t2 c2 t3 c3:V_)(j:Jb)(s s2:q)(w:Z)(h:dD w t1 c1 t2 c2 t3 c3 j)(aT:dp w)(hs:s.length≤140737488355328)(ar:s2.length≤140737488355328):R_ 107 #[bM t1 c1 t2 c2 t3 c3 j,s_ s,s_ s2] w (.tuple #[s_ (mh j j.jt j.jc 2 [s,s2]).2.2,F ((mh j j.jt j.jc 2 [s,s2]).1:Int)]):=by
 have HR:=O (fun w' (A:Nat) (ty:T_) iv (hB:Bw_ w w') (X:Blk w' A ty [t1,c1,t2,c2,t3,c3,F j.parts,F j.fuel]) (hi:aP.Row w' iv [s,s2])=>DY A ty t1 c1 t2 c2 t3 c3 t2 c2 iv j j.jt j.jc 2 [s,s2] w' (h.below hB) X (h.below hB).b hi i_ (fun x hx=>by rcases JK.1 hx with rfl|hx;exact hs;rw[Jp.1 hx];exact ar) (aT.below hB));obtain⟨ta,tc,ca,cc,aV,bd,be,bf,bg,bh,bi,bk,rfl,rfl,rfl,rfl,rfl,rfl⟩:=jo_ h.a.t h.a.c h.b.t h.b.c h.c.t h.c.c;unfold bM;obtain⟨V,hV⟩:=H (mh j j.jt j.jc 2 [s,s2]);rw[←hV]at HR⊢;clear hV h aT;go_enter func107,ntmps107;go_upto_region 1 with fail;obtain⟨W1,aA⟩:=H (w.alloc (.cells #[.slice ta j.mt.length tc,.slice ca j.mc.length cc,.slice aV j.jt.length bd,.slice be j.jc.length bf,.slice bg j.tt.length bh,.slice bi j.tc.length bk,F j.parts,F j.fuel] 27));have a8:=ba_ aA;have hx:=bm_ aA;obtain⟨x0,x1,x2,x3,x4,x5,x6,x7⟩:=cl8 hx;have bo:w.heap.size<W1.heap.size:=hx.lt;rw[←aA];have a_:=O a8;have HX:=O hx;clear aA a8 hx;go_upto_region 2 with fail;obtain⟨A,X⟩:=H W1.heap.size;obtain⟨W2,ae⟩:=H (W1.alloc (.cells #[.slice ta j.mt.length tc,.slice ca j.mc.length cc,.slice aV j.jt.length bd,.slice be j.jc.length bf,.slice bg j.tt.length bh,.slice bi j.tc.length bk,F j.parts,F j.fuel] 159));have aY:=ba_ ae;have hh:=bn_ X ae;have bn:=HX.o.below aY;have x0:=bn.c 2;have x1:=bn.c 3;have a:w.heap.size<W2.heap.size:=bn.lt;rw[←ae,←X]
 have a9:=O (bt a_.o aY);have HH:=O hh;clear ae X aY hh bn x2 x3 x4 x5 x6 x7;go_wp2_with (go_at_call 145;refine(HR.o _ A 159 _ (bt a9.o (af _ _)) (HH.o.below (af _ _)) (Rec.Row.new (R:=aP) W2 [s,s2] 9)).mono ?_;rintro e w3⟨⟨P,pc,n,rfl,m,-⟩,al⟩;have aR:=O m;have aW:=O (bt (bt a9.o (af _ _)) al);clear m al);go_ret2;exact⟨rfl,bt aW.o (af _ _)⟩
theorem yR {j:Jb}(h:bK j=true)(texts:LL_)(I:LJ_)(ag:U8_)(ins:LL_):mh j texts I ag ins=vmV texts I ag ins j.fuel:=if_pos h
theorem pE (texts:LL_)(I:LJ_)(ag:U8_)(ins:LL_)(aa:Int):(vmV texts I ag ins aa).2.2.length≤1024:=by
 cases hy:dR texts I ag ins aa with
 | false=>rw[xF hy];simp
 | true =>
  rw[tn hy];obtain⟨h1,h2,-,-,h5⟩:=gm hy;obtain⟨hg,-⟩:=ju h1 h2 h5;unfold rB
  split
  ·rename_i h0
   obtain⟨bb,-⟩:=tJ hg aa.toNat bF lg h0;dsimp only
   split
   ·simp
   ·cases ab:(dG ⟨texts,I,ins,(az texts I ag).2.2.ends⟩ aa.toNat bF).2.st with
    | nil=>simp
    | cons v r =>
     have hv:=bb.sv v (by rw[ab];simp);exact hv.2.2
  ·simp
abbrev b8 (n:Nat):U8_:=UInt8.ofNat n
theorem Er {n:Nat}(h:n<256):(b8 n).toNat=n:=by unfold b8;rw[UInt8.toNat_ofNat'];omega
def jo (t:LL_):q:=t.flatMap (fun s=>b8 s.length::s)
def lO (c:LJ_):q:=c.flatMap (fun x=>[x.1,x.2])
def iJ (t:LL_)(c:LJ_):q:=b8 t.length::(jo t++(b8 c.length::b8 (c.length / 256)::lO c))
theorem qv {t:LL_}{c:LJ_}(h:dH t c=true):t.length≤16∧c.length≤256∧∀ s∈t,s.length≤64:=by
 unfold dH at h;simp only[Jj,decide_eq_true_eq,List.all_eq_true]at h;exact⟨h.1.1.1,h.1.1.2,h.1.2⟩
def dL:Rec U8_ where
 cell c:=[.int .u8 c.toNat]
 e:=5
 n:=1
 bytes:=1
 z:=.int .u8 0
 len:=fun _=>rfl
 one:=by intro x u h;simp at h;subst h;rfl
 info:=by kernel_rfl
 zs:=rfl
 pos:=by decide
 bpos:=by decide
theorem Ds:∀ l:q,Lib.strCells (bs l)=dL.cells l:=by
 intro l;unfold Lib.strCells;rw[show(bs l).data.toList=l by simp[bs]]
 induction l with
 | nil=>rfl
 | cons x l H=>rw[List.map_cons,H];rfl
theorem vz (w:Z)(l:q)(hl:l.length≤1000):dL.Own (w.alloc (.cells (dL.cells l).toArray dL.e)) w.heap.size (.slice (some ⟨w.heap.size,0,none⟩) l.length l.length) l:=by
 refine⟨by rw[Rec.cells_length],.inr ⟨w.heap.size,l.length,(dL.cells l).toArray,rfl,I6 _,World.alloc_heap_new w _,I6 _,Jc hl d_,?_,?_⟩⟩
 ·rw[List.size_toArray,Rec.cells_length]
 ·show(dL.cells l).take (l.length*dL.n)=_
  rw[I5 (by rw[Rec.cells_length];exact I6 _)]
theorem An {aM:Array Oper}{rest:LO_}{o:Oper}{a:Act}{Q:Exit→Act→Z→Prop}(w:Z)(av:o.guard=none)(s x:Operand)(t u:T_)(ho:o.op=.call { callee:=.builtin .append,args:=#[s,x],argTypes:=#[t,u] })(ht:prog.underlying t=some (.slice dL.e))(hu:prog.underlying u=some .string)(bZ:Nat)(v:V_)(l:q)(aw:dL.Own w bZ v l)(hs:a.eval s=v)(y:q)(hx:a.eval x=s_ y)(ai:l.length+y.length≤140737488355328)(aB:bZ≤w.heap.size)(h:∀ A C w',dL.Own w' bZ (.slice A (l.length+y.length) C) (l++y)→Chg (fun k=>v.ownBlock=some k) w w'→wpList prog aM Q rest (a.put o.dst (.slice A (l.length+y.length) C)) w'):wpList prog aM Q (o::rest) a w:=by
 obtain⟨i,hi,hz,ao,aG⟩:=info_parts dL.info;refine Lib.wpList_append_own_string _ av s x t u ho bZ dL.e i ht hu hi hz ao aG v l.length (dL.cells l) hs aw (bs y) hx (by rw[cB];exact Jc ai d_) (by rw[cB];exact ai) aB ?_;intro v' w' h2 h3 _;rw[cB,Ds]at h2;have E:dL.Own w' bZ v' (l++y):=by unfold Rec.Own;rw[dL.cells_append,Jh];exact h2
 have hB:B_ bZ w w':=(Ja bZ w).grown h3 aB (fun k hk=>(Rec.Own.ltV aw k hk).1);obtain⟨A,C,rfl⟩:=ay h2;exact h A C w' E ⟨hB.os,hB.tape,hB.output,hB.size,fun j hj aI=>h3.block j hj (fun e=>aI e.symm)⟩
theorem rk {n:Nat}(h:n≤255):((b8 n).toNat:Int)=(n:Int)∧IntKind.u8.wrap (n:Int)=(n:Int)∧(n:Int)%256=(n:Int):=by
 refine⟨by rw[Er Y],?_,by omega⟩;simp[IntKind.wrap,IntKind.bits,IntKind.signed];omega
theorem qf {t:LL_}{k:Nat}(h:k<t.length):jo (t.take (k+1))=jo (t.take k)++(b8 t[k].length::t[k]):=by
 unfold jo;rw[JB h,List.flatMap_append];simp
theorem qj {c:LJ_}{k:Nat}(h:k<c.length):lO (c.take (k+1))=lO (c.take k)++[c[k].1,c[k].2]:=by
 unfold lO;rw[JB h,List.flatMap_append];simp
theorem Bp (t:LL_)(h:∀ s∈t,s.length≤64):(jo t).length≤65*t.length:=by
 induction t with
 | nil=>simp[jo]
 | cons s t H =>
  have hs:=h s i_;have:=H (fun x hx=>h x yzn);unfold jo at this⊢;rw[List.flatMap_cons,Jh,Jq,Jq];omega
theorem Bq (c:LJ_):(lO c).length=2*c.length:=by
 induction c with
 | nil=>rfl
 | cons x c H =>
  unfold lO at H⊢;rw[List.flatMap_cons,Jh,H,Jq];simp;omega
theorem vA (w:Z){n:Nat}(h:n≤255)(e:T_):aO (w.alloc (.cells #[.int .u8 n] e)) (.slice (some ⟨w.heap.size,0,none⟩) 1 1) 1 (dL.cell (b8 n)):=by
 have hc:dL.cell (b8 n)=[.int .u8 n]:=by show [Value.int .u8 ((b8 n).toNat:Int)]=_;rw[(rk h).1]
 have:=(Rec.Row.new (R:=dL) w [b8 n] e).1;rw[show dL.cells [b8 n]=[.int .u8 n] from by show dL.cell _++[]=_;rw[hc];rfl]at this;rw[hc];exact this
theorem vy (w:Z)(x y:U8_)(e:T_):dL.Row (w.alloc (.cells #[.int .u8 x.toNat,.int .u8 y.toNat] e)) (.slice (some ⟨w.heap.size,0,none⟩) 2 2) [x,y]:=Rec.Row.new (R:=dL) w [x,y] e
theorem sa (w:Z){n:Nat}(h:n≤65535)(e:T_):dL.Row (w.alloc (.cells #[.int .u8 ((n:Int)%256),.int .u8 ((n:Int) / 256)] e)) (.slice (some ⟨w.heap.size,0,none⟩) 2 2) [b8 n,b8 (n / 256)]:=by
 have h1:((b8 n).toNat:Int)=(n:Int)%256:=by unfold b8;rw[UInt8.toNat_ofNat'];omega
 have h2:((b8 (n / 256)).toNat:Int)=(n:Int) / 256:=by unfold b8;rw[UInt8.toNat_ofNat'];omega
 have:=vy w (b8 n) (b8 (n / 256)) e;rw[h1,h2]at this;exact this
theorem pZ:∀ l:q,dL.cells l=aW l
 | []=>rfl
 | x::l=>by rw[Rec.cells,pZ l];rfl
theorem sb {w:Z}{bZ:Nat}{v:V_}{l:q}(h:dL.Own w bZ v l):(convert 114 9 v).run prog w=.ok (s_ l) w:=by
 refine qV _ _ 5 underlying114 underlying5 underlying9 w bZ v l.length l ?_;have:w.ownsRow bZ dL.e dL.n v l.length (dL.cells l):=h;rw[pZ]at this;exact this
def vN (t:LL_)(c:LJ_):V_:=if dH t c=true then .tuple #[.string (bs (iJ t c)),.int .i64 0] else .tuple #[.string (bs []),.int .i64 2]
theorem Ml {T:Prop} (h:T:=by
 refine⟨⟨k+1,A2,C2,(l++[b8 texts[k].length])++texts[k],?_,by go_num,by omega,?_,?_,?_,HM.o.2⟩,by simp[intOf];omega⟩
 ·rw[Jh,Jh,JJ]
 ·rw[Jh,Jh,JJ];omega
 ·unfold Hid
  rw[HT.o,HL.o,Jg]
  rfl
 ·have:=HM.o.1
  rw[←Jh]at this;exact this
):T:=h
theorem My {T:Prop} (h:T:=by
 rw[show dL.cells [b8 texts.length]=[.int .u8 texts.length] from by show [Value.int .u8 ((b8 texts.length).toNat:Int)]=_;rw[q1]]at h;rw[d];exact h
):T:=h
theorem uy (tv cv:V_)(texts:LL_)(I:LJ_)(w:Z)(ht:aP.Row w tv texts)(hc:bH.Row w cv I)(aC:texts.length≤140737488355328)(cg:I.length≤140737488355328)(hm:∀ s∈texts,s.length≤140737488355328):R_ 89 #[.agg #[tv,cv]] w (vN texts I):=by
 have f:=O (fun w' (hB:Bw_ w w')=>rx tv cv texts I w' (ht.below hB) (hc.below hB) aC cg hm);obtain⟨ak,ct,rfl,-,o⟩:=au ht;obtain⟨ac,cc,rfl,-,bm⟩:=aj hc;have x:=O o;have bz:=O bm;obtain⟨W1,aA⟩:=H (w.alloc (.cells #[.slice ak texts.length ct,.slice ac I.length cc] 25));have a8:=ba_ aA;have hx:=bm_ aA;obtain⟨x0,x1⟩:=cl2 hx;have a_:=O a8;have HX:=O hx;clear ht hc o bm a8 hx hm
 by_cases c:dH texts I=true
 ·obtain⟨N,u,M⟩:=qv c
  rw[if_pos c]at f;have HR:=O (show vN texts I=.tuple #[s_ (iJ texts I),F 0] by unfold vN;rw[if_pos c]);have ah:=O M;clear c M;go_enter func89,ntmps89;go_upto_region 1 with fail;rw[←aA];clear aA;go_wp2_with fail;refine(f.o _ a_.o).mono ?_;rintro e w2⟨rfl,hB⟩;have a9:=O (bt a_.o hB);have aR:=O (HX.o.below hB);clear hB x0 x1;have x0:=aR.o.c 0;obtain⟨q1,q2,q3⟩:=rk (n:=texts.length) Y;go_upto_region 5 with fail;obtain⟨w3,d⟩:=H (w2.alloc (.cells #[.int .u8 texts.length] 5));have aX:=ba_ d
  have L:dL.Own w3 w2.heap.size (.slice (some ⟨w2.heap.size,0,none⟩) 1 1) [b8 texts.length]:=by
   have h:=vz w2 [b8 texts.length] i_;exact My
  have x0:=(aR.o.below aX).c 0;rw[←d];obtain⟨aW,bf,av⟩:=zH3 (bt a9.o aX) L aX;have a6:w2.heap.size≤w3.heap.size:=aX.size;have i:w.heap.size≤w2.heap.size:=a9.o.size;clear d aX L q1 q2 q3;go_wp2_with fail;clear x0
  go_loopw [5,23] (fun vb m wr=>∃ (k:Nat) (A:OA_) (C:Nat) (l:q),vb=.slice A l.length C∧m=F k∧k≤texts.length∧l.length≤1+65*k∧Hid (l=b8 texts.length::jo (texts.take k))∧Hid (dL.Own wr w2.heap.size (.slice A l.length C) l)∧Hid (Bw_ w2 wr)) (fun _ m _=>texts.length-(intOf m).toNat)
  case atStart=>exact⟨0,_,_,[b8 texts.length],rfl,rfl,Jl _,by simp,by unfold Hid;simp[jo],bf.o,av.o⟩
  case round =>
   obtain⟨k,A,C,l,rfl,rfl,hk,hl,HL,HO,HB⟩:=hrel
   by_cases h0:k<texts.length
   ·obtain⟨b,aL,rfl,d0⟩:=x.o k h0
    have d0:=IF (bt a9.o HB.o) d0;have ar:=nn_ k;have a5:(k:Int)<texts.length:=Y;have G:=ah.o texts[k] (Jz h0);obtain⟨q1,q2,q3⟩:=rk (n:=texts[k].length) Y;have HT:=O (qf h0);have aZ:w2.heap.size≤wr.heap.size:=HB.o.size;clear q1;go_wp2_with (first|(at_builtin;refine dL.append1V _ (b8 texts[k].length) rfl _ _ 114 rfl underlying114 w2.heap.size _ l (HO.o.below (af _ _)) rfl _ rfl (vA wr Y _) (by show(l.length+1)*1≤_;omega) (Jc aZ (af _ _).size) ?_;intro g gc J a bq _;have HN:=O (And.intro a (And.intro bq ((HB.o.trans ((af wr (.cells #[.int .u8 (texts[k].length:Int)] 5)).mono aZ)).trans (bq.below (fun j hj=>(Rec.Own.ltV HO.o j hj).1) (Jc aZ (af _ _).size)))));clear a bq)|(at_builtin;refine An _ rfl _ _ 114 9 rfl underlying114 underlying9 w2.heap.size _ (l++[b8 texts[k].length]) HN.o.1 rfl texts[k] rfl (by rw[Jh,JJ];omega) HN.o.2.2.size ?_;intro A2 C2 R v aI;have HM:=O (And.intro v (HN.o.2.2.trans (aI.below (fun j hj=>(Rec.Own.ltV HN.o.1 j hj).1) HN.o.2.2.size)));clear v aI));exact Ml
   ·obtain rfl:k=texts.length:=Y
    have a0:=HL.o;rw[List.take_length]at a0;have bD:=O a0;have x1:=(aR.o.below HB.o).c 1;have e0:¬(texts.length:Int)<texts.length:=Y;have aZ:w2.heap.size≤wr.heap.size:=HB.o.size;have a4:l.length≤1041:=Y;have E:(I.length:Int)≤256:=Y;clear a0 h0 HL;go_upto_region 11 with(at_builtin;refine dL.appendNV _ rfl _ _ 114 rfl underlying114 w2.heap.size _ l (HO.o.below (af _ _)) rfl _ [b8 I.length,b8 (I.length / 256)] (sa wr Y _) rfl (by show(l.length+2)*1≤_;omega) (Jc aZ (af _ _).size) ?_;intro P S J a bq;have HN:=O (And.intro a ((HB.o.trans ((af wr (.cells #[.int .u8 ((I.length:Int)%256),.int .u8 ((I.length:Int) / 256)] 5)).mono aZ)).trans (bq.below (fun j hj=>(Rec.Own.ltV HO.o j hj).1) (Jc aZ (af _ _).size))));clear a bq);obtain⟨l2,a0⟩:=H (l++[b8 I.length,b8 (I.length / 256)]);have z:l2.length=l.length+2:=by rw[a0,Jh];rfl
    rw[←a0]at HN;rw[←z];have K:l2.length≤1043:=by rw[a0,Jh];simp;omega
    have an:=O (show l2=b8 texts.length::(jo texts++[b8 I.length,b8 (I.length / 256)]) by rw[a0,bD.o];rfl);have cF:=O HN.o.1;have a':=O HN.o.2;have x1:=(aR.o.below a'.o).c 1;clear a0 z HN HO HB aZ hl a4 bD e0;go_wp2_with fail;clear x1
    go_loopw [5,51] (fun vb m wr=>∃ (k:Nat) (A:OA_) (C:Nat) (l:q),vb=.slice A l.length C∧m=F k∧k≤I.length∧l.length≤1043+2*k∧Hid (l=l2++lO (I.take k))∧Hid (dL.Own wr w2.heap.size (.slice A l.length C) l)∧Hid (Bw_ w2 wr)) (fun _ m _=>I.length-(intOf m).toNat)
    case atStart=>exact⟨0,_,_,l2,rfl,rfl,Jl _,by omega,by unfold Hid;simp[lO],cF.o,a'.o⟩
    case round =>
     obtain⟨k,A,C,l,rfl,rfl,hk,hl,HL,HO,HB⟩:=hrel;have aZ:w2.heap.size≤wr.heap.size:=HB.o.size
     by_cases h0:k<I.length
     ·obtain⟨b,aL,rfl,d0,d1⟩:=bz.o k h0
      have d0:=IF (bt a9.o HB.o) d0;have d1:=IF (bt a9.o HB.o) d1;have ar:=nn_ k;have a5:(k:Int)<I.length:=Y;have HT:=O (qj h0);go_upto_region 14 with fail;obtain⟨wa,D⟩:=H (wr.alloc (.cells #[.int .u8 (I[k].1.toNat:Int),.int .u8 (I[k].2.toNat:Int)] 109));have bC:=ba_ D;have ab:=bm_ D;rw[←D];obtain⟨g0,g1⟩:=cl2 ab;have Q:=O (HO.o.below bC);have bw:=O (HB.o.trans (bC.mono aZ));have y:w2.heap.size≤wa.heap.size:=bw.o.size;clear D bC ab d0 d1 HO HB;go_wp2_with (at_builtin;refine dL.appendNV _ rfl _ _ 114 rfl underlying114 w2.heap.size _ l (Q.o.below (af _ _)) rfl _ [I[k].1,I[k].2] (vy wa _ _ _) rfl (by show(l.length+2)*1≤_;omega) (Jc y (af _ _).size) ?_;intro P S J a bq;have HN:=O (And.intro a ((bw.o.trans ((af wa (.cells #[.int .u8 (I[k].1.toNat:Int),.int .u8 (I[k].2.toNat:Int)] 5)).mono y)).trans (bq.below (fun j hj=>(Rec.Own.ltV Q.o j hj).1) (Jc y (af _ _).size))));clear a bq);refine⟨⟨k+1,P,S,l++[I[k].1,I[k].2],?_,by go_num,by omega,?_,?_,HN.o.1,HN.o.2⟩,by simp[intOf];omega⟩
      ·rw[Jh];rfl
      ·rw[Jh];simp;omega
      ·unfold Hid
       rw[HT.o,HL.o,Jg]
     ·obtain rfl:k=I.length:=Y
      have bB:=sb HO.o;have bS:=HL.o;rw[List.take_length,an.o]at bS;have HF:=O (show l=iJ texts I by rw[bS];unfold iJ;simp);have e0:¬(I.length:Int)<I.length:=Y;clear bS h0;go_wp2_with fail;go_ret2;exact⟨by rw[HR.o,←HF.o];rfl,bt a9.o HB.o⟩
 ·rw[if_neg c]at f
  have HR:=O (show vN texts I=.tuple #[s_ [],F 2] by unfold vN;rw[if_neg c]);clear c;go_enter func89,ntmps89;go_upto_region 1 with fail;rw[←aA];clear aA;go_wp2_with fail;refine(f.o _ a_.o).mono ?_;rintro e w2⟨rfl,hB⟩;have a9:=O (bt a_.o hB);clear hB x0 x1;go_wp2_with fail;go_ret2;exact⟨by rw[HR.o];rfl,a9.o⟩
theorem m7 (n:Nat)(w:Z)(hn:n<4294967296):R_ 87 #[F n] w (s_ (num n 4)):=by
 have hp:=yt (n:Int) 4 d_ d_ (by simpa using hn)
 have HP:=O (show C_ 56 #[.int .u64 n,F 4] w fun e w'=>e=.returned (.tuple #[s_ (num n 4),F 0])∧Bw_ w w' by
  have h:=s9 (n:Int) 4 w Y Y;rw[hp]at h;simpa using h)
 have aw:IntKind.u64.wrap (n:Int)=(n:Int):=by simp[IntKind.wrap,IntKind.bits,IntKind.signed];omega
 clear hp;go_enter func87,ntmps87;go_wp2_with (go_at_call 56;refine HP.o.mono ?_;rintro e w1⟨rfl,aF⟩;have a_:=O aF;clear aF);go_ret;exact⟨rfl,a_.o⟩
def gG (t:LL_)(c:LJ_):q:=num (iJ t c).length 4++iJ t c
def iB (j:Jb):q:=UInt8.ofNat j.parts.toNat::num j.fuel.toNat 4
def cR (j:Jb):q:=iB j++gG j.mt j.mc++gG j.jt j.jc++gG j.tt j.tc
theorem ey {t:LL_}{c:LJ_}(h:dH t c=true):(iJ t c).length≤2000:=by
 unfold dH at h;simp only[Jj,decide_eq_true_eq,List.all_eq_true]at h;obtain⟨⟨⟨h1,h2⟩,h3⟩,-⟩:=h;have e1:=Bp t (fun s hs=>h3 s hs);have e2:=Bq c;unfold iJ;simp only[Jq,Jh];omega
theorem qw {j:Jb}(h:bK j=true):dH j.mt j.mc=true∧dH j.jt j.jc=true∧dH j.tt j.tc=true:=by
 obtain⟨⟨h1,h2,h3⟩,-⟩:=tY h;exact⟨(fi h1).1,(fi h2).1,(fi h3).1⟩
theorem gY {t:LL_}{c:LJ_}(h:dH t c=true):(gG t c).length≤2004:=by
 have:=ey h;unfold gG;rw[Jh,aZ];omega
theorem zN {w:Z}{a:OA_}{c:Nat}{x:U8_}(h:aO w (.slice a 1 c) 1 [.int .u8 x.toNat]):(convert 114 9 (.slice a 1 c)).run prog w=.ok (s_ [x]) w:=by
 obtain⟨a',ah,hv,_,hc⟩:=h;injection hv with e1 _ e3
 subst e1 e3;obtain⟨b,aL,rfl,h0⟩:=hc 0 _ rfl;refine run_convert_bytes_back w 114 9 5 ⟨b,aL,none⟩ c [x] underlying114 underlying5 underlying9 (fun j hj=>?_);obtain rfl:j=0:=by simp at hj;omega
 simpa[Addr.add] using h0

def vM (j:Jb):V_:=if bK j=true then .tuple #[.string (bs (cR j)),.int .i64 0] else .tuple #[.string (bs []),.int .i64 2]
def psJ (j:Jb):Nat→q
 | 0=>iB j
 | 1=>iB j++gG j.mt j.mc
 | 2=>iB j++gG j.mt j.mc++gG j.jt j.jc
 | _=>cR j
theorem MH {T:Prop} (h:T:=by
 have b8:aO w' (.slice ad 1 c) 1 [.int .u8 P]:=at0 hS (by kernel_rfl);have e:=cr.o w' _ _ b8;go_simp;exact hG _ (Bel.refl _)
):T:=h
theorem wE (t1 c1 t2 c2 t3 c3:V_)(j:Jb)(w:Z)(h:dD w t1 c1 t2 c2 t3 c3 j):R_ 55 #[bM t1 c1 t2 c2 t3 c3 j] w (vM j):=by
 have E:=O (fun w' (hB:Bw_ w w')=>wD t1 c1 t2 c2 t3 c3 j w' (h.below hB));have ak:=O (fun w' (hB:Bw_ w w')=>uy t1 c1 j.mt j.mc w' (h.below hB).a.t (h.below hB).a.c (Jc h.a.lt d_) (Jc h.a.lc d_) h.a.m);have an:=O (fun w' (hB:Bw_ w w')=>uy t2 c2 j.jt j.jc w' (h.below hB).b.t (h.below hB).b.c (Jc h.b.lt d_) (Jc h.b.lc d_) h.b.m);have bE:=O (fun w' (hB:Bw_ w w')=>uy t3 c3 j.tt j.tc w' (h.below hB).c.t (h.below hB).c.c (Jc h.c.lt d_) (Jc h.c.lc d_) h.c.m);obtain⟨ta,tc,ca,cc,aV,bd,be,bf,bg,bh,bi,bk,rfl,rfl,rfl,rfl,rfl,rfl⟩:=jo_ h.a.t h.a.c h.b.t h.b.c h.c.t h.c.c;unfold bM at E⊢;obtain⟨P,hP⟩:=H j.parts;obtain⟨am,hF⟩:=H j.fuel;have HP:=O hP;have HF:=O hF;rw[←hP,←hF]at E⊢;clear hP hF;obtain⟨W1,aA⟩:=H (w.alloc (.cells #[.slice ta j.mt.length tc,.slice ca j.mc.length cc,.slice aV j.jt.length bd,.slice be j.jc.length bf,.slice bg j.tt.length bh,.slice bi j.tc.length bk,F P,F am] 27));have a8:=ba_ aA;obtain⟨J,hJ⟩:=H w.heap.size;have hx:=bn_ hJ aA;obtain⟨x0,x1,x2,x3,x4,x5,x6,x7⟩:=cl8 hx;have a_:=O a8;have HX:=O hx;go_enter func55,ntmps55;go_upto_region 1 with fail;rw[←aA,←hJ];clear aA hJ a8 hx h
 by_cases hm:bK j=true
 ·have c0:=O (show vM j=.tuple #[s_ (cR j),F 0] from if_pos hm)
  rw[hm]at E;obtain⟨m1,m2,m3⟩:=qw hm;obtain⟨-,ae,au,bb,n⟩:=tY hm;rw[←HP.o]at ae au;rw[←HF.o]at bb n;have l1:=ey m1;have l2:=ey m2;have l3:=ey m3;obtain⟨ah,N,aj⟩:=zH3 (show vN j.mt j.mc=.tuple #[s_ (iJ j.mt j.mc),F 0] from if_pos m1) (show vN j.jt j.jc=.tuple #[s_ (iJ j.jt j.jc),F 0] from if_pos m2) (show vN j.tt j.tc=.tuple #[s_ (iJ j.tt j.tc),F 0] from if_pos m3);have ai:=O (show(iB j).length=5∧(gG j.mt j.mc).length≤2004∧(gG j.jt j.jc).length≤2004∧(gG j.tt j.tc).length≤2004 from⟨by unfold iB;simp,gY m1,gY m2,gY m3⟩);obtain⟨bH,bD,aH⟩:=zH3 l1 l2 l3;clear hm m1 m2 m3 l1 l2 l3;go_upto_region 3 with(go_at_call 86;refine(E.o _ a_.o).mono ?_;rintro e w2⟨rfl,ax⟩;have aR:=O (HX.o.below ax);have a9:=O (bt a_.o ax);clear ax x0 x1 x2 x3 x4 x5 x6 x7);obtain⟨pb,f⟩:∃ pb:U8_,(pb.toNat:Int)=P:=⟨UInt8.ofNat P.toNat,by rw[UInt8.toNat_ofNat'];omega⟩
  obtain⟨fn,af⟩:∃ fn:Nat,(fn:Int)=am:=⟨am.toNat,by omega⟩
  have bS:fn<4294967296:=Y
  have ac:=O (show iB j=pb::num fn 4 by
   unfold iB;rw[←HP.o,←HF.o,←f,←af];simp)
  have aw:IntKind.u8.wrap (P:Int)=(pb.toNat:Int):=by rw[←f];have:=pb.toNat_lt;simp[IntKind.wrap,IntKind.bits,IntKind.signed];omega
  have x6:=aR.o.c 6;have x7:=aR.o.c 7;have bm:=O (fun w'=>show C_ 87 #[F am] w' fun e bc=>e=.returned (s_ (num fn 4))∧Bw_ w' bc by rw[←af];exact m7 fn w' bS);have cr:=O (fun w' (a:OA_) (c:Nat) (h:aO w' (.slice a 1 c) 1 [.int .u8 P])=>show(convert 114 9 (.slice a 1 c)).run prog w'=.ok (s_ [pb]) w' by rw[←f]at h;exact zN h);obtain⟨nf,ay⟩:=H (num fn 4);have aQ:(nf.length:Int)=4:=by rw[ay,aZ];rfl
  rw[←ay]at bm ac;clear aw f af bS ay;refine rk_ [(1,.exact _ (F P)),(3,dc 1 [.int .u8 P]),(4,.exact _ (s_ [pb])),(6,.exact _ (F am)),(7,.exact _ (s_ nf))] ?_;refine cG ?_;refine gl_ x6 ?_;refine gk_ (dc 1 [.int .u8 P]) (fun w' G hB hS hG=>?_) (fun x K hK=>?_)
  ·go_simp
   exact ew hG rfl
  obtain⟨ad,c⟩:=x;refine cO ?_;clear hK K;refine gj_ (fun w' G hB hS hG=>?_) ?_
  ·exact MH
  refine gl_ x7 ?_;refine gj_ (fun w' G hB hS hG=>?_) ?_
  ·have hu:=bm.o w'
   go_simp;exact aT hG hu
  refine eQ ?_;intro w3 al ao;have a4:=O (aR.o.below al);have aW:=O (bt a9.o al);clear ao al x6 x7;obtain⟨x0,x1,x2,x3,x4,x5,x6,x7⟩:=cl8 a4.o;go_upto_region 5 with fail;obtain⟨A,X⟩:=H w3.heap.size;obtain⟨W4,bw⟩:=H (w3.alloc (.cells #[.slice ta j.mt.length tc,.slice ca j.mc.length cc,.slice aV j.jt.length bd,.slice be j.jc.length bf,.slice bg j.tt.length bh,.slice bi j.tc.length bk,F P,F am] 159));have bC:=ba_ bw;have hh:=bn_ X bw;rw[←bw,←X];have I:=O hh;have ba:=O (bt aW.o bC);clear x0 x1 x2 x3 x4 x5 x6 x7 bw X bC hh;go_upto_region 6 with(first|(go_at_call 88;refine(so A W4).mono ?_;rintro e w5⟨⟨D,t,rfl,ab,hd⟩,aN⟩;obtain⟨HH,HD,aJ⟩:=zH3 (I.o.below aN) hd (bt ba.o aN);clear ab hd aN)|fail);have cD:=O (show psJ j 0=pb::nf by rw[←ac.o];rfl)
  go_loopw [4,28] (fun s i wr=>∃ k:Nat,k≤3∧i=F k∧s=s_ (psJ j k)∧Hid (Bw_ w5 wr)) (fun _ i _=>3-(intOf i).toNat)
  case atStart=>exact⟨0,by omega,rfl,by rw[cD.o],Ja _ _⟩
  case round =>
   obtain⟨k,hk,rfl,rfl,m⟩:=hrel;have hd:=HD.o.below m.o;have V:=HH.o.below m.o;have a7:=O (bt aJ.o m.o);rcases(by omega:k=0∨k=1∨k=2∨k=3) with rfl|rfl|rfl|rfl
   ·obtain⟨M,hM⟩:=H (iJ j.mt j.mc)
    obtain⟨S,hS⟩:=H (psJ j 0);obtain⟨NM,b⟩:=H (num M.length 4);have W:M.length≤2000:=by rw[hM];exact bH.o
    have bj:S.length≤10000:=by rw[hS];have:=ai.o;show(iB j).length≤10000;omega
    have bR:=O (show psJ j (0+1)=S++(NM++M) by rw[b,hM,hS];rfl)
    have ch:=O (fun w' (hB:Bw_ w w')=>show C_ 89 #[.agg #[.slice ta j.mt.length tc,.slice ca j.mc.length cc]] w' fun e bc=>e=.returned (.tuple #[s_ M,F 0])∧Bw_ w' bc by
     have h:=ak.o w' hB;rw[ah.o,←hM]at h;exact h)
    have ag:=O (fun w'=>show C_ 87 #[F M.length] w' fun e bc=>e=.returned (s_ NM)∧Bw_ w' bc by rw[b];exact m7 M.length w' Y);have i1:(M.length:Int)≤2000:=Y;have i2:(S.length:Int)≤10000:=Y;have i3:(NM.length:Int)=4:=by rw[b,aZ];rfl
    rw[←hS];clear hM hS b W bj;obtain⟨d0,d1⟩:=cl2 hd;go_upto_region 8 with fail;obtain⟨T,hT⟩:=H wr.heap.size;obtain⟨U,hU⟩:=H (wr.alloc (.cells #[.int .u8 1,p_ A] 163));have u:=ba_ hU;have hu:=bn_ hT hU;have d:=V.below u;obtain⟨u0,u1⟩:=cl2 hu;obtain⟨v0,v1⟩:=cl2 d;have a3:T<U.heap.size:=aG u0;have aa:A<U.heap.size:=aG v0;have bG:=O u;rw[←hU,←hT];clear hd d0 d1 hU hT u hu d V;go_wp2_with (first|(go_at_call 87;refine mB_ (ag.o _) aK fun w8 aU=>?_)|(go_at_call 89;refine mB_ (ch.o _ (bt a7.o bG.o)) bG fun w7 aK=>?_));go_roundw
    case rel=>exact⟨0+1,by omega,rfl,by rw[bR.o],bt m.o aU.o⟩
    case measure=>decide
   ·obtain⟨M,hM⟩:=H (iJ j.jt j.jc)
    obtain⟨S,hS⟩:=H (psJ j 1);obtain⟨NM,b⟩:=H (num M.length 4);have W:M.length≤2000:=by rw[hM];exact bD.o
    have bj:S.length≤10000:=by rw[hS];have:=ai.o;show(iB j++gG j.mt j.mc).length≤10000;rw[Jh];omega
    have bR:=O (show psJ j (1+1)=S++(NM++M) by rw[b,hM,hS];rfl)
    have ch:=O (fun w' (hB:Bw_ w w')=>show C_ 89 #[.agg #[.slice aV j.jt.length bd,.slice be j.jc.length bf]] w' fun e bc=>e=.returned (.tuple #[s_ M,F 0])∧Bw_ w' bc by
     have h:=an.o w' hB;rw[N.o,←hM]at h;exact h)
    have ag:=O (fun w'=>show C_ 87 #[F M.length] w' fun e bc=>e=.returned (s_ NM)∧Bw_ w' bc by rw[b];exact m7 M.length w' Y);have i1:(M.length:Int)≤2000:=Y;have i2:(S.length:Int)≤10000:=Y;have i3:(NM.length:Int)=4:=by rw[b,aZ];rfl
    rw[←hS];clear hM hS b W bj;have d0:=hd.c 2;have d1:=hd.c 3;go_upto_region 8 with fail;obtain⟨T,hT⟩:=H wr.heap.size;obtain⟨U,hU⟩:=H (wr.alloc (.cells #[.int .u8 2,.pointer (some ⟨A,2,none⟩)] 163));have u:=ba_ hU;have hu:=bn_ hT hU;have d:=V.below u;obtain⟨u0,u1⟩:=cl2 hu;have v0:=d.c 2;have v1:=d.c 3;have a3:T<U.heap.size:=aG u0;have aa:A<U.heap.size:=aG v0;have bG:=O u;rw[←hU,←hT];clear hd d0 d1 hU hT u hu d V;go_wp2_with (first|(go_at_call 87;refine mB_ (ag.o _) aK fun w8 aU=>?_)|(go_at_call 89;refine mB_ (ch.o _ (bt a7.o bG.o)) bG fun w7 aK=>?_));go_roundw
    case rel=>exact⟨1+1,by omega,rfl,by rw[bR.o],bt m.o aU.o⟩
    case measure=>decide
   ·obtain⟨M,hM⟩:=H (iJ j.tt j.tc)
    obtain⟨S,hS⟩:=H (psJ j 2);obtain⟨NM,b⟩:=H (num M.length 4);have W:M.length≤2000:=by rw[hM];exact aH.o
    have bj:S.length≤10000:=by rw[hS];have:=ai.o;show(iB j++gG j.mt j.mc++gG j.jt j.jc).length≤10000;rw[Jh,Jh];omega
    have bR:=O (show psJ j (2+1)=S++(NM++M) by rw[b,hM,hS];rfl)
    have ch:=O (fun w' (hB:Bw_ w w')=>show C_ 89 #[.agg #[.slice bg j.tt.length bh,.slice bi j.tc.length bk]] w' fun e bc=>e=.returned (.tuple #[s_ M,F 0])∧Bw_ w' bc by
     have h:=bE.o w' hB;rw[aj.o,←hM]at h;exact h)
    have ag:=O (fun w'=>show C_ 87 #[F M.length] w' fun e bc=>e=.returned (s_ NM)∧Bw_ w' bc by rw[b];exact m7 M.length w' Y);have i1:(M.length:Int)≤2000:=Y;have i2:(S.length:Int)≤10000:=Y;have i3:(NM.length:Int)=4:=by rw[b,aZ];rfl
    rw[←hS];clear hM hS b W bj;have d0:=hd.c 4;have d1:=hd.c 5;go_upto_region 8 with fail;obtain⟨T,hT⟩:=H wr.heap.size;obtain⟨U,hU⟩:=H (wr.alloc (.cells #[.int .u8 3,.pointer (some ⟨A,4,none⟩)] 163));have u:=ba_ hU;have hu:=bn_ hT hU;have d:=V.below u;obtain⟨u0,u1⟩:=cl2 hu;have v0:=d.c 4;have v1:=d.c 5;have a3:T<U.heap.size:=aG u0;have aa:A<U.heap.size:=aG v0;have bG:=O u;rw[←hU,←hT];clear hd d0 d1 hU hT u hu d V;go_wp2_with (first|(go_at_call 87;refine mB_ (ag.o _) aK fun w8 aU=>?_)|(go_at_call 89;refine mB_ (ch.o _ (bt a7.o bG.o)) bG fun w7 aK=>?_));go_roundw
    case rel=>exact⟨2+1,by omega,rfl,by rw[bR.o],bt m.o aU.o⟩
    case measure=>decide
   ·clear hd V
    go_wp2_with fail;go_ret2;rw[c0.o];exact⟨rfl,a7.o⟩
 ·have c0:=O (show vM j=.tuple #[s_ [],F 2] from if_neg hm)
  have a0:bK j=false:=by cases ap:bK j with
   | false=>rfl
   | true=>exact absurd ap hm
  rw[a0]at E;clear hm;go_wp2_with (go_at_call 86;refine mB_ (E.o _ a_.o) a_ fun w2 a9=>?_);go_ret2;rw[c0.o];exact⟨rfl,a9.o⟩

theorem dZ {P:Program}{fn:Func}{p ap:Tmp}{ty a:T_}{aE:AV_}{w:Z}{v u:V_}{b c:Nat}(hr:fn.results=#[.cell p ty,.cell ap a])(hp:aE.getD p undef=p_ b)(hq:aE.getD ap undef=p_ c)(hl:(loadVar ty ⟨b,0,none⟩).run P w=.ok v w)(a0:(loadVar a ⟨c,0,none⟩).run P w=.ok u w):(results fn aE).run P w=.ok (.tuple #[v,u]) w:=by
 simp only[Array.getD_eq_getD_getElem?]at hp hq⊢;simp[results,hr,Sem.run_bind,Result.andThen,hp,hq,asAddr,hl,a0]
theorem iq {w:Z}{b:Nat}{v0:V_}(h0:w.cell? ⟨b,0,none⟩=some v0):(loadVar 37 ⟨b,0,none⟩).run prog w=.ok v0 w:=by
 go_simp
def sd (d:Bool)(v u:V_):V_:=bif d then v else u
@[go_sem] theorem Ir (v u:V_):sd true v u=v:=rfl
@[go_sem] theorem Hq (v u:V_):sd false v u=u:=rfl
section
variable {w wx w':Z}{B:Nat}{tv bv:V_}{r r':q}{bl br:LL_}
end
section
variable {w wx w':Z}{B C:Nat}{tv cv bx:V_}{r r':q}{t:LL_}{bl br:LJ_}
end
section
variable {w wx:Z}{B C:Nat}{tv cv:V_}{r:q}{t:LL_}{bl:LJ_}
end
def bW (p:Int):Jb:=⟨[],[(3,0),(2,1),(8,0),(23,0)],[],[(3,0),(7,0),(3,1),(7,0),(9,0),(8,0)],[],[(3,0),(3,1),(4,0)],p,100⟩
theorem GF {α:Type}(R:Rec α)(w:Z)(l:List α)(cs:AV_)(aR:cs=(R.cells l).toArray)(n:Nat)(hn:n=l.length)(hm:n≤1000):R.Row (w.alloc (.cells cs R.e)) (.slice (some ⟨w.heap.size,0,none⟩) n n) l:=by
 subst hn aR;refine Rec.Own.row (bZ:=w.heap.size) ⟨by rw[Rec.cells_length],.inr ⟨w.heap.size,l.length,(R.cells l).toArray,rfl,I6 _,?_,I6 _,Jc hm d_,?_,?_⟩⟩
 ·show(w.heap.push _)[w.heap.size]?=_
  rw[Array.getElem?_push_size]
 ·rw[List.size_toArray,Rec.cells_length]
 ·show(R.cells l).take (l.length*R.n)=_
  rw[I5 (by rw[Rec.cells_length];exact I6 _)]
theorem DU {w:Z}{b:Nat}{v0 v1 v2 v3 m v5 E X:V_}(h:Blk w b 27 [v0,v1,v2,v3,m,v5,E,X]):(loadVar 27 ⟨b,0,none⟩).run prog w=.ok (.agg #[v0,v1,v2,v3,m,v5,E,X]) w:=by
 obtain⟨x0,x1,x2,x3,x4,x5,x6,x7⟩:=cl8 h;clear h;go_simp
theorem BO {w:Z}{b:Nat}{t:T_}{a0 a1 a2 a3 a4 a5 a6 a7:V_}(hx:Blk w b t [a0,a1,a2,a3,a4,a5,a6,a7])(v0 v1 v2 v3 m v5 E X:V_):Blk ((((((((w.setCell ⟨b,0,none⟩ v0).setCell ⟨b,1,none⟩ v1).setCell ⟨b,2,none⟩ v2).setCell ⟨b,3,none⟩ v3).setCell ⟨b,4,none⟩ m).setCell ⟨b,5,none⟩ v5).setCell ⟨b,6,none⟩ E).setCell ⟨b,7,none⟩ X) b t [v0,v1,v2,v3,m,v5,E,X] ∧Chg (fun x=>x=b) w ((((((((w.setCell ⟨b,0,none⟩ v0).setCell ⟨b,1,none⟩ v1).setCell ⟨b,2,none⟩ v2).setCell ⟨b,3,none⟩ v3).setCell ⟨b,4,none⟩ m).setCell ⟨b,5,none⟩ v5).setCell ⟨b,6,none⟩ E).setCell ⟨b,7,none⟩ X) :=
 ⟨(((((((hx.set 0 v0).set 1 v1).set 2 v2).set 3 v3).set 4 m).set 5 v5).set 6 E).set 7 X,
  Chg.trans (Chg.trans (Chg.trans (Chg.trans (Chg.trans (Chg.trans (Chg.trans (Chg.setCell w ⟨b,0,none⟩ v0 rfl) (Chg.setCell _ ⟨b,1,none⟩ v1 rfl)) (Chg.setCell _ ⟨b,2,none⟩ v2 rfl)) (Chg.setCell _ ⟨b,3,none⟩ v3 rfl)) (Chg.setCell _ ⟨b,4,none⟩ m rfl)) (Chg.setCell _ ⟨b,5,none⟩ v5 rfl)) (Chg.setCell _ ⟨b,6,none⟩ E rfl)) (Chg.setCell _ ⟨b,7,none⟩ X rfl)⟩
theorem fk (w:Z)(a:Addr)(v:V_):(w.setCell a v).heap.size=w.heap.size:=by simp[World.setCell]
def uB (p:Int)(B:Nat)(e:Ending)(w:Z):Prop :=
 ∃ c1 c2 c3,e=.returned (bM (.slice none 0 0) c1 (.slice none 0 0) c2 (.slice none 0 0) c3 (bW p))∧bH.Row w c1 (bW p).mc∧bH.Row w c2 (bW p).jc∧bH.Row w c3 (bW p).tc
theorem uB.job {p:Int}{B:Nat}{e:Ending}{w:Z}(h:uB p B e w)(hp:0≤p)(ae:p≤100)(hE:lL w)(hg:0<w.heap.size)(hG:dS w):∃ a1 k1 a2 k2 a3 k3,e=.returned (.agg #[e_,.slice a1 4 k1,e_,.slice a2 6 k2,e_,.slice a3 3 k3,F p,F 100])∧dD w (e_) (.slice a1 4 k1) (e_) (.slice a2 6 k2) (e_) (.slice a3 3 k3) (bW p):=by
 obtain⟨c1,c2,c3,rfl,h1,h2,h3⟩:=h;obtain⟨a1,k1,rfl,-,-⟩:=aj h1;obtain⟨a2,k2,rfl,-,-⟩:=aj h2;obtain⟨a3,k3,rfl,-,-⟩:=aj h3;refine⟨a1,k1,a2,k2,a3,k3,rfl,⟨⟨Rec.Row.nil _,h1,Jl _,(by show(4:Nat)≤5000;decide),fun s hs=>yzA,hE,hg⟩,⟨Rec.Row.nil _,h2,Jl _,(by show(6:Nat)≤5000;decide),fun s hs=>yzA,hE,hg⟩,⟨Rec.Row.nil _,h3,Jl _,(by show(3:Nat)≤5000;decide),fun s hs=>yzA,hE,hg⟩,?_,?_,(by show(-9223372036854775808:Int)≤100;decide),(by show(100:Int)≤9223372036854775807;decide),hG⟩⟩
 ·show -9223372036854775808≤p
  omega
 ·show p≤9223372036854775807
  omega
theorem Cq (p:Int)(w:Z):C_ 28 #[F p] w fun e w'=>uB p w.heap.size e w'∧Bw_ w w':=by
 obtain⟨D,hD⟩:=H w.heap.size;obtain⟨W0,a1⟩:=H (w.alloc (.cells #[e_,e_,e_,e_,e_,e_,F 0,F 0] 27));have bn:W0.heap.size=D+1:=by rw[a1,bP,hD]
 have hx:=bn_ hD a1;have aa:=ba_ a1;go_enter func28,ntmps28;go_upto_region 1 with fail;rw[←a1,←hD];obtain⟨x0,x1,x2,x3,x4,x5,x6,x7⟩:=cl8 hx;obtain⟨f0,f1,f2,f3,f4,f5,f6,f7⟩:=fr8 hx;have ab:D<W0.heap.size:=hx.lt;obtain⟨HX,o,HD,cD⟩:=zH4 hx aa hD bn;clear hx aa hD a1;go_wp2_with fail;obtain⟨hy,hc⟩:=BO HX.o (e_) (.slice (some ⟨D+1,0,none⟩) 4 4) (e_) (.slice (some ⟨D+1+1,0,none⟩) 6 6) (e_) (.slice (some ⟨D+1+1+1,0,none⟩) 3 3) (F p) (F 100);have bp:((((((((W0.setCell ⟨D,0,none⟩ (e_)).setCell ⟨D,1,none⟩ (.slice (some ⟨D+1,0,none⟩) 4 4)).setCell ⟨D,2,none⟩ (e_)).setCell ⟨D,3,none⟩ (.slice (some ⟨D+1+1,0,none⟩) 6 6)).setCell ⟨D,4,none⟩ (e_)).setCell ⟨D,5,none⟩ (.slice (some ⟨D+1+1+1,0,none⟩) 3 3)).setCell ⟨D,6,none⟩ (F p)).setCell ⟨D,7,none⟩ (F 100)).heap.size=D+1:=by rw[fk,fk,fk,fk,fk,fk,fk,fk];exact cD.o
 obtain⟨b,a⟩:=H (((((((((W0.setCell ⟨D,0,none⟩ (e_)).setCell ⟨D,1,none⟩ (.slice (some ⟨D+1,0,none⟩) 4 4)).setCell ⟨D,2,none⟩ (e_)).setCell ⟨D,3,none⟩ (.slice (some ⟨D+1+1,0,none⟩) 6 6)).setCell ⟨D,4,none⟩ (e_)).setCell ⟨D,5,none⟩ (.slice (some ⟨D+1+1+1,0,none⟩) 3 3)).setCell ⟨D,6,none⟩ (F p)).setCell ⟨D,7,none⟩ (F 100)));rw[←a]at hy hc bp⊢;clear a x0 x1 x2 x3 x4 x5 x6 x7 f0 f1 f2 f3 f4 f5 f6 f7 ab;obtain⟨W1,aA⟩:=H (b.alloc (.cells #[.int .u8 3,.int .u8 0,.int .u8 2,.int .u8 1,.int .u8 8,.int .u8 0,.int .u8 23,.int .u8 0] 109));have ar:W1.heap.size=D+1+1:=by rw[aA,bP,bp]
 have r1:=GF bH b [(3,0),(2,1),(8,0),(23,0)] #[.int .u8 3,.int .u8 0,.int .u8 2,.int .u8 1,.int .u8 8,.int .u8 0,.int .u8 23,.int .u8 0] rfl 4 rfl Y;have a8:=ba_ aA;rw[show bH.e=109 from rfl,←aA,bp]at r1;obtain⟨W2,ae⟩:=H (W1.alloc (.cells #[.int .u8 3,.int .u8 0,.int .u8 7,.int .u8 0,.int .u8 3,.int .u8 1,.int .u8 7,.int .u8 0,.int .u8 9,.int .u8 0,.int .u8 8,.int .u8 0] 109));have bJ:W2.heap.size=D+1+1+1:=by rw[ae,bP,ar]
 have r2:=GF bH W1 [(3,0),(7,0),(3,1),(7,0),(9,0),(8,0)] #[.int .u8 3,.int .u8 0,.int .u8 7,.int .u8 0,.int .u8 3,.int .u8 1,.int .u8 7,.int .u8 0,.int .u8 9,.int .u8 0,.int .u8 8,.int .u8 0] rfl 6 rfl Y;have aY:=ba_ ae;rw[show bH.e=109 from rfl,←ae,ar]at r2;obtain⟨W3,aB⟩:=H (W2.alloc (.cells #[.int .u8 3,.int .u8 0,.int .u8 3,.int .u8 1,.int .u8 4,.int .u8 0] 109));have r3:=GF bH W2 [(3,0),(3,1),(4,0)] #[.int .u8 3,.int .u8 0,.int .u8 3,.int .u8 1,.int .u8 4,.int .u8 0] rfl 3 rfl Y;have aX:=ba_ aB;rw[show bH.e=109 from rfl,←aB,bJ]at r3;rw[←aA,←ae,←aB];have y:=((hy.below a8).below aY).below aX;have au:=bt (bt a8 aY) aX;refine bodyPost_ret (lN rfl rfl (DU y)) rfl ?_;refine⟨⟨_,_,_,rfl,(r1.below aY).below aX,r2.below aX,r3⟩,?_⟩;exact o.o.trans ((hc.below (fun k hk=>by rw[show k=D from hk,HD.o];exact I6 _) o.o.size).trans (au.mono (by rw[bp,←HD.o];exact Nat.le_succ _)))
structure rM (w:Z) (t1 c1 t2 c2 t3 c3:V_) (j:Jb):Prop where
 a:k7 w t1 c1 j.mt j.mc
 b:k7 w t2 c2 j.jt j.jc
 c:k7 w t3 c3 j.tt j.tc
 p0:-9223372036854775808≤j.parts
 p1:j.parts≤9223372036854775807
 f0:-9223372036854775808≤j.fuel
 f1:j.fuel≤9223372036854775807
theorem rM.below {w w':Z}{t1 c1 t2 c2 t3 c3:V_}{j:Jb}(h:rM w t1 c1 t2 c2 t3 c3 j)(hB:Bw_ w w'):rM w' t1 c1 t2 c2 t3 c3 j:=⟨h.a.below hB,h.b.below hB,h.c.below hB,h.p0,h.p1,h.f0,h.f1⟩
def kI (j:Jb):Bool:=dj j.mt j.mc||dj j.jt j.jc||dj j.tt j.tc
def C4 (j:Jb):Bool:=decide (3000<j.fuel)&&decide (j.fuel≤65536)
theorem BJ {j:Jb}(h:kI j=false):dj j.mt j.mc=false∧dj j.jt j.jc=false∧dj j.tt j.tc=false:=by
 unfold kI at h;simp only[Bool.or_eq_false_iff]at h;exact⟨h.1.1,h.1.2,h.2⟩
theorem rM.job {w:Z}{t1 c1 t2 c2 t3 c3:V_}{j:Jb}(h:rM w t1 c1 t2 c2 t3 c3 j)(hl:kI j=false)(hE:lL w)(hg:0<w.heap.size)(hG:dS w):dD w t1 c1 t2 c2 t3 c3 j:=by
 obtain⟨h1,h2,h3⟩:=BJ hl;exact⟨h.a.ask h1 hE hg,h.b.ask h2 hE hg,h.c.ask h3 hE hg,h.p0,h.p1,h.f0,h.f1,hG⟩

def Id:bu Bel:=⟨OA_,fun ap=>.pointer ap,fun _=>none,fun _ _ h=>by cases h⟩
@[go_sem] theorem GX (ap:OA_):Id.val ap=.pointer ap:=rfl

theorem zU {j:Jb}(h:¬bK j=true):(bO j).2.2≠0:=fun ap=>h (by unfold bK;rw[ap];rfl)
theorem wi {j:Jb}(h:bK j=true):(bO j).2.2=0:=by
 unfold bK at h;exact beq_iff_eq.1 h

theorem iP:∀ l:LL_,aP.cells l=fD l
 | []=>rfl
 | x::l=>by rw[Rec.cells,iP l];rfl
theorem xT (va vb:V_)(a b:LL_)(w:Z)(ha:aP.Row w va a)(hb:aP.Row w vb b)(g:a.length≤140737488355328)(cw:b.length≤140737488355328):R_ 48 #[va,vb] w (.bool (decide (a=b))):=
 Ey va vb a b w (by rw[←iP];exact ha.1) (by rw[←iP];exact hb.1) g cw
def rG:Jb:=⟨[],[],[],[],[],[],0,0⟩
theorem GK (t1 c1 t2 c2 t3 c3:V_)(j:Jb)(w:Z)(h:dD w t1 c1 t2 c2 t3 c3 j)(hm:bK j=false):R_ 34 #[bM t1 c1 t2 c2 t3 c3 j] w (.tuple #[.string ⟨#[]⟩,F 2]):=by
 have HP:=O (fun w' (hB:Bw_ w w')=>by
  have ap:=wE t1 c1 t2 c2 t3 c3 j w' (h.below hB);rw[show vM j=.tuple #[s_ [],F 2] from if_neg (by rw[hm];decide)]at ap;exact ap)
 obtain⟨ta,tc,ca,cc,aV,bd,be,bf,bg,bh,bi,bk,rfl,rfl,rfl,rfl,rfl,rfl⟩:=jo_ h.a.t h.a.c h.b.t h.b.c h.c.t h.c.c;unfold bM at HP⊢;obtain⟨W1,aA⟩:=H (w.alloc (.cells #[.slice ta j.mt.length tc,.slice ca j.mc.length cc,.slice aV j.jt.length bd,.slice be j.jc.length bf,.slice bg j.tt.length bh,.slice bi j.tc.length bk,F j.parts,F j.fuel] 27));have a8:=ba_ aA;obtain⟨J,hJ⟩:=H w.heap.size;have hx:=bn_ hJ aA;obtain⟨x0,x1,x2,x3,x4,x5,x6,x7⟩:=cl8 hx;have a_:=O a8;go_enter func34,ntmps34;go_upto_region 1 with fail;rw[←aA,←hJ];clear aA hJ a8 hx h hm;go_wp2_with (go_at_call 55;refine mB_ (HP.o _ a_.o) a_ fun w2 a9=>?_);go_ret2;exact⟨rfl,a9.o⟩

theorem LE {T:Prop} (h:T:=by
 rw[e];go_enter func27,ntmps27;go_wp2;go_ret;exact⟨rfl,af _ _⟩
):T:=h
theorem Ex (t1 c1 t2 c2 t3 c3:V_)(j:Jb)(w:Z)(h:rM w t1 c1 t2 c2 t3 c3 j):R_ 27 #[bM t1 c1 t2 c2 t3 c3 j] w (.bool (C4 j)):=by
 obtain⟨ta,tc,ca,cc,aV,bd,be,bf,bg,bh,bi,bk,rfl,rfl,rfl,rfl,rfl,rfl⟩:=jo_ h.a.t h.a.c h.b.t h.b.c h.c.t h.c.c;unfold bM;unfold C4;clear h;obtain⟨am,hF⟩:=H j.fuel;rw[←hF];clear hF
 by_cases h1:(3000:Int)<am
 ·by_cases h2:am≤65536
  ·have e:(decide ((3000:Int)<am)&&decide (am≤65536))=true:=by simp[h1,h2]
   exact LE
  ·have e:(decide ((3000:Int)<am)&&decide (am≤65536))=false:=by simp[h2]
   exact LE
 ·have e:(decide ((3000:Int)<am)&&decide (am≤65536))=false:=by simp[h1]
  exact LE
theorem xr (t1 c1 t2 c2 t3 c3:V_)(j:Jb)(w:Z)(h:rM w t1 c1 t2 c2 t3 c3 j):R_ 26 #[bM t1 c1 t2 c2 t3 c3 j] w (.bool (kI j)):=by
 obtain⟨HA,HB,HC⟩:=zH3 (fun w' (hB:Bw_ w w')=>(h.a.below hB).large) (fun w' (hB:Bw_ w w')=>(h.b.below hB).large) (fun w' (hB:Bw_ w w')=>(h.c.below hB).large);obtain⟨ta,tc,ca,cc,aV,bd,be,bf,bg,bh,bi,bk,rfl,rfl,rfl,rfl,rfl,rfl⟩:=jo_ h.a.t h.a.c h.b.t h.b.c h.c.t h.c.c;unfold bM;unfold kI;clear h;obtain⟨W1,aA⟩:=H (w.alloc (.cells #[.slice ta j.mt.length tc,.slice ca j.mc.length cc,.slice aV j.jt.length bd,.slice be j.jc.length bf,.slice bg j.tt.length bh,.slice bi j.tc.length bk,F j.parts,F j.fuel] 27));have a8:=ba_ aA;obtain⟨J,hJ⟩:=H w.heap.size;have hx:=bn_ hJ aA;obtain⟨x0,x1⟩:=cl2 hx;have a_:=O a8;have HX:=O hx;obtain⟨A,hA⟩:=H (dj j.mt j.mc);obtain⟨B,hB⟩:=H (dj j.jt j.jc);obtain⟨C,hC⟩:=H (dj j.tt j.tc);rw[←hA]at HA;rw[←hB]at HB;rw[←hC]at HC;rw[←hA,←hB,←hC];go_enter func26,ntmps26;go_upto_region 1 with fail;rw[←aA,←hJ];clear aA hJ a8 hx hA hB hC
 cases A
 ·cases B
  ·cases C
   all_goals
    go_wp2_with (first|(go_at_call 49;refine(HC.o _ aW.o).mono ?_;rintro e w4⟨rfl,aQ⟩;have ba:=O (bt aW.o aQ);clear aQ)|(go_at_call 49;refine(HB.o _ a9.o).mono ?_;rintro e w3⟨rfl,al⟩;have a4:=O (aR.o.below al);have x4:=a4.o.c 4;have x5:=a4.o.c 5;have aW:=O (bt a9.o al);clear al x2 x3)|(go_at_call 49;refine(HA.o _ a_.o).mono ?_;rintro e w2⟨rfl,ax⟩;have aR:=O (HX.o.below ax);have x2:=aR.o.c 2;have x3:=aR.o.c 3;have a9:=O (bt a_.o ax);clear ax x0 x1));go_ret;exact⟨rfl,ba.o⟩
  ·go_wp2_with (first|(go_at_call 49;refine(HB.o _ a9.o).mono ?_;rintro e w3⟨rfl,al⟩;have aW:=O (bt a9.o al);clear al x2 x3)|(go_at_call 49;refine(HA.o _ a_.o).mono ?_;rintro e w2⟨rfl,ax⟩;have aR:=O (HX.o.below ax);have x2:=aR.o.c 2;have x3:=aR.o.c 3;have a9:=O (bt a_.o ax);clear ax x0 x1))
   go_ret;exact⟨by simp,aW.o⟩
 ·go_wp2_with (go_at_call 49;refine(HA.o _ a_.o).mono ?_;rintro e w2⟨rfl,ax⟩;have a9:=O (bt a_.o ax);clear ax x0 x1)
  go_ret;exact⟨by simp,a9.o⟩

theorem mI:∀ l:LP_,recKv.cells l=bI l
 | []=>rfl
 | x::l=>by rw[Rec.cells,mI l];rfl



theorem Rec.step_appendLV {α:Type}{aM:Array Oper}{o:Oper}{a:Act}{K:Act→Z→Prop}{Q:Exit→Act→Z→Prop}{E:Prop}(R:Rec α)(wr:Z)(D:List α)(av:o.guard=none)(s x:Operand)(t:T_)(ho:o.op=.call { callee:=.builtin .append,args:=#[s,x],argTypes:=#[t,t] })(ht:prog.underlying t=some (.slice R.e))(bZ:Nat)(v:V_)(xs:List α)(hs:a.eval s=v)(aw:R.Own wr bZ v xs)(n c:Nat)(hn:n=D.length)(hx:a.eval x=.slice (some ⟨wr.heap.size,0,none⟩) n c)(cs:AV_)(aR:cs=(R.cells D).toArray)(e:T_)(he:e=R.e)(ab:0<D.length)(d:(xs.length+D.length)*R.bytes≤140737488355328)(aB:bZ≤wr.heap.size)(h:∀ g ah w',R.Own w' bZ (.slice (some ⟨g,0,none⟩) (xs.length+D.length) ah) (xs++D)→Chg (fun k=>v.ownBlock=some k) wr w'→(v.ownBlock=some g∨wr.heap.size≤g)→K (a.put o.dst (.slice (some ⟨g,0,none⟩) (xs.length+D.length) ah)) w'):if Region.wanted o (yielded aM a.tmps)=true then Oper.wp prog o a (wr.alloc (.cells cs e)) K Q else E:=by
 subst aR he hn;obtain⟨i,hi,hz,ao,aG⟩:=info_parts R.info;have hn:xs.length+D.length≤(xs.length+D.length)*R.bytes:=Nat.le_mul_of_pos_right _ R.bpos;refine step_append_lies _ av s x t ho bZ R.e i R.z R.n R.bytes ht hi hz ao aG R.zs R.pos v xs.length (R.cells xs) hs (World.ownsRow.alloc aw _) ⟨wr.heap.size,0,none⟩ D.length c (R.cells D) hx (R.cells_length D) ?_ (R.cells_one D) ab yzb d yza _ rfl ?_
 ·intro j u hj
  have:j<(R.cells D).length:=by
   rcases Nat.lt_or_ge j (R.cells D).length with h|h
   ·exact h
   ·simp[List.getElem?_eq_none h]at hj
  exact M7
 ·intro g ah w' h2 h3 h4 h5
  have hB:B_ bZ wr w':=((Ja bZ wr).alloc aB _).grown h3 yza (fun k hk=>(Rec.Own.ltV aw k hk).1);refine h g ah w' ?_ ⟨hB.os,hB.tape,hB.output,hB.size,fun j hj aI=>?_⟩ ?_
  ·unfold Rec.Own;rw[R.cells_append,Jh];exact h2
  ·rw[h3.block j yza (fun e=>aI e.symm)]
   exact Below.heap_alloc _ _ _ hj
  ·rcases h4 with h4|h4
   ·exact .inl h4
   ·exact .inr yzx
theorem qd (tv cv:V_)(texts:LL_)(I:LJ_)(w:Z)(ht:aP.Row w tv texts)(hc:bH.Row w cv I)(c:dH texts I=true):R_ 94 #[.agg #[tv,cv]] w (s_ (iJ texts I)):=by
 obtain⟨ak,ct,rfl,-,o⟩:=au ht;obtain⟨ac,cc,rfl,-,bm⟩:=aj hc;have x:=O o;have bz:=O bm;obtain⟨W1,aA⟩:=H (w.alloc (.cells #[.slice ak texts.length ct,.slice ac I.length cc] 25));have a8:=ba_ aA;have hx:=bm_ aA;have a_:=O a8;have HX:=O hx;obtain⟨N,u,M⟩:=qv c;have ah:=O M;clear ht hc o bm a8 hx c M;go_enter func94,ntmps94;go_upto_region 1 with fail;rw[←aA];clear aA;have x0:=HX.o.c 0;obtain⟨q1,q2,q3⟩:=rk (n:=texts.length) Y;go_upto_region 2 with fail;obtain⟨w3,d⟩:=H (W1.alloc (.cells #[.int .u8 texts.length] 5));have aX:=ba_ d
 have L:dL.Own w3 W1.heap.size (.slice (some ⟨W1.heap.size,0,none⟩) 1 1) [b8 texts.length]:=by
  have h:=vz W1 [b8 texts.length] i_;exact My
 rw[←d];have bf:=O L;have av:=O aX;have a6:W1.heap.size≤w3.heap.size:=aX.size;have i:w.heap.size<W1.heap.size:=HX.o.lt;clear d aX L q1 q2 q3 x0;go_wp2_with fail
 go_loopw [3,4] (fun vb m wr=>∃ (k:Nat) (A:OA_) (C:Nat) (l:q),vb=.slice A l.length C∧m=F k∧k≤texts.length∧l.length≤1+65*k∧Hid (l=b8 texts.length::jo (texts.take k))∧Hid (dL.Own wr W1.heap.size (.slice A l.length C) l)∧Hid (Bw_ W1 wr)) (fun _ m _=>texts.length-(intOf m).toNat)
 case atStart=>exact⟨0,_,_,[b8 texts.length],rfl,rfl,Jl _,by simp,by unfold Hid;simp[jo],bf.o,av.o⟩
 case round =>
  obtain⟨k,A,C,l,rfl,rfl,hk,hl,HL,HO,HB⟩:=hrel;have aZ:W1.heap.size≤wr.heap.size:=HB.o.size;have x0:=(HX.o.below HB.o).c 0
  by_cases h0:k<texts.length
  ·obtain⟨b,aL,rfl,d0⟩:=x.o k h0
   have f:=O (fun w' (hB:Bw_ W1 w')=>IF (bt a_.o hB) d0);clear d0;have d0:=f.o _ HB.o;have ar:=nn_ k;have a5:(k:Int)<texts.length:=Y;have G:=ah.o texts[k] (Jz h0);obtain⟨q1,q2,q3⟩:=rk (n:=texts[k].length) Y;have HT:=O (qf h0);clear q1;go_wp2_with (first|(at_builtin;refine dL.append1V _ (b8 texts[k].length) rfl _ _ 114 rfl underlying114 W1.heap.size _ l (HO.o.below (af _ _)) rfl _ rfl (vA wr Y _) (by show(l.length+1)*1≤_;omega) (Jc aZ (af _ _).size) ?_;intro g gc J a bq _;have HN:=O (And.intro a (And.intro bq ((HB.o.trans ((af wr (.cells #[.int .u8 (texts[k].length:Int)] 5)).mono aZ)).trans (bq.below (fun j hj=>(Rec.Own.ltV HO.o j hj).1) (Jc aZ (af _ _).size)))));have x0:=(HX.o.below HN.o.2.2).c 0;have d0:=f.o _ HN.o.2.2;clear a bq)|(at_builtin;refine An _ rfl _ _ 114 9 rfl underlying114 underlying9 W1.heap.size _ (l++[b8 texts[k].length]) HN.o.1 rfl texts[k] rfl (by rw[Jh,JJ];omega) HN.o.2.2.size ?_;intro A2 C2 R v aI;have HM:=O (And.intro v (HN.o.2.2.trans (aI.below (fun j hj=>(Rec.Own.ltV HN.o.1 j hj).1) HN.o.2.2.size)));clear v aI));exact Ml
  ·obtain rfl:k=texts.length:=Y
   have a0:=HL.o;rw[List.take_length]at a0;have bD:=O a0;have x1:=(HX.o.below HB.o).c 1;have e0:¬(texts.length:Int)<texts.length:=Y;have a4:l.length≤1041:=Y;have E:(I.length:Int)≤256:=Y;clear a0 h0 HL;go_upto_region 8 with(at_builtin;refine dL.appendNV _ rfl _ _ 114 rfl underlying114 W1.heap.size _ l (HO.o.below (af _ _)) rfl _ [b8 I.length,b8 (I.length / 256)] (sa wr Y _) rfl (by show(l.length+2)*1≤_;omega) (Jc aZ (af _ _).size) ?_;intro P S J a bq;have HN:=O (And.intro a ((HB.o.trans ((af wr (.cells #[.int .u8 ((I.length:Int)%256),.int .u8 ((I.length:Int) / 256)] 5)).mono aZ)).trans (bq.below (fun j hj=>(Rec.Own.ltV HO.o j hj).1) (Jc aZ (af _ _).size))));clear a bq);obtain⟨l2,a0⟩:=H (l++[b8 I.length,b8 (I.length / 256)]);have z:l2.length=l.length+2:=by rw[a0,Jh];rfl
   rw[←a0]at HN;rw[←z];have K:l2.length≤1043:=by rw[a0,Jh];simp;omega
   have an:=O (show l2=b8 texts.length::(jo texts++[b8 I.length,b8 (I.length / 256)]) by rw[a0,bD.o];rfl);have cF:=O HN.o.1;have a':=O HN.o.2;clear a0 z HN HO HB aZ hl a4 bD e0 x0 x1;go_wp2_with fail
   go_loopw [3,5] (fun vb m wr=>∃ (k:Nat) (A:OA_) (C:Nat) (l:q),vb=.slice A l.length C∧m=F k∧k≤I.length∧l.length≤1043+2*k∧Hid (l=l2++lO (I.take k))∧Hid (dL.Own wr W1.heap.size (.slice A l.length C) l)∧Hid (Bw_ W1 wr)) (fun _ m _=>I.length-(intOf m).toNat)
   case atStart=>exact⟨0,_,_,l2,rfl,rfl,Jl _,by omega,by unfold Hid;simp[lO],cF.o,a'.o⟩
   case round =>
    obtain⟨k,A,C,l,rfl,rfl,hk,hl,HL,HO,HB⟩:=hrel;have aZ:W1.heap.size≤wr.heap.size:=HB.o.size;have x1:=(HX.o.below HB.o).c 1;have s:w.heap.size<wr.heap.size:=Y
    by_cases h0:k<I.length
    ·obtain⟨b,aL,rfl,d0,d1⟩:=bz.o k h0
     have d0:=IF (bt a_.o HB.o) d0;have d1:=IF (bt a_.o HB.o) d1;have lb:=aG d0;have ar:=nn_ k;have a5:(k:Int)<I.length:=Y;have HT:=O (qj h0);have e:=O (HO.o.below (b_drew wr));have D:W1.heap.size≤wr.drew.heap.size:=Jc aZ (b_drew wr).size;have bo:=O (HB.o.trans ((b_drew wr).mono aZ));go_upto_region 11 with fail;go_region_law (refine dL.step_appendLV wr.drew [I[k].1,I[k].2] rfl _ _ 114 rfl underlying114 W1.heap.size (.slice A l.length C) l rfl e.o _ _ rfl rfl _ rfl _ rfl i_ (by show(l.length+2)*1≤_;omega) D ?_;intro g gc J a bq _;have HN:=O (And.intro a (bo.o.trans (bq.below (fun j hj=>(Rec.Own.ltV e.o j hj).1) D)));clear a bq)
     all_goals
      (try dsimp only)
      (try go_frame)
      go_wp2;refine⟨⟨k+1,some ⟨g,0,none⟩,gc,l++[I[k].1,I[k].2],?_,by go_num,by omega,?_,?_,?_,HN.o.2⟩,by simp[intOf];omega⟩
      ·rw[Jh];rfl
      ·rw[Jh];simp;omega
      ·unfold Hid
       rw[HT.o,HL.o,Jg]
      ·have:=HN.o.1
       rw[←Jh]at this;exact this
    ·obtain rfl:k=I.length:=Y
     have bB:=sb HO.o;have bS:=HL.o;rw[List.take_length,an.o]at bS;have HF:=O (show l=iJ texts I by rw[bS];unfold iJ;simp);have e0:¬(I.length:Int)<I.length:=Y;clear bS h0;go_wp2_with fail;go_ret;exact⟨by rw[←HF.o];rfl,bt a_.o HB.o⟩