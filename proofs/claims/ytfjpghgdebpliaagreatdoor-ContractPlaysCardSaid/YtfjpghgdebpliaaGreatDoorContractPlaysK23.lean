/- Lemmas. -/
import Derived.Test.YtfjpghgdebpliaaGreatDoorContractPlaysK8
set_option linter.unusedSimpArgs false
set_option linter.unusedVariables false
set_option maxRecDepth 100000
set_option maxHeartbeats 16000000
namespace Go.Proofs.YtfjpghgdebpliaaGreatDoor
attribute [local irreducible] wpG
open Go.Proofs.Tryz
open Go.RowKit Oct
theorem tT (v:V_)(l:LL_)(w:Z)(hr:aP.Row w v l)(hl:l.length≤4096)(B:de l=true):C_ 75 #[v] w fun e w'=>(∃ u,e=.returned (.agg #[u,F l.length])∧NRf w' w.heap.size u (aJ l))∧Bw_ w w':=by
 obtain⟨a,ah,rfl,_⟩:=hr.2;have HR:=O hr;have dY:=O B;clear hr B;go_enter func75,ntmps75;go_upto_region 2 with fail;obtain⟨T,hT⟩:=H (w.heap.size+1);obtain⟨U,hU⟩:=H ((w.alloc (.cells #[e_,F 0] 68)).alloc (.cells #[e_,F l.length] 68));have h2:=jD w (.cells #[e_,F 0] 68) (.cells #[e_,F l.length] 68);rw[←hU,←hT]at h2;obtain⟨dj,cy,dZ⟩:=h2;rw[←hT,←hU];have cK:U.heap.size=w.heap.size+2:=by rw[hU];simp
 obtain⟨bZ,hb⟩:=H U.heap.size;have bd:T<bZ:=Y;have c8:SR T bZ (l.length:Int) U (e_) (e_) (bQ (l.take 0)) (bV 0):=⟨cy,⟨[],Rec.Own.nil _ _,rfl,fun i h=>absurd h i_⟩,Rec.Own.nil _ _,fun b h=>by simp[Value.ownBlock]at h⟩
 obtain⟨c0,dV,bG,HT,HB,cU,d⟩:=zH7 dj c8 dZ hT hb cK bd;clear hU hT hb dj cy dZ c8 cK bd;go_wp2
 go_loopw [4,5] (fun tl ti wr=>∃ k:Nat,∃ V al cl,tl=.slice al k cl∧ti=F k∧k≤l.length∧Hid (SR T bZ (l.length:Int) wr V (.slice al k cl) (bQ (l.take k)) (bV k))∧Hid (Chg (fun k=>k=T∨bZ≤k) U wr)) (fun _ ti _=>l.length-(intOf ti).toNat)
 case atStart=>exact⟨0,_,none,0,rfl,rfl,Jl _,dV.o,Chg.refl _ _⟩
 case round =>
  obtain⟨k,V,al,cl,rfl,rfl,hk,HS,HC⟩:=hrel
  by_cases h0:k<l.length
  ·obtain⟨an,cn,_,_,rfl,he⟩:=HS.o.nl.slice
   clear he;have aZ:Bw_ w wr:=bG.o.trans (HC.o.below (fun k hk=>by have:=HT.o;have:=HB.o;have:=cU.o;omega) (by have:=cU.o;omega));have a7:=O aZ;clear aZ;have ai:(bQ (l.take k)).length=k:=by rw[jU];simp;omega
   obtain⟨c1,c2,f1,f2⟩:=fh HS.o.bt;obtain⟨_,_,a2,_,hc⟩:=au (HR.o.below a7.o);injection a2 with e1 _ e3
   subst e1 e3;obtain⟨b,aL,rfl,ck⟩:=hc k h0;have k0:=nn_ k;have k1:(k:Int)<l.length:=Y;obtain⟨x,hx⟩:=H (l[k]);have bT:bQ (l.take (k+1))=bQ (l.take k)++[(x,[])]:=by rw[hx];exact oQ h0
   rw[←hx]at ck;obtain⟨N,hN⟩:=H (bQ (l.take k));rw[←hN]at ai bT HS c1;obtain⟨cD,bR,H0⟩:=zH3 ai bT h0;clear hc hx ai bT hN h0;go_wp2;refine aU 8 [(1,.exact _ (.slice an N.length cn)),(5,.exact _ (s_ x)),(7,dc 1 [s_ x,e_])] q_ q_ ?_;simp only[Jw,JE,Ju,JF];refine cG ?_;refine gl_ c1 ?_;refine gl_ ck ?_;refine gk_ (dc 1 [s_ x,e_]) (fun w' G hB hS hG=>?_) (fun x K hK=>?_)
   ·go_simp;exact ew hG rfl
   obtain⟨ad,c⟩:=x;refine cO ?_;clear hK K;refine ji ?_;intro w' hB hA;have b8:=mn hA;have cm:=O (show aO w' (.slice ad 1 c) 1 (pY.cell (x,(none,0,0))) from b8);have a8:=HS.o.below hB;have ep:=O (HC.o.trans (IG hB));have aB:bZ≤w'.heap.size:=by have h1:=HC.o.size;have h2:=hB.size;have:=HB.o;omega
   have dU:=O aB;obtain⟨aF,r1,r2,r3⟩:=a8.nl.raw;obtain⟨dF,R1,R2,R3⟩:=zH4 a8 r1 r2 r3;clear hB hA b8 a8 aB r1 r2 r3 c1 c2 f1 f2 ck;rw[←R2.o];refine pY.append1R w' (x,(none,0,0)) rfl _ _ 66 rfl underlying66 bZ _ aF (by rw[R2.o];exact R1.o) rfl _ rfl cm.o (by show _*40≤_;have:=R2.o;have:=cD.o;omega) dU.o ?_;intro g gc w3 M aI A;rw[R2.o]at M aI A⊢;have hp:=dF.o.push d.o R2.o R3.o (x:=(x,(none,0,0))) (y:=(x,[])) ⟨rfl,Rec.Row.nil _,fun b h=>by simp[Value.ownBlock]at h⟩ aI A M;obtain⟨c1,c2,f1,f2⟩:=fh (aI.at dF.o.bt (fun e=>by have:=(dF.o.nl.blk.1 _ e).1;have:=d.o;omega));have bE:=ep.o.trans (aI.mono (X':=fun k=>k=T∨bZ≤k) fun k hk=>.inr (dF.o.nl.blk.1 _ hk).1);have cJ:=O hp;have bP:=O bE;clear M aI A hp bE;go_upto_region 7 with fail;obtain⟨U3,cV⟩:=H (w3.setCell ⟨T,0,none⟩ (.slice (some ⟨g,0,none⟩) (N.length+1) gc));rw[←cV];have hp:=cJ.o;rw[←cV]at hp;have bE:Chg (fun k=>k=T∨bZ≤k) U U3:=bP.o.trans (by rw[cV];exact Chg.setCell _ _ _ (.inl rfl));have HP:=O hp;have bC:bZ≤U3.heap.size:=by rw[HB.o];exact bE.size
   have ba:=O bC;have cd:=O bE;clear cV cJ bP c1 c2 f1 f2 hp bC bE;go_wp2_with (at_builtin;go_must (refine eY.append1C _ (k:Int) rfl _ _ 92 rfl underlying92 bZ _ (bV k) HP.o.nl.lev rfl 1 rfl _ rfl _ rfl (byI (by rw[cZ];omega)) ba.o ?_);intro g2 ac w4 r ar cX;rw[cZ]at r⊢;obtain⟨cT,da,dT⟩:=zH3 r ar cX;clear r ar cX);have b6:=HP.o.lev d.o (q:=bV (k+1)) da.o dT.o (by rw[oE,Jh,cZ];exact cT.o);rw[cZ,←bR.o]at b6;exact⟨⟨k+1,_,_,_,rfl,by go_num,by omega,b6,cd.o.trans (da.o.mono fun j hj=>.inr (HP.o.nl.blk.2 _ hj).1)⟩,by simp[intOf];omega⟩
  ·obtain rfl:k=l.length:=Y
   have hs:=HS.o;rw[List.take_length]at hs;have bA:=O hs;obtain⟨W1,aA⟩:∃ W,W=wr:=⟨_,rfl⟩
   subst aA;clear hs;go_wp2
   go_loopw [4] (fun tl wr=>∃ m:Nat,∃ V al cl E ae,tl=.slice al ae.length cl∧Hid (SR T bZ (l.length:Int) wr V (.slice al ae.length cl) E ae)∧Hid (OkL E ae)∧ae.length≤m∧Hid (it m E ae=aJ l)∧Hid (E.length+ae.length≤2*l.length)∧Hid (Chg (fun k=>k=T∨bZ≤k) U wr)) (fun tl _=>Hp tl)
   case atStart=>exact⟨l.length,V,al,cl,bQ l,bV l.length,by rw[cZ],by rw[cZ];exact bA.o,OkL.start l dY.o,by rw[cZ];exact I6 _,rfl,by unfold Hid;rw[jU,cZ];omega,HC.o⟩
   case round =>
    obtain⟨m,V,al,cl,E,ae,rfl,HS,br,hm,cb,bk,HC⟩:=hrel
    by_cases hn:1<ae.length
    ·have n1:1<(ae.length:Int):=Y
     have ey:ae.length≤8192:=by have:=bk.o;omega
     have db:E.length≤8192:=by have:=bk.o;omega
     obtain⟨an,cn,_,_,rfl,he⟩:=HS.o.nl.slice;have HN:=O hn;have HM:=O hm;obtain⟨W0,a1⟩:∃ W,W=wr:=⟨_,rfl⟩
     subst a1;clear hn he hm;go_wp2
     go_loopw [6,7] (fun tv ti wx=>∃ j:Nat,∃ av cv,tv=.slice av j cv∧ti=F j∧j≤ae.length∧Hid (aP.Own wx W0.heap.size (.slice av j cv) (aV E (ae.take j)))∧Hid (Bw_ W0 wx)) (fun _ ti _=>ae.length-(intOf ti).toNat)
     case atStart=>exact⟨0,none,0,rfl,rfl,Jl _,Rec.Own.nil _ _,Ja _ _⟩
     case round =>
      obtain⟨j,av,cv,rfl,rfl,hj,cB,bi⟩:=hrel
      by_cases b':j<ae.length
      ·have dG:=HS.o.below bi.o
       obtain⟨_,_,a2,_,bx⟩:=gX dG.nl.lev.row;injection a2 with e2 _ e3
       subst e2 e3;obtain⟨b2,cP,rfl,cj⟩:=bx j b';have bU:=br.o.lev ae[j] (Jz b');obtain⟨ap,hq⟩:∃ ap:Nat,(ap:Int)=ae[j]:=⟨ae[j].toNat,by omega⟩
       rw[←hq]at cj bU;have dt:ap<E.length:=Y
       have bT:aV E (ae.take (j+1))=aV E (ae.take j)++[E[ap].1]:=by
        rw[qI b',←hq];simp[List.getD,dt]
       obtain⟨_,_,bI,_,bq⟩:=py dG.nl.nr;injection bI with e4 _ e5
       subst e4 e5;obtain⟨nb,du,ak,nk,ck,rfl,dm,_,_⟩:=bq ap dt;obtain⟨c1,c2,_,_⟩:=fh dG.bt;have b4:(aV E (ae.take j)).length=j:=by rw[dy,JH];omega
       obtain⟨N0,cs⟩:=H (E[ap].1);rw[←cs]at bT dm;have bR:=O bT;have a3:=O b4;have j0:=nn_ j;have j1:(j:Int)<ae.length:=Y;have j2:=nn_ ap;have j3:(ap:Int)<E.length:=Y;have j4:(ae.length:Int)≤8192:=Y;clear bx bq bT hq cs b4 dG bU;go_wp2;refine aU 11 [(2,.exact _ (.slice (some ⟨nb,du,none⟩) E.length cn)),(6,.exact _ (F ap)),(9,.exact _ (s_ N0)),(10,dc 1 [s_ N0])] q_ q_ ?_;simp only[Jw,JE,Ju,JF];refine cG ?_;refine gl_ c1 ?_;refine gl_ cj ?_;refine gl_ dm ?_;refine gk_ (dc 1 [s_ N0]) (fun w' G hB hS hG=>?_) (fun x K hK=>?_)
       ·go_simp;exact ew hG rfl
       obtain⟨ad,c⟩:=x;refine cO ?_;clear hK K;refine ji ?_;intro w' hB hA;have b8:=mn hA;obtain⟨cm,dL,bW⟩:=zH3 (show aO w' (.slice ad 1 c) 1 (aP.cell N0) from b8) (cB.o.below hB) (bt bi.o hB);clear hB hA b8 c1 c2 cj dm;refine aP.append1R w' N0 rfl _ _ 22 rfl underlying22 W0.heap.size _ (aV E (ae.take j)) dL.o rfl _ rfl cm.o (by rw[a3.o];show _*16≤_;omega) bW.o.size ?_;intro g gc w3 M aI A;rw[a3.o]at M⊢;have aX:=bW.o.trans (aI.below (fun k hk=>(dL.o.lt k hk).1) bW.o.size);have bf:=O M;have aW:=O aX;clear M aI A aX;go_wp2;go_roundw
       case rel=>exact⟨j+1,_,_,rfl,by go_num,by omega,by rw[bR.o];exact bf.o,aW.o⟩
       case measure=>simp[intOf];omega
      ·obtain rfl:j=ae.length:=Y
       have cL:=cB.o;rw[List.take_length]at cL;obtain⟨a4,bM⟩:=H (aV E ae);have b5:a4.length=ae.length:=by rw[bM];exact dy _ _
       have dE:de a4=true:=by rw[bM];exact br.o.all
       have d':=kU a4;rw[←bM]at cL;obtain⟨dH,d_,cM,b3,ea⟩:=zH5 b5 dE bM cL (HS.o.below bi.o);have i8:a4.length≤8192:=Y;clear b5 dE bM cL;go_wp2_with fail;refine(rD _ a4 _ b3.o.row Y d_.o).mono ?_;rintro e w5⟨⟨ug,rfl,aw⟩,aN⟩;obtain⟨ag,cg,rfl⟩:=ay aw;obtain⟨G,hG⟩:=H (cE a4);rw[←hG]at aw d'⊢;have ct:=ea.o.below aN;have cc:=ea.o.nl.blk;obtain⟨D,hD⟩:=H w5.heap.size;have dv:=ct.nl.lev.row;have dw:=b3.o.row.below aN;have I:=aw.row;have nT:∀ b,bZ≤b→b≠T:=fun b hb e=>by have:=d.o;omega
       have a1:=bi.o.size;have bF:=aN.size;have dI:bZ≤W0.heap.size:=by rw[HB.o];exact HC.o.size
       have cw:∀ b,(Value.slice al ae.length cl).ownBlock=some b→¬(b=T∨(Value.slice an E.length cn).ownBlock=some b∨D≤b):=fun b hb=>by
        have h1:=HS.o.nl.blk.2 b hb;have h2:=HS.o.nl.ap b;rintro (e|e|e)
        ·exact nT b h1.1 e
        ·exact h2 e hb
        ·omega
       have eb:∀ b,(Value.slice av ae.length cv).ownBlock=some b→¬(b=T∨(Value.slice an E.length cn).ownBlock=some b∨D≤b):=fun b hb=>by
        have h1:=b3.o.lt b hb;rintro (e|e|e)
        ·exact nT b Y e
        ·have:=(HS.o.nl.blk.1 b e).2;omega
        ·omega
       have bB:∀ b,(Value.slice ag G.length cg).ownBlock=some b→¬(b=T∨(Value.slice an E.length cn).ownBlock=some b∨D≤b):=fun b hb=>by
        have h1:=aw.lt b hb;rintro (e|e|e)
        ·exact nT b Y e
        ·have:=(HS.o.nl.blk.1 b e).2;omega
        ·omega
       have ec:RJ T bZ D (l.length:Int) (.slice an E.length cn) w5 w5 (.slice an E.length cn) (e_) (E,[]):=⟨⟨ct.bt,ct.nl.cut⟩,.inl rfl,fun b h=>by simp[Value.ownBlock]at h,Chg.refl _ _⟩
       have a5:Chg (fun k=>k=T∨bZ≤k) U w5:=(HC.o.trans (IG bi.o)).trans (IG aN);have cY:=O dv;obtain⟨eq,n,aH,cp,cu,dx,bO,HG,HD⟩:=zH9 dw I cw eb bB ec a5 hG hD;have dq:G.length≤8192:=Y;have bo:=O (show bZ≤D by omega);clear aw aN ct cc hD dv dw I nT a1 bF dI cw eb bB ec a5 hG d';go_wp2
       go_loopw [9,10] (fun tx ti wx=>∃ i:Nat,∃ V ax cx,∃ X:LD_×LI_,tx=.slice ax X.2.length cx∧ti=F i∧i≤G.length∧Hid (X=(G.take i).foldl (dO a4 ae) (E,[]))∧Hid (RJ T bZ D (l.length:Int) (.slice an E.length cn) w5 wx V (.slice ax X.2.length cx) X)) (fun _ ti _=>G.length-(intOf ti).toNat)
       case atStart=>exact⟨0,_,none,0,(E,[]),rfl,rfl,Jl _,rfl,dx.o⟩
       case round =>
        obtain⟨i,V,ax,cx,X,rfl,rfl,hi,HX,HJ⟩:=hrel
        by_cases ed:i<G.length
        ·obtain⟨f,tt,dd⟩:∃ f tt,G[i]=(f,tt):=⟨_,_,rfl⟩
         have ao:G.take (i+1)=G.take i++[(f,tt)]:=by rw[JB ed,dd]
         have ee:=wO br.o (aj:=G.take i) (f:=f) (t:=tt) (by rw[←cM.o,←HG.o,←ao];exact List.take_prefix _ _);rw[←cM.o,←HX.o]at ee;obtain⟨b9,cr,cN⟩:=ee;have cq:∀ aa,aa=dO a4 ae X (f,tt)→aa=(G.take (i+1)).foldl (dO a4 ae) (E,[]):=fun aa hY=>by rw[ao,List.foldl_append,←HX.o,hY];rfl
         obtain⟨dk,c_,_,_,rfl,he⟩:=HJ.o.sr.nl.slice;have aK:=n.o.chg HJ.o.ch cu.o;obtain⟨_,_,c7,_,df⟩:=yf aK;injection c7 with e1 _ e3
         subst e1 e3;obtain⟨bg,ex,rfl,y1,y2⟩:=df i ed;rw[dd]at y1 y2;have ce:=O cq;have b7:=O cN;have i0:(f:Int)<tt:=Y;have i1:(tt:Int)≤8192:=Y;have i2:=nn_ f;have i3:=nn_ i;have i4:(i:Int)<G.length:=Y;obtain⟨Wr,bp⟩:∃ W,W=wr:=⟨_,rfl⟩
         subst bp;clear dd ao cq cN he aK df;go_wp2;refine rk_ [(4,.exact _ (F tt)),(9,.exact _ (F f))] ?_;refine cG ?_;refine gl_ y2 ?_;refine gl_ y1 ?_;refine ji ?_;intro w8 aG er;have z1:=IF aG y1;have z2:=IF aG y2;have ef:D≤w8.heap.size:=by have h1:=HJ.o.ch.size;have h2:=aG.size;have:=HD.o;omega
         obtain⟨dW,dz,dM,eg⟩:=zH4 (HJ.o.below aG) ((cY.o.chg HJ.o.ch aH.o).below aG) ((eq.o.chg HJ.o.ch cp.o).below aG) ef;have dN:bZ≤w8.heap.size:=by have:=bo.o;omega
         have dP:=O dN;clear aG er y1 y2 ef dN
         by_cases h1:tt-f=1
         ·have q1:((tt:Int)-(f:Int)==1)=true:=by rw[beq_iff_eq];omega
          have bS:f<ae.length:=Y;obtain⟨_,_,a2,_,bx⟩:=gX dz.o;injection a2 with e1 _ e3
          subst e1 e3;obtain⟨bl,ez,rfl,cf⟩:=bx f bS;obtain⟨z,hz⟩:=H (ae[f]);rw[←hz]at cf;have j1:(f:Int)<ae.length:=Y;have ab:(X.1,X.2++[z])=dO a4 ae X (f,tt):=by rw[hz];exact rX h1 bS
          have aY:=O ab;clear bx hz ab;have bn:X.2.length≤8192:=by have:=b7.o.len;rw[this,JH];omega
          have aR:=O bn;clear bn;go_wp2_with (at_builtin;go_must (refine eY.append1C _ z rfl _ _ 92 rfl underlying92 bZ _ X.2 dW.o.sr.nl.lev rfl 1 rfl _ rfl _ rfl (byI (by have:=aR.o;omega)) dP.o ?_);intro g gc w9 a_ ci dq;obtain⟨cI,b1,dS⟩:=zH3 a_ ci dq;clear a_ ci dq);have es:=dW.o.lev d.o eg.o (q:=X.2++[z]) b1.o dS.o (by rw[Jh];exact cI.o);exact⟨⟨i+1,_,_,_,(X.1,X.2++[z]),by rw[Jh];rfl,by go_num,by omega,ce.o _ aY.o,es⟩,by simp[intOf];omega⟩
         ·have q1:((tt:Int)-(f:Int)==1)=false:=by rw[beq_eq_false_iff_ne];omega
          have q2:¬((tt:Int)-(f:Int)=1):=Y;have ab:(X.1++[(gI ((a4.drop f).take (tt-f)),(ae.drop f).take (tt-f))],X.2++[(X.1.length:Int)])=dO a4 ae X (f,tt):=pK h1;obtain⟨A1,C1,b_,bX⟩:=Rec.Row.subRun (a:=av) (ah:=cv) (l:=a4) (by rw[dH.o];exact dM.o) 22 underlying22 yzg f tt Y (by rw[dH.o];omega);obtain⟨A2,C2,bh,bY⟩:=Rec.Row.subRun dz.o 92 underlying92 yzg f tt Y Y;rw[dH.o]at b_;have be:((a4.drop f).take (tt-f)).length=tt-f:=by have:=dH.o;simp;omega
          have a0:((ae.drop f).take (tt-f)).length=tt-f:=by simp;omega
          have cz:∀ s∈(a4.drop f).take (tt-f),s.length≤32:=fun s hs=>by
           have h1:=List.mem_of_mem_drop (List.mem_of_mem_take hs);have:=List.all_eq_true.1 d_.o s h1;have:s.length=32:=by simpa[kO] using this
           omega
          obtain⟨S1,dl⟩:=H ((a4.drop f).take (tt-f));obtain⟨S2,cR⟩:=H ((ae.drop f).take (tt-f));rw[←dl]at bX be cz ab;rw[←cR]at bY a0 ab;rw[←be]at b_ bX;rw[←a0]at bh bY;obtain⟨bH,bD,dr,dh,di,aY⟩:=zH6 be a0 cz bX bY ab;have bn:X.2.length≤8192:=by have:=b7.o.len;rw[this,JH];omega
          have bN:X.1.length≤20000:=by have:=b7.o.sum;omega
          have aR:=O bn;have bL:=O bN;have j1:(tt:Int)≤ae.length:=Y;have j2:(f:Int)≤tt:=Y;clear be a0 cz bX bY dl cR ab bN bn;go_upto_region 21 with fail;refine aU 12 [(5,.exact _ (F f)),(10,.exact _ (F tt))] q_ q_ ?_;simp only[Jw,JE,Ju,JF];refine cG ?_;refine gl_ z1 ?_;refine gl_ z2 ?_;refine ji ?_;intro w9 az et;have eh:=O (dW.o.below az);have dA:=O (dh.o.below az);have z3:=IF az z1;have z4:=IF az z2;have dQ:bZ≤w9.heap.size:=Jc dP.o az.size;have ei:D≤w9.heap.size:=Jc eg.o az.size;have dR:=O dQ;have eu:=O ei;refine eY.append w9 rfl _ _ 92 rfl underlying92 w9.heap.size (e_) [] (Rec.Own.nil _ _) rfl _ S2 (di.o.below az) rfl (by have:=bD.o;show(0+_)*8≤_;omega) (I6 _) ?_;intro vk wa aC dp;rw[JC]at aC;obtain⟨ak,ck,rfl⟩:=ay aC;obtain⟨HK,ej,ek⟩:=zH3 aC (eh.o.below dp) (dA.o.below dp);have z5:=IF dp z3;have z6:=IF dp z4;have bw:=O dp;obtain⟨c1,c2,f1,f2⟩:=fh ej.o.sr.bt;obtain⟨J,hJ⟩:=H (gI S1);have c6:=O hJ;clear az et dQ ei aC dp z1 z2 z3 z4 bh dh di dA dz dM hJ;go_upto_region 22 with fail;refine aU 18 [(1,.exact _ (.slice dk X.1.length c_)),(7,.exact _ (F f)),(12,.exact _ (F tt)),(14,.exact _ (s_ J)),(17,dc 1 [s_ J,.slice ak S2.length ck])] q_ q_ ?_;simp only[Jw,JE,Ju,JF];refine cG ?_;refine gl_ c1 ?_;refine gl_ z5 ?_;refine gl_ z6 ?_;refine gj_ (fun w' G hB hS hG=>?_) ?_
          ·have hid:=EZ _ S1 w' (ek.o.below hB) (by have:=bH.o;omega) dr.o
           rw[←c6.o]at hid;go_simp;exact aT hG hid
          refine gk_ (dc 1 [s_ J,.slice ak S2.length ck]) (fun w' G hB hS hG=>?_) (fun x K hK=>?_)
          ·go_simp;exact ew hG rfl
          obtain⟨ad,c⟩:=x;refine cO ?_;clear hK K;refine ji ?_;intro w' hB hA;have b8:=mn hA;have cm:=O (show aO w' (.slice ad 1 c) 1 (pY.cell (J,(ak,S2.length,ck))) from b8);have af:=ej.o.below hB;obtain⟨aF,r1,r2,r3⟩:=af.sr.nl.raw
          have cQ:KR w' (fun k=>bZ≤k) (.slice dk X.1.length c_) (.slice ax X.2.length cx) (J,(ak,S2.length,ck)) (J,S2):=by
           refine⟨rfl,HK.o.row.below hB,fun b hb=>?_⟩;have h1:=HK.o.lt b hb;have h2:=eh.o.sr.nl.blk;have h3:=dR.o;have h4:=hB.size;refine⟨by omega,by omega,fun e=>?_,fun e=>?_⟩
           ·have:=(h2.1 b e).2;omega
           ·have:=(h2.2 b e).2;omega
          obtain⟨dX,R1,R2,R3,cH⟩:=zH5 af r1 r2 r3 cQ;have aZ:bZ≤w'.heap.size:=Jc (Jc dR.o bw.o.size) hB.size;have em:D≤w'.heap.size:=Jc (Jc eu.o bw.o.size) hB.size;have a7:=O aZ;have en:=O em;clear hB hA b8 af r1 r2 r3 cQ aZ em c1 c2 f1 f2 z5 z6 b_;rw[←R2.o];refine pY.append1R w' (J,(ak,S2.length,ck)) rfl _ _ 66 rfl underlying66 bZ _ aF (by rw[R2.o];exact R1.o) rfl _ rfl cm.o (by show _*40≤_;have:=R2.o;have:=bL.o;omega) a7.o ?_;intro g gc w3 M aI A;rw[R2.o]at M aI A⊢;have hp:=dX.o.push d.o en.o R2.o R3.o cH.o aI A M;obtain⟨c1,c2,f1,f2⟩:=fh (aI.at dX.o.sr.bt (fun e=>by have:=(dX.o.sr.nl.blk.1 _ e).1;have:=d.o;omega));have bJ:w'.heap.size≤w3.heap.size:=aI.size;have cJ:=O hp;clear M aI A hp;go_upto_region 23 with fail;obtain⟨U3,cV⟩:=H (w3.setCell ⟨T,0,none⟩ (.slice (some ⟨g,0,none⟩) (X.1.length+1) gc));rw[←cV];have hp:=cJ.o;rw[←cV]at hp;have eo:U3.heap.size=w3.heap.size:=by rw[cV,li]
          have HP:=O hp;have aW:=O (show bZ≤U3.heap.size by have:=a7.o;omega);have dn:=O (show D≤U3.heap.size by have:=en.o;omega);clear c1 c2 f1 f2;obtain⟨c1,c2,f1,f2⟩:=fh hp.sr.bt;clear cV cJ hp eo bJ;obtain⟨dK,dB⟩:∃ dK,dK=X.1.length:=⟨_,rfl⟩
          rw[←dB]at c1;have cF:=O dB;have c9:dK≤20000:=by have:=bL.o;omega
          clear dB;go_wp2_with (at_builtin;go_must (refine eY.append1C _ (dK:Int) rfl _ _ 92 rfl underlying92 bZ _ X.2 HP.o.sr.nl.lev rfl 1 rfl _ rfl _ rfl (byI (by have:=aR.o;omega)) aW.o ?_);intro g5 eA w6 dC b0 ds;obtain⟨cS,cd,cW⟩:=zH3 dC b0 ds;clear dC b0 ds);have ev:=HP.o.lev d.o dn.o (q:=X.2++[(X.1.length:Int)]) cd.o cW.o (by rw[Jh,←cF.o];exact cS.o);exact⟨⟨i+1,_,_,_,(X.1++[(J,S2)],X.2++[(X.1.length:Int)]),by rw[Jh];rfl,by go_num,by omega,ce.o _ (by rw[c6.o];exact aY.o),ev⟩,by simp[intOf];omega⟩
        ·obtain rfl:i=G.length:=Y
         have cC:X=lvl E ae:=by rw[HX.o,List.take_length,HG.o,cM.o];rfl
         have bb:=yJ br.o;have ca:=qy br.o HN.o;have ch:=sz HN.o HM.o (E:=E);rw[cb.o]at ch;rw[←cC]at bb ca ch
         have bm:=bO.o.trans (HJ.o.ch.mono (X':=fun k=>k=T∨bZ≤k) fun k hk=>by
          rcases hk with h|h|h
          ·exact .inl h
          ·exact .inr (HS.o.nl.blk.1 k h).1
          ·exact .inr (Jc bo.o h))
         obtain⟨dD,cA,bv,bz⟩:=zH4 bb ca ch bm;clear cC bb ca ch bm;go_wp2;refine⟨⟨m-1,V,ax,cx,X.1,X.2,rfl,HJ.o.sr,⟨dD.o.ids,dD.o.lev⟩,?_,bv.o.symm,?_,bz.o⟩,cA.o⟩
         ·have:=cA.o;have:=HM.o;omega
         ·show X.1.length+X.2.length≤2*l.length
          have h1:=dD.o.sum;have h3:=bk.o;omega
    ·have n1:¬1<(ae.length:Int):=Y
     have bj:=cb.o;rw[qz hn]at bj;have bv:=O bj;have a9:=HC.o.at c0.o (fun e=>by have:=HT.o;have:=HB.o;have:=cU.o;omega);obtain⟨c1,c2,f1,f2⟩:=fh a9;obtain⟨c3,c4,f3,f4⟩:=fh HS.o.bt;have a6:=O a9;obtain⟨an,cn,_,_,rfl,he⟩:=HS.o.nl.slice;clear hn bj a9 he;go_wp2_with fail;refine bodyPost_ret (results_cell_row rfl _ _ w.heap.size 68 _ (0,0) _ rfl (EL a6.o) underlying68 rfl q_) rfl ?_;have bK:=EM wr w.heap.size (.slice an E.length cn) (F l.length);have aQ:=HS.o.nl.chg bK (HS.o.nl.avoid (hK:=by have:=HB.o;have:=cU.o;omega) (by have:=HB.o;have:=cU.o;omega));refine⟨⟨_,rfl,by rw[←bv.o];exact aQ.nrf (by have:=HB.o;have:=cU.o;omega)⟩,?_⟩;exact(bG.o.trans (HC.o.below (fun k hk=>by have:=HT.o;have:=HB.o;have:=cU.o;omega) (by have:=cU.o;omega))).trans (bK.below (fun k hk=>by omega) (by have h1:=HC.o.size;have:=cU.o;omega))