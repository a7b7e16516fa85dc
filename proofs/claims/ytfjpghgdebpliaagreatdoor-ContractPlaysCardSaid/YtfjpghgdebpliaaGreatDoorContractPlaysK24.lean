/- Lemmas. -/
import Derived.Test.YtfjpghgdebpliaaGreatDoorIter
import Derived.Test.YtfjpghgdebpliaaGreatDoorContractPlaysK3
set_option linter.unusedSimpArgs false
set_option linter.unusedVariables false
set_option maxRecDepth 100000
set_option maxHeartbeats 16000000
namespace Go.Proofs.YtfjpghgdebpliaaGreatDoor
attribute [local irreducible] wpG
open Go.Proofs.Tryz
open Go.RowKit Oct
section
open Go.RowKit Oct Go.WideMaps Go.Maps
variable {W U:Z}{T R J C A Nn c M n0:Nat}{an ar:OA_}{cn cr:Nat}{t1 c1 t2 c2 t3 c3:V_}{j:Jb}{N:LD_}{ac:LQ_}{K:Nat→Prop}{Uk V:LL_}
theorem NE.xmap {I:LE_}(h:NE W T R J C A Nn c M n0 an ar cn cr t1 c1 t2 c2 t3 c3 j N ac Uk V)(hM:CN K A U M I){b:Nat}(hb:b=M∨b=A)(hA:b≠A):∃ I cl,U.heap[b]?=some (.map I cl):=by
 rcases hb with e|e
 ·rw[e];exact hM.map
 ·exact absurd e hA
theorem GI {U wr w7:Z}{I:LE_}{K':Nat→Prop}{u:V_}{ag:LQ_}(hE:NE W T R J C A Nn c M n0 an ar cn cr t1 c1 t2 c2 t3 c3 j N ac Uk V)(hW:W.heap.size≤U.heap.size)(hG:KG (fun b=>b≠A) wr U.heap.size u ag)(hM:CN K' A wr M I)(hc:Chg (fun k=>k=M∨k=A) wr w7):KG (fun b=>b≠A) w7 U.heap.size u ag :=
 hG.chg hc (fun b hb hx=>hE.xmap hM hx (by have:=hE.al;omega)) (fun b hb hx=>hE.xmap hM hx hb)
theorem MK {T:Prop} (h:T:=by
 have e2:g=b:=by simpa[Value.ownBlock] using e
 subst e2;rcases hg with hg|hg
 ·exact hk.1.1.2 hg
 ·have:=hk.2;omega
):T:=h
theorem GH {U wr w7 w9:Z}{M WS n A:Nat}{u z:V_}{ag:LQ_}{r:LP_}{g ah:Nat}{B b_:LV_}{K:Nat→Prop}{I:LE_}{s:CSt}(k:A<WS)(a:WS≤U.heap.size)(hS:wr.heap.size≤w7.heap.size)(f:wr.ownsRow U.heap.size 29 1 u ag.length b_)(hl:B.length=ag.length)(h2:∀ i (h:i<B.length) (h':i<ag.length),Aw (fun b=>b≠A∧u.ownBlock≠some b) w7 B[i] ag[i])(hr:Aw (fun b=>b≠A∧(b<WS∨wr.heap.size≤b)) w7 z r)(aw:w9.ownsRow U.heap.size 29 1 (.slice (some ⟨g,0,none⟩) (ag.length+1) ah) (ag.length+1) (B++[z]))(E:∀ j,j<w7.heap.size→u.ownBlock≠some j→w9.heap[j]?=w7.heap[j]?)(hg:u.ownBlock=some g∨w7.heap.size≤g)(hB:B_ U.heap.size w7 w9)(d:M<U.heap.size)(hA:BA w7 A s)(hM:CM (fun b=>(K b∧u.ownBlock≠some b)∧b≠A) w7 M n I):KG (fun b=>b≠A) w9 U.heap.size (.slice (some ⟨g,0,none⟩) (ag.length+1) ah) (ag++[r])∧BA w9 A s∧CM (fun b=>(K b∧(Value.slice (some ⟨g,0,none⟩) (ag.length+1) ah).ownBlock≠some b)∧b≠A) w9 M n I:=by
 have hq:∀ b,u.ownBlock=some b→U.heap.size≤b∧b<wr.heap.size:=fun b hb=>World.ownsRow.lt f b hb;refine⟨KG.snoc (w:=w7) hl h2 ⟨hr.1,fun aI b hb=>?_⟩ aw E hg,?_,?_⟩
 ·obtain⟨q2,q3⟩:=hr.2 aI b hb
  refine⟨q2,fun e=>?_⟩;have:=hq b e;omega
 ·unfold BA Blk at hA⊢
  rw[hB.block A Y];exact hA
 ·have h3:=hM.mono (K':=fun b=>((K b∧u.ownBlock≠some b)∧b≠A)∧b<w7.heap.size) (fun b hb hk=>⟨hk,hb⟩)
  have h4:=h3.frame (w':=w9) (hB.block M d) (fun b hb hk=>E b hb hk.1.1.2);refine h4.mono (fun b hb hk=>⟨⟨hk.1.1.1,fun e=>?_⟩,hk.1.2⟩);exact MK
theorem sB {y:Nat→CSt→(LP_×q×Nat)×CSt}{ag:LQ_}{s:CSt}:eV y [] ag s=((ag,[],0),s):=rfl
theorem DN (hE:NE W T R J C A Nn c M n0 an ar cn cr t1 c1 t2 c2 t3 c3 j N ac Uk V)(hc:Chg (fun k=>k=M∨k=A) W U)(s:CSt)(n f:Nat)(hn:¬n<n0)(aQ:n<N.length)(hA:BA U A s)(hM:CN K A U M s.es)(hs:StU Uk V s)(hg:aM s.es (cN j (N.getD n ([],[])).1)=none)(hK:∀ b,U.heap.size≤b→K b)(IH:∀ (k:Nat) (s':CSt) (U':Z) (K':Nat→Prop),k<n→Chg (fun k=>k=M∨k=A) W U'→BA U' A s'→CN K' A U' M s'.es→(∀ b,U'.heap.size≤b→K' b)→StU Uk V s'→C_ 43 #[F k,pt T,pt R,pt J,pt C,pt A,pt Nn] U' fun e cw=>rq W U' A M K' (cC j N n0 ac f k s') e cw):C_ 43 #[F n,pt T,pt R,pt J,pt C,pt A,pt Nn] U fun e U'=>rq W U A M K (cC j N n0 ac (f+1) n s) e U':=by
 rw[lp hn hg];have bV:=hE.vu n;rw[pu aQ]at hg bV⊢;have hid:N[n].1.length=32:=hE.tree.ids _ (Jz aQ);obtain⟨h,-⟩:=hE.job U hc;have HK:=O (np t1 c1 t2 c2 t3 c3 j N[n].1 U.drew (h.below (b_drew U)) Y);have aa:rF j N[n].1=(cN j N[n].1,0):=if_pos ⟨hE.may,hid⟩;rw[aa]at HK;have bq:=(gW j N[n].1 Y).2;obtain⟨bT,bR,bJ,bC,bN,Q⟩:=hE.blks hc;have a:=O (fun w' (hB:Bw_ U w')=>ns c M s.es.length s.es (cN j N[n].1) w' (Q.below hB) (hM.below hB) Y (by rw[hg];simp));rw[hg]at a;simp only[Option.getD_none,Option.isSome_none]at a;obtain⟨b,aL,ak,ck,rfl,aT⟩:=hE.node aQ;have aC:=hE.tree.kids n Y aQ;rw[pu aQ]at aC;have bu:=hE.tree.few _ (Jz aQ);have bm:=O aT;obtain⟨bc,-,-⟩:=aT U hc
 -- aO af bz a2 to,aO bP ac bb to,aO b3 bo
 have cp:=O (fun k s' (a8:StU Uk V s')=>mO hE.ul j N n0 ac hE.ru hE.vu f k s' a8);have dx:=O (fun (ag:LQ_) (ho:∀ r∈ag,dC Uk r)=>tN hE.ul j ag ho)
 have bZ:=O (fun (u:V_) (ag:LQ_) w' (a5:Chg (fun k=>k=M∨k=A) W w') (hu:RR w' u ag) (ho:∀ r∈ag,dC Uk r) (hl:ag.length≤8)=>by
  have ap:=dC.flat ho;exact zA t1 c1 t2 c2 t3 c3 u j ag w' (hE.job w' a5).1 (hE.job w' a5).2 hu Y (by have:=ap.1;omega) (fun p hp=>Jc (ap.2 p hp) d_))
 have aG:=O (fun w' (a5:Chg (fun k=>k=M∨k=A) W w')=>hE.blks a5);have bE:=O (fun (I:LE_) (v:V_) (r:LP_) w' (a5:Chg (fun k=>k=M∨k=A) W w') (cx:U.heap.size≤w'.heap.size) (hm:CN K A w' M I) (hv:RP w' v r) (hr:r.length≤2000) (hl:I.length≤10000)=>qY (K:=fun b=>K b∧b≠A) c M I.length I (cN j N[n].1) v r w' (hE.blks a5).2.2.2.2.2 hm Y hv Y Y (fun b hb=>⟨hK b (Jc cx hb),by have:=hE.al;have:=a5.size;omega⟩));obtain⟨HE,ae,cb,aX,a6⟩:=zH5 hE (fun s' (a8:StU Uk V s')=>Jc a8.len hE.vl) IH hK hM.lt;obtain⟨ta,tc,ca,cc,aV,bd,be,bf,bg,bh,bi,bk,rfl,rfl,rfl,rfl,rfl,rfl⟩:=jo_ h.a.t h.a.c h.b.t h.b.c h.c.t h.c.c;unfold bM at HK bZ;obtain⟨T0,T1⟩:=cl2 bT;obtain⟨x0,x1,x2,x3,x4,x5,x6,x7⟩:=cl8 bJ;have i0:¬(n:Int)<n0:=Y;have i1:=nn_ n;have i2:(n:Int)<N.length:=Y;obtain⟨HA,HM,HS,HC,S,bQ,a1,b8⟩:=zH8 hA hM hs hc bC (show W.heap.size≤U.heap.size from hc.size) hE.al bV;obtain⟨z,bv⟩:=H (cN j N[n].1);rw[←bv]at HK a bE b8⊢;obtain⟨o,aB⟩:=H (N[n].2);simp only[←aB]at bm aC bu⊢;have cy:=O aC;have cg:=O bu;obtain⟨id,q⟩:=H (N[n].1);rw[←q]at bc HK;simp only[←q]at bm;obtain⟨y,a0⟩:=H (cC j N n0 ac f);simp only[←a0]at cb cp⊢;clear bv q aB a0 aa bq hid hA hM bT bR bJ bC bN Q h hE hs hg hc hn aQ aC bu aT IH bV hK;unfold pt;go_enter func43,ntmps43;go_wp2_with fail;go_step3;go_upto_region 3 with fail;go_region_law (refine aN rfl 14 #[.agg #[.slice ta j.mt.length tc,.slice ca j.mc.length cc,.slice aV j.jt.length bd,.slice be j.jc.length bf,.slice bg j.tt.length bh,.slice bi j.tc.length bk,F j.parts,F j.fuel],s_ id] yzc HK.o ?_;rintro e w2⟨rfl,ax⟩;have a9:=O (bt (b_drew U) ax);have L:=(S.o.below a9.o).c 0;clear ax x0 x1 x2 x3 x4 x5 x6 x7)
 all_goals
  go_wp2_with (go_at_call 7;refine(a.o _ a9.o).mono ?_;rintro e w3⟨⟨v,rfl,hv⟩,al⟩;obtain⟨va,vc,rfl⟩:=ay hv;have aW:=O (bt a9.o al);have aj:=O (HA.o.below aW.o);have d:=O (HM.o.below aW.o);have av:=O (HC.o.trans (IG aW.o));have bS:=O (IG (X:=fun k=>k=M∨k=A) aW.o);have T0:=(aG.o _ av.o).1.c 0;have bL:=(bm.o _ av.o).2.1;clear al hv);go_step3;go_wp2_with fail;have cH:=cg.o
  go_loopw [15,64] (fun u t wr=>∃ (i:Nat) (ag:LQ_) (s':CSt),i≤o.length∧t=F i∧Hid (ag.length=i)∧Hid (KG (fun b=>b≠A) wr U.heap.size u ag)∧Hid (eV y (o.drop i) ag s'=eV y o [] s)∧Hid (∀ r∈ag,dC Uk r)∧Hid (StU Uk V s')∧Hid (BA wr A s')∧Hid (CN (fun b=>K b∧u.ownBlock≠some b) A wr M s'.es)∧Hid (Chg (fun k=>k=M∨k=A) U wr)) (fun _ t _=>o.length-(intOf t).toNat)
  case atStart=>exact⟨0,[],s,Jl _,rfl,rfl,KG.nil _ _ _,by unfold Hid;rw[JF],by unfold Hid;simp,HS.o,aj.o,d.o.mono (fun b _ hb=>⟨⟨hb.1,fun e=>by cases e⟩,hb.2⟩),bS.o⟩
  case round =>
   obtain⟨i,ag,s',hi,rfl,a3,HG,cq,bj,aY,bw,b2,bO⟩:=hrel;obtain⟨ao,co,cs⟩:=HG.o.slice;rw[a3.o]at cs;subst cs;have ba:=O (HC.o.trans bO.o)
   by_cases h0:i<o.length
   ·have cd:=cy.o o[i] (Jz h0)
    have aJ:=JP h0;obtain⟨-,-,m⟩:=bm.o _ ba.o;obtain⟨ra,rc,aS,-,aF⟩:=gX m;injection aS with e1 _ e3
    subst e1 e3;obtain⟨kb,ko,rfl,k1⟩:=aF i h0;obtain⟨kk,aq⟩:∃ kk:Nat,o[i]=(kk:Int):=⟨o[i].toNat,(Int.toNat_of_nonneg cd.1).symm⟩
    rw[aq]at cd k1 aJ;have D:=cq.o;rw[aJ]at D;have bF:=O (fun hz=>(qE (y:=y) (k:=(kk:Int)) (o:=o.drop (i+1)) (ag:=ag) (s:=s') hz).symm.trans D);have aA:=O (fun hz=>(nU (y:=y) (k:=(kk:Int)) (o:=o.drop (i+1)) (ag:=ag) (s:=s') hz).symm.trans D);simp only[Je]at bF aA;have bX:=O (cp.o kk s' aY.o);have a4:=O (cb.o kk s' wr (fun b=>K b∧(Value.slice ao i co).ownBlock≠some b) Y ba.o bw.o b2.o (fun b hb=>⟨aX.o b (Jc bO.o.size hb),fun e=>by obtain⟨b_,w,-⟩:=HG.o;have:=(World.ownsRow.lt w b e).2;omega⟩) aY.o);obtain⟨X,hX⟩:=H (y kk s');rw[←hX]at bF aA bX a4;obtain⟨⟨Xr,Xb,Xz⟩,Xs⟩:=X;unfold rq at a4;dsimp only at bF aA bX a4;have N0:=(aG.o _ ba.o).2.2.2.2.1.c 0;have i3:=nn_ i;have i4:(i:Int)<o.length:=Y;have aw:=O h0;unfold pt at a4;clear hX D aJ aq cd m aF h0
    by_cases hz:Xz=0
    ·have z1:((Xz:Int) != 0)=false:=by rw[hz];rfl
     have HQ:=O (bF.o hz);have dz:=O (show W.heap.size≤U.heap.size from bQ.o);obtain⟨b_,w,-⟩:=HG.o;have ct:=O w;have aE:=O (show(i+1)*24≤140737488355328 by have:=aw.o;have:=cg.o;omega);clear hz bF aA w;go_wp2_with (first|(at_builtin;(refine nA w7 [.slice a7 Xr.length c7] 29 rfl _ _ 32 rfl U.heap.size (e_) 1 24 underlying32 na rfl d_ _ i B bW.o rfl _ rfl rfl (by simp[Value.oneCell']) d_ aE.o bl.o ?_);intro g ah w9 a_ E bB az b4;obtain⟨cI,b7,cu,bG,cF⟩:=zH5 a_ E bB az b4;clear a_ E bB az b4)|(go_at_call 43;refine a4.o.mono ?_;rintro e w7⟨a7,c7,rfl,b5,bp,b6,ai⟩;obtain⟨b0,a',aZ,bA,bl⟩:=zH5 b5 bp b6 ai (Jc bO.o.size ai.size);obtain⟨B,aR,bx,aI⟩:=GI HE.o bQ.o HG.o b2.o ai;rw[a3.o]at aR;obtain⟨bW,aU,bn⟩:=zH3 aR bx aI;clear b5 bp b6 ai aR bx aI));go_roundw
     case rel =>
      have w:=ct.o;obtain⟨g1,g2,g3⟩:=GH (A:=A) (WS:=W.heap.size) (M:=M) (K:=K) a1.o bQ.o bA.o.size w aU.o bn.o b0.o (by rw[a3.o];exact cI.o) b7.o cu.o bG.o a6.o a'.o aZ.o;rw[a3.o]at g1 g3
      exact⟨i+1,ag++[Xr],Xs,aw.o,by go_num,by unfold Hid;rw[Jh,a3.o];rfl,g1,HQ.o,by
       intro r hr;rcases Jt.1 hr with hr|hr
       ·exact bj.o r hr
       ·rw[Jp.1 hr];exact bX.o.1,bX.o.2,g2,g3,sX (bO.o.trans bA.o) bG.o⟩
     case measure=>have:=aw.o;simp[intOf];omega
    ·have z1:((Xz:Int) != 0)=true:=by rw[bne_iff_ne];omega
     have HQ:=O (aA.o hz);have cz:=O hz;clear hz bF;go_wp2_with (go_at_call 43;refine a4.o.mono ?_;rintro e w7⟨a7,c7,rfl,b5,bp,b6,ai⟩;obtain⟨b0,a',aZ,bA⟩:=zH4 b5 bp b6 ai;clear b5 bp b6 ai)
     try rw[Exit.noGoto_ret]
     go_ret3;have hQ:=HQ.o;have cf:=lr (j:=j) (z:=z) (K:=eV y o [] s) (by rw[←hQ];exact cz.o);rw[cf,←hQ];exact⟨none,0,rfl,Aw.nil _ _,a'.o,aZ.o.mono (fun b _ hb=>⟨hb.1.1,hb.2⟩),bO.o.trans bA.o⟩
   ·obtain rfl:i=o.length:=Y
    have i4:¬(o.length:Int)<o.length:=Y;have D:=cq.o;rw[List.drop_length,sB]at D;have ab:=mS (j:=j) (z:=z) (K:=eV y o [] s);have bY:=jR (j:=j) (z:=z) (K:=eV y o [] s);rw[←D]at ab bY;have cj:=O D;dsimp only at ab bY;have bH:=O (ab rfl);have bK:=O (bY rfl);have aD:=O (bZ.o _ ag wr ba.o HG.o.rr bj.o (by rw[a3.o];exact cg.o));have bD:=O (dx.o ag bj.o);obtain⟨-,-,bJ,-,-,-⟩:=aG.o _ ba.o;obtain⟨x0,x1,x2,x3,x4,x5,x6,x7⟩:=cl8 bJ;obtain⟨am,hF⟩:=H (dg j ag);rw[←hF]at bH bK aD bD;obtain⟨Fr,Fb,Fz⟩:=am;dsimp only at bH bK aD bD;clear D ab bY hF bJ h0
    by_cases hz:Fz=0
    ·have z1:((Fz:Int) != 0)=false:=by rw[hz];rfl
     have HQ:=O (bH.o hz);clear hz bH bK;go_upto_region 22 with(go_at_call 44;refine aD.o.mono ?_;rintro e w7⟨⟨pv,rfl,ad⟩,aH⟩;obtain⟨P,pc,rfl⟩:=ay ad;have bI:=O (r9 ad);have aK:=O aH;clear ad aH x0 x1 x2 x3 x4 x5 x6 x7);have x:=bw.o.below aK.o;have A1:=x.c 1;have A2:=x.c 2;have f1:=x.free (k:=1) i_;have f2:=x.free (k:=2) i_;have a':=O x;have aZ:=O ((b2.o.mono (K':=fun b=>K b∧b≠A) (fun b _ hb=>⟨hb.1.1,hb.2⟩)).below aK.o);have cA:=O (show Fr.length≤2000 from bD.o.2);clear x;go_upto_region 24 with fail;obtain⟨W8,br⟩:=H (((w7.setCell ⟨A,1,none⟩ (F (wrap64 (s'.made+1)))).setCell ⟨A,2,none⟩ (F (wrap64 (s'.pairs+(Fr.length:Int))))));rw[←br];have l:Chg (fun k=>k=A) w7 W8:=by rw[br];exact Chg.trans (Chg.setCell w7 ⟨A,1,none⟩ _ rfl) (Chg.setCell _ ⟨A,2,none⟩ _ rfl)
     have ch:BA W8 A ⟨s'.es,s'.found,wrap64 (s'.made+1),wrap64 (s'.pairs+(Fr.length:Int))⟩:=by rw[br];exact(a'.o.set 1 _).set 2 _
     have aP:=aZ.o.chg l (fun e=>by obtain⟨I,cl,hm⟩:=aZ.o.map;have h1:=a'.o;unfold BA Blk at h1;rw[←e,hm]at h1;cases h1) (fun b hb hx=>hb.2 hx);have a5:Chg (fun k=>k=M∨k=A) U W8:=(bO.o.trans (IG aK.o)).trans (l.mono fun k hk=>.inr hk);have L:=(aG.o _ (HC.o.trans a5)).2.2.2.1.c 0
     have ce:Aw (fun b=>b≠A∧(b<W.heap.size∨U.heap.size≤b)) W8 (.slice P Fr.length pc) Fr:=(Aw.own bI.o (fun b hb=>by
      have h1:=bO.o.size;have h2:=bQ.o;have h3:=a1.o;exact⟨by omega,.inr Y⟩)).chg l (fun b hb hx=>absurd hx hb.1)
     have cm:=O (bE.o s'.es _ Fr W8 (HC.o.trans a5) a5.size aP ce.1 cA.o (ae.o s' aY.o));obtain⟨cB,b9,au,b'⟩:=zH4 ce ch aP a5;clear br l ch aP a5 ce A1 A2 f1 f2;go_wp2_with (go_at_call 8;refine cm.o.mono ?_;rintro e w9⟨rfl,cv,ci⟩;have cD:=O cv;have b1:=O ci;clear cv ci)
     try rw[Exit.noGoto_ret]
     go_ret3;have bU:=cj.o;rw[←bU,HQ.o];refine⟨P,pc,rfl,cB.o.chg b1.o (fun b hb hx=>by rw[show b=M from hx];exact au.o.map),b9.o.chg b1.o (fun e=>?_),cD.o.tight,b'.o.trans (b1.o.mono fun k hk=>.inl hk)⟩;obtain⟨I,cl,hm⟩:=au.o.map;have h1:=b9.o;unfold BA Blk at h1;rw[show A=M from e,hm]at h1
     cases h1
    ·have z1:((Fz:Int) != 0)=true:=by rw[bne_iff_ne];omega
     have HQ:=O (bK.o hz);clear hz bH bK;go_wp2_with (go_at_call 44;refine aD.o.mono ?_;rintro e w7⟨⟨pv,rfl,ad⟩,aH⟩;obtain⟨P,pc,rfl⟩:=ay ad;have aK:=O aH;clear ad aH x0 x1 x2 x3 x4 x5 x6 x7)
     try rw[Exit.noGoto_ret]
     go_ret3;have bU:=cj.o;rw[←bU,HQ.o];exact⟨none,0,rfl,Aw.nil _ _,bw.o.below aK.o,(b2.o.mono (fun b _ hb=>⟨hb.1.1,hb.2⟩)).below aK.o,bO.o.trans (IG aK.o)⟩
theorem vZ (hE:NE W T R J C A Nn c M n0 an ar cn cr t1 c1 t2 c2 t3 c3 j N ac Uk V):∀ (f n:Nat) (s:CSt) (U:Z) (K:Nat→Prop),n<f→n<N.length→Chg (fun k=>k=M∨k=A) W U→BA U A s→CN K A U M s.es→(∀ b,U.heap.size≤b→K b)→StU Uk V s → C_ 43 #[F n,pt T,pt R,pt J,pt C,pt A,pt Nn] U fun e U'=>rq W U A M K (cC j N n0 ac f n s) e U'
 | 0,_,_,_,_,h,_,_,_,_,_,_=>absurd h (Nat.not_lt_zero _)
 | f+1,n,s,U,K,h,hl,hc,hA,hM,hK,hs=>by
  by_cases hn:n<n0
  ·exact Bx hE hc s n f hn hA hM
  ·cases hg:aM s.es (cN j (N.getD n ([],[])).1) with
   | some r=>exact yH hE hc s n f hn hl hA hM hs hg
   | none=>exact DN hE hc s n f hn hl hA hM hs hg hK (fun k s' U' K' hk m a O l a8=>vZ hE f k s' U' K' Y Y m a O l a8)
end
section
open Go.RowKit Oct Go.WideMaps Go.Maps
variable {W U:Z}{G r n0:Nat}{an ar:OA_}{cn cr:Nat}{t1 c1 t2 c2 t3 c3:V_}{j:Jb}{N:LD_}{ac:LQ_}{K:Nat→Prop}{Uk V:LL_}
theorem GG {U wr w7 w9:Z}{G r WS:Nat}{u z:V_}{ag:LQ_}{p:LP_}{g ah:Nat}{B b_:LV_}{K:Nat→Prop}{I:LE_}{T:T_}{L:LV_}(S:G<WS)(d:r<WS)(a:WS≤U.heap.size)(hS:wr.heap.size≤w7.heap.size)(f:wr.ownsRow U.heap.size 29 1 u ag.length b_)(hl:B.length=ag.length)(h2:∀ i (h:i<B.length) (h':i<ag.length),Aw (fun b=>(b≠r∧b≠G)∧u.ownBlock≠some b) w7 B[i] ag[i])(hr:Aw (fun b=>b≠r∧b≠G∧(b<WS∨(K b∧u.ownBlock≠some b))) w7 z p)(aw:w9.ownsRow U.heap.size 29 1 (.slice (some ⟨g,0,none⟩) (ag.length+1) ah) (ag.length+1) (B++[z]))(E:∀ j,j<w7.heap.size→u.ownBlock≠some j→w9.heap[j]?=w7.heap[j]?)(hg:u.ownBlock=some g∨w7.heap.size≤g)(hB:B_ U.heap.size w7 w9)(hG:Blk w7 G T L)(hM:RC (fun b=>(K b∧u.ownBlock≠some b)∧b≠G) w7 r I):KG (fun b=>b≠r∧b≠G) w9 U.heap.size (.slice (some ⟨g,0,none⟩) (ag.length+1) ah) (ag++[p])∧Blk w9 G T L∧RC (fun b=>(K b∧(Value.slice (some ⟨g,0,none⟩) (ag.length+1) ah).ownBlock≠some b)∧b≠G) w9 r I:=by
 have hq:∀ b,u.ownBlock=some b→U.heap.size≤b∧b<wr.heap.size:=fun b hb=>World.ownsRow.lt f b hb;refine⟨KG.snoc (w:=w7) hl h2 ⟨hr.1,fun aI b hb=>?_⟩ aw E hg,?_,?_⟩
 ·obtain⟨q1,q2,q3⟩:=hr.2 aI b hb
  refine⟨⟨q1,q2⟩,fun e=>?_⟩;rcases q3 with q3|q3
  ·have:=hq b e
   omega
  ·exact q3.2 e
 ·unfold Blk at hG⊢
  rw[hB.block G Y];exact hG
 ·have h3:=hM.mono (K':=fun b=>((K b∧u.ownBlock≠some b)∧b≠G)∧b<w7.heap.size) (fun b hb _ hk=>⟨hk,hb⟩)
  have h4:=h3.frame (w':=w9) (hB.block r Y) (fun b hb _ hk=>E b hb hk.1.1.2);refine h4.mono (fun b hb _ hk=>⟨⟨hk.1.1.1,fun e=>?_⟩,hk.1.2⟩);exact MK
theorem wo {j:Jb}{z:q}{Q:(LQ_×q×Nat)×CSt}(h:(mT j z Q).1.2.2=0):(mT j z Q).1.2.1=[]:=by
 by_cases h1:Q.1.2.2=0
 ·by_cases h2:(dg j Q.1.1).2.2=0
  ·rw[mS h1 h2]
  ·rw[jR h1 h2]at h
   exact absurd h h2
 ·rw[lr h1]at h
  exact absurd h h1
theorem wd (j:Jb)(E:LD_)(n0:Nat)(ac:LQ_)(f n:Nat)(s:CSt)(h:(cC j E n0 ac f n s).1.2.2=0):(cC j E n0 ac f n s).1.2.1=[]:=by
 cases f with
 | zero=>rfl
 | succ f =>
  by_cases hn:n<n0
  ·rw[jQ hn]
  ·cases hg:aM s.es (cN j (E.getD n ([],[])).1) with
   | some r=>rw[iQ hn hg]
   | none =>
    rw[lp hn hg]at h⊢;exact wo h
theorem Bb (hE:QE W G r n0 an ar cn cr t1 c1 t2 c2 t3 c3 j N ac Uk V)(hc:Chg (fun k=>k=r∨k=G) W U)(s:CSt)(n f:Nat)(hn:¬n<n0)(aQ:n<N.length)(hG:Blk U G 100 (gC r n0 an ar cn cr t1 c1 t2 c2 t3 c3 j (cU (cR j)) N.length ac.length s [] 0))(hM:RN K G U r s.es)(hs:StU Uk V s)(hg:aM s.es (cN j (N.getD n ([],[])).1)=none)(hK:∀ b,U.heap.size≤b→K b)(IH:∀ (k:Nat) (s':CSt) (U':Z) (K':Nat→Prop),k<n→Chg (fun k=>k=r∨k=G) W U'→Blk U' G 100 (gC r n0 an ar cn cr t1 c1 t2 c2 t3 c3 j (cU (cR j)) N.length ac.length s' [] 0)→RN K' G U' r s'.es→(∀ b,U'.heap.size≤b→K' b)→StU Uk V s'→C_ 46 #[p_ G,F k] U' fun e cw=>pf W U' G r n0 an ar cn cr t1 c1 t2 c2 t3 c3 j N.length ac.length K' (cC j N n0 ac f k s') e cw):C_ 46 #[p_ G,F n] U fun e U'=>pf W U G r n0 an ar cn cr t1 c1 t2 c2 t3 c3 j N.length ac.length K (cC j N n0 ac (f+1) n s) e U':=by
 rw[lp hn hg];rw[kV aQ]at hg⊢;have hid:N[n].1.length=32:=hE.tree.ids _ (Jz aQ);have bb:=(gW j N[n].1 Y).1;have Q:=O (show(texts [[110,111,100,101],cU (cR j),N[n].1]).length≤1000000000 by simp[texts,dw];omega);have a:=O (fun w' (hB:Bw_ U w')=>lk r s.es (cN j N[n].1) w' (hM.below hB) (by have:=hs.len;have:=hE.vl;omega));rw[hg]at a;simp only[Option.isSome_none]at a;obtain⟨b,aL,ak,ck,rfl,aT⟩:=hE.nd n aQ;have aC:=hE.tree.kids n Y aQ;rw[kV aQ]at aC;have bu:=hE.tree.few _ (Jz aQ);have bm:=O aT;obtain⟨bc,-,-⟩:=aT U hc;obtain⟨cp,aU,dx⟩:=zH3 (fun k s' (a8:StU Uk V s')=>mO hE.ul j N n0 ac hE.ru hE.vu f k s' a8) (fun k s'=>wd j N n0 ac f k s') (fun (ag:LQ_) (ho:∀ r∈ag,dC Uk r)=>tN hE.ul j ag ho)
 have bZ:=O (fun (u:V_) (ag:LQ_) w' (a5:Chg (fun k=>k=r∨k=G) W w') (hu:RR w' u ag) (ho:∀ r∈ag,dC Uk r) (hl:ag.length≤8)=>by
  have ap:=dC.flat ho;exact vG t1 c1 t2 c2 t3 c3 u j ag w' (hE.job w' a5) hu Y (by have:=ap.1;omega) (fun p hp=>by have:=(ho p hp).2;omega) (fun p hp=>Jc (ap.2 p hp) d_))
 have bE:=O (fun (I:LE_) (v:V_) (p:LP_) w' (cx:U.heap.size≤w'.heap.size) (hm:RN K G w' r I) (bC:iH I) (hv:Aw (fun b=>b≠r) w' v p) (hr:p.length≤2000) (hl:I.length≤10000)=>sf (K:=fun b=>K b∧b≠G) (cN j N[n].1) v p w' hm (fun b hb=>⟨hK b (Jc cx hb),by have:=hG.lt;omega⟩) bC hv Y Y);obtain⟨ae,cb,aX,bP⟩:=zH4 (fun s' (a8:StU Uk V s')=>Jc a8.len hE.vl) IH hK hE.job;have b8:=O (show cN j N[n].1∈V by have ap:=hE.vu n;rwa [kV aQ]at ap);obtain⟨ta,tc,rfl,-,-⟩:=au (hE.job U hc).a.t;obtain⟨ca,cc,rfl,-,-⟩:=aj (hE.job U hc).a.c;obtain⟨aV,bd,rfl,-,-⟩:=au (hE.job U hc).b.t;obtain⟨be,bf,rfl,-,-⟩:=aj (hE.job U hc).b.c;obtain⟨bg,bh,rfl,-,-⟩:=au (hE.job U hc).c.t;obtain⟨bi,bk,rfl,-,-⟩:=aj (hE.job U hc).c.c;unfold bM at bZ;unfold cN at a;have g8:=hG.c 8;have g9:=hG.c 9;have cE:=hG.c 10;have cl:=hG.c 11;have bq:=hG.lt;have bo:=aG bc;obtain⟨bQ,a1,HG,HM,HS,HC,b3⟩:=zH7 (show W.heap.size≤U.heap.size from hc.size) (show G<W.heap.size∧r<W.heap.size from⟨hE.gl,hE.rl⟩) hG hM hs hc hE.rg;have i0:¬(n:Int)<n0:=Y;have i1:=nn_ n;have i2:(n:Int)<N.length:=Y;obtain⟨bR,L⟩:∃ z,z=cN j N[n].1:=⟨_,rfl⟩
 rw[←L]at bE b8⊢;unfold cN at L;obtain⟨ID,x⟩:=H (cU (cR j));obtain⟨o,aB⟩:=H (N[n].2);simp only[←aB]at bm aC bu⊢;obtain⟨id,q⟩:=H (N[n].1);unfold pf at cb⊢;rw[←x]at Q a bb L HG g8 cb⊢;rw[←q]at Q a bb bc L;simp only[←q]at bm;have cy:=O aC;have cg:=O bu;have a6:=O (ky (.slice (some ⟨U.heap.size,0,none⟩) 3 3) [[110,111,100,101],ID,id] (U.drew.alloc (.cells #[.string ⟨#[110,111,100,101]⟩,s_ ID,s_ id] 9)) (aO.new U.drew [.string ⟨#[110,111,100,101]⟩,s_ ID,s_ id] 3 9 3) Q.o i_);obtain⟨S,hS⟩:=H (row [[110,111,100,101],ID,id]);rw[←hS]at a6 a bb L;obtain⟨z,Sz⟩:=S;unfold txV at a6;dsimp only at a6 a bb L;subst bb L;obtain⟨y,a0⟩:=H (cC j N n0 ac f);simp only[←a0]at cb cp aU⊢;clear hS q x aB a0 hid Q hG hM hs hg hc hn aQ hE aT aC bu IH hK;go_enter func46,ntmps46;go_upto_region 3 with fail;go_region_law (refine aN rfl 39 #[.slice (some ⟨U.heap.size,0,none⟩) 3 3] yzc a6.o ?_;rintro e w2⟨rfl,ax⟩;have a9:=O (bt (b_drew U) (bt (af _ _) ax));have g9:=(HG.o.below a9.o).c 9;clear ax)
 all_goals
  go_upto_region 9 with(go_at_call 24;refine(a.o _ a9.o).mono ?_;rintro e w3⟨⟨v,rfl,hv⟩,al⟩;obtain rfl:=(show v=e_ from hv);have aW:=O (bt a9.o al);have a2:=O (HG.o.below aW.o);have d:=O (HM.o.below aW.o);have av:=O (HC.o.trans (IG aW.o));have bS:=O (IG (X:=fun k=>k=r∨k=G) aW.o);have cE:=a2.o.c 10;have bL:=(bm.o _ av.o).2.1;clear al hv);go_wp2_with fail;have cH:=cg.o
  go_loopw [9,11] (fun u t wr=>∃ (i:Nat) (ag:LQ_) (s':CSt),i≤o.length∧t=F i∧Hid (ag.length=i)∧Hid (KG (fun b=>b≠r∧b≠G) wr U.heap.size u ag)∧Hid (eV y (o.drop i) ag s'=eV y o [] s)∧Hid (∀ r∈ag,dC Uk r)∧Hid (StU Uk V s')∧Hid (Blk wr G 100 (gC r n0 (some ⟨b,aL,none⟩) ar cn cr (.slice ta j.mt.length tc) (.slice ca j.mc.length cc) (.slice aV j.jt.length bd) (.slice be j.jc.length bf) (.slice bg j.tt.length bh) (.slice bi j.tc.length bk) j ID N.length ac.length s' [] 0))∧Hid (RN (fun b=>K b∧u.ownBlock≠some b) G wr r s'.es)∧Hid (Chg (fun k=>k=r∨k=G) U wr)) (fun _ t _=>o.length-(intOf t).toNat)
  case atStart=>exact⟨0,[],s,Jl _,rfl,rfl,KG.nil _ _ _,by unfold Hid;rw[JF],by unfold Hid;simp,HS.o,a2.o,d.o.mono (fun b _ _ hb=>⟨⟨hb.1,fun e=>by cases e⟩,hb.2⟩),bS.o⟩
  case round =>
   obtain⟨i,ag,s',hi,rfl,a3,bT,cq,bj,aY,bw,b2,bO⟩:=hrel;obtain⟨ao,co,cs⟩:=bT.o.slice;rw[a3.o]at cs;subst cs;have ba:=O (HC.o.trans bO.o)
   by_cases h0:i<o.length
   ·have cd:=cy.o o[i] (Jz h0)
    have aJ:=JP h0;obtain⟨-,-,m⟩:=bm.o _ ba.o;obtain⟨ra,rc,aS,-,aF⟩:=gX m;injection aS with e1 _ e3
    subst e1 e3;obtain⟨kb,ko,rfl,k1⟩:=aF i h0;obtain⟨kk,aq⟩:∃ kk:Nat,o[i]=(kk:Int):=⟨o[i].toNat,(Int.toNat_of_nonneg cd.1).symm⟩
    rw[aq]at cd k1 aJ;have D:=cq.o;rw[aJ]at D;have bF:=O (fun hz=>(qE (y:=y) (k:=(kk:Int)) (o:=o.drop (i+1)) (ag:=ag) (s:=s') hz).symm.trans D);have aA:=O (fun hz=>(nU (y:=y) (k:=(kk:Int)) (o:=o.drop (i+1)) (ag:=ag) (s:=s') hz).symm.trans D);simp only[Je]at bF aA;have bX:=O (cp.o kk s' aY.o);have bz:=O (aU.o kk s');have a4:=O (cb.o kk s' wr (fun b=>K b∧(Value.slice ao i co).ownBlock≠some b) Y ba.o bw.o b2.o (fun b hb=>⟨aX.o b (Jc bO.o.size hb),fun e=>by obtain⟨b_,w,-⟩:=bT.o;have:=(World.ownsRow.lt w b e).2;omega⟩) aY.o);obtain⟨X,hX⟩:=H (y kk s');rw[←hX]at bF aA bX a4 bz;obtain⟨⟨Xr,Xb,Xz⟩,Xs⟩:=X;dsimp only at bF aA bX a4 bz;have i3:=nn_ i;have i4:(i:Int)<o.length:=Y;have aw:=O h0;have aE:=O (show(i+1)*24≤140737488355328 by omega);have cJ:=bT.o;obtain⟨b_,w,-⟩:=cJ;have ct:=O w;clear hX D aJ aq cd m aF h0 w;go_upto_region 14 with(first|(at_builtin;(refine nA w7 [.slice a7 Xr.length c7] 29 rfl _ _ 32 rfl U.heap.size (e_) 1 24 underlying32 na rfl d_ _ i B bW.o rfl _ rfl rfl (by simp[Value.oneCell']) d_ aE.o bl.o ?_);intro g ah w9 a_ E bB az b4;obtain⟨cI,b7,cu,bG,cF⟩:=zH5 a_ E bB az b4;clear a_ E bB az b4)|(go_at_call 46;refine a4.o.mono ?_;rintro e w7⟨a7,c7,rfl,b5,bp,b6,ai⟩;obtain⟨b0,a',aZ,bA,bl⟩:=zH5 b5 bp b6 ai (Jc bO.o.size ai.size);obtain⟨B,aR,bx,aI⟩:=bT.o.chg ai (fun b hb hx=>by have h1:=a1.o;have h2:=bQ.o;rcases hx with hx|hx<;>omega) (fun b hb hx=>by rcases hx with hx|hx;exact absurd hx hb.1;exact absurd hx hb.2);rw[a3.o]at aR;obtain⟨bW,cG,bn⟩:=zH3 aR bx aI;clear b5 bp b6 ai aR bx aI));have hp:=GG (WS:=W.heap.size) (K:=K) a1.o.1 a1.o.2 bQ.o bA.o.size ct.o cG.o bn.o b0.o (by rw[a3.o];exact cI.o) b7.o cu.o bG.o a'.o aZ.o;rw[a3.o]at hp;obtain⟨p1,p2,p3⟩:=hp;obtain⟨P1,P2,P3,b1⟩:=zH4 p1 p2 p3 (sX (bO.o.trans bA.o) bG.o);have bV:=p2.c 17;clear p1 p2 p3
    by_cases hz:Xz=0
    ·have z1:((Xz:Int) != 0)=false:=by rw[hz];rfl
     have HQ:=O (bF.o hz);have bv:=bz.o hz;subst hz bv;clear bF aA bz;go_wp2_with fail;go_roundw
     case rel =>
      exact⟨i+1,ag++[Xr],Xs,aw.o,by go_num,by unfold Hid;rw[Jh,a3.o];rfl,P1.o,HQ.o,by
       intro ap hq;rcases Jt.1 hq with hq|hq
       ·exact bj.o ap hq
       ·rw[Jp.1 hq];exact bX.o.1,bX.o.2,P2.o,P3.o,b1.o⟩
     case measure=>have:=aw.o;simp[intOf];omega
    ·have z1:((Xz:Int) != 0)=true:=by rw[bne_iff_ne];omega
     have HQ:=O (aA.o hz);have cz:=O hz;clear hz bF;go_wp2_with fail;go_ret;have hQ:=HQ.o;have cf:=lr (j:=j) (z:=bR) (K:=eV y o [] s) (by rw[←hQ];exact cz.o);rw[cf,←hQ];exact⟨none,0,rfl,Aw.nil _ _,P2.o,P3.o.mono (fun b _ _ hb=>⟨hb.1.1,hb.2⟩),b1.o⟩
   ·obtain rfl:i=o.length:=Y
    have i4:¬(o.length:Int)<o.length:=Y;have D:=cq.o;rw[List.drop_length,sB]at D;have ab:=mS (j:=j) (z:=bR) (K:=eV y o [] s);have bY:=jR (j:=j) (z:=bR) (K:=eV y o [] s);rw[←D]at ab bY;have cj:=O D;dsimp only at ab bY;have bH:=O (ab rfl);have bK:=O (bY rfl);have aD:=O (bZ.o _ ag wr ba.o bT.o.rr bj.o (by rw[a3.o];exact cg.o));have bD:=O (dx.o ag bj.o);have bJ:=bw.o;obtain⟨x0,x1,x2,x3,x4,x5,x6,x7⟩:=cl8 bJ;obtain⟨am,hF⟩:=H (dg j ag);rw[←hF]at bH bK aD bD;obtain⟨Fr,Fb,Fz⟩:=am;dsimp only at bH bK aD bD;clear D ab bY hF bJ h0
    by_cases hz:Fz=0
    ·have z1:((Fz:Int) != 0)=false:=by rw[hz];rfl
     have HQ:=O (bH.o hz);clear hz bH bK;go_upto_region 21 with(go_at_call 76;refine aD.o.mono ?_;rintro e w7⟨⟨pv,rfl,ad⟩,aH⟩;obtain⟨P,pc,rfl⟩:=ay ad;have bI:=O (r9 ad);have aK:=O aH;clear ad aH x0 x1 x2 x3 x4 x5 x6 x7);have aa:=bw.o.below aK.o;have A1:=aa.c 14;have A2:=aa.c 15;have f1:=aa.free (k:=14) i_;have f2:=aa.free (k:=15) i_;have bN:=O aa;have aZ:=O ((b2.o.mono (K':=fun b=>K b∧b≠G) (fun b _ _ hb=>⟨hb.1.1,hb.2⟩)).below aK.o);have cA:=O (show Fr.length≤2000 from bD.o.2);clear aa;go_upto_region 23 with fail;obtain⟨W8,br⟩:=H (((w7.setCell ⟨G,14,none⟩ (F (wrap64 (s'.made+1)))).setCell ⟨G,15,none⟩ (F (wrap64 (s'.pairs+(Fr.length:Int))))));rw[←br];have l:Chg (fun k=>k=G) w7 W8:=by rw[br];exact Chg.trans (Chg.setCell w7 ⟨G,14,none⟩ _ rfl) (Chg.setCell _ ⟨G,15,none⟩ _ rfl)
     have ch:Blk W8 G 100 (gC r n0 (some ⟨b,aL,none⟩) ar cn cr (.slice ta j.mt.length tc) (.slice ca j.mc.length cc) (.slice aV j.jt.length bd) (.slice be j.jc.length bf) (.slice bg j.tt.length bh) (.slice bi j.tc.length bk) j ID N.length ac.length ⟨s'.es,s'.found,wrap64 (s'.made+1),wrap64 (s'.pairs+(Fr.length:Int))⟩ [] 0):=by rw[br];exact(bN.o.set 14 _).set 15 _
     have aP:=aZ.o.chg l (fun e=>b3.o e) (fun b _ hk e=>absurd e hk.2);have a5:Chg (fun k=>k=r∨k=G) U W8:=(bO.o.trans (IG aK.o)).trans (l.mono fun k hk=>.inr hk);have g9:=ch.c 9
     have ce:Aw (fun b=>b≠r∧b≠G∧(b<W.heap.size∨K b)) W8 (.slice P Fr.length pc) Fr:=(Aw.own bI.o (fun b hb=>by
      have h1:=bO.o.size;have h2:=bQ.o;have h3:=a1.o;exact⟨by omega,by omega,.inr (aX.o b Y)⟩)).chg l (fun b hb hx=>absurd hx hb.2.1)
     have cm:=O (bE.o s'.es _ Fr W8 a5.size aP aY.o.rise (ce.mono fun b _ hb=>hb.1) cA.o (ae.o s' aY.o));obtain⟨cB,b9,b'⟩:=zH3 ce ch a5;clear br l ch aP a5 ce A1 A2 f1 f2;go_wp2_with (go_at_call 23;refine cm.o.mono ?_;rintro e w9⟨rfl,cv,ci⟩;have cD:=O cv;have b1:=O ci;clear cv ci);go_ret;have bU:=cj.o;rw[←bU,HQ.o];exact⟨P,pc,rfl,cB.o.chg b1.o (fun b hb hx=>absurd hx hb.1),b9.o.chg b1.o (fun e=>b3.o (show G=r from e).symm),cD.o,b'.o.trans (b1.o.mono fun k hk=>.inl hk)⟩
    ·have z1:((Fz:Int) != 0)=true:=by rw[bne_iff_ne];omega
     have HQ:=O (bK.o hz);clear hz bH bK;go_wp2_with (go_at_call 76;refine aD.o.mono ?_;rintro e w7⟨⟨pv,rfl,ad⟩,aH⟩;obtain⟨P,pc,rfl⟩:=ay ad;have aa:=bw.o.below aH;have cK:=aa.c 16;have cL:=aa.c 17;have f16:=aa.free (k:=16) i_;have f17:=aa.free (k:=17) i_;have bN:=O aa;have aK:=O aH;clear ad aH aa x0 x1 x2 x3 x4 x5 x6 x7);go_ret;have bU:=cj.o;rw[←bU,HQ.o];have aR:Chg (fun k=>k=G) w7 ((w7.setCell ⟨G,16,none⟩ (s_ Fb)).setCell ⟨G,17,none⟩ (F Fz)):=Chg.trans (Chg.setCell w7 ⟨G,16,none⟩ _ rfl) (Chg.setCell _ ⟨G,17,none⟩ _ rfl);exact⟨none,0,rfl,Aw.nil _ _,(bN.o.set 16 _).set 17 _,(((b2.o.mono (fun b _ _ hb=>⟨hb.1.1,hb.2⟩)).below aK.o).chg aR (fun e=>b3.o e) (fun b _ hk e=>absurd e hk.2)),(bO.o.trans (IG aK.o)).trans (aR.mono fun k hk=>.inr hk)⟩
theorem r8 (hE:QE W G r n0 an ar cn cr t1 c1 t2 c2 t3 c3 j N ac Uk V):∀ (f n:Nat) (s:CSt) (U:Z) (K:Nat→Prop),n<f→n<N.length→Chg (fun k=>k=r∨k=G) W U→Blk U G 100 (gC r n0 an ar cn cr t1 c1 t2 c2 t3 c3 j (cU (cR j)) N.length ac.length s [] 0)→RN K G U r s.es→(∀ b,U.heap.size≤b→K b)→StU Uk V s → C_ 46 #[p_ G,F n] U fun e U'=>pf W U G r n0 an ar cn cr t1 c1 t2 c2 t3 c3 j N.length ac.length K (cC j N n0 ac f n s) e U'
 | 0,_,_,_,_,h,_,_,_,_,_,_=>absurd h (Nat.not_lt_zero _)
 | f+1,n,s,U,K,h,hl,hc,hG,hM,hK,hs=>by
  by_cases hn:n<n0
  ·exact ya hE hc s n f hn hG hM
  ·cases hg:aM s.es (cN j (N.getD n ([],[])).1) with
   | some ap=>exact vj hE hc s n f hn hl hG hM hs hg
   | none=>exact Bb hE hc s n f hn hl hG hM hs hg hK (fun k s' U' K' hk m a O l a8=>r8 hE f k s' U' K' Y Y m a O l a8)
end
section
open Go.RowKit Oct Go.WideMaps Go.Maps
theorem ni {X aa:Nat→Prop}{w W U:Z}(hB:Bw_ w W)(hc:Chg X W U)(hX:∀ k,k<w.heap.size→X k→aa k):Chg aa w U :=
 ⟨hc.os.trans hB.os,hc.tape.trans hB.tape,hc.output.trans hB.output,Jc hB.size hc.size,fun k hk hn=>(hc.block k (Jr hk hB.size) (fun hx=>hn (hX k hk hx))).trans (hB.block k hk)⟩
theorem dx {P:Program}{fn:Func}{a p c d:Tmp}{ty:T_}{aE:AV_}{w:Z}{v:V_}{b:Nat}(hr:fn.results=#[.tmp a,.cell p ty,.tmp c,.tmp d])(hp:aE.getD p undef=p_ b)(hl:(loadVar ty ⟨b,0,none⟩).run P w=.ok v w):(results fn aE).run P w=.ok (.tuple #[aE.getD a undef,v,aE.getD c undef,aE.getD d undef]) w:=by
 simp only[Array.getD_eq_getD_getElem?]at hp⊢;simp[results,hr,Sem.run_bind,Result.andThen,hp,asAddr,hl]
theorem mf {w:Z}{b:Nat}{x y z:V_}(h:w.heap[b]?=some (.cells #[x,y,z] 55 (0,0))):(loadVar 55 ⟨b,0,none⟩).run prog w=.ok (.agg #[x,y,z]) w :=
 run_loadVar_row (P:=prog) w b 55 55 #[x,y,z] (0,0) _ h underlying55 rfl q_
theorem iW {w:Z}{A:Nat}{x y z a b c:V_}(h:Blk w A 55 [x,y,z]):(loadVar 55 ⟨A,0,none⟩).run prog (((w.setCell ⟨A,0,none⟩ a).setCell ⟨A,1,none⟩ b).setCell ⟨A,2,none⟩ c)=.ok (.agg #[a,b,c]) (((w.setCell ⟨A,0,none⟩ a).setCell ⟨A,1,none⟩ b).setCell ⟨A,2,none⟩ c)∧Chg (fun k=>k=A) w (((w.setCell ⟨A,0,none⟩ a).setCell ⟨A,1,none⟩ b).setCell ⟨A,2,none⟩ c):=by
 have h2:=((h.set 0 a).set 1 b).set 2 c;exact⟨mf h2,(Chg.setCell (X:=fun k=>k=A) w ⟨A,0,none⟩ a rfl).trans ((Chg.setCell (X:=fun k=>k=A) _ ⟨A,1,none⟩ b rfl).trans (Chg.setCell (X:=fun k=>k=A) _ ⟨A,2,none⟩ c rfl))⟩
def Iu (w w':Z)(M:Nat)(K:Nat→Prop)(X:(LP_×(Int×Int×Int)×q×Int)×LE_)(e:Ending):Prop :=
 (∃ a cp,e=.returned (.tuple #[.slice a X.1.1.length cp,.agg #[.int .i64 X.1.2.1.1,.int .i64 X.1.2.1.2.1,.int .i64 X.1.2.1.2.2],.string (bs X.1.2.2.1),.int .i64 X.1.2.2.2])∧RP w' (.slice a X.1.1.length cp) X.1.1)∧CM K w' M X.2.length X.2∧Chg (fun k=>k=M) w w'
theorem r7 {w W3:Z}{M A:Nat}{K:Nat→Prop}{I:LE_}{x y z a b c:V_}(hm:CM K w M I.length I)(hB:Bw_ w W3)(hA:Blk W3 A 55 [x,y,z])(aq:w.heap.size≤A):(loadVar 55 ⟨A,0,none⟩).run prog (((W3.setCell ⟨A,0,none⟩ a).setCell ⟨A,1,none⟩ b).setCell ⟨A,2,none⟩ c)=.ok (.agg #[a,b,c]) (((W3.setCell ⟨A,0,none⟩ a).setCell ⟨A,1,none⟩ b).setCell ⟨A,2,none⟩ c) ∧CM K (((W3.setCell ⟨A,0,none⟩ a).setCell ⟨A,1,none⟩ b).setCell ⟨A,2,none⟩ c) M I.length I∧Chg (fun k=>k=M) w (((W3.setCell ⟨A,0,none⟩ a).setCell ⟨A,1,none⟩ b).setCell ⟨A,2,none⟩ c):=by
 obtain⟨h1,h2⟩:=iW (a:=a) (b:=b) (c:=c) hA;have h3:Bw_ w (((W3.setCell ⟨A,0,none⟩ a).setCell ⟨A,1,none⟩ b).setCell ⟨A,2,none⟩ c):=hB.trans (h2.below (fun k hk=>by rw[show k=A from hk];exact aq) hB.size);exact⟨h1,hm.below h3,IG h3⟩
theorem rb:aJ []=[]:=q_
theorem MX {T:Prop} (h:T:=by
 refine bodyPost_ret (dx rfl rfl q1) rfl ?_;rw[HX.o];exact⟨⟨none,0,rfl,RP.nil _⟩,q2,q3⟩
):T:=h
theorem LW {T:Prop} (h:T:=by
 rw[←aB];have b3:=ba_ aB;replace A0:=IF b3 A0;replace A1:=IF b3 A1;replace A2:=IF b3 A2;have D:=bZ.o.below b3;replace f0:=D.free (k:=0) (by simp);replace f1:=D.free (k:=1) (by simp);replace f2:=D.free (k:=2) (by simp);have bb:=D.lt;have aW:=O (bt a9.o b3);have b7:=O D;clear aB b3 D;go_region_law (fail)
 all_goals
  go_wp2_with fail;obtain⟨q1,q2,q3⟩:=r7 (a:=.int .i64 0) (b:=.int .i64 0) (c:=.int .i64 0) t.o (bt aW.o (b_drew W3)) (b7.o.below (b_drew W3)) (by have:=c6.o;have:=a1.o;omega);exact MX
):T:=h
theorem nj {Uk V:LL_}{K:Nat→Prop}(c M:Nat)(t1 c1 t2 c2 t3 c3 v:V_)(j:Jb)(ac:LQ_)(I:LE_)(w0 w:Z)(h:dD w0 t1 c1 t2 c2 t3 c3 j)(aT:dp w0)(hB:Bw_ w0 w)(hr:RR w v ac)(bX:w0.heap.size≤M)(bm:CC w c M)(hm:CM K w M I.length I)(hK:∀ b,w.heap.size≤b→K b)(hl:ac.length≤60)(ht:∀ r∈ac,(texts (tx r)).length≤500000000∧r.length≤1000000)(B:∀ r∈ac,dC Uk r)(hs:StU Uk V ⟨I,0,0,0⟩)(hV:∀ n,cN j ((aJ (aC j [] ac).1).getD n ([],[])).1∈V)(bQ:Uk.length≤2000)(ab:V.length≤10000):C_ 18 #[bM t1 c1 t2 c2 t3 c3 j,cP c,v] w fun e w'=>Iu w w' M K (ez j ac I) e:=by
 have bL:=O (fun w' (ax:Bw_ w w')=>sY t1 c1 t2 c2 t3 c3 v j ac w' (h.below (bt hB ax)) (hr.below ax) Y ht);have HJ:=O (fun w' (hB:Bw_ w0 w')=>(show dD w' t1 c1 t2 c2 t3 c3 j∧dp w' from⟨h.below hB,aT.below hB⟩));have HB:=O hB;have bz:=O bm;obtain⟨t,aX,bD,aY,ao,aj,ak,aw,aE⟩:=zH9 hm hK B hs hV (eS j ac []) (fun h=>mE (j:=j) (ac:=ac) (I:=I) h) (fun h h2 N R=>nJ (j:=j) (ac:=ac) (I:=I) (N:=N) (R:=R) h h2) (fun h h2 N R=>tK (j:=j) (ac:=ac) (I:=I) (N:=N) (R:=R) h h2);have aP:=O (fun h:ac=[]=>(by rw[h];exact nI:ez j ac I=(([],(0,0,0),[],0),I)));have aa:=hr;obtain⟨ar,cr,rfl,_,_,aF⟩:=hr;have bR:=O aF;obtain⟨ta,tc,ca,cc,aV,bd,be,bf,bg,bh,bi,bk,rfl,rfl,rfl,rfl,rfl,rfl⟩:=jo_ h.a.t h.a.c h.b.t h.b.c h.c.t h.c.c;unfold bM at bL⊢;obtain⟨J,hJ⟩:=H w.heap.size;obtain⟨WA,aO⟩:∃ W,W=w.alloc (.cells #[.slice ta j.mt.length tc,.slice ca j.mc.length cc,.slice aV j.jt.length bd,.slice be j.jc.length bf,.slice bg j.tt.length bh,.slice bi j.tc.length bk,F j.parts,F j.fuel] 27):=⟨_,rfl⟩
 obtain⟨WB,S⟩:∃ W,W=WA.alloc (.cells #[cP c] 34):=⟨_,rfl⟩
 obtain⟨WC,X⟩:∃ W,W=WB.alloc (.cells #[.slice ar ac.length cr] 32):=⟨_,rfl⟩
 obtain⟨W1,aA⟩:∃ W,W=WC.alloc (.cells #[F 0,F 0,F 0] 55):=⟨_,rfl⟩
 have bG:WA.heap.size=J+1:=by rw[aO,hJ];simp
 have aq:WB.heap.size=J+2:=by rw[S];simp[bG]
 have az:WC.heap.size=J+3:=by rw[X];simp[aq]
 have bp:W1.heap.size=J+4:=by rw[aA];simp[az]
 have bA:=ba_ aO;have bB:=ba_ S;have bC:=ba_ X;have b1:=ba_ aA;have kJ:Blk W1 J 27 [.slice ta j.mt.length tc,.slice ca j.mc.length cc,.slice aV j.jt.length bd,.slice be j.jc.length bf,.slice bg j.tt.length bh,.slice bi j.tc.length bk,F j.parts,F j.fuel]:=(((show Blk WA J _ _ by rw[hJ,aO];exact Blk.new w _ _).below bB).below bC).below b1;have kC:Blk W1 (J+1) 34 [cP c]:=((show Blk WB (J+1) _ _ by rw[←bG,S];exact Blk.new WA _ _).below bC).below b1;have kR:Blk W1 (J+2) 32 [.slice ar ac.length cr]:=(show Blk WC (J+2) _ _ by rw[←aq,X];exact Blk.new WB _ _).below b1;have kA:Blk W1 (J+3) 55 [F 0,F 0,F 0]:=by rw[←az,aA];exact Blk.new WC _ _
 have aZ:Bw_ w W1:=bt bA (bt bB (bt bC b1));obtain⟨x0,x1,x2,x3,x4,x5,x6,x7⟩:=cl8 kJ;have Q:=kR.c 0;obtain⟨Cb,aD⟩:=H (J+1);obtain⟨Rb,m⟩:=H (J+1+1);obtain⟨f,bT⟩:=H (J+1+1+1);rw[←aD]at kC;rw[show J+2=Rb by omega]at kR Q;rw[show J+3=f by omega]at kA;obtain⟨a1,KJ,KC,KR,KA,a7,b0,c6⟩:=zH8 (show J<Cb∧Cb<Rb∧Rb<f∧f+1=W1.heap.size by omega) kJ kC kR kA aZ bp hJ;go_enter func18,ntmps18;go_upto_region 1 with fail;rw[←aO,←S,←X,←aA,←hJ,←bT,←m,←aD];obtain⟨HL,HT,aS,ae,a4,bO⟩:=zH6 hl ht bQ ab bX aa;clear aO S X aA hJ bT m aD bG aq az bp bA bB bC b1 kJ kC kR kA aZ h aT aa hB bm hm hK B hs hV aF hl ht bQ ab bX;have i:=bL.o W1 a7.o;obtain⟨L,hL⟩:=H (aC j [] ac);unfold s8 at i;rw[←hL]at i ak aw aE aj ao;have bl:=O hL;clear hL bL
 by_cases hz:L.2=0
 ·have d:=O i
  by_cases hn:ac=[]
  ·have cs:(aJ L.1).length=0:=by rw[bl.o,hn];rfl
   have HX:=O (aP.o hn);have HZ:=O hz;rw[cs,hn]at d;clear i ak aw aE aP aj hz cs;go_upto_region 3 with(go_at_call 29;refine d.o.mono ?_;rintro e w2⟨hq,ax⟩;obtain⟨h0,-⟩|⟨-,a2,c2,rfl,-⟩:=hq;exact absurd HZ.o h0;have x:=KA.o.below ax;obtain⟨A0,A1,A2⟩:=cl3 x;obtain⟨f0,f1,f2⟩:=fr3 x;have bZ:=O x;have a9:=O (bt a7.o ax);clear ax x x0 x1 x2 x3 x4 x5 x6 x7 Q);obtain⟨W3,aB⟩:=H (w2.alloc (.cells #[.slice a2 0 c2,F 0] 68));exact LW
  ·have HN:=O hn
   have HZ:=O hz;have E:=aj.o hz i_;have bN:=O (E.2.2 hn);have aR:=O (show rp (aJ L.1) ac.length by have ap:=jF E.2.1;rw[E.1]at ap;simpa using ap);obtain⟨N,hN⟩:=H (aJ L.1);have a8:=O (fun R=>aw.o hz hn N R hN);have a':=O (fun R=>aE.o hz hn N R hN);rw[←hN]at d aR ao
   have ai:1≤N.length:=by
    have h1:=aR.o.le;have h2:ac.length≠0:=fun e=>hn (I7 e);omega
   have z:N.length≤1000:=by have h1:=aR.o.two;have h2:=HL.o;omega
   have nz:((N.length:Int)==0)=false:=by rw[beq_eq_false_iff_ne];omega
   have b8:¬(N.length:Int)=0:=Y;have aQ:=O ai;clear i ak aw aE aP aj hz hn E hN;go_upto_region 6 with(go_at_call 29;refine d.o.mono ?_;rintro e w2⟨hq,ax⟩;obtain⟨h0,-⟩|⟨-,a2,c2,rfl,af⟩:=hq;exact absurd HZ.o h0;have bS:=O af;have a9:=O ax;clear ax af x0 x1 x2 x3 x4 x5 x6 x7 Q);obtain⟨T,hT⟩:=H w2.heap.size;rw[←hT];obtain⟨W3,aB⟩:=H (w2.alloc (.cells #[.slice a2 N.length c2,F ac.length] 68));obtain⟨W4,bw⟩:=H (W3.alloc (.cells #[.func (.func 43) #[] #[p_ T,p_ Rb,p_ J,p_ Cb,p_ f,.pointer (some ⟨T+1,0,none⟩)]] 91));rw[←aB,←bw];have b3:=ba_ aB;have b4:=ba_ bw;have bJ:W3.heap.size=T+1:=by rw[aB,hT];simp
   have g:W4.heap.size=T+2:=by rw[bw];simp[bJ]
   have kT:Blk W4 T 68 [.slice a2 N.length c2,F ac.length]:=(show Blk W3 T _ _ by rw[hT,aB];exact Blk.new w2 _ _).below b4;have kN:Blk W4 (T+1) 91 [zS T Rb J Cb f (T+1)]:=by have ap:=Blk.new W3 [zS T Rb J Cb f (T+1)] 91;rw[bJ]at ap;rw[bw];exact ap
   have bY:Bw_ W1 W4:=bt a9.o (bt b3 b4);have l:Bw_ w W4:=bt a7.o bY;have a3:W1.heap.size≤T:=by rw[hT];exact a9.o.size
   obtain⟨e1,e2,e3,e4⟩:=a1.o;have bU:=c6.o;have bx:=bz.o.lt;have aM:=t.o.lt;have a_:w0.heap.size≤w.heap.size:=HB.o.size;have bo:∀ U,Chg (fun k=>k=M∨k=f) W4 U→Bw_ w0 U:=fun U hU=>(bt HB.o l).trans (hU.below (fun k hk=>by have:=a4.o;rcases hk with hk|hk<;>omega) (Jc a_ l.size))
   have hE:NE W4 T Rb J Cb f (T+1) c M ac.length a2 ar c2 cr (.slice ta j.mt.length tc) (.slice ca j.mc.length cc) (.slice aV j.jt.length bd) (.slice be j.jc.length bf) (.slice bg j.tt.length bh) (.slice bi j.tc.length bk) j N ac Uk V:={
    bt:=kT
    br:=KR.o.below bY
    bj:=KJ.o.below bY
    bc:=KC.o.below bY
    bn:=kN
    cc:=bz.o.below l
    ne:=⟨by omega,by omega,by omega,by omega,by omega,by omega⟩
    al:=by omega
    map:=by
     obtain⟨xs,cl,hx⟩:=t.o.map;exact⟨xs,cl,(l.block M aM).trans hx⟩
    nr:=⟨W1.heap.size,by omega,(bS.o.below (bt b3 b4))⟩
    rr:=fun k hk=>by
     obtain⟨b,aL,u,ha,hu,hp⟩:=bR.o k hk;have hb:=aG hu;exact⟨b,aL,u,ha,by simp only at hb;omega,IF l hu,(Aw.of (K:=fun b=>b≠f) hp (fun b hb=>by omega)).below l⟩
    job:=fun U hU=>HJ.o U (bo U hU)
    may:=bN.o
    tree:=aR.o
    rown:=rfl
    small:=z
    ru:=bD.o
    vu:=ao.o
    ul:=aS.o
    vl:=ae.o }
   have bq:CN K f W4 M I:=(t.o.mono (K':=fun b=>K b∧b≠f) (fun b hb hk=>⟨hk,by omega⟩)).below l;have a0:=vZ hE N.length (N.length-1) ⟨I,0,0,0⟩ W4 K Y Y (Chg.refl _ _) (KA.o.below bY) bq (fun b hb=>aX.o b (Jc l.size hb)) aY.o;rw[show((N.length-1:Nat):Int)=(N.length:Int)-1 by omega]at a0;have ah:=O a0;have a6:=O (mO aS.o j N ac.length ac bD.o ao.o N.length (N.length-1) ⟨I,0,0,0⟩ aY.o);obtain⟨R,hR⟩:=H (cC j N ac.length ac N.length (N.length-1) ⟨I,0,0,0⟩);rw[←hR]at ah a6;have HF:=O (a8.o R hR);have HO:=O (a'.o R hR);have T0:=kT.c 0;have N0:=kN.c 0;have am:=O l;have s:=O (show f≠M∧w.heap.size≤f from⟨by omega,by omega⟩);clear aB bw hT b3 b4 bJ g kT kN bY l a3 e1 e2 e3 e4 bU bx aM a_ bo hE bq a0 hR a8 a';obtain⟨⟨Rr,b9,Rz⟩,Rs⟩:=R;unfold rq at ah;dsimp only at ah HF HO a6;unfold pt at ah
   by_cases hz:Rz=0
   ·have z1:((Rz:Int) != 0)=false:=by rw[hz];rfl
    have HQ:=O (HO.o hz);have ag:=O a6.o.1.2;clear hz HF HO a6;go_upto_region 9 with(go_at_call 43;refine ah.o.mono ?_;rintro e w5⟨a5,c5,rfl,bF,y,av,bE⟩;obtain⟨au,o,q,bP⟩:=zH4 bF y av bE;clear bF y av bE);obtain⟨A0,A1,A2⟩:=cl3 o.o;have bb:=o.o.lt;have aU:=O (fB _ Rr w5.drew (au.o.1.below (b_drew w5)) (by have:=ag.o;omega));go_region_law (refine aN rfl 30 #[.slice a5 Rr.length c5] yzc aU.o ?_;rintro e w7⟨v',rfl,ho,aH⟩;obtain⟨P,pc,rfl⟩:=ay ho;have ad:=o.o.below (bt (b_drew w5) aH);obtain⟨A0,A1,A2⟩:=cl3 ad;obtain⟨f0,f1,f2⟩:=fr3 ad;obtain⟨bI,ba,aK⟩:=zH3 ho ad (bt (b_drew w5) aH);clear ho aH ad)
    all_goals
     go_wp2_with fail;obtain⟨q1,q2⟩:=iW (a:=F Rs.found) (b:=F Rs.made) (c:=F Rs.pairs) ba.o;refine bodyPost_ret (dx rfl rfl q1) rfl ?_;rw[HQ.o];refine⟨⟨P,pc,rfl,(OP.reads bI.o).chg q2 (fun aI b hb e=>?_)⟩,((q.o.below aK.o).chg q2 (fun e=>s.o.1 (show M=f from e).symm) (fun b hk e=>hk.2 e)).mono (fun b _ hk=>hk.1),ni am.o ((bP.o.trans (IG aK.o)).trans (q2.mono fun k hk=>.inr hk)) (fun k hk hx=>?_)⟩
     ·have h1:=(World.ownsRow.lt bI.o b hb).1
      have h2:f<w5.heap.size:=o.o.lt;rw[show b=f from e]at h1;exact absurd h1 (Nat.not_le.2 h2)
     ·rcases hx with hx|hx
      ·exact hx
      ·have:=s.o.2;omega
   ·have z1:((Rz:Int) != 0)=true:=by rw[bne_iff_ne];omega
    have HQ:=O (HF.o hz);clear hz HF HO a6;go_wp2_with (go_at_call 43;refine ah.o.mono ?_;rintro e w5⟨a5,c5,rfl,bF,y,av,bE⟩;obtain⟨A0,A1,A2⟩:=cl3 y;obtain⟨f0,f1,f2⟩:=fr3 y;obtain⟨o,q,bP⟩:=zH3 y av bE;clear bF y av bE);obtain⟨q1,q2⟩:=iW (a:=F 0) (b:=F 0) (c:=F 0) o.o;refine bodyPost_ret (dx rfl rfl q1) rfl ?_;rw[HQ.o];refine⟨⟨none,0,rfl,RP.nil _⟩,(q.o.chg q2 (fun e=>s.o.1 (show M=f from e).symm) (fun b hk e=>hk.2 e)).mono (fun b _ hk=>hk.1),ni am.o (bP.o.trans (q2.mono fun k hk=>.inr hk)) (fun k hk hx=>?_)⟩;rcases hx with hx|hx
    ·exact hx
    ·have:=s.o.2;omega
 ·have d:=O i
  have HX:=O (ak.o hz);have HZ:=O hz;have z1:(L.2 != 0)=true:=by rw[bne_iff_ne];exact hz
  clear i ak aw aE aP aj hz;go_upto_region 3 with(go_at_call 29;refine d.o.mono ?_;rintro e w2⟨hq,ax⟩;obtain⟨-,rfl⟩|⟨h0,-⟩:=hq;rotate_left;exact absurd h0 HZ.o;have x:=KA.o.below ax;obtain⟨A0,A1,A2⟩:=cl3 x;obtain⟨f0,f1,f2⟩:=fr3 x;have bZ:=O x;have a9:=O (bt a7.o ax);clear ax x x0 x1 x2 x3 x4 x5 x6 x7 Q);obtain⟨W3,aB⟩:=H (w2.alloc (.cells #[e_,F 0] 68));exact LW
theorem Hy {w2 W6:Z}{B r G:Nat}{an:OA_}{cn:Nat}{N:LD_}(hN:NRf w2 B (.slice an N.length cn) N)(hB:Bw_ w2 W6)(hr:r<B)(hG:w2.heap.size≤G):∀ n (hn:n<N.length),∃ b aL ak ck,an=some ⟨b,aL,none⟩∧∀ U,Chg (fun k=>k=r∨k=G) W6 U→U.cell? ⟨b,aL+n*2,none⟩=some (s_ N[n].1)∧U.cell? ⟨b,aL+n*2+1,none⟩=some (.slice ak N[n].2.length ck)∧eY.Row U (.slice ak N[n].2.length ck) N[n].2:=by
 intro n hn;obtain⟨aF,h1,h2,h4,h3⟩:=hN;obtain⟨a,cp,hv,_,bx⟩:=h1.open;injection hv with e1 _ _
 subst e1;obtain⟨b,aL,ha,hu⟩:=bx n Y;obtain⟨k1,k2,k3⟩:=h3 n Y hn;have u0:=hu 0 _ rfl;have u1:=hu 1 _ rfl;rw[k1]at u0;have d:B≤b:=h4 b (by rw[ha];rfl);obtain⟨a5,c5,g,o⟩:=k2.2;injection g with e5 e6 e7
 rw[e6]at u1;refine⟨b,aL,(aF[n]' Y).2.1,(aF[n]' Y).2.2.2,ha,fun U hc=>?_⟩
 have t:∀ {b aL:Nat} {u:V_},B≤b→w2.cell? ⟨b,aL,none⟩=some u→U.cell? ⟨b,aL,none⟩=some u:=by
  intro b aL u hb hu;have hl:b<w2.heap.size:=aG hu;exact hc.cell (IF hB hu) (fun hx=>by rcases hx with hx|hx<;>simp only at hx<;>omega)
 have m:eY.Row U (.slice aF[n].2.1 aF[n].2.2.1 aF[n].2.2.2) N[n].2:=by
  exact Mt
 rw[e6]at m;exact⟨t d u0,t d u1,m⟩
theorem RP.notInts {w:Z}{v:V_}{p:LP_}(h:RP w v p)(aI:p≠[]){b:Nat}(hb:v.ownBlock=some b){T:T_}{x y z:Int}:¬Blk w b T [F x,F y,F z]:=by
 obtain⟨⟨a,ah,rfl,hn,hc⟩,_⟩:=h
 cases p with
 | nil=>exact absurd rfl aI
 | cons ap d =>
  obtain⟨b',aL,ha,hu⟩:=hc 0 (s_ ap.1) rfl;subst ha
  cases (show some b'=some b from hb)
  intro hB;unfold Blk at hB;rw[World.cell?,hB]at hu;simp at hu;rcases Nat.lt_or_ge aL 3 with h3|h3
  ·have:aL=0∨aL=1∨aL=2:=Y
   rcases this with e|e|e<;>subst e<;>simp at hu
  ·rw[List.getElem?_eq_none (by simpa using h3)]at hu
   cases hu
def Iv (w w':Z)(r:Nat)(K:Nat→Prop)(X:(LP_×(Int×Int×Int)×q×Int)×LE_)(e:Ending):Prop :=
 (∃ a cp,e=.returned (.tuple #[.slice a X.1.1.length cp,.agg #[.int .i64 X.1.2.1.1,.int .i64 X.1.2.1.2.1,.int .i64 X.1.2.1.2.2],.string (bs X.1.2.2.1),.int .i64 X.1.2.2.2])∧RP w' (.slice a X.1.1.length cp) X.1.1)∧RC K w' r X.2∧Chg (fun k=>k=r) w w'
theorem pU {w W3:Z}{r A:Nat}{K:Nat→Prop}{I:LE_}{x y z a b c:V_}(hm:RC K w r I)(hB:Bw_ w W3)(hA:Blk W3 A 55 [x,y,z])(aq:w.heap.size≤A):(loadVar 55 ⟨A,0,none⟩).run prog (((W3.setCell ⟨A,0,none⟩ a).setCell ⟨A,1,none⟩ b).setCell ⟨A,2,none⟩ c)=.ok (.agg #[a,b,c]) (((W3.setCell ⟨A,0,none⟩ a).setCell ⟨A,1,none⟩ b).setCell ⟨A,2,none⟩ c) ∧RC K (((W3.setCell ⟨A,0,none⟩ a).setCell ⟨A,1,none⟩ b).setCell ⟨A,2,none⟩ c) r I∧Chg (fun k=>k=r) w (((W3.setCell ⟨A,0,none⟩ a).setCell ⟨A,1,none⟩ b).setCell ⟨A,2,none⟩ c):=by
 obtain⟨h1,h2⟩:=iW (a:=a) (b:=b) (c:=c) hA;have h3:Bw_ w (((W3.setCell ⟨A,0,none⟩ a).setCell ⟨A,1,none⟩ b).setCell ⟨A,2,none⟩ c):=hB.trans (h2.below (fun k hk=>by rw[show k=A from hk];exact aq) hB.size);exact⟨h1,hm.below h3,IG h3⟩
theorem LX {T:Prop} (h:T:=by
 rw[←aB];have b3:=ba_ aB;have D:=bZ.o.below b3;obtain⟨A0,A1,A2⟩:=cl3 D;obtain⟨f0,f1,f2⟩:=fr3 D;have bb:=D.lt;have aW:=O (bt a9.o b3);have b7:=O D;clear aB b3 D;go_wp2_with fail;obtain⟨q1,q2,q3⟩:=pU (a:=.int .i64 0) (b:=.int .i64 0) (c:=.int .i64 0) t.o aW.o b7.o (by have:=c6.o;have:=a1.o;omega);exact MX
):T:=h
theorem LY {T:Prop} (h:T:=by
 have kJ:=bI.o.below hB;obtain⟨x0,x1,x2,x3,x4,x5,x6,x7⟩:=cl8 kJ;clear hB hS kJ T0 T1;go_simp;exact hG _ (Bel.refl _)
):T:=h
theorem ym {Uk V:LL_}{K:Nat→Prop}(r:Nat)(t1 c1 t2 c2 t3 c3 v:V_)(j:Jb)(ac:LQ_)(I:LE_)(w0 w:Z)(h:dD w0 t1 c1 t2 c2 t3 c3 j)(hr:RR w0 v ac)(hB:Bw_ w0 w)(aa:w0.heap.size≤r)(hm:RC K w r I)(hK:∀ b,w.heap.size≤b→K b)(hl:ac.length≤60)(ht:∀ r∈ac,(texts (tx r)).length≤500000000∧r.length≤1000000)(B:∀ r∈ac,dC Uk r)(hs:StU Uk V ⟨I,0,0,0⟩)(hV:∀ n,cN j ((aJ (aC j [] ac).1).getD n ([],[])).1∈V)(bQ:Uk.length≤2000)(ab:V.length≤10000):C_ 19 #[bM t1 c1 t2 c2 t3 c3 j,rP r,v] w fun e w'=>Iv w w' r K (ez j ac I) e:=by
 have bL:=O (fun w' (hB:Bw_ w0 w')=>Bi t1 c1 t2 c2 t3 c3 v j ac w' (h.below hB) (hr.below hB) Y ht);have HJ:=O (fun w' (hB:Bw_ w0 w')=>(show dD w' t1 c1 t2 c2 t3 c3 j from h.below hB));have az:=O (fun w' (hB:Bw_ w0 w') ay=>nM t1 c1 t2 c2 t3 c3 j w' (h.below hB) ay);have HB:=O hB;obtain⟨t,aX,bD,aY,ao,aj,ak,aw,aE⟩:=zH9 hm hK B hs hV (eS j ac []) (fun h=>mE (j:=j) (ac:=ac) (I:=I) h) (fun h h2 N R=>nJ (j:=j) (ac:=ac) (I:=I) (N:=N) (R:=R) h h2) (fun h h2 N R=>tK (j:=j) (ac:=ac) (I:=I) (N:=N) (R:=R) h h2);have aP:=O (fun h:ac=[]=>(by rw[h];exact nI:ez j ac I=(([],(0,0,0),[],0),I)));obtain⟨ar,cr,rfl,_,_,aF⟩:=hr;have bR:=O aF;obtain⟨ta,tc,ca,cc,aV,bd,be,bf,bg,bh,bi,bk,rfl,rfl,rfl,rfl,rfl,rfl⟩:=jo_ h.a.t h.a.c h.b.t h.b.c h.c.t h.c.c;unfold bM at bL az⊢;obtain⟨J,hJ⟩:=H w.heap.size;obtain⟨WA,aO⟩:∃ W,W=w.alloc (.cells #[.slice ta j.mt.length tc,.slice ca j.mc.length cc,.slice aV j.jt.length bd,.slice be j.jc.length bf,.slice bg j.tt.length bh,.slice bi j.tc.length bk,F j.parts,F j.fuel] 27):=⟨_,rfl⟩
 obtain⟨W1,aA⟩:∃ W,W=WA.alloc (.cells #[F 0,F 0,F 0] 55):=⟨_,rfl⟩
 have bG:WA.heap.size=J+1:=by rw[aO,hJ];simp
 have bp:W1.heap.size=J+2:=by rw[aA];simp[bG]
 have bA:=ba_ aO;have b1:=ba_ aA;have kJ:Blk W1 J 27 [.slice ta j.mt.length tc,.slice ca j.mc.length cc,.slice aV j.jt.length bd,.slice be j.jc.length bf,.slice bg j.tt.length bh,.slice bi j.tc.length bk,F j.parts,F j.fuel]:=(show Blk WA J _ _ by rw[hJ,aO];exact Blk.new w _ _).below b1;have kA:Blk W1 (J+1) 55 [F 0,F 0,F 0]:=by rw[←bG,aA];exact Blk.new WA _ _
 have aZ:Bw_ w W1:=bt bA b1;obtain⟨x0,x1,x2,x3,x4,x5,x6,x7⟩:=cl8 kJ;obtain⟨f,bT⟩:=H (J+1);rw[←bT]at kA;obtain⟨a1,KJ,KA,a7,c6⟩:=zH5 (show J<f∧f+1=W1.heap.size by omega) kJ kA aZ hJ;go_enter func19,ntmps19;go_upto_region 1 with fail;rw[←aO,←aA,←hJ,←bT];obtain⟨HL,aS,ae,bO⟩:=zH4 hl bQ ab aa;clear aO aA hJ bT bG bp bA b1 kJ kA aZ h hB hm hK B hs hV aF hl ht bQ ab aa;have i:=bL.o W1 (bt HB.o a7.o);obtain⟨L,hL⟩:=H (aC j [] ac);unfold s8 at i;rw[←hL]at i ak aw aE aj ao;have bl:=O hL;clear hL bL
 by_cases hz:L.2=0
 ·have d:=O i
  by_cases hn:ac=[]
  ·have cs:(aJ L.1).length=0:=by rw[bl.o,hn];rfl
   have HX:=O (aP.o hn);have HZ:=O hz;rw[cs,hn]at d;clear i ak aw aE aP aj hz cs;go_upto_region 5 with(go_at_call 45;refine d.o.mono ?_;rintro e w2⟨hq,ax⟩;obtain⟨h0,-⟩|⟨-,a2,c2,rfl,-⟩:=hq;exact absurd HZ.o h0;have bZ:=O (KA.o.below ax);have a9:=O (bt a7.o ax);clear ax x0 x1 x2 x3 x4 x5 x6 x7);obtain⟨W3,aB⟩:=H (w2.alloc (.cells #[.slice a2 0 c2,F 0] 68));exact LX
  ·have HN:=O hn
   have HZ:=O hz;have E:=aj.o hz i_;have bN:=O (E.2.2 hn);have aR:=O (show rp (aJ L.1) ac.length by have ap:=jF E.2.1;rw[E.1]at ap;simpa using ap);obtain⟨N,hN⟩:=H (aJ L.1);have a8:=O (fun R=>aw.o hz hn N R hN);have a':=O (fun R=>aE.o hz hn N R hN);rw[←hN]at d aR ao
   have ai:1≤N.length:=by
    have h1:=aR.o.le;have h2:ac.length≠0:=fun e=>hn (I7 e);omega
   have z:N.length≤1000:=by have h1:=aR.o.two;have h2:=HL.o;omega
   have nz:((N.length:Int)==0)=false:=by rw[beq_eq_false_iff_ne];omega
   have b8:¬(N.length:Int)=0:=Y;have a4:=O (fun w' hb=>az.o w' hb bN.o);clear i ak aw aE aP aj hz hn E hN az;go_upto_region 6 with(go_at_call 45;refine d.o.mono ?_;rintro e w2⟨hq,ax⟩;obtain⟨h0,-⟩|⟨-,a2,c2,rfl,af⟩:=hq;exact absurd HZ.o h0;have bS:=O af;have bm:=KJ.o.below ax;have a9:=O ax;clear ax af x0 x1 x2 x3 x4 x5 x6 x7);obtain⟨T,hT⟩:=H w2.heap.size;rw[←hT];obtain⟨W3,aB⟩:=H (w2.alloc (.cells #[.slice a2 N.length c2,F ac.length] 68));rw[←aB];have b3:=ba_ aB;have bJ:W3.heap.size=T+1:=by rw[aB,hT];simp
   have kT:=bn_ hT aB;have kJ:=bm.below b3;obtain⟨T0,T1⟩:=cl2 kT;obtain⟨HT,aW,ag,bI,b_⟩:=zH5 hT (bt a9.o b3) b3 kJ kT;have bn:=O (fun w' hb=>a4.o w' (bt HB.o (bt a7.o (bt aW.o hb))));obtain⟨ID,x⟩:=H (cU (cR j));rw[←x]at bn;have br:=O x;clear aB b3 bJ kT kJ bm hT x a4;refine aU 7 [(0,.exact _ (.agg #[.slice ta j.mt.length tc,.slice ca j.mc.length cc,.slice aV j.jt.length bd,.slice be j.jc.length bf,.slice bg j.tt.length bh,.slice bi j.tc.length bk,F j.parts,F j.fuel])),(1,.exact _ (.agg #[.slice ta j.mt.length tc,.slice ca j.mc.length cc,.slice aV j.jt.length bd,.slice be j.jc.length bf,.slice bg j.tt.length bh,.slice bi j.tc.length bk,F j.parts,F j.fuel])),(2,.exact _ (s_ ID)),(4,.exact _ (.agg #[.slice a2 N.length c2,F ac.length]))] q_ q_ ?_;simp only[Jw,JE,Ju,JF];refine cG ?_;refine gj_ (fun w' G hB hS hG=>?_) ?_
   ·exact LY
   refine gj_ (fun w' G hB hS hG=>?_) ?_
   ·exact LY
   refine gj_ (fun w' G hB hS hG=>?_) ?_
   ·have hu:=bn.o w' hB
    clear hB hS T0 T1;go_simp;exact aT hG hu
   refine gj_ (fun w' G hB hS hG=>?_) ?_
   ·have y0:=IF hB T0
    have y1:=IF hB T1;clear hB hS T0 T1;go_simp;exact hG _ (Bel.refl _)
   refine eQ ?_;intro w4 aQ bX;have ba:=O aQ;replace T0:=IF aQ T0;clear bX aQ T1;go_upto_region 7 with fail;obtain⟨G,hG⟩:=H w4.heap.size;rw[←hG];obtain⟨W6,g⟩:=H (w4.alloc (.cells #[.slice ta j.mt.length tc,.slice ca j.mc.length cc,.slice aV j.jt.length bd,.slice be j.jc.length bf,.slice bg j.tt.length bh,.slice bi j.tc.length bk,F j.parts,F j.fuel,s_ ID,rP r,.slice a2 N.length c2,F ac.length,.slice ar ac.length cr,F 0,F 0,F 0,.string ⟨#[]⟩,F 0] 100));rw[←g];have b6:=ba_ g;have kG:Blk W6 G 100 (gC r ac.length a2 ar c2 cr (.slice ta j.mt.length tc) (.slice ca j.mc.length cc) (.slice aV j.jt.length bd) (.slice be j.jc.length bf) (.slice bg j.tt.length bh) (.slice bi j.tc.length bk) j (cU (cR j)) N.length ac.length ⟨I,0,0,0⟩ [] 0):=by rw[←br.o,hG,g];exact Blk.new w4 _ _
   have bw:Bw_ w2 W6:=bt ag.o (bt ba.o b6);have al:Bw_ w W6:=bt a7.o (bt aW.o (bt ba.o b6));have bj:Bw_ W1 W6:=bt aW.o (bt ba.o b6);have bx:=KA.o.below bj;obtain⟨e1,e2⟩:=a1.o;have bU:=c6.o;have ad:=t.o.lt;have a_:w0.heap.size≤w.heap.size:=HB.o.size;have bz:w2.heap.size≤G:=by rw[hG];exact Jc ag.o.size ba.o.size
   have m:W1.heap.size≤w2.heap.size:=a9.o.size;have bq:=kG.lt;have aa:=bO.o;have bo:∀ U,Chg (fun k=>k=r∨k=G) W6 U→Bw_ w0 U:=fun U hU=>(bt HB.o al).trans (hU.below (fun k hk=>by rcases hk with hk|hk<;>omega) (Jc a_ al.size))
   have hE:QE W6 G r ac.length a2 ar c2 cr (.slice ta j.mt.length tc) (.slice ca j.mc.length cc) (.slice aV j.jt.length bd) (.slice be j.jc.length bf) (.slice bg j.tt.length bh) (.slice bi j.tc.length bk) j N ac Uk V:={
    nd:=Hy bS.o bw Y bz
    rr:=fun k hk=>by
     obtain⟨b,aL,u,ha,hu,hp⟩:=bR.o k hk;have hb:b<w0.heap.size:=aG hu;refine⟨b,aL,u,ha,fun U hU=>⟨IF (bo U hU) hu,?_⟩⟩;exact(Aw.of (K:=fun b=>b≠r∧b≠G∧b<W6.heap.size) hp (fun b hb=>⟨by omega,by omega,by omega⟩)).below (bo U hU)
    job:=fun U hU=>HJ.o U (bo U hU)
    rg:=by omega
    gl:=bq
    rl:=by have:=al.size;omega
    may:=bN.o
    tree:=aR.o
    rown:=rfl
    small:=z
    ru:=bD.o
    vu:=ao.o
    ul:=aS.o
    vl:=ae.o }
   have cz:RN (fun b=>K b∧b≠f) G W6 r I:=(t.o.mono (K':=fun b=>(K b∧b≠f)∧b≠G) (fun b hb _ hk=>⟨⟨hk,by omega⟩,by omega⟩)).below al;have a0:=r8 hE N.length (N.length-1) ⟨I,0,0,0⟩ W6 (fun b=>K b∧b≠f) Y Y (Chg.refl _ _) kG cz (fun b hb=>⟨aX.o b (Jc al.size hb),by have:=bj.size;omega⟩) aY.o;rw[show((N.length-1:Nat):Int)=(N.length:Int)-1 by omega]at a0;have ah:=O a0;obtain⟨R,hR⟩:=H (cC j N ac.length ac N.length (N.length-1) ⟨I,0,0,0⟩);rw[←hR]at ah;have HF:=O (a8.o R hR);have HO:=O (a'.o R hR);replace T0:=IF b6 T0;obtain⟨a6,bB,s⟩:=zH3 al bx (show f≠r∧f≠G∧w.heap.size≤f∧w.heap.size≤G from⟨by omega,by omega,by omega,by omega⟩);clear g hG b6 bw al bj bx kG e1 e2 bU ad a_ bz m aa bo hE cz a0 hR a8 a';obtain⟨⟨Rr,b9,Rz⟩,Rs⟩:=R;unfold pf at ah;dsimp only at ah HF HO
   by_cases hz:Rz=0
   ·have z1:((Rz:Int) != 0)=false:=by rw[hz];rfl
    have HQ:=O (HO.o hz);clear hz HF HO;go_upto_region 10 with(go_at_call 46;refine ah.o.mono ?_;rintro e w5⟨a5,c5,rfl,bF,l,av,bE⟩;have bH:=bB.o.chg bE (fun e=>by rcases e with e|e;exact s.o.1 e;exact s.o.2.1 e);obtain⟨A0,A1,A2⟩:=cl3 bH;obtain⟨f0,f1,f2⟩:=fr3 bH;have bb:=bH.lt;have bY:=l.c 13;have b0:=l.c 14;have b4:=l.c 15;have b':=l.c 16;have aH:=l.c 17;have bC:=l.lt;obtain⟨au,q,bP,aN⟩:=zH4 bF av bE bH;clear bF av bE bH l T0);go_region;go_wp2_with fail;obtain⟨X,hX⟩:=H ((((w5.setCell ⟨f,0,none⟩ (F Rs.found)).setCell ⟨f,1,none⟩ (F Rs.made)).setCell ⟨f,2,none⟩ (F Rs.pairs)));rw[←hX];have a3:Blk X f 55 [F Rs.found,F Rs.made,F Rs.pairs]:=by rw[hX];exact((aN.o.set 0 _).set 1 _).set 2 _
    have aK:Chg (fun k=>k=f) w5 X:=by rw[hX];exact(Chg.setCell (X:=fun k=>k=f) w5 ⟨f,0,none⟩ _ rfl).trans ((Chg.setCell (X:=fun k=>k=f) _ ⟨f,1,none⟩ _ rfl).trans (Chg.setCell (X:=fun k=>k=f) _ ⟨f,2,none⟩ _ rfl))
    refine bodyPost_ret (dx rfl rfl (mf (a3.below (b_drew X)))) rfl ?_;have aF:=((q.o.chg aK (fun e=>s.o.1 (show r=f from e).symm) (fun b _ hk e=>absurd e hk.1.2)).below (b_drew X)).mono (K':=K) (fun b _ _ hk=>hk.1.1)
    have bK:Chg (fun k=>k=r) w X.drew:=ni a6.o ((bP.o.mono (X':=fun k=>k=r∨k=G∨k=f) (fun k hk=>by rcases hk with hk|hk;exact .inl hk;exact .inr (.inl hk))).trans ((aK.mono fun k hk=>.inr (.inr hk)).trans (IG (b_drew X)))) (fun k hk hx=>by
     have h1:=s.o;rcases hx with hx|hx|hx
     ·exact hx
     ·omega
     ·omega)
    rw[HQ.o];refine⟨⟨a5,c5,rfl,((au.o.1.chg aK (fun aI b hb e=>?_)).below (b_drew X))⟩,aF,bK⟩;exact au.o.1.notInts aI hb (by rw[show b=f from e];exact aN.o)
   ·have z1:((Rz:Int) != 0)=true:=by rw[bne_iff_ne];omega
    have HQ:=O (HF.o hz);clear hz HF HO;go_upto_region 9 with(go_at_call 46;refine ah.o.mono ?_;rintro e w5⟨a5,c5,rfl,bF,l,av,bE⟩;have bH:=bB.o.chg bE (fun e=>by rcases e with e|e;exact s.o.1 e;exact s.o.2.1 e);obtain⟨A0,A1,A2⟩:=cl3 bH;obtain⟨f0,f1,f2⟩:=fr3 bH;have bb:=bH.lt;have bY:=l.c 13;have b0:=l.c 14;have b4:=l.c 15;have b':=l.c 16;have aH:=l.c 17;have bC:=l.lt;obtain⟨au,q,bP,aN⟩:=zH4 bF av bE bH;clear bF av bE bH l T0);go_region;go_wp2_with fail;obtain⟨X,hX⟩:=H ((((w5.setCell ⟨f,0,none⟩ (F 0)).setCell ⟨f,1,none⟩ (F 0)).setCell ⟨f,2,none⟩ (F 0)));rw[←hX];have a3:Blk X f 55 [F 0,F 0,F 0]:=by rw[hX];exact((aN.o.set 0 _).set 1 _).set 2 _
    have aK:Chg (fun k=>k=f) w5 X:=by rw[hX];exact(Chg.setCell (X:=fun k=>k=f) w5 ⟨f,0,none⟩ _ rfl).trans ((Chg.setCell (X:=fun k=>k=f) _ ⟨f,1,none⟩ _ rfl).trans (Chg.setCell (X:=fun k=>k=f) _ ⟨f,2,none⟩ _ rfl))
    refine bodyPost_ret (dx rfl rfl (mf (a3.below (b_drew X)))) rfl ?_;have aF:=((q.o.chg aK (fun e=>s.o.1 (show r=f from e).symm) (fun b _ hk e=>absurd e hk.1.2)).below (b_drew X)).mono (K':=K) (fun b _ _ hk=>hk.1.1)
    have bK:Chg (fun k=>k=r) w X.drew:=ni a6.o ((bP.o.mono (X':=fun k=>k=r∨k=G∨k=f) (fun k hk=>by rcases hk with hk|hk;exact .inl hk;exact .inr (.inl hk))).trans ((aK.mono fun k hk=>.inr (.inr hk)).trans (IG (b_drew X)))) (fun k hk hx=>by
     have h1:=s.o;rcases hx with hx|hx|hx
     ·exact hx
     ·omega
     ·omega)
    rw[HQ.o];exact⟨⟨none,0,rfl,RP.nil _⟩,aF,bK⟩
 ·have d:=O i
  have HX:=O (ak.o hz);have HZ:=O hz;have z1:(L.2 != 0)=true:=by rw[bne_iff_ne];exact hz
  clear i ak aw aE aP aj hz;go_upto_region 3 with(go_at_call 45;refine d.o.mono ?_;rintro e w2⟨hq,ax⟩;obtain⟨-,rfl⟩|⟨h0,-⟩:=hq;rotate_left;exact absurd h0 HZ.o;have bZ:=O (KA.o.below ax);have a9:=O (bt a7.o ax);clear ax x0 x1 x2 x3 x4 x5 x6 x7);obtain⟨W3,aB⟩:=H (w2.alloc (.cells #[e_,F 0] 68));exact LX
end
section
open Go.RowKit Oct Go.WideMaps Go.Maps Go.Sort Go.Shelf
theorem Gs (m:Nat):AnyZ.SortsIn prog Tryz.sortedC_ren Fence.wide m :=
 ⟨fun e aL ah g W X ab a6=>callsIn_wide.2 (AnyM.slices_Sort_string Tryz.sortC e aL ah g W X ab a6),fun p ah W=>callsIn_wide.2 (AnyM.slices_Sort_string_none Tryz.sortC p ah W)⟩
theorem BN (a:Option Nat)(W:Z):C_ 32 #[.map a] W fun e w'=>e=.returned (.func (.func 53) #[] #[.pointer (some ⟨W.heap.size,0,none⟩)])∧w'=W.alloc (.cells #[.map a] 71) :=
 callsIn_wide.1 (AnyZ.keys_in Tryz.keysC Fence.wide 5 trivial rfl a W)
theorem uU (b a:Nat)(f:DataW V_)(w:Z)(aw:w.ownsMap prog 9 sG b a f)(k:Maps.size f≤maxLen)(d:Maps.size f*16≤140737488355328):C_ 31 #[.func (.func 53) #[] #[.pointer (some ⟨w.heap.size,0,none⟩)]] (w.alloc (.cells #[.map (some b)] 71)) fun e w'=>∃ (v:V_) (g:LL_),e=.returned v∧g.Perm (strKeys f) ∧w'.ownsRow (w.alloc (.cells #[.map (some b)] 71)).heap.size 9 1 v g.length ((g.mergeSort (fun x y=>decide (x≤y))).map encStr)∧(v=e_↔g=[])∧B_ (w.alloc (.cells #[.map (some b)] 71)).heap.size (w.alloc (.cells #[.map (some b)] 71)) w':=by
 have bo:=aw.lt
 have B:SeqGives Fence.wide 2 prog 53 #[.pointer (some ⟨w.heap.size,0,none⟩)] encStr (fun g=>g.Perm (strKeys f)) (Maps.size f) (w.alloc (.cells #[.map (some b)] 71)) :=
  AnyZ.keys_gives (ρ:=Tryz.keysC_ren) { Tryz.keysC with } Fence.wide _ trivial rfl Y w.heap.size b a f _ i_ i_ (by
   obtain⟨I,i,hb,l,hs,hD⟩:=aw;exact⟨I,i,(Below.heap_alloc _ _ b bo).trans hb,l,hs,hD⟩)
 exact callsIn_wide.1 (AnyZ.sorted_in Tryz.sortedC Fence.wide 5 trivial trivial trivial trivial rfl Y (Gs _) (enters_of func52 q_ rfl) 53 #[.pointer (some ⟨w.heap.size,0,none⟩)] trivial (enters_of func53 q_ rfl) _ _ k d _ B)
theorem xN (l:LL_):l.map encStr=aP.cells l:=by rw[lX];rfl
theorem Cd {K:Nat→Prop}(c M n:Nat)(I:LE_)(w:Z)(hc:CC w c M)(hm:CM K w M n I)(hl:I.length≤1000000):C_ 10 #[cP c] w fun e w'=>(∃ v,e=.returned v∧aP.Own w' w.heap.size v (I.map (·.1)))∧Bw_ w w':=by
 obtain⟨D,aw,a,f⟩:=hm.open;have hr:=hm.rise;have aC:=O (BN (some M) w);have s:=O (uU M n D w aw yzb Y);have b:=O (fun (g:LL_) (h:g.Perm (strKeys D))=>(show g.length=(I.map (·.1)).length∧(g.mergeSort (fun x y=>decide (x≤y)))=I.map (·.1) from⟨(h.trans a).length_eq,wA hr (h.trans a)⟩));have c0:=hc.c 0;obtain⟨o,aB⟩:=H (I.map (·.1));rw[←aB]at b⊢;clear aw a f hr hm hc aB hl;go_enter func10,ntmps10;go_wp2_with (first|(go_at_call 31;refine s.o.mono ?_;rintro e w3⟨v,g,rfl,hp,m,-,hB⟩;obtain⟨q1,q2⟩:=b.o g hp;rw[q1,q2,xN]at m;obtain⟨P,pc,rfl⟩:=ay m;have aR:=O m;have HB:=O hB;clear hp m hB q1 q2)|(go_at_call 32;refine aC.o.mono ?_;rintro e w2⟨rfl,rfl⟩));go_ret;exact⟨⟨_,rfl,fq aR.o (af w _).size⟩,bt (af w _) HB.o⟩
theorem Cg {K:Nat→Prop}(c M n:Nat)(I:LE_)(w:Z)(hc:CC w c M)(hm:CM K w M n I):C_ 11 #[cP c] w fun e w'=>∃ c' a,e=.returned (cP c')∧CC w' c' a∧CM K w' a n I∧w.heap.size≤a∧w.heap.size≤c'∧Bw_ w w':=by
 obtain⟨D,aw,h2,h3,h4⟩:=hm;have aU:=O (AnyW.maps_Clone_owns Tryz.cloneC 9 sG M n D w aw);have H4:=O h4;have c0:=hc.c 0;have H2:=O h2;have H3:=O h3;clear aw h2 h3 h4 hc;go_enter func11,ntmps11;go_wp2_with (go_at_call 33;refine aU.o.mono ?_;rintro e w2⟨rfl,ho,-,hB⟩;have HO:=O ho;have HB:=O hB;clear ho hB);go_ret
 have aI:CM K w2 w.heap.size n I:=⟨D,HO.o,H2.o,H3.o,fun k r hr=>by
  obtain⟨v,h5,h6⟩:=H4.o k r hr;exact⟨v,h5,h6.below HB.o⟩⟩
 exact⟨_,_,rfl,Blk.new w2 _ _,aI.below (af _ _),I6 _,HB.o.size,bt HB.o (af _ _)⟩
end
section
open Go.RowKit Oct Go.WideMaps Go.Maps
theorem xS {K K':Nat→Prop}(c M r:Nat)(I:LE_)(w:Z)(bm:CC w c M)(aI:CM K w M I.length I)(aF:RC K' w r I)(hl:I.length≤10000)(b:∀ x∈I,x.1.length≤140737488355328∧x.2.length≤2000):R_ 25 #[cP c,rP r] w (.bool true):=by
 have aj:=O (Cd c M I.length I w bm aI Y);have cH:=O (fun w' (hB:Bw_ w w')=>p6 r I w' (aF.below hB) Y);have a:=O (fun (va vb:V_) w' (ha:aP.Row w' va (I.map (·.1))) (hb:aP.Row w' vb (I.map (·.1)))=>xT va vb _ _ w' ha hb (by rw[Js];omega) (by rw[Js];omega));have cI:=O (fun i (hi:i<I.length)=>eK aI.rise (k:=I[i].1) (r:=I[i].2) (Jz hi));have u:=O b;have v:=O (fun (k:q) w' (hB:Bw_ w w') h1 h2=>ns c M I.length I k w' (bm.below hB) (aI.below hB) h1 h2);have b3:=O (fun (k:q) w' (hB:Bw_ w w')=>lk r I k w' (aF.below hB) Y);obtain⟨o,aB⟩:=H (I.map (·.1));have bq:o.length=I.length:=by rw[aB,Js]
 simp only[←aB]at aj cH a;have l:=O (show ∀ i (hi:i<I.length) (d:i<o.length),o[i]=I[i].1 from fun i hi d=>by subst aB;simp);have s:=O bq;have cU:o.length≤10000:=Y;clear bm aI aF b aB bq;go_enter func25,ntmps25;go_wp2_with (first|(go_at_call 48;refine(a.o _ _ w3 (S.o.row.below ag.o) bf.o.row).mono ?_;rintro e w4⟨rfl,aQ⟩;have cT:=O (S.o.below (bt ag.o aQ));have ba:=O (bt aW.o aQ);clear aQ)|(go_at_call 21;refine(cH.o w2 a9.o).mono ?_;rintro e w3⟨⟨v3,rfl,L⟩,al⟩;obtain⟨y,z,rfl⟩:=ay L;obtain⟨bf,ag,aW⟩:=zH3 L al (bt a9.o al);clear L al)|(go_at_call 10;refine aj.o.mono ?_;rintro e w2⟨⟨v2,rfl,az⟩,ax⟩;obtain⟨B,D,rfl⟩:=ay az;have S:=O az;have a9:=O ax;clear az ax));obtain⟨_,_,bV,_,aa⟩:=au cT.o.row;injection bV with q1 _ q3
 subst q1 q3;have aC:=O aa;clear aa
 go_loopw [6] (fun t wr=>∃ (i:Nat),i≤o.length∧t=F i∧Hid (Bw_ w4 wr)) (fun t _=>o.length-(intOf t).toNat)
 case atStart=>exact⟨0,Jl _,rfl,Ja _ _⟩
 case round =>
  obtain⟨i,hi,rfl,HB⟩:=hrel
  by_cases h0:i<o.length
  ·obtain⟨kb,ko,hA,e1⟩:=aC.o i h0
   subst hA;have af:i<I.length:=by have:=s.o;omega
   replace e1:=IF HB.o e1;have aZ:=bt ba.o HB.o;have aJ:=cI.o i af;have bv:=u.o _ (Jz af);rw[l.o i af h0]at e1;obtain⟨x,hx⟩:=H (I[i]'af);rw[←hx]at e1 aJ bv;have df:=v.o x.1 wr aZ bv.1 (by rw[aJ];have:=bv.2;simp only[Option.getD_some];omega);have Q:=fun w' (hB:Bw_ wr w')=>b3.o x.1 w' (bt aZ hB);rw[aJ]at df Q;simp only[Option.getD_some,Option.isSome_some]at df Q;have g:=O df;have m:=O Q;have f:=O (show x.2.length≤140737488355328 by have:=bv.2;omega);have i0:=nn_ i;have i1:(i:Int)<o.length:=Y;have aw:=O h0;clear hx aJ bv df Q aZ af h0;go_wp2_with (first|(go_at_call 20;refine mB_ (ii _ _ x.2 x.2 w7 bu.o ck.o f.o f.o) aK fun w8 aU=>?_)|(go_at_call 24;refine(m.o w6 bn.o).mono ?_;rintro e w7⟨⟨X,rfl,n⟩,aH⟩;have aG:=(show Aw _ w7 X x.2 from n).1;obtain⟨P,ad,rfl,-,-⟩:=aG.open;have e1:=IF aH e1;obtain⟨ck,bu,aK⟩:=zH3 aG (cS.o.reads.below aH) (bt bn.o aH);clear n aG aH)|(go_at_call 7;refine g.o.mono ?_;rintro e w6⟨⟨E,rfl,ab⟩,bx⟩;obtain⟨ae,ah,rfl⟩:=ay ab;have e1:=IF bx e1;have cS:=O ab;have bn:=O bx;clear ab bx));go_roundw
   case rel=>exact⟨i+1,aw.o,by go_num,bt HB.o aU.o⟩
   case measure=>have:=aw.o;simp[intOf];omega
  ·have i1:¬(i:Int)<o.length:=Y
   clear h0;go_wp2_with fail;go_ret;exact⟨rfl,bt ba.o HB.o⟩
end
structure Stp where
 act:Int
 rows:LQ_
 k:U8_
 key:q
 row:LP_
def SpR (w:Z)(v:V_)(l:List Stp):Prop:=∃ a c,v=.slice a l.length c∧l.length≤c∧∀ i (hi:i<l.length),∃ b aL ra rn rc ov,a=some ⟨b,aL,none⟩∧w.cell? ⟨b,aL+i*5,none⟩=some (.int .i64 l[i].act)∧w.cell? ⟨b,aL+i*5+1,none⟩=some (.slice ra rn rc)∧w.cell? ⟨b,aL+i*5+2,none⟩=some (.int .u8 (l[i].k.toNat:Int))∧w.cell? ⟨b,aL+i*5+3,none⟩=some (.string (bs l[i].key))∧w.cell? ⟨b,aL+i*5+4,none⟩=some ov∧RR w (.slice ra rn rc) l[i].rows∧RP w ov l[i].row
theorem SpR.below {w w':Z}{v:V_}{l:List Stp}(h:SpR w v l)(hB:Bw_ w w'):SpR w' v l:=by
 obtain⟨a,c,h1,h2,h3⟩:=h;refine⟨a,c,h1,h2,fun i hi=>?_⟩;obtain⟨b,aL,ra,rn,rc,ov,q0,q1,q2,q3,q4,q5,u,y⟩:=h3 i hi;exact⟨b,aL,ra,rn,rc,ov,q0,IF hB q1,IF hB q2,IF hB q3,IF hB q4,IF hB q5,u.below hB,y.below hB⟩
def GR (r:LP_):Prop:=r.length≤140737488355328∧∀ p∈r,p.1.length≤140737488355328∧p.2.length≤140737488355328
structure StB (s:Stp):Prop where
 a0:-9223372036854775808≤s.act
 a1:s.act≤9223372036854775807
 rl:s.rows.length≤140737488355328
 rs:∀ r∈s.rows,GR r
 kl:s.key.length≤140737488355328
 row:GR s.row
def xQ (s:Stp):Prop:=fL s.rows=false∧fL [s.row]=false∧s.key.length≤200
def stN (l:List Stp):Nat:=(l.map fun s=>s.rows.length).sum
theorem uR (l:List Stp)(k:Nat)(h:k<l.length):stN (l.take (k+1))=stN (l.take k)+l[k].rows.length:=by
 unfold stN;rw[JB h,Jf,List.sum_append];simp
theorem Gp (l:List Stp)(k:Nat)(hk:k≤l.length)(h:∀ i (hi:i<l.length),i<k→xQ l[i]):stN (l.take k)≤20*k:=by
 induction k with
 | zero=>simp[stN]
 | succ k H =>
  have h1:=H Y (fun i hi b=>h i hi Y);have h2:=(fx _ (h k Y Y).1).1;rw[uR l k Y];omega
structure uz (j:Jb) (l:List Stp):Prop where
 large:kI j=false
 len:l.length≤12
 ok:∀ s∈l,xQ s
 n:stN l≤60
theorem L1 {T:Prop} (h:T:=by
 go_ret;exact⟨⟨true,rfl,fun ap=>by cases ap⟩,aW.o⟩
):T:=h
theorem LZ {T:Prop} (h:T:=by
 go_wp2_with (first|(go_at_call 27;refine mB_ (aU.o _ a9.o) a9 fun w3 aW=>?_)|(go_at_call 26;refine(E.o _ (bt a_.o HB.o)).mono ?_;rintro e w2⟨rfl,ax⟩;have aR:=O ((bL.o.below HB.o).below ax);have g:=aR.o;obtain⟨x0,x1,x2,x3,x4,x5,x6,x7⟩:=cl8 g;have a9:=O (bt (bt a_.o HB.o) ax);clear ax g));exact L1
):T:=h
theorem L0 {T:Prop} (h:T:=by
 go_wp2_with (go_at_call 26;refine(E.o _ (bt a_.o HB.o)).mono ?_;rintro e w2⟨rfl,ax⟩;have aR:=O ((bL.o.below HB.o).below ax);have g:=aR.o;obtain⟨x0,x1,x2,x3,x4,x5,x6,x7⟩:=cl8 g;have a9:=O (bt (bt a_.o HB.o) ax);clear ax g);go_ret;exact⟨⟨true,rfl,fun ap=>by cases ap⟩,a9.o⟩
):T:=h
theorem xu (t1 c1 t2 c2 t3 c3:V_)(j:Jb)(v:V_)(l:List Stp)(w:Z)(h:rM w t1 c1 t2 c2 t3 c3 j)(hv:SpR w v l)(hl:l.length≤140737488355328)(hm:∀ s∈l,StB s):C_ 4 #[bM t1 c1 t2 c2 t3 c3 j,v] w fun e w'=>(∃ b,e=.returned (.bool b)∧(b=false→uz j l))∧Bw_ w w':=by
 have E:=O (fun w' (hB:Bw_ w w')=>xr t1 c1 t2 c2 t3 c3 j w' (h.below hB));have aU:=O (fun w' (hB:Bw_ w w')=>Ex t1 c1 t2 c2 t3 c3 j w' (h.below hB));have ae:=O (fun (u:V_) (ac:LQ_) w' hu h1 h2=>rt u ac w' hu h1 h2);obtain⟨ta,tc,ca,cc,aV,bd,be,bf,bg,bh,bi,bk,rfl,rfl,rfl,rfl,rfl,rfl⟩:=jo_ h.a.t h.a.c h.b.t h.b.c h.c.t h.c.c;obtain⟨av,cv,rfl,ab,hc⟩:=hv;unfold bM at E aU⊢;have bz:=O hc;have HM:=O hm;have Q:=O (fun (a:kI j=false) b c d=>(⟨a,b,c,d⟩:uz j l));obtain⟨P,hP⟩:=H j.parts;obtain⟨am,hF⟩:=H j.fuel;rw[←hP,←hF]at E aU⊢;clear hP hF;obtain⟨W1,aA⟩:=H (w.alloc (.cells #[.slice ta j.mt.length tc,.slice ca j.mc.length cc,.slice aV j.jt.length bd,.slice be j.jc.length bf,.slice bg j.tt.length bh,.slice bi j.tc.length bk,F P,F am] 27));have a8:=ba_ aA;obtain⟨J,hJ⟩:=H w.heap.size;have hx:=bn_ hJ aA;have a_:=O a8;have bL:=O hx;obtain⟨LA,X⟩:∃ b,b=kI j:=⟨_,rfl⟩
 obtain⟨SL,aa⟩:∃ b,b=C4 j:=⟨_,rfl⟩
 rw[←X]at E Q;rw[←aa]at aU;clear X aa;go_enter func4,ntmps4;go_upto_region 1 with fail;rw[←aA,←hJ];clear aA hJ a8 hx h hc hm;go_upto_region 3 with fail
 go_loopw [5,6] (fun n t wr=>∃ i:Nat,i≤l.length∧i≤30∧n=F (stN (l.take i):Int)∧t=F i∧Hid (∀ ap (hq:ap<l.length),ap<i→xQ l[ap])∧Hid (Bw_ W1 wr)) (fun _ t _=>30-(intOf t).toNat)
 case atStart=>exact⟨0,Jl _,Jl _,rfl,rfl,fun ap _ hq=>absurd hq (Nat.not_lt_zero _),Ja _ _⟩
 case round =>
  obtain⟨i,hi,aG,rfl,rfl,br,HB⟩:=hrel;have D:=Gp l i hi br.o
  by_cases aD:i<l.length∧i<30
  ·obtain⟨h0,az⟩:=aD
   have i0:=nn_ i;have i1:(i:Int)<l.length:=Y;have i2:(i:Int)<30:=Y;obtain⟨kb,ko,ra,rn,rc,ov,hA,-,e2,-,e4,e5,S,aP⟩:=bz.o i h0;subst hA;have aZ:=bt a_.o HB.o;replace e2:=IF aZ e2;replace e4:=IF aZ e4;replace e5:=IF aZ e5;have ay:=HM.o _ (Jz h0);have z:=uR l i h0
   have k:xQ l[i]→∀ ap (hq:ap<l.length),ap<i+1→xQ l[ap]:=fun hx ap hq aB=>by
    by_cases e:ap=i
    ·subst e;exact hx
    ·exact br.o ap hq Y
   obtain⟨x,hx⟩:=H (l[i]'h0);rw[←hx]at e4 z ay k S aP;have q:=O k;have bH:=O (ae.o _ x.rows wr (S.below aZ) ay.rl ay.rs);have bD:=O (fun w' (hB:Bw_ wr w')=>ae.o _ [x.row] _ (RR.oneI ((aP.below aZ).below hB)) i_ (by intro r hr;rw[Jp.1 hr];exact ay.row))
   have cz:rn=x.rows.length:=by
    obtain⟨_,_,aS,_,_,_⟩:=S;injection aS
   subst cz;obtain⟨de,df,rfl,-,-⟩:=aP.open;obtain⟨N,hN⟩:=H (stN (l.take i));rw[←hN]at z D⊢;have aj:=O z;have aw:=O h0;have ak:N≤600:=Y;have bq:=ay.kl;have ag:=O (fun h=>(fx x.rows h).1);unfold xQ at q;obtain⟨B1,aF⟩:∃ b,b=fL x.rows:=⟨_,rfl⟩
   obtain⟨B2,ax⟩:∃ b,b=fL [x.row]:=⟨_,rfl⟩
   rw[←aF]at bH q ag;rw[←ax]at bD q;clear hx hN z h0 ay k S aP aZ aF ax D
   cases B1 with
   | true =>
    go_wp2_with (go_at_call 5;refine bH.o.mono ?_;rintro e w2⟨rfl,ax⟩;have a9:=O (bt a_.o (bt HB.o ax));clear ax);go_ret;exact⟨⟨true,rfl,fun ap=>by cases ap⟩,a9.o⟩
   | false =>
    have ad:=ag.o rfl
    cases B2 with
    | true =>
     go_wp2_with (first|(go_at_call 5;refine(bD.o w2 a9.o).mono ?_;rintro e w3⟨rfl,al⟩;have aW:=O (bt a_.o (bt HB.o (bt a9.o (bt (af _ _) al))));clear al)|(go_at_call 5;refine bH.o.mono ?_;rintro e w2⟨rfl,ax⟩;have e4:=IF ax e4;have e5:=IF ax e5;have a9:=O ax;clear ax));exact L1
    | false =>
     by_cases hk:x.key.length≤200
     ·have k1:¬200<(x.key.length:Int):=Y
      have ah:=O (q.o ⟨rfl,rfl,hk⟩);clear hk;go_wp2_with (first|(go_at_call 5;refine(bD.o w2 a9.o).mono ?_;rintro e w3⟨rfl,al⟩;have e4:=IF (bt (af _ _) al) e4;have e2:=IF (bt (af _ _) al) e2;have aW:=O (bt HB.o (bt a9.o (bt (af _ _) al)));clear al)|(go_at_call 5;refine bH.o.mono ?_;rintro e w2⟨rfl,ax⟩;have e4:=IF ax e4;have e5:=IF ax e5;have e2:=IF ax e2;have a9:=O ax;clear ax));go_roundw
      case rel=>exact⟨i+1,aw.o,by omega,by rw[aj.o];go_num,by go_num,ah.o,aW.o⟩
      case measure=>simp[intOf];omega
     ·have k1:200<(x.key.length:Int):=Y
      clear hk;go_wp2_with (first|(go_at_call 5;refine(bD.o w2 a9.o).mono ?_;rintro e w3⟨rfl,al⟩;have e4:=IF (bt (af _ _) al) e4;have aW:=O (bt a_.o (bt HB.o (bt a9.o (bt (af _ _) al))));clear al)|(go_at_call 5;refine bH.o.mono ?_;rintro e w2⟨rfl,ax⟩;have e4:=IF ax e4;have e5:=IF ax e5;have a9:=O ax;clear ax));exact L1
  ·have o:=O (show l.length≤12→i=l.length by intro h;omega)
   have f:=bL.o.below HB.o;obtain⟨x0,x1,x2,x3,x4,x5,x6,x7⟩:=cl8 f;have y:=O (show l.length≤12→stN (l.take i)=stN l by intro h;rw[o.o h,List.take_length])
   have a1:=O (show l.length≤12→∀ s∈l,xQ s by
    intro h s hs;obtain⟨ap,hq,rfl⟩:=List.getElem_of_mem hs;exact br.o ap hq (by rw[o.o h];exact hq))
   obtain⟨N,hN⟩:=H (stN (l.take i));rw[←hN]at y D⊢;have ak:N≤600:=Y;have dd:(i:Int)<(l.length:Int)→¬(i:Int)<30:=by intro h;omega
   by_cases aC:(i:Int)<l.length
   ·have aJ:=dd aC
    have B:¬l.length≤12:=by intro h;have:=o.o h;omega
    have au:=O B;have m1:12<(l.length:Int):=Y;clear f hN dd aD D B
    cases LA with
    | true =>
     exact L0
    | false =>
     cases SL with
     | true =>
      exact LZ
     | false =>
      exact LZ
   ·clear f hN dd aD D
    cases LA with
    | true =>
     exact L0
    | false =>
     cases SL with
     | true =>
      exact LZ
     | false =>
      by_cases m:l.length≤12
      ·have m1:¬12<(l.length:Int):=Y
       obtain⟨ai,bI,ao⟩:=zH3 (y.o m) (a1.o m) m;clear m
       by_cases L:N≤60
       ·have m2:¬60<(N:Int):=Y
        have aq:=O L;clear L;go_wp2_with (first|(go_at_call 27;refine mB_ (aU.o _ a9.o) a9 fun w3 aW=>?_)|(go_at_call 26;refine(E.o _ (bt a_.o HB.o)).mono ?_;rintro e w2⟨rfl,ax⟩;have aR:=O ((bL.o.below HB.o).below ax);have g:=aR.o;obtain⟨x0,x1,x2,x3,x4,x5,x6,x7⟩:=cl8 g;have a9:=O (bt (bt a_.o HB.o) ax);clear ax g));go_ret;refine⟨⟨false,?_,fun _=>Q.o trivial ao.o bI.o (by rw[←ai.o];exact aq.o)⟩,aW.o⟩
        first|rfl|(simp[m1,m2];done)
       ·have m2:60<(N:Int):=Y
        clear L;go_wp2_with (first|(go_at_call 27;refine mB_ (aU.o _ a9.o) a9 fun w3 aW=>?_)|(go_at_call 26;refine(E.o _ (bt a_.o HB.o)).mono ?_;rintro e w2⟨rfl,ax⟩;have aR:=O ((bL.o.below HB.o).below ax);have g:=aR.o;obtain⟨x0,x1,x2,x3,x4,x5,x6,x7⟩:=cl8 g;have a9:=O (bt (bt a_.o HB.o) ax);clear ax g));go_ret;refine⟨⟨true,?_,fun ap=>by cases ap⟩,aW.o⟩
        first|rfl|(simp[m1,m2];done)
      ·have m1:12<(l.length:Int):=Y
       clear m;go_wp2_with (first|(go_at_call 27;refine mB_ (aU.o _ a9.o) a9 fun w3 aW=>?_)|(go_at_call 26;refine(E.o _ (bt a_.o HB.o)).mono ?_;rintro e w2⟨rfl,ax⟩;have aR:=O ((bL.o.below HB.o).below ax);have g:=aR.o;obtain⟨x0,x1,x2,x3,x4,x5,x6,x7⟩:=cl8 g;have a9:=O (bt (bt a_.o HB.o) ax);clear ax g));go_ret;refine⟨⟨true,?_,fun ap=>by cases ap⟩,aW.o⟩
       first|rfl|(simp[m1];done)
def cV:LQ_:=[[([97],[49])],[([97],[50])],[([97],[51])]]
theorem Hd:(aC (bW 1) [] cV).2=0:=by decide +kernel
theorem FQ:(aJ (aC (bW 1) [] cV).1).length=4:=by decide +kernel
theorem Hc:(ez (bW 1) cV []).1=([([97],[54])],(0,1,1),[],0):=by decide +kernel
theorem Hb:(ez (bW 1) cV (ez (bW 1) cV []).2).1=([([97],[54])],(1,0,0),[],0):=by decide +kernel
theorem Ha (I:LE_):ez rG [[]] I=(([],(0,0,0),[],2),I):=by
 have h:aC rG [] [[]]=([],2):=by decide +kernel
 rw[mE (by rw[h];decide),h]
theorem G9:rF (bW 1) [120]=([],2):=by decide +kernel
theorem wR (a b c x y z:Int)(w:Z):(Op.equalIn 10000 55 (.agg #[F a,F b,F c]) (.agg #[F x,F y,F z])).run prog w=.ok ((a==x)&&((b==y)&&(c==z))) w:=by
 have ht:prog.underlying 55=some (.struct (prog.fieldsOf 55)):=q_;have hp:prog.stoodInHeld 55=false:=q_;rw[run_equalIn_agg (P:=prog) w 9999 _ _ _ ht hp];have hf : (prog.fieldsOf 55).toList.map (fun f => (f.name == "_", f.type, f.offset)) = [(false, 3, 0), (false, 3, 1), (false, 3, 2)] := by kernel_rfl
 have hu:=underlying3;obtain⟨am,hF⟩:=H ((prog.fieldsOf 55).toList);rw[←hF]at hf⊢;clear hF;have hl:am.length=3:=by have:=congrArg List.length hf;simpa using this
 obtain⟨f1,f2,f3,rfl⟩:∃ a b c,am=[a,b,c]:=by
  match am,hl with
  | [a,b,c],_=>exact⟨a,b,c,rfl⟩
 simp only[List.map_cons,List.map_nil,List.cons.injEq,Prod.mk.injEq,beq_eq_false_iff_ne,and_true]at hf;obtain⟨⟨n1,t1,o1⟩,⟨n2,t2,t⟩,n3,t3,o3⟩:=hf;simp[Op.eqFields,n1,n2,n3,t1,t2,t3,o1,t,o3,part,go_sem]
 by_cases h1:a=x<;>by_cases h2:b=y<;>by_cases h3:c=z<;>simp[h1,h2,h3]
theorem BX (a b c x y z:Int)(w:Z):(binOp .eql 55 (.agg #[F a,F b,F c]) (.agg #[F x,F y,F z])).run prog w=.ok (.bool ((a==x)&&((b==y)&&(c==z)))) w:=by
 rw[run_eql_struct,wR];rfl
theorem Bz (a b c x y z:Int)(w:Z):(binOp .neq 55 (.agg #[F a,F b,F c]) (.agg #[F x,F y,F z])).run prog w=.ok (.bool (!((a==x)&&((b==y)&&(c==z))))) w:=by
 rw[run_neq_struct,wR];rfl
theorem sQ:Tryz.prog.eqGuardType prog.depth 55=false:=q_
theorem RP.overM {w w':Z}{M:Nat}{v:V_}{r:LP_}(h:RP w v r)(hm:∃ I cl,w.heap[M]?=some (.map I cl))(hc:Chg (fun b=>b=M) w w'):RP w' v r :=
 h.chg hc fun hr b hb e=>by
  obtain⟨I,cl,hx⟩:=hm;subst e;exact h.notMap hr hb hx
theorem RR.overM {w w':Z}{M:Nat}{v:V_}{ac:LQ_}(h:RR w v ac)(hm:∃ I cl,w.heap[M]?=some (.map I cl))(hc:Chg (fun b=>b=M) w w'):RR w' v ac:=by
 obtain⟨a,ah,hv,aq,hn,bx⟩:=h;refine⟨a,ah,hv,aq,hn,fun k hk=>?_⟩;obtain⟨b,aL,u,ha,hu,hr⟩:=bx k hk;refine⟨b,aL,u,ha,hc.cell hu (fun e=>?_),hr.overM hm hc⟩;obtain⟨I,cl,hx⟩:=hm;simp only at e;subst e;simp[World.cell?,hx]at hu
theorem RR.three {w:Z}{v1 v2 v3:V_}{l1 l2 l3:LP_}(e:T_)(h1:RP w v1 l1)(h2:RP w v2 l2)(h3:RP w v3 l3):RR (w.alloc (.cells #[v1,v2,v3] e)) (.slice (some ⟨w.heap.size,0,none⟩) 3 3) [l1,l2,l3]:=by
 refine⟨_,_,rfl,I6 _,i_,?_⟩;intro k hk;have r1:=h1.below (af w (.cells #[v1,v2,v3] e));have r2:=h2.below (af w (.cells #[v1,v2,v3] e));have r3:=h3.below (af w (.cells #[v1,v2,v3] e))
 match k,hk with
 | 0,_=>exact⟨_,_,_,rfl,by rw[World.cell?_alloc_new];rfl,r1⟩
 | 1,_=>exact⟨_,_,_,rfl,by rw[World.cell?_alloc_new];rfl,r2⟩
 | 2,_=>exact⟨_,_,_,rfl,by rw[World.cell?_alloc_new];rfl,r3⟩
abbrev KT:Nat→Prop:=fun _=>True
def uj:LE_:=(ez (bW 1) cV []).2
def oU:LE_:=(ez (bW 1) cV uj).2
def V24:LL_:=cN rG []::lQ (bW 1) (aJ (aC (bW 1) [] cV).1)
theorem tw:V24.length≤10000:=by
 unfold V24;rw[Jq,sE,FQ];decide
theorem pn (n:Nat):cN (bW 1) ((aJ (aC (bW 1) [] cV).1).getD n ([],[])).1∈V24:=Jo _ (sD _ _ _)
theorem zO:∀ r∈cV,dC [[97]] r:=by
 intro r hr;simp only[cV,JK,List.not_mem_nil,or_false]at hr;rcases hr with rfl|rfl|rfl<;>exact⟨by intro p hp;simp only[Jp]at hp;subst hp;exact⟨Jp.2 rfl,by decide⟩,by decide⟩
theorem CX:StU [[97]] V24 ⟨[],0,0,0⟩:=⟨List.Pairwise.nil,fun x hx=>by cases hx⟩
theorem CW:StU [[97]] V24 ⟨uj,0,0,0⟩:=(pT (U:=[[97]]) (V:=V24) d_ (bW 1) cV [] zO CX pn).2
theorem Gq:StU [[97]] V24 ⟨oU,0,0,0⟩:=(pT (U:=[[97]]) (V:=V24) d_ (bW 1) cV uj zO CW pn).2
theorem nE:∀ r∈cV,(texts (tx r)).length≤500000000∧r.length≤1000000:=by
 intro r hr;simp only[cV,JK,List.not_mem_nil,or_false]at hr;rcases hr with rfl|rfl|rfl<;>decide
theorem Gn (t1 c1 t2 c2 t3 c3 v:V_)(w:Z)(h:dD w t1 c1 t2 c2 t3 c3 (bW 1))(hr:RR w v cV):C_ 29 #[bM t1 c1 t2 c2 t3 c3 (bW 1),v] w fun e w'=>(∃ a c,e=.returned (.tuple #[.agg #[.slice a 4 c,F 3],F 0]))∧Bw_ w w':=by
 refine(sY t1 c1 t2 c2 t3 c3 v (bW 1) cV w h hr d_ nE).mono ?_;rintro e w'⟨h1,h2⟩;refine⟨?_,h2⟩;rcases h1 with ⟨ap,-⟩|⟨-,a,c,rfl,-⟩
 ·exact absurd Hd ap
 ·rw[FQ]
  exact⟨a,c,rfl⟩
theorem Gw (c M:Nat)(t1 c1 t2 c2 t3 c3 v:V_)(w0 w:Z)(h:dD w0 t1 c1 t2 c2 t3 c3 (bW 1))(aT:dp w0)(hB:Bw_ w0 w)(hr:RR w v cV)(bX:w0.heap.size≤M)(bm:CC w c M)(hm:CM KT w M 0 []):C_ 18 #[bM t1 c1 t2 c2 t3 c3 (bW 1),cP c,v] w fun e w'=>((∃ a cp,e=.returned (.tuple #[.slice a 1 cp,.agg #[F 0,F 1,F 1],.string ⟨#[]⟩,F 0])∧RP w' (.slice a 1 cp) [([97],[54])])∧CM KT w' M uj.length uj∧Chg (fun k=>k=M) w w'):=by
 have ap:=nj (Uk:=[[97]]) (V:=V24) (K:=KT) c M t1 c1 t2 c2 t3 c3 v (bW 1) cV [] w0 w h aT hB hr bX bm hm (fun _ _=>trivial) d_ nE zO CX pn d_ tw;refine ap.mono ?_;rintro e w'⟨⟨a,cp,rfl,h1⟩,h2,h3⟩;rw[Hc]at h1⊢;exact⟨⟨a,cp,rfl,h1⟩,h2,h3⟩
theorem Gv (c M:Nat)(t1 c1 t2 c2 t3 c3 v:V_)(w0 w:Z)(h:dD w0 t1 c1 t2 c2 t3 c3 (bW 1))(aT:dp w0)(hB:Bw_ w0 w)(hr:RR w v cV)(bX:w0.heap.size≤M)(bm:CC w c M)(hm:CM KT w M uj.length uj):C_ 18 #[bM t1 c1 t2 c2 t3 c3 (bW 1),cP c,v] w fun e w'=>((∃ a cp,e=.returned (.tuple #[.slice a 1 cp,.agg #[F 1,F 0,F 0],.string ⟨#[]⟩,F 0])∧RP w' (.slice a 1 cp) [([97],[54])])∧CM KT w' M oU.length oU∧Chg (fun k=>k=M) w w'):=by
 have ap:=nj (Uk:=[[97]]) (V:=V24) (K:=KT) c M t1 c1 t2 c2 t3 c3 v (bW 1) cV uj w0 w h aT hB hr bX bm hm (fun _ _=>trivial) d_ nE zO CW pn d_ tw;refine ap.mono ?_;rintro e w'⟨⟨a,cp,rfl,h1⟩,h2,h3⟩;rw[show(ez (bW 1) cV uj).1=_ from Hb]at h1⊢;exact⟨⟨a,cp,rfl,h1⟩,h2,h3⟩
theorem Gu (c M:Nat)(t1 c1 t2 c2 t3 c3 v:V_)(w0 w:Z)(h:dD w0 t1 c1 t2 c2 t3 c3 rG)(aT:dp w0)(hB:Bw_ w0 w)(hr:RR w v [[]])(bX:w0.heap.size≤M)(bm:CC w c M)(hm:CM KT w M oU.length oU):C_ 18 #[bM t1 c1 t2 c2 t3 c3 rG,cP c,v] w fun e w'=>((∃ a cp,e=.returned (.tuple #[.slice a 0 cp,.agg #[F 0,F 0,F 0],.string ⟨#[]⟩,F 2]))∧CM KT w' M oU.length oU∧Chg (fun k=>k=M) w w'):=by
 have hV:∀ n,cN rG ((aJ (aC rG [] [[]]).1).getD n ([],[])).1∈V24:=by
  intro n;rw[show aC rG [] [[]]=([],2) by decide +kernel,rb];exact Jn ..
 have ap:=nj (Uk:=[[97]]) (V:=V24) (K:=KT) c M t1 c1 t2 c2 t3 c3 v rG [[]] oU w0 w h aT hB hr bX bm hm (fun _ _=>trivial) d_ (by intro r hr;rw[Jp.1 hr];decide) (by intro r hr;rw[Jp.1 hr];exact dC.nil _) Gq hV d_ tw;refine ap.mono ?_;rw[Ha];rintro e w'⟨⟨a,cp,rfl,h1⟩,h2,h3⟩;exact⟨⟨a,cp,rfl⟩,h2,h3⟩
theorem Ic (t1 c1 t2 c2 t3 c3:V_)(w:Z)(h:dD w t1 c1 t2 c2 t3 c3 (bW 1)):R_ 14 #[bM t1 c1 t2 c2 t3 c3 (bW 1),.string ⟨#[120]⟩] w (.tuple #[.string ⟨#[]⟩,F 2]):=by
 have ap:=np t1 c1 t2 c2 t3 c3 (bW 1) [120] w h d_;rw[G9]at ap;exact ap
structure A24 (W2 W:Z) (v:V_):Prop where
 b:Bw_ W2 W
 r:RR W v cV
 c:CC W (W2.heap.size+1) W2.heap.size
theorem A24.below {W2 W W':Z}{v:V_}(h:A24 W2 W v)(hB:Bw_ W W'):A24 W2 W' v:=⟨bt h.b hB,h.r.below hB,h.c.below hB⟩
theorem A24.chg {W2 W W':Z}{v:V_}(h:A24 W2 W v){n:Nat}{I:LE_}(hm:CM KT W W2.heap.size n I)(hc:Chg (fun k=>k=W2.heap.size) W W'):A24 W2 W' v :=
 ⟨h.b.trans (hc.below (fun k hk=>by rw[show k=W2.heap.size from hk];exact I6 _) h.b.size),h.r.overM hm.map hc,h.c.chg hc Y⟩
theorem xl (w:Z)(hE:lL w)(hg:0<w.heap.size)(hG:dS w)(aT:dp w):R_ 6 #[] w (.bool true):=by
 have HC:=O (Cq 1 w);have HJ:=O (fun e w' (hB:Bw_ w w') (hc:uB 1 w.heap.size e w')=>hc.job d_ d_ (hE.below hB hg) (Jr hg hB.size) (hG.below hB));have Q:=O (fun w' (hB:Bw_ w w')=>aT.below hB)
 have aJ:=O (fun w' (hB:Bw_ w w')=>show dD w' (e_) (e_) (e_) (e_) (e_) (e_) rG from
   ⟨⟨Rec.Row.nil _,Rec.Row.nil _,Jl _,Jl _,fun s hs=>yzA,hE.below hB hg,Jr hg hB.size⟩,⟨Rec.Row.nil _,Rec.Row.nil _,Jl _,Jl _,fun s hs=>yzA,hE.below hB hg,Jr hg hB.size⟩,
    ⟨Rec.Row.nil _,Rec.Row.nil _,Jl _,Jl _,fun s hs=>yzA,hE.below hB hg,Jr hg hB.size⟩,by decide,by decide,by decide,by decide,hG.below hB⟩)
 clear hE hg hG aT;go_enter func6,ntmps6;go_upto_region 2 with(go_at_call 28;refine HC.o.mono ?_;rintro e w1⟨hc,aF⟩;obtain⟨a1,k1,a2,k2,a3,k3,rfl,hj⟩:=HJ.o e w1 aF hc;have a_:=O aF;have cg:=O hj;clear hc aF hj HC HJ);obtain⟨W2,ae⟩:=H (w1.alloc (.cells #[e_,.slice a1 4 k1,e_,.slice a2 6 k2,e_,.slice a3 3 k3,F 1,F 100] 27));obtain⟨B,Y⟩:=H w1.heap.size;have aY:=ba_ ae;have hx:=bn_ Y ae;obtain⟨HX,a4,a9⟩:=zH3 hx (cg.o.below aY) (bt a_.o aY);rw[←ae,←Y];clear ae Y aY hx;go_upto_region 4 with(go_at_call 17;refine(xf W2).mono ?_;rintro e w3⟨rfl,bm,aI,al⟩;obtain⟨bz,bO,aW⟩:=zH3 bm (aI KT) al;clear bm aI al);obtain⟨v,hv⟩:=H (Value.slice (some ⟨w3.heap.size+1+1+1,0,none⟩) 3 3);obtain⟨W4,bw⟩:=H (((((w3.alloc (.cells #[.string ⟨#[97]⟩,.string ⟨#[49]⟩] 64)).alloc (.cells #[.string ⟨#[97]⟩,.string ⟨#[50]⟩] 64)).alloc (.cells #[.string ⟨#[97]⟩,.string ⟨#[51]⟩] 64)).alloc (.cells #[.slice (some ⟨w3.heap.size,0,none⟩) 1 1,.slice (some ⟨w3.heap.size+1,0,none⟩) 1 1,.slice (some ⟨w3.heap.size+1+1,0,none⟩) 1 1] 29)));have q1:=af w3 (.cells #[.string ⟨#[97]⟩,.string ⟨#[49]⟩] 64);obtain⟨Wa,bG⟩:∃ W,W=w3.alloc (.cells #[.string ⟨#[97]⟩,.string ⟨#[49]⟩] 64):=⟨_,rfl⟩
 obtain⟨Wb,k⟩:∃ W,W=Wa.alloc (.cells #[.string ⟨#[97]⟩,.string ⟨#[50]⟩] 64):=⟨_,rfl⟩
 obtain⟨Wc,n⟩:∃ W,W=Wb.alloc (.cells #[.string ⟨#[97]⟩,.string ⟨#[51]⟩] 64):=⟨_,rfl⟩
 rw[←bG,←k,←n]at bw;rw[←bG,←k,←n,←hv,←bw];have za:Wa.heap.size=w3.heap.size+1:=by rw[bG];simp
 have zb:Wb.heap.size=w3.heap.size+1+1:=by rw[k];simp[za]
 have zc:Wc.heap.size=w3.heap.size+1+1+1:=by rw[n];simp[zb]
 have b1:=ba_ bG;have b2:=ba_ k;have b3:=ba_ n;have b4:=ba_ bw
 have S:RR W4 v cV:=by
  have r1:RP Wa (.slice (some ⟨w3.heap.size,0,none⟩) 1 1) [([97],[49])]:=by rw[bG];exact RP.new w3 [([97],[49])] 64
  have r2:RP Wb (.slice (some ⟨w3.heap.size+1,0,none⟩) 1 1) [([97],[50])]:=by rw[←za,k];exact RP.new Wa [([97],[50])] 64
  have r3:RP Wc (.slice (some ⟨w3.heap.size+1+1,0,none⟩) 1 1) [([97],[51])]:=by rw[←zb,n];exact RP.new Wb [([97],[51])] 64
  rw[hv,←zc,bw];exact RR.three 29 (r1.below (bt b2 b3)) (r2.below b3) r3
 have t:Bw_ w3 W4:=bt b1 (bt b2 (bt b3 b4));have HA:=O (show A24 W2 W4 v from⟨bt aW.o t,S,bz.o.below t⟩);have HM:=O (bO.o.below t);have f:=HX.o.below HA.o.b;obtain⟨x0,x1,x2,x3,x4,x5,x6,x7⟩:=cl8 f;clear f;have dR:v=.slice (some ⟨w3.heap.size+1+1+1,0,none⟩) 3 3:=hv;clear hv bw q1 bG k n za zb zc b1 b2 b3 b4 S t bz bO aW;clear dR;go_upto_region 5 with(go_at_call 29;refine(Gn _ _ _ _ _ _ v W4 (a4.o.below HA.o.b) HA.o.r).mono ?_;rintro e w5⟨⟨a5,c5,rfl⟩,aN⟩;have o:=O (HA.o.below aN);have q:=O (HM.o.below aN);clear aN HA HM;clear x0 x1 x2 x3 x4 x5 x6 x7;have f:=HX.o.below o.o.b;obtain⟨x0,x1,x2,x3,x4,x5,x6,x7⟩:=cl8 f;clear f);obtain⟨T,hT⟩:=H w5.heap.size;obtain⟨W5,aE⟩:∃ W,W=w5.alloc (.cells #[.slice a5 4 c5,F 3] 68):=⟨_,rfl⟩
 rw[←aE,←hT];have b5:=ba_ aE;have HT:=O (show Blk W5 T 68 [.slice a5 4 c5,F 3] by rw[aE,hT];exact Blk.new _ _ _);have m:=O (show W2.heap.size+2≤T by have ap:=o.o.c.lt;omega);have HA:=O (o.o.below b5);have HM:=O (q.o.below b5);clear hT aE b5 o q;clear x0 x1 x2 x3 x4 x5 x6 x7;have f:=HX.o.below HA.o.b;obtain⟨x0,x1,x2,x3,x4,x5,x6,x7⟩:=cl8 f;clear f;go_upto_region 6 with(go_at_call 18;refine(Gw _ W2.heap.size _ _ _ _ _ _ v W2 W5 a4.o (Q.o _ a9.o) HA.o.b HA.o.r (I6 _) HA.o.c HM.o).mono ?_;rintro e w6⟨⟨a6,c6,rfl,bD⟩,aB,b0⟩;have u:=O (HA.o.chg HM.o b0);have i:=O aB;have ag:=O (HT.o.chg b0 (by have:=m.o;omega));have bu:=O bD;clear bD aB b0 HA HM HT;clear x0 x1 x2 x3 x4 x5 x6 x7;have f:=HX.o.below u.o.b;obtain⟨x0,x1,x2,x3,x4,x5,x6,x7⟩:=cl8 f;clear f);obtain⟨X,hX⟩:=H w6.heap.size;obtain⟨W6,g⟩:∃ W,W=w6.alloc (.cells #[F 0,F 1,F 1] 55):=⟨_,rfl⟩
 rw[←g,←hX];have b6:=ba_ g;have b:=O (show Blk W6 X 55 [F 0,F 1,F 1] by rw[g,hX];exact Blk.new _ _ _);have ab:=O (show W2.heap.size+2≤X by have ap:=u.o.c.lt;omega);obtain⟨HA,HM,HT,HR⟩:=zH4 (u.o.below b6) (i.o.below b6) (ag.o.below b6) (bu.o.below b6);clear hX g b6 u i ag bu;clear x0 x1 x2 x3 x4 x5 x6 x7;have f:=HX.o.below HA.o.b;obtain⟨x0,x1,x2,x3,x4,x5,x6,x7⟩:=cl8 f;clear f;go_upto_region 7 with(go_at_call 18;refine(Gv _ W2.heap.size _ _ _ _ _ _ v W2 W6 a4.o (Q.o _ a9.o) HA.o.b HA.o.r (I6 _) HA.o.c HM.o).mono ?_;rintro e w7⟨⟨a7,c7,rfl,aG⟩,ah,ai⟩;have a':=O (HA.o.chg HM.o ai);have aZ:=O ah;have cK:=O (HT.o.chg ai (by have:=m.o;omega));have ak:=O (b.o.chg ai (by have:=ab.o;omega));have ck:=O (HR.o.overM HM.o.map ai);have bl:=O aG;clear aG ah ai HA HM HT b HR;clear x0 x1 x2 x3 x4 x5 x6 x7;have f:=HX.o.below a'.o.b;obtain⟨x0,x1,x2,x3,x4,x5,x6,x7⟩:=cl8 f;clear f);obtain⟨aa,hY⟩:=H w7.heap.size;obtain⟨W7,ao⟩:∃ W,W=w7.alloc (.cells #[F 1,F 0,F 0] 55):=⟨_,rfl⟩
 rw[←ao,←hY];have b7:=ba_ ao;have a:=O (show Blk W7 aa 55 [F 1,F 0,F 0] by rw[ao,hY];exact Blk.new _ _ _);have am:=O (show W2.heap.size+2≤aa by have ap:=a'.o.c.lt;omega);have b8:Bw_ W7 (W7.alloc (.cells #[e_] 29)):=af _ _;have d:=bt b7 b8;obtain⟨HA,HM,HT,HR,HS,b,a⟩:=zH7 (a'.o.below d) (aZ.o.below d) (cK.o.below d) (ck.o.below d) (bl.o.below d) (ak.o.below d) (a.o.below b8);have aq:=O (show RR (W7.alloc (.cells #[e_] 29)) (.slice (some ⟨W7.heap.size,0,none⟩) 1 1) [[]] from RR.oneI (RP.nil W7));clear hY ao b7 b8 d a' aZ cK ck bl ak;clear x0 x1 x2 x3 x4 x5 x6 x7;have f:=HX.o.below HA.o.b;obtain⟨x0,x1,x2,x3,x4,x5,x6,x7⟩:=cl8 f;clear f;go_upto_region 8 with(go_at_call 18;refine(Gu _ W2.heap.size _ _ _ _ _ _ _ W2 _ (aJ.o _ a9.o) (Q.o _ a9.o) HA.o.b aq.o (I6 _) HA.o.c HM.o).mono ?_;rintro e w8⟨⟨a8,c8,rfl⟩,aP,l⟩;have b9:=O (HA.o.chg HM.o l);have cT:=O (HT.o.chg l (by have:=m.o;omega));have av:=O (b.o.chg l (by have:=ab.o;omega));have aw:=O (a.o.chg l (by have:=am.o;omega));have cW:=O (HR.o.overM HM.o.map l);have cX:=O (HS.o.overM HM.o.map l);clear aP l HA HM HT b a HR HS aq;clear x0 x1 x2 x3 x4 x5 x6 x7;have f:=HX.o.below b9.o.b;obtain⟨x0,x1,x2,x3,x4,x5,x6,x7⟩:=cl8 f;clear f);have b8:=af w8 (.cells #[F 0,F 0,F 0] 55);obtain⟨W8,br⟩:∃ W,W=w8.alloc (.cells #[F 0,F 0,F 0] 55):=⟨_,rfl⟩
 rw[←br]at b8⊢;obtain⟨HA,HT,HR,HS,b,a⟩:=zH6 (b9.o.below b8) (cT.o.below b8) (cW.o.below b8) (cX.o.below b8) (av.o.below b8) (aw.o.below b8);clear br b8 b9 cT cW cX av aw;clear x0 x1 x2 x3 x4 x5 x6 x7;have f:=HX.o.below HA.o.b;obtain⟨x0,x1,x2,x3,x4,x5,x6,x7⟩:=cl8 f;clear f;go_upto_region 9 with(go_at_call 14;refine(Ic _ _ _ _ _ _ W8 (a4.o.below HA.o.b)).mono ?_;rintro e w9⟨rfl,az⟩;obtain⟨ax,ay,aA,aC,ad,aD⟩:=zH6 (HA.o.below az) (HT.o.below az) (b.o.below az) (a.o.below az) (HR.o.below az) (HS.o.below az);clear az HA HT b a HR HS);clear x0 x1 x2 x3 x4 x5 x6 x7;have ht:=ay.o;obtain⟨t0,t1⟩:=cl2 ht;have hy:=aA.o;obtain⟨y0,y1⟩:=cl2 hy;have hz:=aC.o;obtain⟨z0,z1,z2⟩:=cl3 hz;clear ht hy hz ay aA aC m ab am;have qe:=fun w:Z=>BX 1 0 0 1 0 0 w;have qg:=fun (w:Z) (x y:Operand) (xs D:AV_)=>run_eqGuard_agg (P:=prog) w .eql 55 x y xs D sQ
 have aj:=O (fun w' (va:V_) (hv:RP w' va [([97],[54])])=>show C_ 20 #[va,.slice (some ⟨w'.heap.size,0,none⟩) 1 1] (w'.alloc (.cells #[.string ⟨#[97]⟩,.string ⟨#[54]⟩] 64)) fun e bc=>e=.returned (.bool true)∧Bw_ w' bc by
  have au:=af w' (.cells #[.string ⟨#[97]⟩,.string ⟨#[54]⟩] 64);have h:=ii va _ [([97],[54])] [([97],[54])] _ (hv.below au) (RP.new w' [([97],[54])] 64) d_ d_;rw[decide_eq_true rfl]at h;exact h.mono fun e bc h=>⟨h.1,bt au h.2⟩)
 have cL:=O (fun w' (va vb:V_) (hv:RP w' va [([97],[54])]) (bI:RP w' vb [([97],[54])])=>show C_ 20 #[va,vb] w' fun e bc=>e=.returned (.bool true)∧Bw_ w' bc by
  have h:=ii va vb [([97],[54])] [([97],[54])] w' hv bI d_ d_;rw[decide_eq_true rfl]at h;exact h)
 go_wp2_with (first
  | (go_at_call 20;refine(aj.o w9 _ ad.o).mono ?_;rintro e cy⟨rfl,hB⟩;obtain⟨z,E,L⟩:=zH3 (ax.o.below hB) (ad.o.below hB) (aD.o.below hB);replace t0:=IF hB t0;replace t1:=IF hB t1;replace y0:=IF hB y0;replace y1:=IF hB y1;replace z0:=IF hB z0;replace z1:=IF hB z1;replace z2:=IF hB z2;clear hB ax ad aD)
  | (go_at_call 20;refine(cL.o cy _ _ E.o L.o).mono ?_;rintro e dv⟨rfl,hB⟩;have aH:=O (z.o.below hB);replace t0:=IF hB t0;replace t1:=IF hB t1;replace y0:=IF hB y0;replace y1:=IF hB y1;replace z0:=IF hB z0;replace z1:=IF hB z1;replace z2:=IF hB z2;clear hB z E L))
 go_ret;exact⟨rfl,bt a9.o aH.o.b⟩
section
open Go.RowKit Oct Go.WideMaps Go.Maps
theorem StU.drop {U V:LL_}{I:LE_}(h:StU U V ⟨I,0,0,0⟩)(k:q):StU U V ⟨bo I k,0,0,0⟩:=⟨iH.drop h.rise k,fun x hx=>h.rows x (iR hx)⟩
theorem RP.notOne {w:Z}{v:V_}{p:LP_}(h:RP w v p)(aI:p≠[]){b:Nat}(hb:v.ownBlock=some b){T:T_}{a:OA_}{n c:Nat}:¬Blk w b T [.slice a n c]:=by
 obtain⟨⟨a,ah,rfl,hn,hc⟩,_⟩:=h
 cases p with
 | nil=>exact absurd rfl aI
 | cons ap d =>
  obtain⟨b',aL,ha,hu⟩:=hc 0 (s_ ap.1) rfl;subst ha
  cases (show some b'=some b from hb)
  intro hB;unfold Blk at hB;rw[World.cell?,hB]at hu;simp at hu;rcases Nat.lt_or_ge aL 1 with h3|h3
  ·have:aL=0:=Y
   subst this;simp at hu
  ·rw[List.getElem?_eq_none (by simpa using h3)]at hu
   cases hu
theorem RC.blk {K:Nat→Prop}{w:Z}{r:Nat}{I:LE_}(h:RC K w r I):∃ a n c,Blk w r 51 [.slice a n c]:=by
 obtain⟨lv,aF,h1,h2,_⟩:=h;obtain⟨a,c,rfl,-,-⟩:=h2.row.open;exact⟨_,_,_,h1⟩
theorem RP.overR {K:Nat→Prop}{w w':Z}{r:Nat}{I:LE_}{v:V_}{p:LP_}(h:RP w v p)(hr:RC K w r I)(hc:Chg (fun b=>b=r) w w'):RP w' v p :=
 h.chg hc fun aI b hb e=>by
  obtain⟨a,n,c,hB⟩:=hr.blk;subst e;exact h.notOne aI hb hB
theorem CM.notMap {K:Nat→Prop}{w:Z}{M n:Nat}{I:LE_}(h:CM K w M n I){B:Nat}(hB:∃ I cl,w.heap[B]?=some (.map I cl)):CM (fun b=>K b∧b≠B) w M n I:=by
 obtain⟨D,h1,h2,h3,h4⟩:=h;refine⟨D,h1,h2,h3,fun k r hr=>?_⟩;obtain⟨v,h5,h6⟩:=h4 k r hr;refine⟨v,h5,h6.1,fun aI b hb=>⟨h6.2 aI b hb,fun e=>?_⟩⟩;obtain⟨xs,cl,hx⟩:=hB;subst e;exact h6.1.notMap aI hb hx
structure S24 (W1:Z) (r:Nat) (U V:LL_) (eC eR:LE_) (c M:Nat) (W:Z):Prop where
 b:Bw_ W1 W
 cc:CC W c M
 cm:CM (fun b=>b≠r) W M eC.length eC
 rc:RC (fun _=>True) W r eR
 sC:StU U V ⟨eC,0,0,0⟩
 sR:StU U V ⟨eR,0,0,0⟩
 n1:W1.heap.size≤M
 n2:W1.heap.size≤c
 n3:W1.heap.size≤r
 n4:M≠r
 n5:c≠M
 n6:c≠r
 ul:U.length≤2000
 vl:V.length≤10000
 vk:∀ x∈V,x.length≤200
variable {W1 W W':Z}{r c M:Nat}{U V:LL_}{eC eR I:LE_}
theorem S24.lenC (h:S24 W1 r U V eC eR c M W):eC.length≤10000:=Jc h.sC.len h.vl
theorem S24.lenR (h:S24 W1 r U V eC eR c M W):eR.length≤10000:=Jc h.sR.len h.vl
theorem S24.below (h:S24 W1 r U V eC eR c M W)(hB:Bw_ W W'):S24 W1 r U V eC eR c M W' :=
 ⟨bt h.b hB,h.cc.below hB,h.cm.below hB,h.rc.below hB,h.sC,h.sR,h.n1,h.n2,h.n3,h.n4,h.n5,h.n6,h.ul,h.vl,h.vk⟩
theorem S24.chgM (h:S24 W1 r U V eC eR c M W){n:Nat}(hc:Chg (fun b=>b=M) W W')(hm:CM (fun b=>b≠r) W' M n I)(hs:StU U V ⟨I,0,0,0⟩):S24 W1 r U V I eR c M W' :=
 ⟨h.b.trans (hc.below (fun k hk=>by rw[show k=M from hk];exact h.n1) h.b.size),h.cc.chg hc h.n5,hm.tight,h.rc.chg hc (fun e=>h.n4 e.symm) (fun b _ _ hb=>by rw[show b=M from hb];exact h.cm.map),hs,h.sR,h.n1,h.n2,h.n3,h.n4,h.n5,h.n6,h.ul,h.vl,h.vk⟩
theorem S24.chgR (h:S24 W1 r U V eC eR c M W)(hc:Chg (fun b=>b=r) W W')(hm:RC (fun _=>True) W' r I)(hs:StU U V ⟨I,0,0,0⟩):S24 W1 r U V eC I c M W' :=
 ⟨h.b.trans (hc.below (fun k hk=>by rw[show k=r from hk];exact h.n3) h.b.size),h.cc.chg hc h.n6,h.cm.chg hc h.n4 (fun _ hb e=>hb e),hm,h.sC,hs,h.n1,h.n2,h.n3,h.n4,h.n5,h.n6,h.ul,h.vl,h.vk⟩
structure zz (j:Jb) (U V:LL_) (rows:LQ_):Prop where
 l:rows.length≤60
 t:∀ r∈rows,(texts (tx r)).length≤500000000∧r.length≤1000000
 u:∀ r∈rows,dC U r
 v:∀ n,cN j ((aJ (aC j [] rows).1).getD n ([],[])).1∈V
theorem EW (h:S24 W1 r U V I eR c M W)(t1 c1 t2 c2 t3 c3 v:V_)(j:Jb)(ac:LQ_)(hj:dD W1 t1 c1 t2 c2 t3 c3 j)(aT:dp W1)(hr:RR W v ac)(hb:zz j U V ac):C_ 18 #[bM t1 c1 t2 c2 t3 c3 j,cP c,v] W fun e w'=>(∃ a cp,e=.returned (.tuple #[.slice a (ez j ac I).1.1.length cp,.agg #[F (ez j ac I).1.2.1.1,F (ez j ac I).1.2.1.2.1,F (ez j ac I).1.2.1.2.2],s_ (ez j ac I).1.2.2.1,F (ez j ac I).1.2.2.2])∧RP w' (.slice a (ez j ac I).1.1.length cp) (ez j ac I).1.1) ∧S24 W1 r U V (ez j ac I).2 eR c M w'∧Chg (fun b=>b=M) W w':=by
 refine(nj c M t1 c1 t2 c2 t3 c3 v j ac I W1 W hj aT h.b hr h.n1 h.cc h.cm (fun b hb=>by have:=h.rc.lt;omega) hb.l hb.t hb.u h.sC hb.v h.ul h.vl).mono ?_;rintro e w'⟨h1,h2,h3⟩;exact⟨h1,h.chgM h3 h2 (pT h.ul j ac I hb.u h.sC hb.v).2,h3⟩
theorem Db (h:S24 W1 r U V eC I c M W)(t1 c1 t2 c2 t3 c3 v:V_)(j:Jb)(ac:LQ_)(hj:dD W1 t1 c1 t2 c2 t3 c3 j)(hr:RR W1 v ac)(hb:zz j U V ac):C_ 19 #[bM t1 c1 t2 c2 t3 c3 j,rP r,v] W fun e w'=>(∃ a cp,e=.returned (.tuple #[.slice a (ez j ac I).1.1.length cp,.agg #[F (ez j ac I).1.2.1.1,F (ez j ac I).1.2.1.2.1,F (ez j ac I).1.2.1.2.2],s_ (ez j ac I).1.2.2.1,F (ez j ac I).1.2.2.2])∧RP w' (.slice a (ez j ac I).1.1.length cp) (ez j ac I).1.1) ∧S24 W1 r U V eC (ez j ac I).2 c M w'∧Chg (fun b=>b=r) W w':=by
 refine(ym r t1 c1 t2 c2 t3 c3 v j ac I W1 W hj hr h.b h.n3 h.rc (fun _ _=>trivial) hb.l hb.t hb.u h.sR hb.v h.ul h.vl).mono ?_;rintro e w'⟨h1,h2,h3⟩;exact⟨h1,h.chgR h3 h2 (pT h.ul j ac I hb.u h.sR hb.v).2,h3⟩
theorem uY (h:S24 W1 r U V I eR c M W)(k:q)(hk:k.length≤140737488355328):C_ 9 #[cP c,s_ k] W fun e w'=>e=.returned (.bool (aM I k).isSome)∧S24 W1 r U V (bo I k) eR c M w'∧Chg (fun b=>b=M) W w':=by
 refine(Cf c M I.length I k W h.cc h.cm hk).mono ?_;rintro e w'⟨h1,h2,h3⟩;exact⟨h1,h.chgM h3 h2 (h.sC.drop k),h3⟩
theorem AX (h:S24 W1 r U V eC I c M W)(k:q):C_ 22 #[rP r,s_ k] W fun e w'=>e=.returned (.bool (aM I k).isSome)∧S24 W1 r U V eC (bo I k) c M w'∧Chg (fun b=>b=r) W w':=by
 refine(p7 k W h.rc (fun _ _=>trivial) (by have:=h.lenR;omega)).mono ?_;rintro e w'⟨h1,h2,h3⟩;exact⟨h1,h.chgR h3 h2 (h.sR.drop k),h3⟩
theorem EX (h:S24 W1 r U V I eR c M W)(k:q)(v:V_)(row:LP_)(hk:k∈V)(hv:RP W v row)(hr:dC U row):C_ 8 #[cP c,s_ k,v] W fun e w'=>e=.returned (F 0)∧S24 W1 r U V (dm I k row) eR c M w'∧Chg (fun b=>b=M) W w':=by
 refine(qY c M I.length I k v row W h.cc h.cm (by have:=h.vk k hk;omega) hv (by have:=hr.2;omega) (by have:=h.lenC;omega) (fun b hb=>by have:=h.rc.lt;omega)).mono ?_;rintro e w'⟨h1,h2,h3⟩;exact⟨h1,h.chgM h3 h2 (h.sC.put hk hr 0 0 0),h3⟩
theorem Dc (h:S24 W1 r U V eC I c M W)(k:q)(v:V_)(row:LP_)(hk:k∈V)(hv:RP W1 v row)(hr:dC U row):C_ 23 #[rP r,s_ k,v] W fun e w'=>e=.returned (.tuple #[])∧S24 W1 r U V eC (dm I k row) c M w'∧Chg (fun b=>b=r) W w':=by
 refine(sf k v row W h.rc (fun _ _=>trivial) h.sR.rise ((Aw.of hv (K:=fun b=>b≠r) (fun b hb=>by have:=h.n3;omega)).below h.b) (by have:=h.lenR;omega) (by have:=hr.2;omega)).mono ?_;rintro e w'⟨h1,h2,h3⟩;exact⟨h1,h.chgR h3 h2 (h.sR.put hk hr 0 0 0),h3⟩
theorem EY (h:S24 W1 r U V I eR c M W)(k:q)(hk:k.length≤140737488355328):C_ 7 #[cP c,s_ k] W fun e w'=>(∃ a cp,e=.returned (.tuple #[.slice a ((aM I k).getD []).length cp,.bool (aM I k).isSome])∧RP w' (.slice a ((aM I k).getD []).length cp) ((aM I k).getD []))∧Bw_ W w':=by
 refine(ns c M I.length I k W h.cc h.cm hk (by
  cases hg:aM I k with
  | none=>simp
  | some x=>have:=(StU.get h.sC hg).2;simp;omega)).mono ?_
 rintro e w'⟨⟨v,rfl,h1⟩,h2⟩;have h3:=h1.reads;obtain⟨a,cp,rfl,-,-⟩:=h3.open;exact⟨⟨a,cp,rfl,h3⟩,h2⟩
theorem Dd (h:S24 W1 r U V eC I c M W)(k:q):C_ 24 #[rP r,s_ k] W fun e w'=>(∃ a cp,e=.returned (.tuple #[.slice a ((aM I k).getD []).length cp,.bool (aM I k).isSome])∧RP w' (.slice a ((aM I k).getD []).length cp) ((aM I k).getD []))∧Bw_ W w':=by
 refine(lk r I k W h.rc (by have:=h.lenR;omega)).mono ?_;rintro e w'⟨⟨v,rfl,h1⟩,h2⟩
 have h3:RP w' v ((aM I k).getD []):=by
  cases hg:aM I k with
  | some x=>rw[hg]at h1;exact h1.1
  | none=>rw[hg]at h1;rw[show v=e_ from h1];exact RP.nil w'
 obtain⟨a,cp,rfl,-,-⟩:=h3.open;exact⟨⟨a,cp,rfl,h3⟩,h2⟩
theorem De (h:S24 W1 r U V eC I c M W):C_ 21 #[rP r] W fun e w'=>(∃ a cp,e=.returned (.slice a (I.map (·.1)).length cp)∧aP.Row w' (.slice a (I.map (·.1)).length cp) (I.map (·.1)))∧Bw_ W w':=by
 refine(p6 r I W h.rc (by have:=h.lenR;omega)).mono ?_;rintro e w'⟨⟨v,rfl,h1⟩,h2⟩;have h3:=h1.row;obtain⟨a,cp,rfl,-,-⟩:=au h3;exact⟨⟨a,cp,rfl,h3⟩,h2⟩
theorem ij (h:S24 W1 r U V I I c M W):R_ 25 #[cP c,rP r] W (.bool true):=
 xS c M r I W h.cc h.cm h.rc h.lenC (fun x hx=>⟨by have:=h.vk _ (h.sC.rows x hx).1;omega,(h.sC.rows x hx).2.2⟩)
theorem Df (h:S24 W1 r U V I eR c M W):C_ 11 #[cP c] W fun e w'=>∃ c',e=.returned (cP c')∧(∃ a,∀ bc,Chg (fun b=>b=M) w' bc→S24 W1 r U V I eR c' a bc)∧S24 W1 r U V I eR c M w'∧Bw_ W w':=by
 refine(Cg c M I.length I W h.cc h.cm).mono ?_;rintro e w'⟨c',a,rfl,h1,h2,h3,h4,h5⟩;have hw:=h.below h5;refine⟨c',rfl,⟨a,fun bc hc=>?_⟩,hw,h5⟩;have aM:=h.cm.lt;have ad:=h.rc.lt;have hs:=h.b.size
 have aI:c'≠a:=by
  intro e;obtain⟨xs,cl,hx⟩:=h2.map;rw[←e]at hx;have:=h1;unfold CC Blk at this;rw[this]at hx
  cases hx
 have h6:=(h2.notMap hw.cm.map).chg hc (by show ¬a=M;omega) (fun b hb e=>hb.2 e);exact⟨hw.b.trans (hc.below (fun k hk=>by rw[show k=M from hk];exact h.n1) hw.b.size),h1.chg hc (by show ¬c'=M;omega),h6.mono (fun _ _ ap=>ap.1),(hw.rc.chg hc (by show ¬r=M;have:=h.n4;omega) (fun b _ _ hb=>by rw[show b=M from hb];exact hw.cm.map)),h.sC,h.sR,by omega,by omega,h.n3,by omega,aI,by omega,h.ul,h.vl,h.vk⟩
end
def U24 (l:List Stp):LL_:=l.flatMap fun s=>if s.act=0 then s.rows.flatten.map (·.1) else s.row.map (·.1)
def W24 (j:Jb)(l:List Stp):LL_:=l.flatMap fun s=>s.key::lQ j (aJ (aC j [] s.rows).1)
theorem mj {α β:Type}(f:α→List β)(b:Nat):∀ (l:List α),(∀ s∈l,(f s).length≤b)→(l.flatMap f).length≤l.length*b
 | [],_=>by simp
 | x::l,h=>by
  have h1:=mj f b l (fun s hs=>h s (Jo _ hs));have h2:=h x (Jn ..);rw[List.flatMap_cons,Jh,Jq,Nat.succ_mul];omega
theorem uO:∀ (ac:LQ_),(∀ r∈ac,r.length≤200)→ac.flatten.length≤t18 ac
 | [],_=>by simp
 | x::l,h=>by
  have h1:=uO l (fun s hs=>h s (Jo _ hs));have h2:=h x (Jn ..);have h3:=Ej (x.take 200);have e:t18 (x::l)=c18 (x.take 200)+t18 l:=by simp[t18]
  rw[I5 h2]at h3 e;rw[List.flatten_cons,Jh,e];omega
theorem oO (ac:LQ_)(h:fL ac=false):ac.flatten.length≤100:=by
 have h0:=fx ac h;have h1:=uO ac (fun r hr=>Jc (h0.2 r hr).1 d_);simp[fL]at h;have h2:=h.2;rw[I5 Y]at h2;omega
theorem rV (b:Nat):∀ (r:LP_),(∀ p∈r,p.1.length+p.2.length≤b)→(texts (tx r)).length≤r.length*(b+4)
 | [],_=>by simp[texts,tx]
 | x::l,h=>by
  have h1:=rV b l (fun s hs=>h s (Jo _ hs));have h2:=h x (Jn ..);rw[Jq,Nat.succ_mul];simp[texts,tx]at h1⊢;omega
theorem uL {r:LP_}(hl:r.length≤100)(h:∀ p∈r,p.1.length≤6400∧p.2.length≤6400):(texts (tx r)).length≤500000000:=by
 have h1:=rV 12800 r (fun p hp=>by have:=h p hp;omega);have h2:r.length*12804≤100*12804:=JO _ hl;omega
theorem FK {j:Jb}{l:List Stp}(h:uz j l):(U24 l).length≤2000:=by
 have h1:=mj (fun s:Stp=>if s.act=0 then s.rows.flatten.map (·.1) else s.row.map (·.1)) 100 l (fun s hs=>by
  obtain⟨q1,q2,q3⟩:=h.ok s hs
  by_cases e:s.act=0
  ·simp only[e,if_true,Js]
   exact oO _ q1
  ·simp only[e,if_false,Js]
   have:=oO _ q2;simpa using this)
 have h2:=h.len;have h3:l.length*100≤12*100:=JO _ h2;unfold U24;omega
theorem wB (j:Jb)(ac:LQ_)(hl:ac.length≤60):(lQ j (aJ (aC j [] ac).1)).length≤121∧∀ x∈lQ j (aJ (aC j [] ac).1),x.length≤200:=by
 by_cases hz:(aC j [] ac).2=0
 ·obtain⟨q,s2,s3⟩:=eS j ac [] hz i_
  have ht:=jF s2;rw[q]at ht;simp only[JI,I9]at ht;refine⟨?_,fun x hx=>?_⟩
  ·rw[sE]
   have:=ht.two;omega
  ·rcases JK.1 hx with rfl|hx
   ·exact(gW j [] i_).2
   ·obtain⟨y,hy,rfl⟩:=List.mem_map.1 hx
    exact(gW j y.1 (by rw[ht.ids y hy];decide)).2
 ·have e:(aC j [] ac).1=[]:=by
   have z:∀ (d:LQ_) (ag:LL_),(aC j ag d).2≠0→(aC j ag d).1=[]:=by
    intro d
    induction d with
    | nil=>intro ag h;exact absurd rfl h
    | cons r d H =>
     intro ag h
     by_cases ap:(dT j r).2=0
     ·rw[jV ap]at h⊢;exact H _ h
     ·rw[iS ap]
   exact z ac [] hz
  rw[e,rb];refine⟨by simp[lQ],fun x hx=>?_⟩;rw[show x=cN j [] by simpa[lQ] using hx];exact(gW j [] i_).2
theorem FH {j:Jb}{l:List Stp}(h:uz j l):(W24 j l).length≤10000:=by
 have h1:=mj (fun s:Stp=>s.key::lQ j (aJ (aC j [] s.rows).1)) 122 l (fun s hs=>by
  obtain⟨q1,q2,q3⟩:=h.ok s hs;have:=(wB j s.rows (by have:=(fx _ q1).1;omega)).1;rw[Jq];omega)
 have h2:=h.len;have h3:l.length*122≤12*122:=JO _ h2;unfold W24;omega
theorem FJ {j:Jb}{l:List Stp}(h:uz j l):∀ x∈W24 j l,x.length≤200:=by
 intro x hx;obtain⟨s,hs,hx⟩:=List.mem_flatMap.1 hx;obtain⟨q1,q2,q3⟩:=h.ok s hs;rcases JK.1 hx with rfl|hx
 ·exact q3
 ·exact(wB j s.rows (by have:=(fx _ q1).1;omega)).2 x hx
theorem FG {j:Jb}{l:List Stp}{s:Stp}(hs:s∈l):s.key∈W24 j l:=List.mem_flatMap.2 ⟨s,hs,Jn ..⟩
theorem Ba {j:Jb}{l:List Stp}(h:uz j l){s:Stp}(hs:s∈l)(ha:s.act=0):zz j (U24 l) (W24 j l) s.rows:=by
 obtain⟨q1,q2,q3⟩:=h.ok s hs;obtain⟨g1,g2⟩:=fx _ q1;refine⟨by omega,fun r hr=>⟨uL (g2 r hr).1 (g2 r hr).2,by have:=(g2 r hr).1;omega⟩,fun r hr=>⟨fun p hp=>⟨?_,by have:=((g2 r hr).2 p hp).2;omega⟩,by have:=(g2 r hr).1;omega⟩,fun n=>?_⟩
 ·refine List.mem_flatMap.2 ⟨s,hs,?_⟩
  simp only[ha,if_true];exact List.mem_map.2 ⟨p,List.mem_flatten.2 ⟨r,hr,hp⟩,rfl⟩
 ·exact List.mem_flatMap.2 ⟨s,hs,Jo _ (sD _ _ _)⟩
theorem Dk {j:Jb}{l:List Stp}(h:uz j l){s:Stp}(hs:s∈l)(ha:s.act≠0):dC (U24 l) s.row:=by
 obtain⟨q1,q2,q3⟩:=h.ok s hs;obtain⟨g1,g2⟩:=fx _ q2;have g3:=g2 s.row i_;refine⟨fun p hp=>⟨?_,by have:=(g3.2 p hp).2;omega⟩,by omega⟩;refine List.mem_flatMap.2 ⟨s,hs,?_⟩;simp only[ha,if_false];exact List.mem_map.2 ⟨p,hp,rfl⟩
theorem AW {j:Jb}{l:List Stp}(h:uz j l){W1 W:Z}{r c M:Nat}(hB:Bw_ W1 W)(bm:CC W c M)(aI:CM (fun b=>b≠r) W M 0 [])(hr:Blk W r 51 [e_])(n1:W1.heap.size≤M)(n2:W1.heap.size≤c)(n3:W1.heap.size≤r)(n4:M≠r)(H:c≠M)(f:c≠r):S24 W1 r (U24 l) (W24 j l) [] [] c M W :=
 ⟨hB,bm,aI,⟨_,[],hr,Rec.Own.nil _ _,fun _ _=>trivial,rfl,fun i hi=>by cases hi⟩,⟨List.Pairwise.nil,fun x hx=>by cases hx⟩,⟨List.Pairwise.nil,fun x hx=>by cases hx⟩,n1,n2,n3,n4,H,f,FK h,FH h,FJ h⟩