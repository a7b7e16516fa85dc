/- Lemmas. -/
import Derived.Test.YtfjpghgdebpliaaGreatDoorContractPlaysK16
set_option linter.unusedSimpArgs false
set_option linter.unusedVariables false
set_option maxRecDepth 100000
set_option maxHeartbeats 16000000
namespace Go.Proofs.YtfjpghgdebpliaaGreatDoor
attribute [local irreducible] wpG
open Go.Proofs.Tryz
open Go.RowKit Oct
def iK (I:LJ_)(r:LI_):Nat→LI_
 | 0=>List.replicate I.length 0
 | k+1=>if 0<r.getD k 0∧(I.getD (r.getD k 0).toNat (0,0)).1=21 then (iK I r k).set (r.getD k 0).toNat (k:Int) else iK I r k
theorem nN (I:LJ_)(r:LI_)(k:Nat):iK I r (k+1)=if 0<r.getD k 0∧(I.getD (r.getD k 0).toNat (0,0)).1=21 then (iK I r k).set (r.getD k 0).toNat (k:Int) else iK I r k:=rfl
theorem jp (I:LJ_)(r:LI_):∀ k,(iK I r k).length=I.length
 | 0=>by unfold iK;rw[JR]
 | k+1=>by
  rw[nN]
  split
  ·rw[JN,jp I r k]
  ·exact jp I r k
theorem E9 {nt ai:Nat}{ag:U8_}{E:Me}(G:fA nt ai ag E):Gi E (iK E.code E.ends E.code.length):=by
 refine⟨jp _ _ _,fun i hi ho=>?_⟩;obtain⟨j,b,ae,B,F,a,hu,-,-,-⟩:=ur G hi ho;have aO:=G.run (I6 _)
 have z:∀ k,k≤E.code.length→j<k→(iK E.code E.ends k).getD i 0=(j:Int):=by
  intro k
  induction k with
  | zero=>intro _ h;omega
  | succ k H =>
   intro hk a3;rw[nN]
   by_cases br:k=j
   ·subst br
    have aG:(E.code.getD ((i:Int)).toNat (0,0)).1=21:=by rw[Je];exact ho
    rw[a,if_pos ⟨by omega,aG⟩,Je];exact iU (by rw[jp];exact hi)
   ·have h2:=H Y Y
    split
    ·rename_i hc
     have aI:(E.ends.getD k 0).toNat≠i:=by
      intro e;have c:E.ends.getD k 0=(i:Int):=by have:=hc.1;omega
      have aE:opensV (opV E.code k)=true:=by
       rcases aO.inv.en k Y with ⟨h0,-⟩|⟨-,h,-⟩
       ·have U:E.ends.getD k 0=0:=by rw[G.ends];exact h0
        omega
       ·exact h
      exact br (hu k Y aE c)
     rw[gK aI];exact h2
    ·exact h2
 refine⟨j,z _ (I6 _) Y,by omega,?_⟩;rw[jT hu Y a];exact beq_iff_eq.symm
theorem Rec.Row.lowN {α:Type}{R:Rec α}{w w':Z}{v:V_}{l:List α}{bZ:Nat}(h:R.Row w v l)(hB:B_ bZ w w')(hX:∀ b,v.ownBlock=some b→b<bZ):R.Row w' v l:=by
 obtain⟨⟨a,ah,rfl,hn,hu⟩,h2⟩:=h;refine⟨⟨a,ah,rfl,hn,fun j u hj=>?_⟩,h2⟩;obtain⟨b,aL,rfl,y⟩:=hu j u hj;refine⟨b,aL,rfl,?_⟩;have hk:=hB.block b (hX b rfl);unfold World.cell? at y⊢;rw[hk];exact y
theorem xV {bZ:Nat}{w:Z}{G:Nat}{cs:LV_}{t:T_}(hG:bZ≤G)(hb:Blk w G t cs):Sep bZ w [aF G hG t cs,ownPt aY (e_) [],ownPt cd (e_) [],ir [],ownPt recKq (e_) []]:=by
 refine⟨fun p hp=>?_,?_⟩
 ·simp only[JK,List.not_mem_nil,or_false]at hp
  rcases hp with rfl|rfl|rfl|rfl|rfl
  ·exact hb
  ·exact Rec.Own.nil _ _
  ·exact Rec.Own.nil _ _
  ·exact⟨fun e he=>absurd he (List.not_mem_nil),List.Pairwise.nil⟩
  ·exact Rec.Own.nil _ _
 ·have hn:∀ {α:Type} (R:Rec α) (k:Nat),¬(ownPt (bZ:=bZ) R (e_) []).fp k:=fun R k hk=>by cases hk
  have hx:∀ k,¬(ir (bZ:=bZ) []).fp k:=fun k hk=>by obtain⟨e,he,_⟩:=hk;cases he
  refine List.Pairwise.cons (fun ap hq k hk H=>?_) (List.Pairwise.cons (fun ap _ k hk=>absurd hk (hn _ k)) (List.Pairwise.cons (fun ap _ k hk=>absurd hk (hn _ k)) (List.Pairwise.cons (fun ap _ k hk=>absurd hk (hx k)) (List.pairwise_singleton _ _))));simp only[JK,List.not_mem_nil,or_false]at hq;rcases hq with rfl|rfl|rfl|rfl
  ·exact hn _ k H
  ·exact hn _ k H
  ·exact hx k H
  ·exact hn _ k H
def rgN (k:Nat):LR_:=(List.range 8).map fun i=>(decide (4≤i∧i<k),0,[])
theorem Do (k:Nat):(rgN k).map (·.2)=List.replicate 8 (0,[]):=by unfold rgN;rw[List.map_map];rfl
theorem jN (f:Rf)(a:Int)(sv lv J:V_){rg:LR_}(h:rg.length=8):(cF f a sv rg lv J).length=33:=by
 obtain⟨x0,x1,x2,x3,x4,x5,x6,x7,rfl⟩:=gP h
 rfl
theorem mG (k:Nat):(rgN k).length=8:=by unfold rgN;rw[Js,List.length_range]
theorem Fl {l:LI_}{i:Nat}(h:i<l.length):l.getD i 0=l[i]:=by rw[List.getD_eq_getElem?_getD,List.getElem?_eq_getElem h];rfl
theorem EK {l:LJ_}{i:Nat}(h:i<l.length):l.getD i (0,0)=l[i]:=by rw[List.getD_eq_getElem?_getD,List.getElem?_eq_getElem h];rfl
theorem fm {w:Z}{b:Nat}{t:T_}{cs:LV_}(hx:Blk w b t cs)(k:Nat)(v0 v1 v2:V_):Blk (((w.setCell ⟨b,k,none⟩ v0).setCell ⟨b,k+1,none⟩ v1).setCell ⟨b,k+2,none⟩ v2) b t (((cs.set k v0).set (k+1) v1).set (k+2) v2)∧Chg (fun x=>x=b) w (((w.setCell ⟨b,k,none⟩ v0).setCell ⟨b,k+1,none⟩ v1).setCell ⟨b,k+2,none⟩ v2) :=
 ⟨((hx.set k v0).set (k+1) v1).set (k+2) v2,Chg.trans (Chg.trans (Chg.setCell w ⟨b,k,none⟩ v0 rfl) (Chg.setCell _ ⟨b,k+1,none⟩ v1 rfl)) (Chg.setCell _ ⟨b,k+2,none⟩ v2 rfl)⟩
theorem Ec {texts:LL_}{I:LJ_}{ag:U8_}(h:(az texts I ag).2.1=0){j:Nat}(hj:j<I.length)(h0:0<(az texts I ag).2.2.ends.getD j 0):(az texts I ag).2.2.ends.getD j 0<(I.length:Int):=by
 have hg:=(ju (texts:=texts) (I:=I) (ag:=ag) h (ins:=List.replicate (inputsV ag) []) i_ (fun s hs=>by rw[(List.mem_replicate.1 hs).2];simp)).1;have hE:(az texts I ag).2.2.ends=(stV texts.length (inputsV ag) ag I I.length).ends:=hg.ends;have hr:=(hg.run (I6 _)).inv.en j hj;rw[hE]at h0⊢;rcases hr with ⟨h1,-⟩|⟨-,-,-,h2,-⟩
 ·have h1:(stV texts.length (inputsV ag) ag I I.length).ends.getD j 0=0:=h1
  omega
 ·exact h2
theorem Lq {T:Prop} (h:T:=by
 go_wp2_with fail;go_quiet (fail);go_wp2_with fail;have D:Bw_ wr (wr.drewN nq):=II _ _;have bo:=O D;clear D;go_roundw
 case rel=>exact⟨ap+1,by omega,by go_num,by rw[bA.o];exact bj.o.below bo.o,bG.o.trans (bo.o.mono (by have:=bG.o.size;have:=HO.o;omega)),B.o.below bo.o⟩
 case measure=>simp[intOf];omega
):T:=h
theorem Dy (tv cv iv:V_)(texts:LL_)(I:LJ_)(ag:U8_)(ins:LL_)(aa:Int)(w:Z)(ht:aP.Row w tv texts)(hc:bH.Row w cv I)(hi:aP.Row w iv ins)(aC:texts.length≤1000)(bx:I.length≤5000)(hm:∀ s∈texts,s.length≤140737488355328)(bq:dS w)(o:dR texts I ag ins aa=true):C_ 184 #[.agg #[tv,cv],.int .u8 ag.toNat,iv] w fun e w'=>(∃ G ev ow,e=.returned (p_ G)∧w.heap.size≤G∧RS G w' G ⟨tv,cv,iv,ev,ow⟩ [] (stS 0 [] (List.replicate 8 (0,[])) [] []) ∧∀ bc,B_ G w' bc→Iq bc ⟨texts,I,ins,(az texts I ag).2.2.ends⟩ tv cv iv ev ow (iK I (az texts I ag).2.2.ends I.length))∧Bw_ w w':=by
 have K:=O (fun w' (hB:Bw_ w w')=>mJ tv cv texts I ag w' (ht.below hB) (hc.below hB) aC bx hm);have a0:=(gm o).1;obtain⟨aS,l⟩:=Ag (texts:=texts) (I:=I) (ag:=ag) a0 bx;obtain⟨ak,ct,rfl,-,-⟩:=au ht;obtain⟨ac,cc,rfl,-,bm⟩:=aj hc;obtain⟨ai,ci,rfl,-,-⟩:=au hi;obtain⟨HT,HC,HI,HG,bz⟩:=zH5 ht hc hi bq bm;obtain⟨B4,aQ⟩:=H w.heap.size;obtain⟨W1,aA⟩:=H (w.alloc (.cells #[.slice ak texts.length ct,.slice ac I.length cc] 25));have a8:=ba_ aA;have hx:=bn_ aQ aA;obtain⟨x0,x1⟩:=cl2 hx;obtain⟨r,q⟩:∃ x,x=(az texts I ag).2.2.ends:=⟨_,rfl⟩
 rw[←q]at aS l;obtain⟨ah,a_,HX,ba,aO,X,a⟩:=zH7 a0 a8 hx aQ aS l q;have j5:(I.length:Int)≤5000:=Y;go_enter func184,ntmps184;go_upto_region 1 with fail;rw[←aA,←aQ];clear aA aQ a0 a8 hx aS l q ht hc hi bq o bm hm;go_upto_region 2 with(go_at_call 71;refine(K.o _ a_.o).mono ?_;rintro e w2⟨⟨Gg,gb,bv,sv,ev,rfl,Q⟩,ax⟩;replace Q:=Q ah.o);have N:bD.Row w2 ev r:=by rw[a.o];exact Q.oe.row
 obtain⟨ae,ce,rfl,-,g⟩:=Bf N;rw[aO.o]at Q N;have c6:=Q.c 6;have x0:=IF ax x0;have x1:=IF ax x1;obtain⟨aw,bk,a9⟩:=zH3 N g ax;have bJ:=fun w=>tX I.length Y w;have bq:Gg<w2.heap.size:=aG c6;have am:B4<w2.heap.size:=aG x0;clear Q N g ax K;go_region;go_upto_region 3 with fail;obtain⟨d,hO⟩:=H w2.heap.size;obtain⟨W0,a1⟩:=H (w2.alloc (.cells (bD.cells (List.replicate I.length 0)).toArray 3));obtain⟨cs,aR⟩:∃ cs:LV_,cs=[.slice ak texts.length ct,.slice ac I.length cc,.slice ai ins.length ci,.slice ae I.length ce,.slice (some ⟨d,0,none⟩) I.length I.length,F 0,e_,.bool false,F 0,.string ⟨#[]⟩,.bool false,F 0,.string ⟨#[]⟩,.bool false,F 0,.string ⟨#[]⟩,.bool false,F 0,.string ⟨#[]⟩,.bool false,F 0,.string ⟨#[]⟩,.bool false,F 0,.string ⟨#[]⟩,.bool false,F 0,.string ⟨#[]⟩,.bool false,F 0,.string ⟨#[]⟩,e_,e_]:=⟨_,rfl⟩
 obtain⟨W3,aB⟩:=H ((W0.alloc (.cells cs.toArray 296)).drew);have bn:W0.heap.size=d+1:=by rw[a1,hO];exact bP _ _
 have L:bD.Own W3 d (.slice (some ⟨d,0,none⟩) I.length I.length) (List.replicate I.length 0):=by
  have h1:=qx w2 I.length d Y Y;rw[←a1,←hO]at h1;rw[aB];exact(h1.below (af _ _)).below (b_drew _)
 have aX:Blk W3 (d+1) 296 cs:=by rw[aB,←bn];exact(Blk.new W0 _ _).below (b_drew _)
 have al:B_ d w2 W3:=by
  have h1:=ba_ a1;rw[hO,aB];exact bt (bt h1 (af _ _)) (b_drew _)
 have aI:cs=cF ⟨.slice ak texts.length ct,.slice ac I.length cc,.slice ai ins.length ci,.slice ae I.length ce,.slice (some ⟨d,0,none⟩) I.length I.length⟩ 0 (e_) (rgN 4) (e_) (e_):=by rw[aR];rfl
 rw[←hO,←a1];have A:(W0.alloc (.cells #[.slice ak texts.length ct,.slice ac I.length cc,.slice ai ins.length ci,.slice ae I.length ce,.slice (some ⟨d,0,none⟩) I.length I.length,F 0,e_,.bool false,F 0,.string ⟨#[]⟩,.bool false,F 0,.string ⟨#[]⟩,.bool false,F 0,.string ⟨#[]⟩,.bool false,F 0,.string ⟨#[]⟩,.bool false,F 0,.string ⟨#[]⟩,.bool false,F 0,.string ⟨#[]⟩,.bool false,F 0,.string ⟨#[]⟩,.bool false,F 0,.string ⟨#[]⟩,e_,e_] 296)).drew=W3:=by rw[aB,aR]
 have ay:(d+1=W0.heap.size):=bn.symm;rw[A];obtain⟨HO,bf,a2,aW,bO⟩:=zH5 hO L aX al aI
 have an:Hid (∀ j,j<I.length→0<r.getD j 0→r.getD j 0<(I.length:Int)):=by
  intro j hj h0;have e:=a.o;rw[e]at h0⊢;exact Ec ah.o hj h0
 obtain⟨P,bL,cd⟩:=zH3 x0 x1 c6;clear bJ hO a1 aR aB bn L aX al aI A ay x0 x1 c6 bq am;go_wp2_with fail
 go_loopw [11] (fun t wr=>∃ k:Nat,k≤I.length∧t=F k∧Hid (bD.Own wr d (.slice (some ⟨d,0,none⟩) I.length I.length) (iK I r k))∧Hid (B_ d w2 wr)∧Hid (Blk wr (d+1) 296 cs)) (fun t _=>I.length-(intOf t).toNat)
 case atStart=>exact⟨0,by omega,rfl,bf.o,aW.o,a2.o⟩
 case round =>
  obtain⟨ap,hq,rfl,bj,bG,B⟩:=hrel;have aF:B_ w2.heap.size w2 wr:=by rw[←HO.o];exact bG.o
  have a7:=O aF;have x0:=IF aF P.o;have x1:=IF aF bL.o;have c6:=IF aF cd.o;clear aF
  by_cases h1:ap<I.length
  ·have i0:=nn_ ap
   have i1:(ap:Int)<I.length:=Y;have bp:ap<r.length:=by rw[aO.o];exact h1
   obtain⟨be,oe,rfl,g1⟩:=bk.o ap bp;replace g1:=IF a7.o g1;have aJ:=Fl bp;have l:=X.o ap h1;have f:=an.o ap h1;have E:=O (nN I r ap);obtain⟨v,hv⟩:=H (r[ap]);rw[←hv]at g1 aJ;rw[aJ]at E l f;obtain⟨i,z,HQ⟩:=zH3 l f bp;clear hv aJ l f bp
   by_cases h0:v=0
   ·subst h0
    have bA:=O (show iK I r (ap+1)=iK I r ap by rw[E.o,if_neg (fun h=>absurd h.1 d_)]);clear E i z;exact Lq
   ·have C:0<v:=by have:=i.o;omega
    obtain⟨e,rfl⟩:∃ e:Nat,v=(e:Int):=⟨v.toNat,by omega⟩
    have aS:e<I.length:=by have:=z.o C;omega
    have aH:0<e:=Y;have e0:=nn_ e;have e1:(e:Int)<I.length:=Y;obtain⟨bY,bI,bB,-,bm⟩:=aj ((HC.o.below (bt (bt a_.o a9.o) a7.o)));obtain⟨b,aL,rfl,d0,d1⟩:=bm e aS;injection bB with aN M aD
    subst aN aD;have av:=EK aS;obtain⟨op,aE⟩:=H (I[e].1);rw[←aE]at d0
    have c:=O (show iK I r (ap+1)=if op=21 then (iK I r ap).set e (ap:Int) else iK I r ap by
     rw[E.o,Je,av,←aE]
     by_cases hp:op=21
     ·rw[if_pos ⟨C,hp⟩,if_pos hp]
     ·rw[if_neg (fun h=>hp h.2),if_neg hp])
    have aU:=O h0;clear bm av aE E i z d1 h0 M
    by_cases hp:op=21
    ·have t5:((op.toNat:Int)==21)=true:=by rw[hp];rfl
     have bA:=O (show iK I r (ap+1)=(iK I r ap).set e (ap:Int) by rw[c.o,if_pos hp]);clear c hp;go_wp2_with fail;go_quiet (fail);obtain⟨U,hU⟩:=H (wr.drewN nq);have D:B_ wr.heap.size wr U:=by rw[hU];exact II _ _
     rw[←hU];replace x1:=IF D x1;replace c6:=IF D c6;replace g1:=IF D g1;replace d0:=IF D d0;have ad:=bj.o.below D;have S:=B.o.below D;have bF:=bG.o.trans (D.mono (by have:=bG.o.size;have:=HO.o;omega));have g4:=S.cell (k:=4) (v:=.slice (some ⟨d,0,none⟩) I.length I.length) (by rw[bO.o];rfl);obtain⟨⟨v0,z0⟩,zf⟩:=ad.freeR (k:=e) (by show e<(iK I r ap).length*1;rw[jp];omega);obtain⟨cB,bE,bN⟩:=zH3 ad S bF;have aY:¬d+1=d:=Y;clear hU D ad S bF bj B bG;go_upto_region 7 with fail;go_region;have ar:Chg (fun k=>k=d) U (U.setCell ⟨d,e,none⟩ (F ap)):=Chg.setCell _ _ _ rfl
     have aV:bD.Own (U.setCell ⟨d,e,none⟩ (F ap)) d (.slice (some ⟨d,0,none⟩) I.length I.length) (iK I r (ap+1)):=by
      have h4:=cB.o.setCell (k:=e) (by rw[jp];exact aS) (y:=(ap:Int)) (j:=0) d_ (u:=F ap) rfl;rw[show e*bD.n+0=e from by show e*1+0=e;omega]at h4;rw[bA.o];exact h4
     have cX:=bE.o.chg ar Y;have a6:d≤U.heap.size:=by have:=bN.o.size;have:=HO.o;omega
     have bC:=bN.o.trans (ar.below (fun k hk=>by rw[show k=d from hk];exact I6 _) a6);have W:=O (Jc a6 ar.size);obtain⟨W4,bw⟩:=H (U.setCell ⟨d,e,none⟩ (F ap));rw[←bw]at ar aV cX bC W⊢;have cT:=O (aV.below (b_drew W4));have dT:=O (cX.below (b_drew W4));have ba:=O (bC.trans ((b_drew W4).mono W.o));clear ar aV cX bC a6 bw z0 zf g4 c6 g1 d0 x0 x1;go_wp2_with fail;go_roundw
     case rel=>exact⟨ap+1,by omega,by go_num,cT.o,ba.o,dT.o⟩
     case measure=>simp[intOf];omega
    ·have t5:((op.toNat:Int)==21)=false:=by
      rw[beq_eq_false_iff_ne];intro h;exact hp (UInt8.toNat_inj.1 (by show op.toNat=21;omega))
     have bA:=O (show iK I r (ap+1)=iK I r ap by rw[c.o,if_neg hp]);clear c hp;exact Lq
  ·obtain⟨V,hV⟩:=H wr
   subst hV;obtain rfl:ap=I.length:=Y;have i1:¬(I.length:Int)<I.length:=Y;have aK:=O (bO.o▸B.o);go_wp2_with fail
   go_loopw [12] (fun t wr=>∃ k:Nat,4≤k∧k≤8∧t=F k∧Hid (Blk wr (d+1) 296 (cF ⟨.slice ak texts.length ct,.slice ac I.length cc,.slice ai ins.length ci,.slice ae I.length ce,.slice (some ⟨d,0,none⟩) I.length I.length⟩ 0 (e_) (rgN k) (e_) (e_)))∧Hid (B_ (d+1) V wr)) (fun t _=>8-(intOf t).toNat)
   case atStart=>exact⟨4,by omega,by omega,rfl,aK.o,Ja _ _⟩
   case round =>
    obtain⟨k,bQ,J,rfl,n,m⟩:=hrel;rcases(by omega:k=4∨k=5∨k=6∨k=7∨k=8) with rfl|rfl|rfl|rfl|rfl
    ·have HF:=O (fun j (hj:j<33)=>n.o.free (k:=j) (by rw[jN _ _ _ _ _ (mG _)];exact hj))
     have g0:=n.o.cell (k:=19) (v:=.bool false) rfl;have f0:=HF.o 19 d_;have g1:=n.o.cell (k:=20) (v:=F 0) rfl;have f1:=HF.o 20 d_;have g2:=n.o.cell (k:=21) (v:=.string ⟨#[]⟩) rfl;have f2:=HF.o 21 d_;clear x0 x1 c6;go_wp2_with fail;go_roundw
     case rel=>exact⟨5,by omega,by omega,rfl,(fm n.o 19 (.bool true) (F 0) (.string ⟨#[]⟩)).1,m.o.trans ((fm n.o 19 (.bool true) (F 0) (.string ⟨#[]⟩)).2.below (fun k hk=>by rw[show k=d+1 from hk];exact I6 _) (JA n.o.lt))⟩
     case measure=>decide
    ·have HF:=O (fun j (hj:j<33)=>n.o.free (k:=j) (by rw[jN _ _ _ _ _ (mG _)];exact hj))
     have g0:=n.o.cell (k:=22) (v:=.bool false) rfl;have f0:=HF.o 22 d_;have g1:=n.o.cell (k:=23) (v:=F 0) rfl;have f1:=HF.o 23 d_;have g2:=n.o.cell (k:=24) (v:=.string ⟨#[]⟩) rfl;have f2:=HF.o 24 d_;clear x0 x1 c6;go_wp2_with fail;go_roundw
     case rel=>exact⟨6,by omega,by omega,rfl,(fm n.o 22 (.bool true) (F 0) (.string ⟨#[]⟩)).1,m.o.trans ((fm n.o 22 (.bool true) (F 0) (.string ⟨#[]⟩)).2.below (fun k hk=>by rw[show k=d+1 from hk];exact I6 _) (JA n.o.lt))⟩
     case measure=>decide
    ·have HF:=O (fun j (hj:j<33)=>n.o.free (k:=j) (by rw[jN _ _ _ _ _ (mG _)];exact hj))
     have g0:=n.o.cell (k:=25) (v:=.bool false) rfl;have f0:=HF.o 25 d_;have g1:=n.o.cell (k:=26) (v:=F 0) rfl;have f1:=HF.o 26 d_;have g2:=n.o.cell (k:=27) (v:=.string ⟨#[]⟩) rfl;have f2:=HF.o 27 d_;clear x0 x1 c6;go_wp2_with fail;go_roundw
     case rel=>exact⟨7,by omega,by omega,rfl,(fm n.o 25 (.bool true) (F 0) (.string ⟨#[]⟩)).1,m.o.trans ((fm n.o 25 (.bool true) (F 0) (.string ⟨#[]⟩)).2.below (fun k hk=>by rw[show k=d+1 from hk];exact I6 _) (JA n.o.lt))⟩
     case measure=>decide
    ·have HF:=O (fun j (hj:j<33)=>n.o.free (k:=j) (by rw[jN _ _ _ _ _ (mG _)];exact hj))
     have g0:=n.o.cell (k:=28) (v:=.bool false) rfl;have f0:=HF.o 28 d_;have g1:=n.o.cell (k:=29) (v:=F 0) rfl;have f1:=HF.o 29 d_;have g2:=n.o.cell (k:=30) (v:=.string ⟨#[]⟩) rfl;have f2:=HF.o 30 d_;clear x0 x1 c6;go_wp2_with fail;go_roundw
     case rel=>exact⟨8,by omega,by omega,rfl,(fm n.o 28 (.bool true) (F 0) (.string ⟨#[]⟩)).1,m.o.trans ((fm n.o 28 (.bool true) (F 0) (.string ⟨#[]⟩)).2.below (fun k hk=>by rw[show k=d+1 from hk];exact I6 _) (JA n.o.lt))⟩
     case measure=>decide
    ·obtain⟨ab,hZ⟩:=H wr
     subst hZ;clear x0 x1 c6;go_wp2_with fail;go_ret;have aM:Bw_ w V:=bt (bt a_.o a9.o) a7.o;have aT:w.heap.size≤d:=by have:=(bt a_.o a9.o).size;have:=HO.o;omega
     have ao:Bw_ w ab:=aM.trans (m.o.mono Y);rw[←a.o];refine⟨⟨d+1,_,_,rfl,by omega,⟨0,[],rgN 8,[],[],_,_,_,⟨I6 _,mG 8,xV (I6 _) n.o⟩,rfl,rfl,Do 8,rfl,rfl⟩,fun bc hB=>?_⟩,ao⟩;have R:Bw_ w bc:=ao.trans (hB.mono Y);have aq:=m.o.trans hB;have bl:Bw_ w2 bc:=a7.o.trans (aq.mono (by have:=HO.o;omega));exact⟨HT.o.below R,HC.o.below R,HI.o.below R,aw.o.below bl,bj.o.row.lowN aq (fun b hb=>by cases hb;exact Nat.lt_succ_self d),HG.o.below R⟩
theorem RM.newX {bZ G:Nat}{w w3:Z}{f:Rf}{ak:Int}{st rg:LR_}{L:List Lo}{W:LX_}{sv lv J ao aQ:V_}{tr l:LI_}(h:RM bZ w G f ak st rg L W sv lv J [ownPt bD ao tr])(hc:Chg (fun k=>ao.ownBlock=some k) w w3)(hg:∀ k,aQ.ownBlock=some k→ao.ownBlock=some k∨w.heap.size≤k)(ho:bD.Own w3 bZ aQ l):RM bZ w3 G f ak st rg L W sv lv J [ownPt bD aQ l]∧B_ bZ w w3 :=
 ⟨⟨h.gb,h.rl,h.sep.upd (i:=5) rfl hc (fun k hk=>hk) (ownPt bD aQ l) ho hg⟩,h.sep.updB (i:=5) rfl hc (fun k hk=>hk) h.size⟩
theorem RM.addX {bZ G:Nat}{w:Z}{f:Rf}{ak:Int}{st rg:LR_}{L:List Lo}{W:LX_}{sv lv J:V_}(h:RM bZ w G f ak st rg L W sv lv J []):RM bZ w G f ak st rg L W sv lv J [ownPt bD (e_) []] :=
 ⟨h.gb,h.rl,h.sep.snoc (Ja _ _) (ownPt bD (e_) []) (Rec.Own.nil _ _) (fun k hk=>by cases hk)⟩
theorem dY {P:Program}{fn:Func}{p u u2:Tmp}{ty:T_}{aE:AV_}{w:Z}{v:V_}{b:Nat}(hr:fn.results=#[.cell p ty,.tmp u,.tmp u2])(hp:aE.getD p undef=p_ b)(hl:(loadVar ty ⟨b,0,none⟩).run P w=.ok v w):(results fn aE).run P w=.ok (.tuple #[v,aE.getD u undef,aE.getD u2 undef]) w:=by
 simp only[Array.getD_eq_getD_getElem?]at hp⊢;simp[results,hr,Sem.run_bind,Result.andThen,hp,asAddr,hl]
def Iw (B:Nat)(r:Nat×LX_×q)(e:Ending)(w:Z):Prop :=
 ∃ pv n tr,e=.returned (.tuple #[.agg #[pv,.string (bs r.2.2),.int .i64 n],tr,.int .i64 r.1])∧recKq.Row w pv r.2.1∧∀ k,pv.ownBlock=some k→B≤k
theorem Lr {T:Prop} (h:T:=by
 obtain⟨y,aI⟩:=dr M.o (.slice none 0 0) (.string ⟨#[]⟩) (.int .i64 0);refine bodyPost_ret (dY rfl rfl (ek (y.c 0) (y.c 1) (y.c 2))) rfl ?_;rw[x.o];exact⟨⟨_,_,_,rfl,Rec.Row.nil _,fun k hk=>by cases hk⟩,bw.o.trans (aI.below (fun k hk=>by rw[show k=B4+1 from hk,ba.o];exact Nat.le_succ _) bw.o.size)⟩
):T:=h
theorem Dx (tv cv iv:V_)(texts:LL_)(I:LJ_)(ag:U8_)(ins:LL_)(am:Nat)(w:Z)(ht:aP.Row w tv texts)(hc:bH.Row w cv I)(hi:aP.Row w iv ins)(aC:texts.length≤1000)(bx:I.length≤5000)(hm:∀ s∈texts,s.length≤140737488355328)(bq:dS w)(o:dR texts I ag ins (am:Int)=true):C_ 178 #[.agg #[tv,cv],.int .u8 ag.toNat,iv,F am] w fun e w'=>Iw w.heap.size (vmV texts I ag ins (am:Int)) e w'∧Bw_ w w':=by
 have ce:=O (fun w' (hB:Bw_ w w')=>Dy tv cv iv texts I ag ins (am:Int) w' (ht.below hB) (hc.below hB) (hi.below hB) aC bx hm (bq.below hB) o);obtain⟨a1,a2,a3,a4,a5⟩:=gm o;have hg:=(ju a1 a2 a5).1;have bN:am≤65536:=Y
 have ae:I.length≤256:=by
  exact M2
 have HV:=O (tn o);rw[Je]at HV;have aY:=O (sg o am);have aw:=E9 hg;obtain⟨E,hE⟩:∃ E:Me,E=⟨texts,I,ins,(az texts I ag).2.2.ends⟩:=⟨_,rfl⟩
 have aO:E.code=I:=by rw[hE]
 have bz:E.ends=(az texts I ag).2.2.ends:=by rw[hE]
 rw[←hE,←bz]at ce;rw[←hE]at hg HV aY aw;rw[aO]at aw;obtain⟨ak,ct,rfl,-,-⟩:=au ht;obtain⟨ac,cc,rfl,-,-⟩:=aj hc;obtain⟨ai,ci,rfl,-,-⟩:=au hi;obtain⟨B4,aQ⟩:=H w.heap.size;obtain⟨W1,aA⟩:=H ((w.alloc (.cells #[.slice ak texts.length ct,.slice ac I.length cc] 25)).alloc (.cells #[e_,.string ⟨#[]⟩,F 0] 234));have a8:B_ w.heap.size w W1:=by rw[aA];exact bt (af _ _) (af _ _)
 have bp:(w.alloc (.cells #[.slice ak texts.length ct,.slice ac I.length cc] 25)).heap.size=B4+1:=by rw[aQ];exact bP _ _
 have hx:Blk W1 B4 25 [.slice ak texts.length ct,.slice ac I.length cc]:=by rw[aQ,aA];exact(Blk.new w _ _).below (af _ _)
 have hy:Blk W1 (B4+1) 234 [e_,.string ⟨#[]⟩,F 0]:=by rw[aA,←bp];exact Blk.new _ _ _
 have a6:W1.heap.size=B4+2:=by rw[aA,bP,bp]
 obtain⟨x0,x1⟩:=cl2 hx;obtain⟨a_,HX,HY,ba,aL,HG,b3,HE,bk⟩:=zH9 a8 hx hy aQ a6 hg aw hE aO;go_enter func178,ntmps178;go_upto_region 1 with fail;rw[←aA,←aQ];clear aA aQ ht hc hi bq a8 hx hy bp a6 o hm a1 a2 a3 a4 a5 hg hE aO bz aw;go_upto_region 2 with(go_at_call 184;refine(ce.o _ a_.o).mono ?_;rintro e w2⟨⟨G,ev,ow,rfl,aq,aX,S⟩,ax⟩);have a9:=O (bt a_.o ax);have aq:B4+2≤G:=by rw[←aL.o];exact aq
 obtain⟨aR,N,bC⟩:=zH3 (HX.o.below ax) (HY.o.below ax) S
 have H0:Hid (RS G w2 G ⟨.slice ak texts.length ct,.slice ac I.length cc,.slice ai ins.length ci,ev,ow⟩ [ownPt bD (e_) []] (stS 0 [] (List.replicate 8 (0,[])) [] [])):=by
  obtain⟨a,s,r,l,p,sv,lv,J,h1,h2⟩:=aX;exact⟨a,s,r,l,p,sv,lv,J,h1.addX,h2⟩
 have bl:=O aq;have bA:=O aX.size;clear ce ax S aX aq x0 x1 HX HY;go_wp2_with fail
 go_loopw [12] (fun t wr=>∃ (m:Mc) (tr:LI_) (ta:OA_) (tc:Nat),t=.slice ta tr.length tc∧Hid (tr.length≤am)∧Hid (RS G wr G ⟨.slice ak texts.length ct,.slice ac I.length cc,.slice ai ins.length ci,ev,ow⟩ [ownPt bD (.slice ta tr.length tc) tr] (stS (m.pc:Int) m.st m.rg m.op m.pr)) ∧
  Hid (OkM (sM texts.length (inputsV ag) ag E) E m)∧Hid (dG E (am-tr.length) m=dG E am bF)∧Hid (B_ G w2 wr)) (fun t _=>am-FU (some t))
 case atStart=>exact⟨bF,[],none,0,rfl,Jl _,H0.o,lg,rfl,Ja _ _⟩
 case round =>
  obtain⟨m,tr,ta,tc,rfl,bL,bZ,br,d,a7⟩:=hrel;obtain⟨pc,st,rg,op,W⟩:=m;dsimp only at bZ;obtain⟨_,K,Q,L,W,sv,lv,J,hm,rfl,hs,hr,hl,rfl⟩:=bZ.o;have c5:wr.cell? ⟨G,5,none⟩=some (F pc):=hm.c 5;have x1:=(aR.o.low a7.o yzl).c 1;have i1:(I.length:Int)≤256:=Y;have i2:(pc:Int)≤I.length:=by have:=br.o.pc;rw[bk.o]at this;show(pc:Int)≤_;simp at this;omega
  have i3:(tr.length:Int)≤65536:=by have:=bL.o;omega
  have HM:=O hm;have a':=O (N.o.low a7.o yzl);obtain⟨ay,aD,an⟩:=zH3 hs hr hl;have ao:=O (show Bw_ w wr from a9.o.trans (a7.o.mono yzk));have bO:=O aC;have cd:=O ae;clear hm hs hr hl
  by_cases u:pc<I.length
  ·have i4:(pc:Int)<I.length:=Y
   have b1:=O (show pc<E.code.length by rw[bk.o];exact u)
   by_cases hf:am≤tr.length
   ·have i5:(am:Int)≤tr.length:=Y
    have HD:=O (show(dG E am bF).1=140 by
     have:=d.o;rw[show am-tr.length=0 by omega,nH _ b1.o]at this;rw[←this])
    have x:=O (show vmV texts I ag ins (am:Int)=(140,[],[]) by rw[HV.o];unfold rB;rw[HD.o];rfl);go_wp2_with fail;go_quiet (fail);obtain⟨U,hU⟩:=H (wr.drewN nq);have D:B_ wr.heap.size wr U:=by rw[hU];exact II _ _
    rw[←hU];have f:=a'.o.below D;obtain⟨y0,y1,y2⟩:=cl3 f;obtain⟨k0,k1,k2⟩:=fr3 f;have M:=O f;have bw:=O (ao.o.trans (D.mono ao.o.size));clear f D hU c5 x1;go_wp2_with fail;exact Lr
   ·have i5:¬(am:Int)≤tr.length:=Y
    go_wp2_with fail;go_quiet (fail);go_upto_region 6 with fail;obtain⟨U,hU⟩:=H (wr.drewN nq);have D:B_ wr.heap.size wr U:=by rw[hU];exact II _ _
    rw[←hU];have ah:=HM.o.below D;have c5:U.cell? ⟨G,5,none⟩=some (F pc):=ah.c 5;have be:bD.Own U G (.slice ta tr.length tc) tr:=ah.loc (p:=ownPt bD (.slice ta tr.length tc) tr) i_;have bB:G≤U.heap.size:=ah.size;have bq:G<U.heap.size:=ah.blk.lt;have aS:(tr.length+1)*8≤140737488355328:=Y;have aZ:=O (ah.below (af U (.cells (bD.cells [(pc:Int)]).toArray 3)));have bb:=O be;have bG:=O ((a7.o.trans (D.mono HM.o.size)).trans ((af U (.cells (bD.cells [(pc:Int)]).toArray 3)).mono bB));clear hU D ah be x1 a7;go_upto_region 7 with(at_builtin;go_must (refine bD.append1V _ (pc:Int) rfl _ _ 92 rfl underlying92 G (.slice ta tr.length tc) tr (bb.o.below (af _ _)) rfl _ rfl (Rec.Row.new (R:=bD) U [(pc:Int)] _).1 aS (Jc bB (af _ _).size) ?_);intro g gc w6 aw b0 ds;have hn:=aZ.o.newX b0 (fun k hk=>by cases hk;exact ds) aw;have HN:=O hn;clear aw b0 ds hn);have bn:=O (bG.o.trans HN.o.2);have ar:RS G w6 G ⟨.slice ak texts.length ct,.slice ac I.length cc,.slice ai ins.length ci,ev,ow⟩ [ownPt bD (.slice (some ⟨g,0,none⟩) (tr.length+1) gc) (tr++[(pc:Int)])] (stS (pc:Int) st rg op W):=⟨_,K,Q,L,W,sv,lv,J,HN.o.1,rfl,ay.o,aD.o,an.o,rfl⟩
    have aW:=AY HG.o aC (by unfold inputsV;split<;>omega) (by rw[bk.o];exact ae) br.o b1.o rfl rfl ar (fun w' hB=>bC.o _ (bn.o.trans hB)) b3.o;have aM:doM E (xM E ⟨pc,st,rg,op,W⟩) ⟨pc,st,rg,op,W⟩=doN E (E.code.getD pc (0,0)).1.toNat (E.code.getD pc (0,0)).2 pc st rg op W:=rfl;have A:=zl HG.o br.o b1.o;rw[aM]at A;have bh:=d.o;rw[show am-tr.length=(am-(tr.length+1))+1 by omega]at bh;obtain⟨R,hR⟩:=H (doN E (E.code.getD pc (0,0)).1.toNat (E.code.getD pc (0,0)).2 pc st rg op W);rw[←hR]at aW aM A;obtain⟨n,B,bg,z⟩:=zH4 aW aM A bh;clear aW aM A bh hR ar c5 bB bq aS aZ bb bG
    by_cases h0:R.1=0
    ·have bc:=O (bg.o.2 h0)
     have a0:=O (show dG E (am-(tr.length+1)) R.2=dG E am bF by
      have:=z.o
      rwa [tI b1.o (by rw[B.o];exact h0),B.o]at this)
     rw[h0]at n;have bu:=O (show am-(tr.length+1)<am-tr.length by omega);clear h0 z bg B;go_wp2_with (go_at_call 185;refine n.o.mono ?_;rintro r w7⟨rfl,aT,aH⟩;have bI:=O (aT (by trivial));have aK:=O (bn.o.trans aH);clear aT aH);go_roundw
     case rel=>exact⟨R.2,tr++[(pc:Int)],some ⟨g,0,none⟩,gc,by rw[Jh];rfl,by rw[Jh,JJ];show tr.length+1≤am;omega,by rw[Jh];exact bI.o,bc.o,by rw[Jh,JJ];exact a0.o,aK.o⟩
     case measure=>exact bu.o
    ·have h1:((R.1:Int) != 0)=true:=by rw[bne_iff_ne];omega
     obtain⟨c,hc⟩:=H R.1
     have HD:=O (show(dG E am bF).1=c by
      have:=z.o;rw[pS b1.o (by rw[B.o];exact h0),B.o]at this;rw[←this,hc])
     rw[←hc]at h1 n;have cG:=O (show ¬c=0 by rw[hc];exact h0);have x:=O (show vmV texts I ag ins (am:Int)=(c,[],[]) by rw[HV.o];unfold rB;rw[HD.o,if_neg cG.o]);clear hc h0;go_wp2_with (go_at_call 185;refine n.o.mono ?_;rintro r w7⟨rfl,-,aH⟩;have V:=bn.o.trans aH;have f:=N.o.low V yzl;have bw:=O (show Bw_ w w7 from a9.o.trans (V.mono yzk));obtain⟨y0,y1,y2⟩:=cl3 f;obtain⟨k0,k1,k2⟩:=fr3 f;have M:=O f;clear f aH V);exact Lr
  ·have i4:¬(pc:Int)<I.length:=Y
   have HD:=O (show dG E am bF=(0,⟨pc,st,rg,op,W⟩) by rw[←d.o];exact pR _ _ (by rw[bk.o];exact u));obtain⟨bj,-⟩:=aY.o (by rw[HD.o]);rw[HD.o]at bj;dsimp only at bj;have x:=O (show vmV texts I ag ins (am:Int)=(0,W,if ag=1 then [] else (st.headD (0,[])).2) by rw[HV.o];unfold rB;rw[HD.o];rfl);have aU:=O bj;clear bj u;obtain⟨_,_,⟨P,b,rfl⟩⟩:=HM.o.slices;go_wp2_with fail;go_quiet (fail);go_upto_region 10 with fail;obtain⟨U,hU⟩:=H (wr.drewN nq);have D:B_ wr.heap.size wr U:=by rw[hU];exact II _ _
   rw[←hU];have ah:=HM.o.below D;have aa:=ah.cellR (k:=1) (v:=.slice P W.length b) rfl;have bq:G<U.heap.size:=ah.blk.lt;have aZ:=O ah;have M:=O (a'.o.below D);have bG:=O (ao.o.trans (D.mono ao.o.size));clear hU D ah c5 x1;go_upto_region 11 with fail;obtain⟨T,hT⟩:=H U.heap.size;obtain⟨ab,hZ⟩:=H (U.alloc (.cells #[.slice P W.length b,.string ⟨#[]⟩,F tr.length] 234));have bd:G≤T:=by rw[hT];exact aZ.o.size
   have bJ:RM G ab G ⟨.slice ak texts.length ct,.slice ac I.length cc,.slice ai ins.length ci,ev,ow⟩ (pc:Int) K Q L W sv lv (.slice P W.length b) ([ownPt bD (.slice ta tr.length tc) tr]++[aF T bd 234 [.slice P W.length b,.string ⟨#[]⟩,F tr.length]]):=by
    subst hT;rw[hZ];exact aZ.o.add [.slice P W.length b,.string ⟨#[]⟩,F tr.length] 234
   have X:=ba_ hZ;rw[←hZ,←hT];have ad:=O (M.o.below X);have aE:=O (bG.o.trans (X.mono bG.o.size));have al:=O bJ;have bK:¬T=B4+1:=by have:=bl.o;omega
   have bM:¬B4+1=T:=fun e=>bK e.symm;clear hZ hT X bJ aa bq aZ M bG
   by_cases hr:ag=1
   ·have t1:((ag.toNat:Int) != 1)=false:=by rw[hr];rfl
    have j:=O (show vmV texts I ag ins (am:Int)=(0,W,[]) by rw[x.o,if_pos hr]);have bo:=al.o.loc (p:=aF T bd 234 [.slice P W.length b,.string ⟨#[]⟩,F tr.length]) i_;have bo:Blk ab T 234 [.slice P W.length b,.string ⟨#[]⟩,F tr.length]:=bo;obtain⟨z0,z1,z2⟩:=cl3 bo;obtain⟨y0,y1,y2⟩:=cl3 ad.o;obtain⟨k0,k1,k2⟩:=fr3 ad.o;clear hr bo;go_wp2_with fail;obtain⟨y,aI⟩:=dr ad.o (.slice P W.length b) (s_ []) (F tr.length);refine bodyPost_ret (dY rfl rfl (ek (y.c 0) (y.c 1) (y.c 2))) rfl ?_;rw[j.o];refine⟨⟨_,_,_,rfl,(al.o.op.chgV aI (fun k hk e=>?_)).row,fun k hk=>by have:=(al.o.op.ltV k hk).1;have:=bl.o;have:=ba.o;omega⟩,aE.o.trans (aI.below (fun k hk=>by rw[show k=B4+1 from hk,ba.o];exact Nat.le_succ _) aE.o.size)⟩;have h9:=(al.o.op.ltV k hk).1;rw[show k=B4+1 from e]at h9;have:=bl.o;omega
   ·have t1:((ag.toNat:Int) != 1)=true:=by
     rw[bne_iff_ne];exact MJ
    obtain⟨v,rfl⟩:∃ v,K=[v]:=by
     have h1:=aU.o;unfold gB at h1;rw[if_neg hr,←ay.o,Js]at h1
     match K,h1 with
     | [v],_=>exact⟨v,rfl⟩
    have j:=O (show vmV texts I ag ins (am:Int)=(0,W,v.2.2) by rw[x.o,if_neg hr,←ay.o];rfl);have HP:=O (bf v al.o i_);clear hr aU x;go_wp2_with (go_at_call 186;refine HP.o.mono ?_;rintro r w5⟨rfl,⟨bi,av⟩,aN⟩;unfold rvV;have bo:Blk w5 T 234 [.slice P W.length b,.string ⟨#[]⟩,F tr.length]:=av.loc (p:=aF T bd 234 [.slice P W.length b,.string ⟨#[]⟩,F tr.length]) i_;obtain⟨z0,z1,z2⟩:=cl3 bo;have f1:=bo.free (k:=1) i_;have ap:=ad.o.low aN yzl;obtain⟨y0,y1,y2⟩:=cl3 ap;obtain⟨k0,k1,k2⟩:=fr3 ap;obtain⟨q,aG,bm,aJ⟩:=zH4 av bo ap aN;clear av ap aN bo);have bE:Chg (fun k=>k=T) w5 (w5.setCell ⟨T,1,none⟩ (s_ v.2.2)):=Chg.setCell _ _ _ rfl;have bv:=bm.o.chg bE bM;obtain⟨aB,aV⟩:=q.o.updX (i:=1) rfl bE (fun k hk=>hk) (aF T bd 234 [.slice P W.length b,s_ v.2.2,F tr.length]) (aG.o.set 1 _) (fun k hk=>hk);obtain⟨y,aI⟩:=dr bv (.slice P W.length b) (s_ v.2.2) (F tr.length);refine bodyPost_ret (dY rfl rfl (ek (y.c 0) (y.c 1) (y.c 2))) rfl ?_;rw[j.o];have C:Bw_ w (w5.setCell ⟨T,1,none⟩ (s_ v.2.2)):=aE.o.trans ((aJ.o.trans aV).mono yzk);refine⟨⟨_,_,_,rfl,(aB.op.chgV aI (fun k hk e=>?_)).row,fun k hk=>by have:=(aB.op.ltV k hk).1;have:=bl.o;have:=ba.o;omega⟩,C.trans (aI.below (fun k hk=>by rw[show k=B4+1 from hk,ba.o];exact Nat.le_succ _) C.size)⟩;have h9:=(aB.op.ltV k hk).1;rw[show k=B4+1 from e]at h9;have:=bl.o;omega
theorem Ls {T:Prop} (h:T:=by
 go_ret;exact⟨(congrArg (fun b=>Ending.returned (Value.bool b)) HF.o).symm,a9.o⟩
):T:=h
theorem Lu {T:Prop} (h:T:=by
 clear k1 k2;go_wp2_with (go_at_call 136;refine(bi.o _).mono ?_;rintro r w3⟨rfl,rfl⟩);exact Ls
):T:=h
theorem Lt {T:Prop} (h:T:=by
 have HF:=O (cK (texts:=texts) (I:=I) (ag:=ag) (ins:=ins) (aa:=aa) (fun h=>by omega));exact Lu
):T:=h
theorem yo (tv cv iv:V_)(texts:LL_)(I:LJ_)(ag:U8_)(ins:LL_)(aa:Int)(w:Z)(ht:aP.Row w tv texts)(hc:bH.Row w cv I)(hi:aP.Row w iv ins)(aC:texts.length≤1000)(bx:I.length≤5000)(hm:∀ s∈texts,s.length≤140737488355328)(b5:ins.length≤10)(L:∀ s∈ins,s.length≤140737488355328)(bJ:-9223372036854775808≤aa)(bb:aa≤9223372036854775807):R_ 177 #[.agg #[tv,cv],.int .u8 ag.toNat,iv,F aa] w (.bool (dR texts I ag ins aa)):=by
 have K:=O (fun w' (hB:Bw_ w w')=>mJ tv cv texts I ag w' (ht.below hB) (hc.below hB) aC bx hm);obtain⟨ak,ct,rfl,-,-⟩:=au ht;obtain⟨ac,cc,rfl,-,-⟩:=aj hc;obtain⟨ai,ci,rfl,-,-⟩:=au hi;have HI:=O hi;have bh:=O L;obtain⟨B4,aQ⟩:=H w.heap.size;obtain⟨W1,aA⟩:=H (w.alloc (.cells #[.slice ak texts.length ct,.slice ac I.length cc] 25));have a8:=ba_ aA;have hx:=bn_ aQ aA;obtain⟨x0,x1⟩:=cl2 hx;have a_:=O a8;go_enter func177,ntmps177;go_upto_region 1 with fail;rw[←aA,←aQ];clear aA aQ ht hc hi hm L a8 hx;go_upto_region 2 with(go_at_call 71;refine(K.o _ a_.o).mono ?_;rintro e w2⟨⟨Gg,gb,bv,sv,ev,rfl,-⟩,ax⟩);obtain⟨e0,bl⟩:=H ((az texts I ag).2.1);have a0:=O bl;rw[←bl];have a9:=O (bt a_.o ax);obtain⟨N,hN⟩:=H (inputsV ag);have HN:=O hN;have bi:=O (fun w'=>kz ag w');rw[←hN]at bi;clear ax bl hN x0 x1
 by_cases k1:e0=0
 ·have t1:((e0:Int) != 0)=false:=by rw[k1];rfl
  by_cases k2:ins.length=N
  ·have t2:((ins.length:Int) != (N:Int))=false:=Ge k2
   by_cases k3:aa<0
   ·exact Lt
   ·by_cases k4:65536<aa
    ·exact Lt
    ·have K1:=O k1
     obtain⟨K2,K3,K4⟩:=zH3 k2 k3 k4;have j1:(ins.length:Int)≤10:=Y;clear k1 k2;obtain⟨V,hV⟩:=H w2;subst hV;go_wp2_with (go_at_call 136;refine(bi.o _).mono ?_;rintro r w3⟨rfl,d⟩;obtain rfl:V=w3:=d.symm)
     go_loopw [12] (fun t wr=>∃ k:Nat,k≤ins.length∧t=F k∧wr=V∧Hid (∀ j (hj:j<ins.length),j<k→ins[j].length≤1024)) (fun t _=>ins.length-(intOf t).toNat)
     case atStart=>exact⟨0,by omega,rfl,rfl,fun j _ h=>by omega⟩
     case round =>
      obtain⟨k,hk,rfl,g,HH⟩:=hrel;obtain rfl:V=wr:=g.symm
      by_cases h0:k<ins.length
      ·obtain⟨bW,bX,aN,-,bK⟩:=au (HI.o.below a9.o)
       obtain⟨b,aL,rfl,d0⟩:=bK k h0;injection aN with e1 e2 e3
       subst e1 e3;have i0:=nn_ k;have i1:(k:Int)<ins.length:=Y;have bj:=bh.o _ (Jz h0);obtain⟨s,hs⟩:=H (ins[k]);rw[←hs]at d0 bj;have HS:=O hs;have bT:(s.length:Int)≤140737488355328:=Y;clear bK hs
       by_cases hl:1024<s.length
       ·have t5:1024<(s.length:Int):=Y
        have HF:=O (cK (texts:=texts) (I:=I) (ag:=ag) (ins:=ins) (aa:=aa) (fun h=>by have:=h.2.2.2.2 _ (Jz h0);rw[←HS.o]at this;omega));go_wp2_with fail;exact Ls
       ·exact Mj
      ·have a1:=O (fun s (hs:s∈ins)=>show s.length≤1024 by
        obtain⟨j,hj,rfl⟩:=List.getElem_of_mem hs;exact HH.o j hj Y)
       have HF:=O (s6 (texts:=texts) (I:=I) (ag:=ag) (ins:=ins) (aa:=aa) (by rw[←a0.o];exact K1.o) (by rw[←HN.o];exact K2.o) (by have:=K3.o;omega) (by have:=K4.o;omega) a1.o);have i1:¬(k:Int)<ins.length:=Y;go_wp2_with fail;exact Ls
  ·have t2:((ins.length:Int) != (N:Int))=true:=Gc k2
   have HF:=O (cK (texts:=texts) (I:=I) (ag:=ag) (ins:=ins) (aa:=aa) (fun h=>by have:=HN.o;omega));exact Lu
 ·have t1:((e0:Int) != 0)=true:=by rw[bne_iff_ne];omega
  have HF:=O (cK (texts:=texts) (I:=I) (ag:=ag) (ins:=ins) (aa:=aa) (fun h=>by have:=a0.o;omega));clear k1;go_wp2_with fail;exact Ls
def R15 (B:Nat)(r:Nat×LX_×q)(e:Ending)(w:Z):Prop :=
 ∃ a c n,e=.returned (.tuple #[.agg #[.slice a r.2.1.length c,.string (bs r.2.2),.int .i64 n],.int .i64 r.1])∧recKq.Row w (.slice a r.2.1.length c) r.2.1∧∀ k,(Value.slice a r.2.1.length c).ownBlock=some k→B≤k
theorem Md {T:Prop} (h:T:=by
 obtain⟨y,aI⟩:=dr M.o (.slice none 0 0) (.string ⟨#[]⟩) (.int .i64 0);refine bodyPost_ret (aX rfl rfl (ek (y.c 0) (y.c 1) (y.c 2))) rfl ?_;rw[HN.o];exact⟨⟨_,_,_,rfl,Rec.Row.nil _,fun k hk=>by cases hk⟩,a9.o.trans (aI.below (fun k hk=>by rw[show k=B4+1 from hk,ba.o];exact Nat.le_succ _) a9.o.size)⟩
):T:=h
theorem xW (tv cv iv:V_)(texts:LL_)(I:LJ_)(ag:U8_)(ins:LL_)(aa:Int)(w:Z)(ht:aP.Row w tv texts)(hc:bH.Row w cv I)(hi:aP.Row w iv ins)(aC:texts.length≤1000)(bx:I.length≤5000)(hm:∀ s∈texts,s.length≤140737488355328)(b5:ins.length≤10)(L:∀ s∈ins,s.length≤140737488355328)(bJ:-9223372036854775808≤aa)(bb:aa≤9223372036854775807)(bq:dS w):C_ 166 #[.agg #[tv,cv],.int .u8 ag.toNat,iv,F aa] w fun e w'=>R15 w.heap.size (vmV texts I ag ins aa) e w'∧Bw_ w w':=by
 have E:=O (fun w' (hB:Bw_ w w')=>yo tv cv iv texts I ag ins aa w' (ht.below hB) (hc.below hB) (hi.below hB) aC bx hm b5 L bJ bb);have d:=O (fun (am:Nat) (hF:dR texts I ag ins (am:Int)=true) w' (hB:Bw_ w w')=>Dx tv cv iv texts I ag ins am w' (ht.below hB) (hc.below hB) (hi.below hB) aC bx hm (bq.below hB) hF);obtain⟨ak,ct,rfl,-,-⟩:=au ht;obtain⟨ac,cc,rfl,-,-⟩:=aj hc;obtain⟨ai,ci,rfl,-,-⟩:=au hi;obtain⟨B4,aQ⟩:=H w.heap.size;obtain⟨W1,aA⟩:=H ((w.alloc (.cells #[.slice ak texts.length ct,.slice ac I.length cc] 25)).alloc (.cells #[e_,.string ⟨#[]⟩,F 0] 234));have a8:B_ w.heap.size w W1:=by rw[aA];exact bt (af _ _) (af _ _)
 have bp:(w.alloc (.cells #[.slice ak texts.length ct,.slice ac I.length cc] 25)).heap.size=B4+1:=by rw[aQ];exact bP _ _
 have hx:Blk W1 B4 25 [.slice ak texts.length ct,.slice ac I.length cc]:=by rw[aQ,aA];exact(Blk.new w _ _).below (af _ _)
 have hy:Blk W1 (B4+1) 234 [e_,.string ⟨#[]⟩,F 0]:=by rw[aA,←bp];exact Blk.new _ _ _
 have a6:W1.heap.size=B4+2:=by rw[aA,bP,bp]
 obtain⟨x0,x1⟩:=cl2 hx;obtain⟨a_,HX,HY,ba,aL⟩:=zH5 a8 hx hy aQ a6;go_enter func166,ntmps166;go_upto_region 1 with fail;rw[←aA,←aQ];clear aA aQ ht hc hi bq a8 hx hy bp a6 hm L
 by_cases o:dR texts I ag ins aa=true
 ·obtain⟨-,-,a3,-,-⟩:=gm o
  obtain⟨am,rfl⟩:∃ am:Nat,aa=(am:Int):=⟨aa.toNat,by omega⟩
  have HR:=O (d.o am o);rw[o]at E;obtain⟨V,hV⟩:=H (vmV texts I ag ins (am:Int));rw[←hV]at HR;have HV:=O hV;clear o a3 hV d;go_upto_region 3 with(go_at_call 177;refine(E.o _ a_.o).mono ?_;rintro e w2⟨rfl,ax⟩);have x0:=IF ax x0;have x1:=IF ax x1;have a9:=O (bt a_.o ax);have N:=O (HY.o.below ax);have bA:=O (show B4+2≤w2.heap.size by rw[←aL.o];exact ax.size);clear ax HY E;go_upto_region 4 with(go_at_call 178;refine(HR.o _ a9.o).mono ?_;rintro e w3⟨⟨pv,n,tr,rfl,m,aw⟩,al⟩;obtain⟨P,pc,rfl,-,-⟩:=Rec.Row.open m);obtain⟨T,hT⟩:=H w3.heap.size;obtain⟨ab,hZ⟩:=H (w3.alloc (.cells #[.slice P V.2.1.length pc,s_ V.2.2,F n] 234));have X:=ba_ hZ;have bo:=bn_ hT hZ;have a:=N.o.below (bt al X);have aR:=O (m.below X);have b3:=O aw;have aE:=O (bt a9.o (bt al X));have bK:¬T=B4+1:=by have:=bA.o;have:=al.size;omega
  obtain⟨z0,z1,z2⟩:=cl3 bo;obtain⟨y0,y1,y2⟩:=cl3 a;obtain⟨k0,k1,k2⟩:=fr3 a;have ad:=O a;rw[←hZ,←hT];clear hZ hT X bo a m aw al x0 x1;go_wp2_with fail;obtain⟨y,aI⟩:=dr ad.o (.slice P V.2.1.length pc) (s_ V.2.2) (F n);refine bodyPost_ret (aX rfl rfl (ek (y.c 0) (y.c 1) (y.c 2))) rfl ?_;rw[←HV.o];refine⟨⟨_,_,_,rfl,aR.o.chgN aI (fun b hb e=>?_),fun k hk=>Jc a9.o.size (b3.o k hk)⟩,aE.o.trans (aI.below (fun k hk=>by rw[show k=B4+1 from hk,ba.o];exact Nat.le_succ _) aE.o.size)⟩;have h1:=b3.o b hb;rw[show b=B4+1 from e]at h1;have:=bA.o;omega
 ·have a0:dR texts I ag ins aa=false:=by cases h:dR texts I ag ins aa with
   | false=>rfl
   | true=>exact absurd h o
  have HN:=O (xF a0);rw[a0]at E;clear o a0 d;go_wp2_with (go_at_call 177;refine(E.o _ a_.o).mono ?_;rintro e w2⟨rfl,ax⟩;have f:=HY.o.below ax;obtain⟨y0,y1,y2⟩:=cl3 f;obtain⟨k0,k1,k2⟩:=fr3 f;have M:=O f;have a9:=O (bt a_.o ax);clear f ax);exact Md
structure dD (w:Z) (t1 c1 t2 c2 t3 c3:V_) (j:Jb):Prop where
 a:pm w t1 c1 j.mt j.mc
 b:pm w t2 c2 j.jt j.jc
 c:pm w t3 c3 j.tt j.tc
 p0:-9223372036854775808≤j.parts
 p1:j.parts≤9223372036854775807
 f0:-9223372036854775808≤j.fuel
 f1:j.fuel≤9223372036854775807
 g:dS w
theorem dD.below {w w':Z}{t1 c1 t2 c2 t3 c3:V_}{j:Jb}(h:dD w t1 c1 t2 c2 t3 c3 j)(hB:Bw_ w w'):dD w' t1 c1 t2 c2 t3 c3 j :=
 ⟨h.a.below hB,h.b.below hB,h.c.below hB,h.p0,h.p1,h.f0,h.f1,h.g.below hB⟩
def bM (t1 c1 t2 c2 t3 c3:V_)(j:Jb):V_:=.agg #[t1,c1,t2,c2,t3,c3,.int .i64 j.parts,.int .i64 j.fuel]
theorem vJ (t1 c1 t2 c2 t3 c3:V_)(j:Jb)(s s2:q)(w:Z)(h:dD w t1 c1 t2 c2 t3 c3 j)(hs:s.length≤140737488355328)(ar:s2.length≤140737488355328):R_ 147 #[bM t1 c1 t2 c2 t3 c3 j,s_ s,s_ s2] w (.tuple #[s_ (vmV j.jt j.jc 2 [s,s2] j.fuel).2.2,F ((vmV j.jt j.jc 2 [s,s2] j.fuel).1:Int)]):=by
 have HR:=O (fun w' iv (hB:Bw_ w w') (hi:aP.Row w' iv [s,s2])=>xW t2 c2 iv j.jt j.jc 2 [s,s2] j.fuel w' (h.b.below hB).t (h.b.below hB).c hi h.b.lt h.b.lc h.b.m i_ (fun x hx=>by rcases JK.1 hx with rfl|hx;exact hs;rw[Jp.1 hx];exact ar) h.f0 h.f1 (h.g.below hB));obtain⟨ta,tc,ca,cc,aV,bd,be,bf,bg,bh,bi,bk,rfl,rfl,rfl,rfl,rfl,rfl⟩:=jo_ h.a.t h.a.c h.b.t h.b.c h.c.t h.c.c;unfold bM;obtain⟨V,hV⟩:=H (vmV j.jt j.jc 2 [s,s2] j.fuel);rw[←hV]at HR⊢;clear hV h;go_enter func147,ntmps147;go_upto_region 1 with fail;obtain⟨W1,aA⟩:=H (w.alloc (.cells #[.slice ta j.mt.length tc,.slice ca j.mc.length cc,.slice aV j.jt.length bd,.slice be j.jc.length bf,.slice bg j.tt.length bh,.slice bi j.tc.length bk,F j.parts,F j.fuel] 27));have a8:=ba_ aA;have hx:=bm_ aA;have x0:=hx.c 2;have x1:=hx.c 3;have x7:=hx.c 7;have bo:w.heap.size<W1.heap.size:=hx.lt;rw[←aA];have a_:=O a8;clear aA a8 hx;go_wp2_with (go_at_call 166;refine(HR.o _ _ (bt a_.o (af _ _)) (Rec.Row.new (R:=aP) W1 [s,s2] 9)).mono ?_;rintro e w3⟨⟨P,pc,n,rfl,-,-⟩,al⟩;have aW:=O (bt (bt a_.o (af _ _)) al);clear al);go_ret2;exact⟨rfl,bt aW.o (af _ _)⟩
def e1J (j:Jb):Nat:=(az j.mt j.mc 1).2.1
def e2J (j:Jb):Nat:=(az j.jt j.jc 2).2.1
def e3J (j:Jb):Nat:=(az j.tt j.tc 3).2.1
theorem xe {j:Jb}(h:e1J j≠0):bO j=(1,(az j.mt j.mc 1).1,e1J j):=by unfold bO;exact if_pos h
theorem xd {j:Jb}(h1:e1J j=0)(h:e2J j≠0):bO j=(2,(az j.jt j.jc 2).1,e2J j):=by unfold bO;exact(if_neg (fun ap=>ap h1)).trans (if_pos h)
theorem xc {j:Jb}(h1:e1J j=0)(h2:e2J j=0)(h:e3J j≠0):bO j=(3,(az j.tt j.tc 3).1,e3J j):=by unfold bO;exact(if_neg (fun ap=>ap h1)).trans ((if_neg (fun ap=>ap h2)).trans (if_pos h))
theorem wZ {j:Jb}(h1:e1J j=0)(h2:e2J j=0)(h3:e3J j=0):bO j=if j.parts<1∨16<j.parts∨j.fuel<1∨65536<j.fuel then (0,0,2) else (0,0,0):=by unfold bO;exact(if_neg (fun ap=>ap h1)).trans ((if_neg (fun ap=>ap h2)).trans (if_neg (fun ap=>ap h3)))
theorem Lv {T:Prop} (h:T:=by
 have a:=O g;have c:=O b;clear hz g b;go_wp2_with (go_at_call 71;refine HG.o.mono ?_;rintro e w3⟨⟨Gg,gb,bv,sv,ev,rfl,-⟩,al⟩;rw[←a.o,←c.o];have aW:=O al;clear al);go_ret3;rw[HZ.o];exact⟨rfl,bt a7.o aW.o⟩
):T:=h
theorem Lw {T:Prop} (h:T:=by
 clear i;go_wp2_with fail;go_ret3;rw[HZ.o];exact⟨rfl,a7.o⟩
):T:=h
theorem tS (t1 c1 t2 c2 t3 c3:V_)(j:Jb)(w:Z)(h:dD w t1 c1 t2 c2 t3 c3 j):R_ 42 #[bM t1 c1 t2 c2 t3 c3 j] w (.tuple #[.int .u8 ((bO j).1:Int),F ((bO j).2.1:Int),F ((bO j).2.2:Int)]):=by
 obtain⟨HA,HB,HC⟩:=zH3 (fun w' (hB:Bw_ w w')=>mJ t1 c1 j.mt j.mc 1 w' (h.a.below hB).t (h.a.below hB).c h.a.lt h.a.lc h.a.m) (fun w' (hB:Bw_ w w')=>mJ t2 c2 j.jt j.jc 2 w' (h.b.below hB).t (h.b.below hB).c h.b.lt h.b.lc h.b.m) (fun w' (hB:Bw_ w w')=>mJ t3 c3 j.tt j.tc 3 w' (h.c.below hB).t (h.c.below hB).c h.c.lt h.c.lc h.c.m);obtain⟨ta,tc,ca,cc,aV,bd,be,bf,bg,bh,bi,bk,rfl,rfl,rfl,rfl,rfl,rfl⟩:=jo_ h.a.t h.a.c h.b.t h.b.c h.c.t h.c.c;unfold bM;have p0:=h.p0;have p1:=h.p1;have f0:=h.f0;have f1:=h.f1;clear h;obtain⟨P,hP⟩:=H j.parts;obtain⟨n,l⟩:=H j.fuel;have HP:=O hP;have v:=O l;rw[←hP]at p0 p1⊢;rw[←l]at f0 f1⊢;clear hP l;go_enter func42,ntmps42;go_upto_region 1 with fail;obtain⟨W1,aA⟩:=H (w.alloc (.cells #[.slice ta j.mt.length tc,.slice ca j.mc.length cc,.slice aV j.jt.length bd,.slice be j.jc.length bf,.slice bg j.tt.length bh,.slice bi j.tc.length bk,F P,F n] 27));have a8:=ba_ aA;obtain⟨J,hJ⟩:=H w.heap.size;have hx:=bn_ hJ aA;obtain⟨x0,x1,x2,x3,x4,x5⟩:=cl6 hx;rw[←aA,←hJ];have a_:=O a8;have HX:=O hx;clear aA a8 hx hJ;go_upto_region 2 with fail;obtain⟨D,hD⟩:=H W1.heap.size;obtain⟨W2,ae⟩:=H (W1.alloc (.cells #[.slice ta j.mt.length tc,.slice ca j.mc.length cc,.slice aV j.jt.length bd,.slice be j.jc.length bf,.slice bg j.tt.length bh,.slice bi j.tc.length bk] 25));have aY:=ba_ ae;have hd:=bn_ hD ae;rw[←ae,←hD];have aR:=O (HX.o.below aY)
 have HD:=O hd;have a9:=O (bt a_.o aY);clear x0 x1 x2 x3 x4 x5 ae hD aY hd HX;go_wp2_with fail
 go_loopw [6] (fun t wr=>∃ k:Nat,k≤3∧t=F k∧Hid (Bw_ W2 wr)∧Hid ((1≤k→e1J j=0)∧(2≤k→e2J j=0)∧(3≤k→e3J j=0))) (fun t _=>3-(intOf t).toNat)
 case atStart=>exact⟨0,by omega,rfl,Ja _ _,fun h=>by omega,fun h=>by omega,fun h=>by omega⟩
 case round =>
  obtain⟨k,hk,rfl,m,f⟩:=hrel;have hd:=HD.o.below m.o;have a7:=O (bt a9.o m.o);rcases(by omega:k=0∨k=1∨k=2∨k=3) with rfl|rfl|rfl|rfl
  ·obtain⟨d0,d1⟩:=cl2 hd
   obtain⟨s,g⟩:=H ((az j.mt j.mc 1).2.1);obtain⟨ac,b⟩:=H ((az j.mt j.mc 1).1);have HG:=O (HA.o wr a7.o);clear hd
   by_cases hz:s=0
   ·have t1:((s:Int) != 0)=false:=by rw[hz];rfl
    have HZ:=O (show e1J j=0 by rw[←hz,g];rfl);have a:=O g;have c:=O b;clear hz g b;go_wp2_with (go_at_call 71;refine HG.o.mono ?_;rintro e w3⟨⟨Gg,gb,bv,sv,ev,rfl,-⟩,al⟩;rw[←a.o,←c.o];have aW:=O al;clear al);go_roundw
    case rel=>exact⟨1,by omega,rfl,bt m.o aW.o,fun _=>HZ.o,fun h=>by omega,fun h=>by omega⟩
    case measure=>decide
   ·have t1:((s:Int) != 0)=true:=by rw[bne_iff_ne];omega
    have HZ:=O (show bO j=(1,ac,s) by rw[g,b];exact xe (fun h=>hz (by rw[g];exact h)));exact Lv
  ·have d0:=hd.c 2
   have d1:=hd.c 3;obtain⟨s,g⟩:=H ((az j.jt j.jc 2).2.1);obtain⟨ac,b⟩:=H ((az j.jt j.jc 2).1);have HG:=O (HB.o wr a7.o);clear hd
   by_cases hz:s=0
   ·have t1:((s:Int) != 0)=false:=by rw[hz];rfl
    have HZ:=O (show e2J j=0 by rw[←hz,g];rfl);have a:=O g;have c:=O b;clear hz g b;go_wp2_with (go_at_call 71;refine HG.o.mono ?_;rintro e w3⟨⟨Gg,gb,bv,sv,ev,rfl,-⟩,al⟩;rw[←a.o,←c.o];have aW:=O al;clear al);go_roundw
    case rel=>exact⟨2,by omega,rfl,bt m.o aW.o,fun _=>f.o.1 Y,fun _=>HZ.o,fun h=>by omega⟩
    case measure=>decide
   ·have t1:((s:Int) != 0)=true:=by rw[bne_iff_ne];omega
    have HZ:=O (show bO j=(2,ac,s) by rw[g,b];exact xd (f.o.1 Y) (fun h=>hz (by rw[g];exact h)));exact Lv
  ·have d0:=hd.c 4
   have d1:=hd.c 5;obtain⟨s,g⟩:=H ((az j.tt j.tc 3).2.1);obtain⟨ac,b⟩:=H ((az j.tt j.tc 3).1);have HG:=O (HC.o wr a7.o);clear hd
   by_cases hz:s=0
   ·have t1:((s:Int) != 0)=false:=by rw[hz];rfl
    have HZ:=O (show e3J j=0 by rw[←hz,g];rfl);have a:=O g;have c:=O b;clear hz g b;go_wp2_with (go_at_call 71;refine HG.o.mono ?_;rintro e w3⟨⟨Gg,gb,bv,sv,ev,rfl,-⟩,al⟩;rw[←a.o,←c.o];have aW:=O al;clear al);go_roundw
    case rel=>exact⟨3,by omega,rfl,bt m.o aW.o,fun _=>f.o.1 Y,fun _=>f.o.2.1 Y,fun _=>HZ.o⟩
    case measure=>decide
   ·have t1:((s:Int) != 0)=true:=by rw[bne_iff_ne];omega
    have HZ:=O (show bO j=(3,ac,s) by rw[g,b];exact xc (f.o.1 Y) (f.o.2.1 Y) (fun h=>hz (by rw[g];exact h)));exact Lv
  ·have hx:=aR.o.below m.o
   have x6:=hx.c 6;have x7:=hx.c 7;have H4:=O (wZ (f.o.1 Y) (f.o.2.1 Y) (f.o.2.2 Y));rw[←HP.o,←v.o]at H4;clear hx hd;have i:(P<1∨16<P∨n<1∨65536<n)→Hid (bO j=(0,0,2)):=fun hc=>H4.o.trans (if_pos hc)
   by_cases q1:P<1
   ·have HZ:=i (.inl q1)
    exact Lw
   ·by_cases q2:16<P
    ·have HZ:=i (.inr (.inl q2))
     exact Lw
    ·by_cases q3:n<1
     ·have HZ:=i (.inr (.inr (.inl q3)))
      exact Lw
     ·by_cases q4:65536<n
      ·have HZ:=i (.inr (.inr (.inr q4)))
       exact Lw
      ·have HZ:=O (show bO j=(0,0,0) from H4.o.trans (if_neg (by rintro (h|h|h|h)<;>omega)))
       exact Lw
theorem jM (t1 c1 t2 c2 t3 c3:V_)(j:Jb)(w:Z)(h:dD w t1 c1 t2 c2 t3 c3 j):R_ 15 #[bM t1 c1 t2 c2 t3 c3 j] w (.bool (bK j)):=by
 have f:=O (fun w' (hB:Bw_ w w')=>tS t1 c1 t2 c2 t3 c3 j w' (h.below hB));obtain⟨ta,tc,ca,cc,aV,bd,be,bf,bg,bh,bi,bk,rfl,rfl,rfl,rfl,rfl,rfl⟩:=jo_ h.a.t h.a.c h.b.t h.b.c h.c.t h.c.c;unfold bM at f⊢;clear h;obtain⟨W1,aA⟩:=H (w.alloc (.cells #[.slice ta j.mt.length tc,.slice ca j.mc.length cc,.slice aV j.jt.length bd,.slice be j.jc.length bf,.slice bg j.tt.length bh,.slice bi j.tc.length bk,F j.parts,F j.fuel] 27));have a8:=ba_ aA;obtain⟨J,hJ⟩:=H w.heap.size;have hx:=bn_ hJ aA;obtain⟨x0,x1,x2,x3,x4,x5,x6,x7⟩:=cl8 hx;have a_:=O a8;go_enter func15,ntmps15;go_upto_region 1 with fail;rw[←aA,←hJ];obtain⟨m,hm⟩:=H (bK j);have a:(((bO j).2.2:Int)==0)=m:=by rw[hm];unfold bK;cases h:(bO j).2.2<;>rfl
 have HM:=O hm;clear aA hJ a8 hx hm;go_wp2_with (go_at_call 42;refine(f.o _ a_.o).mono ?_;rintro e w3⟨rfl,al⟩;have aW:=O al;clear al);go_ret;exact⟨by rw[←HM.o];rfl,bt a_.o aW.o⟩