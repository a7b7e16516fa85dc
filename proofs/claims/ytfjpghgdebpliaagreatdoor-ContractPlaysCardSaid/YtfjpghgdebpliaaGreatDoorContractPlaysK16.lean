/- Lemmas. -/
import Derived.Test.YtfjpghgdebpliaaGreatDoorContractPlaysK15
set_option linter.unusedSimpArgs false
set_option linter.unusedVariables false
set_option maxRecDepth 100000
set_option maxHeartbeats 16000000
namespace Go.Proofs.YtfjpghgdebpliaaGreatDoor
attribute [local irreducible] wpG
open Go.Proofs.Tryz
open Go.RowKit Oct
section
open Go.RowKit Oct Go.WideMaps Go.Maps
def dp (w:Z):Prop:=∀ k,1≤k→k≤23→w.cell? ⟨1,k,none⟩=some (.func (.func (sW.getD k 0)) #[] #[])
theorem dp.below {w w':Z}(h:dp w)(hB:Bw_ w w'):dp w':=fun k h1 h2=>IF hB (h k h1 h2)
theorem Gc {a b:Nat}(h:a≠b):((a:Int) != (b:Int))=true:=by rw[bne_iff_ne];omega
theorem Ge {a b:Nat}(h:a=b):((a:Int) != (b:Int))=false:=by subst h;simp
theorem Ag {texts:LL_}{I:LJ_}{ag:U8_}(h:(az texts I ag).2.1=0)(hc:I.length≤5000):(az texts I ag).2.2.ends.length=I.length∧∀ j,j<I.length→0≤(az texts I ag).2.2.ends.getD j 0∧(az texts I ag).2.2.ends.getD j 0≤5000:=by
 have hg:=(ju (texts:=texts) (I:=I) (ag:=ag) h (ins:=List.replicate (inputsV ag) []) i_ (fun s hs=>by rw[(List.mem_replicate.1 hs).2];simp)).1;refine⟨qR hg,fun j hj=>?_⟩;have hE:(az texts I ag).2.2.ends=(stV texts.length (inputsV ag) ag I I.length).ends:=hg.ends;have hr:=(hg.run (I6 _)).inv.en j hj;rw[hE];rcases hr with ⟨h0,-⟩|⟨-,-,h1,h2,-⟩
 ·have h0:(stV texts.length (inputsV ag) ag I I.length).ends.getD j 0=0:=h0
  omega
 ·have h1:(j:Int)<(stV texts.length (inputsV ag) ag I I.length).ends.getD j 0:=h1
  have h2:(stV texts.length (inputsV ag) ag I I.length).ends.getD j 0<(I.length:Int):=h2;omega
theorem AV {bZ:Nat}{w:Z}{G M:Nat}{cs:LV_}{t:T_}{n:Nat}{c:Int→Nat}(hG:bZ≤G)(hM:bZ≤M)(aI:G≠M)(hb:Blk w G t cs)(hm:kj w M n c):Sep bZ w [aF G hG t cs,ownPt jm (e_) [],ownPt fH (e_) [],boxPt [],ownPt recKv (e_) [],ownPt bD (e_) [],wj M n c]:=by
 refine⟨fun p hp=>?_,?_⟩
 ·simp only[JK,List.not_mem_nil,or_false]at hp
  rcases hp with rfl|rfl|rfl|rfl|rfl|rfl|rfl
  ·exact hb
  ·exact Rec.Own.nil _ _
  ·exact Rec.Own.nil _ _
  ·exact⟨fun e he=>absurd he (List.not_mem_nil),List.Pairwise.nil⟩
  ·exact Rec.Own.nil _ _
  ·exact Rec.Own.nil _ _
  ·exact⟨hM,hm⟩
 ·have hn:∀ {α:Type} (R:Rec α) (k:Nat),¬(ownPt (bZ:=bZ) R (e_) []).fp k:=fun R k hk=>by cases hk
  have hx:∀ k,¬(boxPt (bZ:=bZ) []).fp k:=fun k hk=>by obtain⟨e,he,_⟩:=hk;cases he
  refine List.Pairwise.cons (fun ap hq k hk H=>?_) (List.Pairwise.cons (fun ap _ k hk=>absurd hk (hn _ k)) (List.Pairwise.cons (fun ap _ k hk=>absurd hk (hn _ k)) (List.Pairwise.cons (fun ap _ k hk=>absurd hk (hx k)) (List.Pairwise.cons (fun ap _ k hk=>absurd hk (hn _ k)) (List.Pairwise.cons (fun ap _ k hk=>absurd hk (hn _ k)) (List.pairwise_singleton _ _))))));simp only[JK,List.not_mem_nil,or_false]at hq;rcases hq with rfl|rfl|rfl|rfl|rfl|rfl
  ·exact hn _ k H
  ·exact hn _ k H
  ·exact hx k H
  ·exact hn _ k H
  ·exact hn _ k H
  ·exact aI ((show k=G from hk).symm.trans H)
theorem cK {texts:LL_}{I:LJ_}{ag:U8_}{ins:LL_}{aa:Int}(h:¬((az texts I ag).2.1=0∧ins.length=inputsV ag∧0≤aa∧aa≤65536∧∀ s∈ins,s.length≤1024)):dR texts I ag ins aa=false:=by
 cases h2:dR texts I ag ins aa with
 | false=>rfl
 | true=>exact absurd (gm h2) h
theorem Lc {T:Prop} (h:T:=by
 go_wp2_with fail;go_ret2;exact⟨.inl ⟨HF.o,rfl⟩,aY.o⟩
):T:=h
theorem Ld {T:Prop} (h:T:=by
 have HF:=O (cK (texts:=texts) (I:=I) (ag:=ag) (ins:=ins) (aa:=aa) (fun h=>by omega));clear k1 k2;exact Lc
):T:=h
theorem Mj {T:Prop} (h:T:=by
 have t5:¬1024<(s.length:Int):=by omega
 have HL:=O hl;clear hl;go_wp2_with fail;go_roundw
 case rel=>exact⟨k+1,by omega,by go_num,by trivial,fun j hj a3=>by
  by_cases br:j<k
  ·exact HH.o j hj br
  ·obtain rfl:j=k:=by omega
   rw[←HS.o];have:=HL.o;omega⟩
 case measure=>simp[intOf];omega
):T:=h
theorem MJ {T:Prop} (h:T:=by
 intro h;exact hr (UInt8.toNat_inj.1 (by show ag.toNat=1;omega))
):T:=h
theorem DR (tv cv iv:V_)(texts:LL_)(I:LJ_)(ag:U8_)(ins:LL_)(aa:Int)(w:Z)(hA:pm w tv cv texts I)(hi:aP.Row w iv ins)(b5:ins.length≤10)(bx:I.length≤5000)(L:∀ s∈ins,s.length≤140737488355328)(bJ:-9223372036854775808≤aa)(bb:aa≤9223372036854775807)(bq:dS w)(aT:dp w):C_ 174 #[.agg #[tv,cv],.int .u8 ag.toNat,iv,F aa] w fun e w' => ((dR texts I ag ins aa=false∧e=.returned (.tuple #[.pointer none,F 2])) ∨ (dR texts I ag ins aa=true∧∃ bZ G M ev,e=.returned (.tuple #[p_ G,F 0])∧w.heap.size≤bZ∧MS bZ w' G M ⟨texts,I,ins,(az texts I ag).2.2.ends⟩ tv cv iv ev [] 0 [] (List.replicate 8 (0,[])) [] [] ∧∀ bc,B_ bZ w' bc→GV bc ⟨texts,I,ins,(az texts I ag).2.2.ends⟩ tv cv iv ev))∧Bw_ w w':=by
 obtain⟨ak,ct,rfl,-,-⟩:=au hA.t;obtain⟨ac,cc,rfl,-,-⟩:=aj hA.c;obtain⟨ai,ci,rfl,-,-⟩:=au hi;have bf:=O (fun w' (hB:Bw_ w w')=>EF _ _ texts I ag w' (hA.below hB));obtain⟨HI,HA,HG,HD,bh⟩:=zH5 hi hA bq aT L;obtain⟨W1,aA⟩:=H (w.alloc (.cells #[.slice ak texts.length ct,.slice ac I.length cc] 25));have a8:=ba_ aA;have hx:=bm_ aA;obtain⟨x0,x1⟩:=cl2 hx;have a_:=O a8;have HX:=O hx;obtain⟨B4,aQ⟩:=H w.heap.size;clear hA hi bq aT L a8 hx;go_enter func174,ntmps174;go_upto_region 1 with fail;rw[←aA,←aQ];rw[←aQ]at x0 x1;have ba:=O aQ;clear aA aQ
 go_upto_if 25 with(go_at_call 183;refine(bf.o _ a_.o).mono ?_;rintro e w2⟨⟨ev,rfl,aV⟩,ax⟩)
 obtain⟨e0,bl⟩:=H ((az texts I ag).2.1);have a0:=O bl;rw[←bl]at aV⊢;have HJ:=O aV;have a9:=O ax;obtain⟨N,hN⟩:=H (inputsV ag);have HN:=O hN;clear aV ax bl hN
 go_cut [12] (fun t wx=>t=F N∧wx=w2)
 case first =>
  by_cases hr:ag=1
  ·have t1:((ag.toNat:Int)==1)=true:=by rw[hr];rfl
   have a':=O (show N=1 by rw[HN.o,hr];rfl);clear hr;go_wp2_with fail
   go_meet
   case rel=>exact⟨by rw[a'.o];rfl,rfl⟩
  ·have t1:((ag.toNat:Int)==1)=false:=by
    rw[beq_eq_false_iff_ne];exact MJ
   have a':=O (show N=2 by rw[HN.o];unfold inputsV;rw[if_neg hr]);clear hr;go_wp2_with fail
   go_meet
   case rel=>exact⟨by rw[a'.o];rfl,rfl⟩
 case rest =>
  obtain⟨rfl,rfl⟩:=hcut;have aY:=O (bt a_.o a9.o)
  by_cases k1:e0=0
  ·have t1:((e0:Int) != 0)=false:=by rw[k1];rfl
   by_cases k2:ins.length=N
   ·have t2:((ins.length:Int) != (N:Int))=false:=Ge k2
    by_cases k3:aa<0
    ·exact Ld
    ·by_cases k4:65536<aa
     ·exact Ld
     ·have K1:=O k1
      obtain⟨K2,K3,K4⟩:=zH3 k2 k3 k4;have bA:=HJ.o;rw[if_pos k1]at bA;obtain⟨r,q⟩:∃ x,x=(az texts I ag).2.2.ends:=⟨_,rfl⟩
      rw[←q]at bA;obtain⟨aS,l⟩:=Ag (texts:=texts) (I:=I) (ag:=ag) (by rw[←a0.o];exact k1) bx;rw[←q]at aS l;have bi:=O l;obtain⟨ae,ce,rfl,g⟩:=eb bA;rw[aS]at bA⊢;obtain⟨a4,bk,aO,bM⟩:=zH4 bA g aS q;clear bA g aS q l;have j1:(ins.length:Int)≤10:=Y;clear k1 k2;go_wp2_with fail
      go_loopw [44] (fun t wr=>∃ k:Nat,k≤ins.length∧t=F k∧wr=wc∧Hid (∀ j (hj:j<ins.length),j<k→ins[j].length≤1024)) (fun t _=>ins.length-(intOf t).toNat)
      case atStart=>exact⟨0,by omega,rfl,rfl,fun j _ h=>by omega⟩
      case round =>
       obtain⟨k,hk,rfl,rfl,HH⟩:=hrel
       by_cases h0:k<ins.length
       ·obtain⟨bW,bX,aN,-,bK⟩:=au (HI.o.below aY.o)
        obtain⟨b,aL,rfl,d0⟩:=bK k h0;injection aN with e1 e2 e3
        subst e1 e3;have i0:=nn_ k;have i1:(k:Int)<ins.length:=Y;have bj:=bh.o _ (Jz h0);obtain⟨s,hs⟩:=H (ins[k]);rw[←hs]at d0 bj;have HS:=O hs;have bT:(s.length:Int)≤140737488355328:=Y;clear bK hs
        by_cases hl:1024<s.length
        ·have t5:1024<(s.length:Int):=Y
         have HF:=O (cK (texts:=texts) (I:=I) (ag:=ag) (ins:=ins) (aa:=aa) (fun h=>by have:=h.2.2.2.2 _ (Jz h0);rw[←HS.o]at this;omega));exact Lc
        ·exact Mj
       ·obtain⟨V,hV⟩:=H wr
        subst hV
        have a1:=O (fun s (hs:s∈ins)=>show s.length≤1024 by
         obtain⟨j,hj,rfl⟩:=List.getElem_of_mem hs;exact HH.o j hj Y)
        have HF:=O (s6 (texts:=texts) (I:=I) (ag:=ag) (ins:=ins) (aa:=aa) (by rw[←a0.o];exact K1.o) (by rw[←HN.o];exact K2.o) (by have:=K3.o;omega) (by have:=K4.o;omega) a1.o);have i1:¬(k:Int)<ins.length:=Y;have x0:=IF (bt a9.o (Ja _ _)) x0;have x1:=IF (bt a9.o (Ja _ _)) x1;have aK:=@run_makeMap prog;go_upto_region 14 with fail;obtain⟨M,bD⟩:=H V.heap.size;obtain⟨cs,aR⟩:∃ cs:LV_,cs=[.slice ak texts.length ct,.slice ac I.length cc,.slice ai ins.length ci,.slice ae I.length ce,.map (some V.heap.size),F 0,e_,F 0,.string ⟨#[]⟩,F 0,.string ⟨#[]⟩,F 0,.string ⟨#[]⟩,F 0,.string ⟨#[]⟩,F 0,.string ⟨#[]⟩,F 0,.string ⟨#[]⟩,F 0,.string ⟨#[]⟩,F 0,.string ⟨#[]⟩,e_,e_,.string ⟨#[]⟩,F 0,e_]:=⟨_,rfl⟩
        obtain⟨W3,aB⟩:=H ((V.alloc (.map #[] 0)).alloc (.cells cs.toArray 271));have a5:kj (V.alloc (.map #[] 0)) M 0 (dQ I r 0):=by rw[bD];exact⟨_,World.ownsMap_made _ _ _ _,fun i=>rfl⟩
        have ay:kj W3 M 0 (dQ I r 0):=a5.block (by rw[aB];exact Below.heap_alloc _ _ _ a5.lt);have a6:(V.alloc (.map #[] 0)).heap.size=M+1:=by rw[bD];exact bP _ _
        have bH:Blk W3 (M+1) 271 cs:=by rw[aB,←a6];exact Blk.new _ _ _
        have aX:Bw_ V W3:=by rw[aB];exact bt (af _ _) (af _ _)
        have aI:cs=bE ⟨.slice ak texts.length ct,.slice ac I.length cc,.slice ai ins.length ci,.slice ae I.length ce,.map (some M),[],0⟩ 0 (e_) (List.replicate 8 (0,[])) (e_) (e_) [] 0 (e_):=by rw[aR,bD];rfl
        have A:(((V.alloc (.map #[] 0)).alloc (.cells #[.slice ak texts.length ct,.slice ac I.length cc,.slice ai ins.length ci,.slice ae I.length ce,.map (some V.heap.size),F 0,e_,F 0,.string ⟨#[]⟩,F 0,.string ⟨#[]⟩,F 0,.string ⟨#[]⟩,F 0,.string ⟨#[]⟩,F 0,.string ⟨#[]⟩,F 0,.string ⟨#[]⟩,F 0,.string ⟨#[]⟩,F 0,.string ⟨#[]⟩,e_,e_,.string ⟨#[]⟩,F 0,e_] 271)))=W3:=by rw[aB,aR]
        rw[A];obtain⟨d,a2,aW,bO⟩:=zH4 ay bH aX aI;rw[←bD];have bn:=O bD;have bQ:=IF aW.o x1;have j5:(I.length:Int)≤5000:=Y;clear a5 ay a6 bH aX aI A aB aR bD x0 x1;go_wp2_with fail
        go_loopw [61] (fun t wr=>∃ k:Nat,k≤I.length∧t=F k∧Hid (kj wr M k (dQ I r k))∧Hid (Chg (fun b=>b=M) W3 wr)) (fun t _=>I.length-(intOf t).toNat)
        case atStart=>exact⟨0,by omega,rfl,d.o,Chg.refl _ _⟩
        case round =>
         obtain⟨ap,hq,rfl,aZ,bS⟩:=hrel;have bF:B_ M W3 wr:=bS.o.below (fun k hk=>by rw[show k=M from hk];exact I6 _) (by have:=aW.o.size;rw[←bn.o]at this;exact this);have aF:Bw_ w wr:=(bt aY.o aW.o).trans (bF.mono (by rw[bn.o];exact aY.o.size));have bG:=O bF;have a7:=O aF;clear bF aF
         by_cases h1:ap<I.length
         ·obtain⟨bY,bI,bB,-,bm⟩:=aj (HA.o.c.below a7.o)
          obtain⟨b,aL,rfl,d0,d1⟩:=bm ap h1;injection bB with e1 e2 e3
          subst e1 e3;have i0:=nn_ ap;have i1:(ap:Int)<I.length:=Y;have av:I.getD ap (0,0)=I[ap]:=by rw[List.getD_eq_getElem?_getD,List.getElem?_eq_getElem h1];rfl
          have E:=O (fun i=>wY I r ap i);obtain⟨op,aE⟩:=H (I[ap].1);obtain⟨y,hy⟩:=H (I[ap].2);rw[←aE]at d0;rw[←hy]at d1;rw[av,←aE]at E;have bo:b<wr.heap.size:=aG d0;clear bm av aE hy
          by_cases B:op=22
          ·have t5:((op.toNat:Int)==22)=true:=by rw[B];rfl
           have b0:=O B;clear B;go_upto_region 18 with fail;obtain⟨U,hU⟩:=H (wr.alloc (.cells #[.int .u8 op.toNat,.int .u8 y.toNat] 109));have u:=ba_ hU;rw[←hU];have bz:Bw_ V wr:=aW.o.trans (by rw[←bn.o];exact bG.o);have g0:=(a2.o.chg bS.o Y).cell (k:=4) (v:=.map (some M)) (by rw[bO.o];rfl);have g0:=IF u g0;have bp:ap<r.length:=by rw[aO.o];exact h1
           obtain⟨be,oe,rfl,g1⟩:=bk.o ap bp;have g1:=IF (bt bz u) g1;have aJ:r.getD ap 0=r[ap]:=by rw[List.getD_eq_getElem?_getD,List.getElem?_eq_getElem bp];rfl
           have l:=bi.o ap h1;obtain⟨v,hv⟩:=H (r[ap]);rw[←hv]at g1 aJ;rw[aJ]at E l;have ah:=aZ.o.block (u.block M aZ.o.lt);have bU:=B8 I r ap v;obtain⟨c,hc⟩:=H (dQ I r ap v);rw[←hc]at bU;have HC:=O hc
           have bd:∀ w',Bw_ U w'→(Instr.lookup 264 (.map (some M)) (F v) false).run prog w'=.ok (F c) w':=fun w' hB=>by
            have:=(ah.block (hB.block M ah.lt)).look (i:=v) Y Y;rw[HC.o];exact this
           obtain⟨al,bN,bV⟩:=zH3 bd ah u;have b4:(c:Int)≤5000:=Y;clear hv aJ hc bd ah bz u hU;refine aU 10 [(3,.exact Bel (.map (some M))),(7,.exact Bel (F v)),(8,.exact Bel (F c))] q_ q_ ?_;simp only[Jw,JE,Ju,JF];refine cG ?_;refine gl_ g0 ?_;refine gl_ g1 ?_;refine gj_ (fun w' G hB hS hG=>?_) ?_
           ·have cc:=al.o _ hB
            go_simp;exact hG _ (Bel.refl _)
           refine As ?_
           (intro w' hB hA;simp only[aD.all_some,IL,and_true]at hA)
           have aw:=bN.o.block (hB.block M bN.o.lt);obtain⟨D,aw,aC⟩:=aw;have bL:=O aC;have bv:=Ib (n:=v) Y Y;have b1:ap<maxLen:=by unfold maxLen;omega
           have bg:=O (bt bV.o hB);clear aC hB hA;go_wp2_with (at_mapUpdate;refine wpList_mapUpdate_own _ rfl _ _ _ 264 rfl 3 3 Ia underlying264 _ M ap _ rfl aw b1 _ _ _ rfl rfl bv _ [] (plainElem_int underlying3 (WalkArith.wf_i64 Y)) ?_;intro w1 aH m);refine⟨⟨ap+1,by omega,by go_num,⟨_,aH,fun i=>?_⟩,(bS.o.trans (IG bg.o)).trans ⟨m.os,m.tape,m.output,m.size,fun b hb hn=>m.block b hb (fun e=>hn (Option.some.inj e))⟩⟩,by simp[intOf];omega⟩;rw[E.o i]
           by_cases bR:v=i
           ·subst bR
            rw[if_pos ⟨b0.o,rfl⟩,atKey_put_same aw.isMap (by trivial),←HC.o]
            rfl
           ·rw[if_neg (fun h=>bR h.2),atKey_put_other (by intro e;injection e with _ e;exact bR e.symm),bL.o i]
            rfl
          ·have t5:((op.toNat:Int)==22)=false:=by
            rw[beq_eq_false_iff_ne];intro h;exact B (UInt8.toNat_inj.1 (by show op.toNat=22;omega))
           have b2:=O (funext fun i=>by rw[E.o i,if_neg (fun h=>B h.1)];rfl:dQ I r (ap+1)=dQ I r ap);clear B;have bC:=af wr (.cells #[.int .u8 op.toNat,.int .u8 y.toNat] 109);have bw:=O bC;clear bC;go_wp2_with fail;exact⟨⟨ap+1,by omega,by go_num,by rw[b2.o];exact(aZ.o.block (bw.o.block M aZ.o.lt)).mono (Nat.le_succ _),bS.o.trans (IG bw.o)⟩,by simp[intOf];omega⟩
         ·obtain rfl:ap=I.length:=Y
          go_wp2_with fail;go_ret2;refine⟨.inr ⟨by rw[←a0.o]at *;exact HF.o,M,M+1,M,.slice ae I.length ce,rfl,by rw[bn.o];exact aY.o.size,?_,?_⟩,a7.o⟩
          ·rw[←bM.o]
           refine⟨[],_,_,_,_,⟨Nat.le_succ _,rfl,AV (t:=271) (n:=I.length) (c:=dQ I r I.length) (Nat.le_succ _) (I6 _) Y (by rw[←bO.o];exact a2.o.chg bS.o Y) aZ.o⟩,rfl,fun e he=>absurd he (List.not_mem_nil)⟩
          ·intro bc hB
           have ab:Bw_ w bc:=a7.o.trans (hB.mono (by rw[bn.o];exact aY.o.size));have b3:Bw_ V bc:=(aW.o.trans (by rw[←bn.o];exact bG.o)).trans (by rw[←bn.o];exact hB);rw[←bM.o];exact⟨HA.o.t.below ab,HA.o.c.below ab,HI.o.below ab,a4.o.below b3,HG.o.below ab,HD.o.below ab⟩
   ·have t2:((ins.length:Int) != (N:Int))=true:=Gc k2
    have HF:=O (cK (texts:=texts) (I:=I) (ag:=ag) (ins:=ins) (aa:=aa) (fun h=>k2 (by rw[HN.o];exact h.2.1)));clear k1 k2;exact Lc
  ·have t1:((e0:Int) != 0)=true:=by rw[bne_iff_ne];omega
   have HF:=O (cK (texts:=texts) (I:=I) (ag:=ag) (ins:=ins) (aa:=aa) (fun h=>k1 (by rw[a0.o];exact h.1)));clear k1;exact Lc
end
section
variable {bZ G:Nat}{w w' w3:Z}{f:Mf}{ak:Int}{st rg:LM_}{ad:List Eo}{W:LX_}{tr:LI_}{ar an J ao:V_}{X:List (Pt bZ)}
theorem MR.setSn (h:MR bZ w G f ak st rg ad W tr ar an J ao X)(n:Int):MR bZ (w.setCell ⟨G,26,none⟩ (F n)) G { f with sn:=n } ak st rg ad W tr ar an J ao X∧B_ bZ w (w.setCell ⟨G,26,none⟩ (F n)):=by
 have hs:Chg (fun k=>k=G) w (w.setCell ⟨G,26,none⟩ (F n)):=Chg.setCell _ _ _ rfl
 have aR:(bE f ak ar rg an J f.tx f.sn ao).set 26 (F n)=bE { f with sn:=n } ak ar rg an J f.tx n ao:=by
  exact MG
 have hb:=h.blk.set 26 (F n);rw[aR]at hb;have s2:=h.sep.upd (i:=0) rfl hs (fun k hk=>hk) (aF G h.gb 271 (bE { f with sn:=n } ak ar rg an J f.tx n ao)) hb (fun k hk=>.inl hk);exact Mp
theorem MR.setTx (h:MR bZ w G f ak st rg ad W tr ar an J ao X)(s:q):MR bZ (w.setCell ⟨G,25,none⟩ (s_ s)) G { f with tx:=s } ak st rg ad W tr ar an J ao X∧B_ bZ w (w.setCell ⟨G,25,none⟩ (s_ s)):=by
 have hs:Chg (fun k=>k=G) w (w.setCell ⟨G,25,none⟩ (s_ s)):=Chg.setCell _ _ _ rfl
 have aR:(bE f ak ar rg an J f.tx f.sn ao).set 25 (s_ s)=bE { f with tx:=s } ak ar rg an J s f.sn ao:=by
  exact MG
 have hb:=h.blk.set 25 (s_ s);rw[aR]at hb;have s2:=h.sep.upd (i:=0) rfl hs (fun k hk=>hk) (aF G h.gb 271 (bE { f with tx:=s } ak ar rg an J s f.sn ao)) hb (fun k hk=>.inl hk);exact Mp
end
theorem aX {P:Program}{fn:Func}{p u:Tmp}{ty:T_}{aE:AV_}{w:Z}{v:V_}{b:Nat}(hr:fn.results=#[.cell p ty,.tmp u])(hp:aE.getD p undef=p_ b)(hl:(loadVar ty ⟨b,0,none⟩).run P w=.ok v w):(results fn aE).run P w=.ok (.tuple #[v,aE.getD u undef]) w:=by
 simp only[Array.getD_eq_getD_getElem?]at hp⊢;simp[results,hr,Sem.run_bind,Result.andThen,hp,asAddr,hl]
theorem sg {texts:LL_}{I:LJ_}{ag:U8_}{ins:LL_}{aa:Int}(h:dR texts I ag ins aa=true)(am:Nat)(h0:(dG ⟨texts,I,ins,(az texts I ag).2.2.ends⟩ am bF).1=0):(dG ⟨texts,I,ins,(az texts I ag).2.2.ends⟩ am bF).2.st.length=(gB ag).length∧(dG ⟨texts,I,ins,(az texts I ag).2.2.ends⟩ am bF).2.pr.length≤256:=by
 obtain⟨h1,h2,-,-,h5⟩:=gm h;obtain⟨hg,hk⟩:=ju h1 h2 h5;obtain⟨bb,u⟩:=tJ hg am bF lg h0;have ab:=bb.st;rw[u]at ab;exact⟨by rw[ab];exact congrArg List.length hk,bb.pr⟩
theorem ek {w:Z}{b:Nat}{v0 v1 v2:V_}(h0:w.cell? ⟨b,0,none⟩=some v0)(h1:w.cell? ⟨b,1,none⟩=some v1)(h2:w.cell? ⟨b,2,none⟩=some v2):(loadVar 234 ⟨b,0,none⟩).run prog w=.ok (.agg #[v0,v1,v2]) w:=by
 go_simp
theorem dr {w:Z}{b:Nat}{t:T_}{a0 a1 a2:V_}(hx:Blk w b t [a0,a1,a2])(v0 v1 v2:V_):Blk (((w.setCell ⟨b,0,none⟩ v0).setCell ⟨b,1,none⟩ v1).setCell ⟨b,2,none⟩ v2) b t [v0,v1,v2]∧Chg (fun x=>x=b) w (((w.setCell ⟨b,0,none⟩ v0).setCell ⟨b,1,none⟩ v1).setCell ⟨b,2,none⟩ v2) :=
 ⟨((hx.set 0 v0).set 1 v1).set 2 v2,Chg.trans (Chg.trans (Chg.setCell w ⟨b,0,none⟩ v0 rfl) (Chg.setCell _ ⟨b,1,none⟩ v1 rfl)) (Chg.setCell _ ⟨b,2,none⟩ v2 rfl)⟩
theorem Blk.low {w w':Z}{b bZ:Nat}{t:T_}{cs:LV_}(h:Blk w b t cs)(hB:B_ bZ w w')(hb:b<bZ):Blk w' b t cs:=by
 unfold Blk at h⊢;rw[hB.block b hb];exact h
def GS (B:Nat)(r:Nat×LX_×q)(e:Ending)(w:Z):Prop :=
 ∃ pv n,e=.returned (.tuple #[.agg #[pv,.string (bs r.2.2),.int .i64 n],.int .i64 r.1])∧recKv.Row w pv r.2.1∧∀ k,pv.ownBlock=some k→B≤k
theorem M2 {T:Prop} (h:T:=by
 obtain⟨hm,-⟩:=fi a1;unfold dH at hm;simp only[Jj,decide_eq_true_eq]at hm;exact hm.1.1.2
):T:=h
theorem FL (tv cv iv:V_)(texts:LL_)(I:LJ_)(ag:U8_)(ins:LL_)(aa:Int)(w:Z)(hA:pm w tv cv texts I)(hi:aP.Row w iv ins)(b5:ins.length≤10)(bx:I.length≤5000)(L:∀ s∈ins,s.length≤140737488355328)(bJ:-9223372036854775808≤aa)(bb:aa≤9223372036854775807)(bq:dS w)(aT:dp w):C_ 164 #[.agg #[tv,cv],.int .u8 ag.toNat,iv,F aa] w fun e w'=>GS w.heap.size (vmV texts I ag ins aa) e w'∧Bw_ w w':=by
 obtain⟨ak,ct,rfl,-,-⟩:=au hA.t;obtain⟨ac,cc,rfl,-,-⟩:=aj hA.c;obtain⟨ai,ci,rfl,-,-⟩:=au hi;have g:=O (fun w' (hB:Bw_ w w')=>DR _ _ _ texts I ag ins aa w' (hA.below hB) (hi.below hB) b5 bx L bJ bb (bq.below hB) (aT.below hB));have V:=O hA.lt;obtain⟨B4,aQ⟩:=H w.heap.size;obtain⟨W1,aA⟩:=H ((w.alloc (.cells #[.slice ak texts.length ct,.slice ac I.length cc] 25)).alloc (.cells #[e_,.string ⟨#[]⟩,F 0] 234));have a8:Bw_ w W1:=by rw[aA];exact bt (af _ _) (af _ _)
 have bp:(w.alloc (.cells #[.slice ak texts.length ct,.slice ac I.length cc] 25)).heap.size=B4+1:=by rw[aQ];exact bP _ _
 have hx:Blk W1 B4 25 [.slice ak texts.length ct,.slice ac I.length cc]:=by rw[aQ,aA];exact(Blk.new w _ _).below (af _ _)
 have hy:Blk W1 (B4+1) 234 [e_,.string ⟨#[]⟩,F 0]:=by rw[aA,←bp];exact Blk.new _ _ _
 have a6:W1.heap.size=B4+2:=by rw[aA,bP,bp]
 obtain⟨x0,x1⟩:=cl2 hx;obtain⟨a_,HY,ba,aL⟩:=zH4 a8 hy aQ a6;go_enter func164,ntmps164;go_upto_region 1 with fail;rw[←aA,←aQ];clear aA aQ hA hi bq aT L a8 hx hy bp a6
 go_upto_if 22 with(go_at_call 174;refine(g.o _ a_.o).mono ?_;rintro e w2⟨dj,ax⟩;(rcases dj with ⟨a0,rfl⟩|⟨o,bZ,G,M,ev,rfl,aq,U,S⟩))
 ·have HN:=O (xF a0)
  have D:=bt a_.o ax;have a:=HY.o.below ax;obtain⟨y0,y1,y2⟩:=cl3 a;obtain⟨k0,k1,k2⟩:=fr3 a;have N:=O a;have R:=O D;clear a0 a D ax x0 x1;go_wp2_with fail;obtain⟨y,aI⟩:=dr N.o (e_) (.string ⟨#[]⟩) (F 0);refine bodyPost_ret (aX rfl rfl (ek (y.c 0) (y.c 1) (y.c 2))) rfl ?_;rw[HN.o];exact⟨⟨_,_,rfl,Rec.Row.nil _,fun k hk=>by cases hk⟩,R.o.trans (aI.below (fun k hk=>by rw[show k=B4+1 from hk,ba.o];exact Nat.le_succ _) R.o.size)⟩
 ·obtain⟨a1,a2,a3,a4,a5⟩:=gm o
  obtain⟨am,rfl⟩:∃ am:Nat,aa=(am:Int):=⟨aa.toNat,by omega⟩
  have hg:=(ju a1 a2 a5).1;have bN:am≤65536:=Y
  have ae:I.length≤256:=by
   exact M2
  have HV:=O (tn o);rw[Je]at HV;have aY:=O (sg o am);obtain⟨E,hE⟩:∃ E:Me,E=⟨texts,I,ins,(az texts I ag).2.2.ends⟩:=⟨_,rfl⟩
  have aO:E.code.length=I.length:=by rw[hE]
  rw[←hE]at hg U S HV aY;have HR:=O (Cy hg (by have:=V.o;omega) (by unfold inputsV;split<;>omega) Y am Y U S);have K:=bt a_.o ax;have N:=O (HY.o.below ax);have R:=O K;have cE:=O (show bZ≤w2.heap.size by obtain⟨_,_,_,_,_,_,hm,_⟩:=U.mr;exact hm.size);have bl:Hid (B4+2≤bZ):=by rw[←aL.o];exact aq
  obtain⟨c,hc⟩:=H ((dG E am bF).1);rw[←hc]at HR aY;have HC:=O hc;clear hg U S hE aO K ax aq hc a1 a2 a3 a4 a5 o x0 x1 g a_ HY ae
  by_cases h0:c=0
  ·subst h0
   obtain⟨bj,-⟩:=aY.o rfl;obtain⟨b,u⟩:=H ((dG E am bF).2);have x:=O (show rB E ag am=(0,b.pr,if ag=1 then [] else (b.st.headD (0,[])).2) by unfold rB;rw[←HC.o,if_pos rfl,u]);rw[←u]at HR bj;have aU:=O bj;clear u bj aY
   go_upto_if 42 with(go_at_call 175;refine HR.o.mono ?_;rintro r w3⟨rfl,l,al⟩;obtain⟨tr,i,l⟩:=l rfl;obtain⟨ad,sv,ov,pv,ta,tc,ay,-,-⟩:=l.mr;have ab:=ay.cellR (k:=4) rfl;have f26:=ay.free (k:=26) d_;have z:w3.cell? ⟨G,26,none⟩=some (F 0):=ay.cellR (k:=3) rfl;have d:=O ay;have aW:=O al;have aw:(tr.length:Int)≤65536:=Y;clear l ay al i)
   obtain⟨n,hn⟩:=H ((tr.length:Int));obtain⟨t,bC⟩:=d.o.setSn n;obtain⟨W4,bw⟩:=H (w3.setCell ⟨G,26,none⟩ (F n));rw[←hn,←bw];rw[←bw]at t bC;have A:=aW.o.trans bC;have B:=O t;have aJ:=O A;have aC:=O (N.o.low A yzl);clear hn bw ab f26 z d aW aw t bC A
   by_cases hr:ag=1
   ·have t1:((ag.toNat:Int) != 1)=false:=by rw[hr];rfl
    have j:=O (show vmV texts I ag ins am=(0,b.pr,[]) by rw[HV.o,x.o,if_pos hr]);have t:=B.o;have m:=t.cellR (k:=1) rfl;have Q:=t.cellR (k:=2) rfl;have z:=t.cellR (k:=3) rfl;obtain⟨y0,y1,y2⟩:=cl3 aC.o;obtain⟨k0,k1,k2⟩:=fr3 aC.o;obtain⟨_,_,⟨P,pc,rfl⟩,_⟩:=t.slices;clear hr t;dsimp only at m Q z;go_wp2_with fail;obtain⟨y,aI⟩:=dr aC.o (.slice P b.pr.length pc) (s_ []) (F n);refine bodyPost_ret (aX rfl rfl (ek (y.c 0) (y.c 1) (y.c 2))) rfl ?_;rw[j.o];refine⟨⟨_,_,rfl,(B.o.op.chgV aI (fun k hk e=>?_)).row,fun k hk=>by have:=(B.o.op.ltV k hk).1;have:=bl.o;have:=ba.o;omega⟩,(R.o.trans (aJ.o.mono yzk)).trans (aI.below (fun k hk=>by rw[show k=B4+1 from hk,ba.o];exact Nat.le_succ _) (by have:=R.o.size;have:=aJ.o.size;omega))⟩;have h9:=(B.o.op.ltV k hk).1;rw[show k=B4+1 from e]at h9;have:=bl.o;omega
   ·have t1:((ag.toNat:Int) != 1)=true:=by
     rw[bne_iff_ne];exact MJ
    obtain⟨v,hv⟩:∃ v,b.st=[v]:=by
     have h1:=aU.o;unfold gB at h1;rw[if_neg hr]at h1
     match hq:b.st,h1 with
     | [v],_=>exact⟨v,rfl⟩
    have j:=O (show vmV texts I ag ins am=(0,b.pr,v.2) by rw[HV.o,x.o,if_neg hr,hv];rfl);rw[hv]at B;obtain⟨_,_,⟨P,pc,rfl⟩,_⟩:=B.o.slices;have HP:=O (fg v B.o i_);clear hr hv aU x;go_wp2_with (go_at_call 176;refine HP.o.mono ?_;rintro r w5⟨rfl,⟨bi,av⟩,aN⟩;unfold mvV;have f25:=av.free (k:=25) d_;have m:=av.cellR (k:=1) rfl;have Q:=av.cellR (k:=2) rfl;have z:=av.cellR (k:=3) rfl;dsimp only at m Q z;have ap:=aC.o.low aN yzl;obtain⟨y0,y1,y2⟩:=cl3 ap;obtain⟨k0,k1,k2⟩:=fr3 ap;have bB:G≠B4+1:=(by have:=av.gb;have:=bl.o;omega);have ah:¬B4+1=G:=(fun e=>bB e.symm);obtain⟨q,bm,bn⟩:=zH3 av ap (aJ.o.trans aN);clear av ap aN);obtain⟨aB,aV⟩:=q.o.setTx v.2;have bv:Blk (w5.setCell ⟨G,25,none⟩ (s_ v.2)) (B4+1) 234 [e_,.string ⟨#[]⟩,F 0]:=bm.o.chg (Chg.setCell w5 ⟨G,25,none⟩ (s_ v.2) (X:=fun k=>k=G) rfl) ah;obtain⟨y,aI⟩:=dr bv (.slice P b.pr.length pc) (s_ v.2) (F n);refine bodyPost_ret (aX rfl rfl (ek (y.c 0) (y.c 1) (y.c 2))) rfl ?_;rw[j.o];have C:=bn.o.trans aV;refine⟨⟨_,_,rfl,(aB.op.chgV aI (fun k hk e=>?_)).row,fun k hk=>by have:=(aB.op.ltV k hk).1;have:=bl.o;have:=ba.o;omega⟩,(R.o.trans (C.mono yzk)).trans (aI.below (fun k hk=>by rw[show k=B4+1 from hk,ba.o];exact Nat.le_succ _) (by have:=R.o.size;have:=C.size;omega))⟩;have h9:=(aB.op.ltV k hk).1;rw[show k=B4+1 from e]at h9;have:=bl.o;omega
  ·have t1:((c:Int) != 0)=true:=by rw[bne_iff_ne];omega
   have x:=O (show rB E ag am=(c,[],[]) by unfold rB;rw[←HC.o,if_neg h0]);clear h0;go_wp2_with (go_at_call 175;refine HR.o.mono ?_;rintro r w3⟨rfl,-,al⟩;have a:=N.o.low al yzl;obtain⟨y0,y1,y2⟩:=cl3 a;obtain⟨k0,k1,k2⟩:=fr3 a;have a':=O a;have aW:=O (R.o.trans (al.mono yzk));clear a al);obtain⟨y,aI⟩:=dr a'.o (e_) (.string ⟨#[]⟩) (F 0);refine bodyPost_ret (aX rfl rfl (ek (y.c 0) (y.c 1) (y.c 2))) rfl ?_;rw[HV.o,x.o];exact⟨⟨_,_,rfl,Rec.Row.nil _,fun k hk=>by cases hk⟩,aW.o.trans (aI.below (fun k hk=>by rw[show k=B4+1 from hk,ba.o];exact Nat.le_succ _) aW.o.size)⟩