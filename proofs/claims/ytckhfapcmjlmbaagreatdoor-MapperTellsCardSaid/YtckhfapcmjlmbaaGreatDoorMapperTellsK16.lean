/- Lemmas for MapperTells: walks, plain laws. -/
import Derived.Test.YtckhfapcmjlmbaaGreatDoorMapperTellsK15
set_option linter.unusedSimpArgs false
set_option linter.unusedVariables false
set_option maxRecDepth 100000
set_option maxHeartbeats 16000000
namespace Go.Proofs.YtckhfapcmjlmbaaGreatDoor
open Go.RowKit Oct
section
open Go.RowKit Oct Go.WideMaps Go.Maps
attribute [local irreducible] wpG
def de (w:World):Prop:=∀ k,1≤k→k≤23→w.cell? ⟨0,k,none⟩=some (.func (.func (px.getD k 0)) #[] #[])
theorem de.below {w w':World}(h:de w)(hB:Below w.heap.size w w'):de w':=fun k h1 h2=>C8 hB (h k h1 h2)
theorem Bi {a b:Nat}(h:a≠b):((a:Int) != (b:Int))=true:=by rw[bne_iff_ne];omega
theorem Bj {a b:Nat}(h:a=b):((a:Int) != (b:Int))=false:=by subst h;simp
theorem u5 {texts:LL_}{code:List VI}{role:UInt8}(h:(aq texts code role).2.1=0)(hc:code.length≤5000):(aq texts code role).2.2.ends.length=code.length∧∀ j,j<code.length→0≤(aq texts code role).2.2.ends.getD j 0∧(aq texts code role).2.2.ends.getD j 0≤5000:=by
 have hg:=(fg (texts:=texts) (code:=code) (role:=role) h (ins:=List.replicate (inputsV role) []) (by simp) (fun s hs=>by rw[(List.mem_replicate.1 hs).2];simp)).1;refine⟨nH hg,fun j hj=>?_⟩;have hE:(aq texts code role).2.2.ends=(stV texts.length (inputsV role) role code code.length).ends:=hg.ends;have hr:=(hg.run (DC _)).inv.en j hj;rw[hE];rcases hr with ⟨h0,-⟩|⟨-,-,h1,h2,-⟩
 ·have h0:(stV texts.length (inputsV role) role code code.length).ends.getD j 0=0:=h0
  omega
 ·have h1:(j:Int)<(stV texts.length (inputsV role) role code code.length).ends.getD j 0:=h1
  have h2:(stV texts.length (inputsV role) role code code.length).ends.getD j 0<(code.length:Int):=h2;omega
theorem vZ {bZ:Nat}{w:World}{G M:Nat}{cs:List Value}{t:TypeId}{n:Nat}{c:Int→Nat}(hG:bZ≤G)(hM:bZ≤M)(hne:G≠M)(hb:Blk w G t cs)(hm:iE w M n c):Sep bZ w [az G hG t cs,ownPt gM (.slice none 0 0) [],ownPt eu (.slice none 0 0) [],boxPt [],ownPt recKv (.slice none 0 0) [],ownPt bf (.slice none 0 0) [],rP M n c]:=by
 refine⟨fun p hp=>?_,?_⟩
 ·simp only[List.mem_cons,List.not_mem_nil,or_false]at hp
  rcases hp with rfl|rfl|rfl|rfl|rfl|rfl|rfl
  ·exact hb
  ·exact Rec.Own.nil _ _
  ·exact Rec.Own.nil _ _
  ·exact⟨fun e he=>absurd he (List.not_mem_nil),List.Pairwise.nil⟩
  ·exact Rec.Own.nil _ _
  ·exact Rec.Own.nil _ _
  ·exact⟨hM,hm⟩
 ·have hn:∀ {α:Type} (R:Rec α) (k:Nat),¬(ownPt (bZ:=bZ) R (.slice none 0 0) []).fp k:=fun R k hk=>by cases hk
  have hx:∀ k,¬(boxPt (bZ:=bZ) []).fp k:=fun k hk=>by obtain⟨e,he,_⟩:=hk;cases he
  refine List.Pairwise.cons (fun q hq k hk hk'=>?_) (List.Pairwise.cons (fun q _ k hk=>absurd hk (hn _ k)) (List.Pairwise.cons (fun q _ k hk=>absurd hk (hn _ k)) (List.Pairwise.cons (fun q _ k hk=>absurd hk (hx k)) (List.Pairwise.cons (fun q _ k hk=>absurd hk (hn _ k)) (List.Pairwise.cons (fun q _ k hk=>absurd hk (hn _ k)) (List.pairwise_singleton _ _))))));simp only[List.mem_cons,List.not_mem_nil,or_false]at hq;rcases hq with rfl|rfl|rfl|rfl|rfl|rfl
  ·exact hn _ k hk'
  ·exact hn _ k hk'
  ·exact hx k hk'
  ·exact hn _ k hk'
  ·exact hn _ k hk'
  ·exact hne ((show k=G from hk).symm.trans hk')
theorem bS {texts:LL_}{code:List VI}{role:UInt8}{ins:LL_}{fuel:Int}(h:¬((aq texts code role).2.1=0∧ins.length=inputsV role∧0≤fuel∧fuel≤65536∧∀ s∈ins,s.length≤1024)):cn texts code role ins fuel=false:=by
 cases h2:cn texts code role ins fuel with
 | false=>rfl
 | true=>exact absurd (dG h2) h
theorem Fl {T:Prop} (h:T:=by
 go_wp2_with fail;go_ret2;exact⟨.inl ⟨HF.o,rfl⟩,hb2.o⟩
):T:=h
theorem Fm {T:Prop} (h:T:=by
 have HF:=zH (bS (texts:=texts) (code:=code) (role:=role) (ins:=ins) (fuel:=fuel) (fun h=>by omega));clear k1 k2;exact Fl
):T:=h
theorem Gm {T:Prop} (h:T:=by
 have t5:¬(1024:Int)<(s.length:Int):=by omega
 have HL:=zH hl;clear hl;go_wp2_with fail;go_roundw
 case rel=>exact⟨k+1,by omega,by go_num,by trivial,fun j hj hjk=>by
  by_cases hjk2:j<k
  ·exact HH.o j hj hjk2
  ·obtain rfl:j=k:=by omega
   rw[←HS.o];have:=HL.o;omega⟩
 case measure=>simp[intOf];omega
):T:=h
theorem GH {T:Prop} (h:T:=by
 intro h;exact hr (UInt8.toNat_inj.1 (by show role.toNat=1;omega))
):T:=h
theorem zh (tv cv iv:Value)(texts:LL_)(code:List VI)(role:UInt8)(ins:LL_)(fuel:Int)(w:World)(hA:mh w tv cv texts code)(hi:aK.Row w iv ins)(hil:ins.length≤10)(hcl:code.length≤5000)(his:∀ s∈ins,s.length≤140737488355328)(hf0:-9223372036854775808≤fuel)(hf1:fuel≤9223372036854775807)(hGl:cU w)(hdo:de w):Calls Tryz.prog 195 #[.agg #[tv,cv],.int .u8 (role.toNat:Int),iv,.int .i64 fuel] w fun e w' => ((cn texts code role ins fuel=false∧e=.returned (.tuple #[.pointer none,.int .i64 2])) ∨ (cn texts code role ins fuel=true∧∃ bZ G M ev,e=.returned (.tuple #[.pointer (some ⟨G,0,none⟩),.int .i64 0])∧w.heap.size≤bZ∧MS bZ w' G M ⟨texts,code,ins,(aq texts code role).2.2.ends⟩ tv cv iv ev [] 0 [] (List.replicate 8 (0,[])) [] [] ∧∀ w'',Below bZ w' w''→B0 w'' ⟨texts,code,ins,(aq texts code role).2.2.ends⟩ tv cv iv ev))∧Bw_ w w':=by
 obtain⟨at_,ct,rfl,-,-⟩:=an hA.t;obtain⟨ac,cc,rfl,-,-⟩:=ag hA.c;obtain⟨ai,ci,rfl,-,-⟩:=an hi;have HEN:=zH (fun w' (hB:Below w.heap.size w w')=>zU _ _ texts code role w' (hA.below hB));have HI:=zH hi;have HA:=zH hA;have HG:=zH hGl;have HD:=zH hdo;have HIS:=zH his;obtain⟨W1,hW1⟩:=ex_ (w.alloc (.cells #[.slice at_ texts.length ct,.slice ac code.length cc] 25));have hb1:=ba_ hW1;have hx:=bm_ hW1;obtain⟨x0,x1⟩:=cl2 hx;have HB1:=zH hb1;have HX:=zH hx;obtain⟨B4,hB4⟩:=ex_ w.heap.size;clear hA hi hGl hdo his hb1 hx;go_enter Tryz.func195,Tryz.ntmps195;go_upto_region 1 with fail;rw[←hW1,←hB4];rw[←hB4]at x0 x1;have HB4:=zH hB4;clear hW1 hB4
 go_upto_if 25 with(go_at_call 221;refine(HEN.o _ HB1.o).mono ?_;rintro e w2 ⟨⟨ev,rfl,hev⟩,hB2⟩)
 obtain⟨e0,he0⟩:=ex_ ((aq texts code role).2.1);have HE0:=zH he0;rw[←he0]at hev⊢;have HJ:=zH hev;have HB2:=zH hB2;obtain⟨N,hN⟩:=ex_ (inputsV role);have HN:=zH hN;clear hev hB2 he0 hN
 go_cut [12] (fun t wx=>t=.int .i64 (N:Int)∧wx=w2)
 case first =>
  by_cases hr:role=1
  ·have t1:((role.toNat:Int)==1)=true:=by rw[hr];rfl
   have HN2:=zH (show N=1 by rw[HN.o,hr];rfl);clear hr;go_wp2_with fail
   go_meet
   case rel=>exact⟨by rw[HN2.o];rfl,rfl⟩
  ·have t1:((role.toNat:Int)==1)=false:=by
    rw[beq_eq_false_iff_ne];exact GH
   have HN2:=zH (show N=2 by rw[HN.o];unfold inputsV;rw[if_neg hr]);clear hr;go_wp2_with fail
   go_meet
   case rel=>exact⟨by rw[HN2.o];rfl,rfl⟩
 case rest =>
  obtain⟨rfl,rfl⟩:=hcut;have hb2:=zH (bt HB1.o HB2.o)
  by_cases k1:e0=0
  ·have t1:((e0:Int) != 0)=false:=by rw[k1];rfl
   by_cases k2:ins.length=N
   ·have t2:((ins.length:Int) != (N:Int))=false:=Bj k2
    by_cases k3:fuel<0
    ·exact Fm
    ·by_cases k4:65536<fuel
     ·exact Fm
     ·have K1:=zH k1
      have K2:=zH k2;have K3:=zH k3;have K4:=zH k4;have hJ2:=HJ.o;rw[if_pos k1]at hJ2;obtain⟨ends,hends⟩:∃ x,x=(aq texts code role).2.2.ends:=⟨_,rfl⟩
      rw[←hends]at hJ2;obtain⟨hel,hein⟩:=u5 (texts:=texts) (code:=code) (role:=role) (by rw[←HE0.o];exact k1) hcl;rw[←hends]at hel hein;have HIN:=zH hein;obtain⟨ae,ce,rfl,hec⟩:=db hJ2;rw[hel]at hJ2⊢;have HJ2:=zH hJ2;have HEC:=zH hec;have HEL:=zH hel;have HEN2:=zH hends;clear hJ2 hec hel hends hein;have j1:(ins.length:Int)≤10:=by omega
      clear k1 k2;go_wp2_with fail
      go_loopw [44] (fun t wr=>∃ k:Nat,k≤ins.length∧t=.int .i64 k∧wr=wc∧Hid (∀ j (hj:j<ins.length),j<k→ins[j].length≤1024)) (fun t _=>ins.length-(intOf t).toNat)
      case atStart=>exact⟨0,by omega,rfl,rfl,fun j _ h=>by omega⟩
      case round =>
       obtain⟨k,hk,rfl,rfl,HH⟩:=hrel
       by_cases h0:k<ins.length
       ·obtain⟨ai',ci',hiv,-,hic⟩:=an (HI.o.below hb2.o)
        obtain⟨b,off,rfl,d0⟩:=hic k h0;injection hiv with e1 e2 e3
        subst e1 e3;have i0:=nn_ k;have i1:(k:Int)<(ins.length:Int):=by omega
        have hsl:=HIS.o _ (DY h0);obtain⟨s,hs⟩:=ex_ (ins[k]);rw[←hs]at d0 hsl;have HS:=zH hs;have hsl':(s.length:Int)≤140737488355328:=by omega
        clear hic hs
        by_cases hl:1024<s.length
        ·have t5:(1024:Int)<(s.length:Int):=by omega
         have HF:=zH (bS (texts:=texts) (code:=code) (role:=role) (ins:=ins) (fuel:=fuel) (fun h=>by have:=h.2.2.2.2 _ (DY h0);rw[←HS.o]at this;omega));exact Fl
        ·exact Gm
       ·obtain⟨V,hV⟩:=ex_ wr
        subst hV
        have HAL:=zH (fun s (hs:s∈ins)=>show s.length≤1024 by
         obtain⟨j,hj,rfl⟩:=List.getElem_of_mem hs;exact HH.o j hj (by omega))
        have HF:=zH (pA (texts:=texts) (code:=code) (role:=role) (ins:=ins) (fuel:=fuel) (by rw[←HE0.o];exact K1.o) (by rw[←HN.o];exact K2.o) (by have:=K3.o;omega) (by have:=K4.o;omega) HAL.o);have i1:¬(k:Int)<(ins.length:Int):=by omega
        have x0:=C8 (bt HB2.o (DF _ _)) x0;have x1:=C8 (bt HB2.o (DF _ _)) x1;have hmm:=@run_makeMap Tryz.prog;go_upto_region 14 with fail;obtain⟨M,hMq⟩:=ex_ V.heap.size;obtain⟨cs,hcs⟩:∃ cs:List Value,cs=[.slice at_ texts.length ct,.slice ac code.length cc,.slice ai ins.length ci,.slice ae code.length ce,.map (some V.heap.size),.int .i64 0,.slice none 0 0,.int .i64 0,.string ⟨#[]⟩,.int .i64 0,.string ⟨#[]⟩,.int .i64 0,.string ⟨#[]⟩,.int .i64 0,.string ⟨#[]⟩,.int .i64 0,.string ⟨#[]⟩,.int .i64 0,.string ⟨#[]⟩,.int .i64 0,.string ⟨#[]⟩,.int .i64 0,.string ⟨#[]⟩,.slice none 0 0,.slice none 0 0,.string ⟨#[]⟩,.int .i64 0,.slice none 0 0]:=⟨_,rfl⟩
        obtain⟨W3,hW3⟩:=ex_ ((V.alloc (.map #[] 0)).alloc (.cells cs.toArray 292));have hm0:iE (V.alloc (.map #[] 0)) M 0 (cT code ends 0):=by rw[hMq];exact⟨_,World.ownsMap_made _ _ _ _,fun i=>rfl⟩
        have hm3:iE W3 M 0 (cT code ends 0):=hm0.block (by rw[hW3];exact Below.heap_alloc _ _ _ hm0.lt);have hsz:(V.alloc (.map #[] 0)).heap.size=M+1:=by rw[hMq];exact bo _ _
        have hG3:Blk W3 (M+1) 292 cs:=by rw[hW3,←hsz];exact Blk.new _ _ _
        have hb3:Below V.heap.size V W3:=by rw[hW3];exact bt (af _ _) (af _ _)
        have hcm:cs=bg ⟨.slice at_ texts.length ct,.slice ac code.length cc,.slice ai ins.length ci,.slice ae code.length ce,.map (some M),[],0⟩ 0 (.slice none 0 0) (List.replicate 8 (0,[])) (.slice none 0 0) (.slice none 0 0) [] 0 (.slice none 0 0):=by rw[hcs,hMq];rfl
        have hg3:(((V.alloc (.map #[] 0)).alloc (.cells #[.slice at_ texts.length ct,.slice ac code.length cc,.slice ai ins.length ci,.slice ae code.length ce,.map (some V.heap.size),.int .i64 0,.slice none 0 0,.int .i64 0,.string ⟨#[]⟩,.int .i64 0,.string ⟨#[]⟩,.int .i64 0,.string ⟨#[]⟩,.int .i64 0,.string ⟨#[]⟩,.int .i64 0,.string ⟨#[]⟩,.int .i64 0,.string ⟨#[]⟩,.int .i64 0,.string ⟨#[]⟩,.int .i64 0,.string ⟨#[]⟩,.slice none 0 0,.slice none 0 0,.string ⟨#[]⟩,.int .i64 0,.slice none 0 0] 292)))=W3:=by rw[hW3,hcs]
        rw[hg3];have HM3:=zH hm3;have HG3:=zH hG3;have HB3:=zH hb3;have HCM:=zH hcm;rw[←hMq];have HMQ:=zH hMq;have x1':=C8 HB3.o x1;have j5:(code.length:Int)≤5000:=by omega
        clear hm0 hm3 hsz hG3 hb3 hcm hg3 hW3 hcs hMq x0 x1;go_wp2_with fail
        go_loopw [61] (fun t wr=>∃ k:Nat,k≤code.length∧t=.int .i64 k∧Hid (iE wr M k (cT code ends k))∧Hid (Chg (fun b=>b=M) W3 wr)) (fun t _=>code.length-(intOf t).toNat)
        case atStart=>exact⟨0,by omega,rfl,HM3.o,Chg.refl _ _⟩
        case round =>
         obtain⟨q,hq,rfl,HMU,HCU⟩:=hrel;have hBU:Below M W3 wr:=HCU.o.below (fun k hk=>by rw[show k=M from hk];exact DC _) (by have:=HB3.o.size;rw[←HMQ.o]at this;exact this);have hBw:Below w.heap.size w wr:=(bt hb2.o HB3.o).trans (hBU.mono (by rw[HMQ.o];exact hb2.o.size));have HBU:=zH hBU;have HBW:=zH hBw;clear hBU hBw
         by_cases h1:q<code.length
         ·obtain⟨ac',cc',hcv,-,hcc⟩:=ag (HA.o.c.below HBW.o)
          obtain⟨b,off,rfl,d0,d1⟩:=hcc q h1;injection hcv with e1 e2 e3
          subst e1 e3;have i0:=nn_ q;have i1:(q:Int)<(code.length:Int):=by omega
          have hgd:code.getD q (0,0)=code[q]:=by rw[List.getD_eq_getElem?_getD,List.getElem?_eq_getElem h1];rfl
          have HSU:=zH (fun i=>sy code ends q i);obtain⟨op,hop⟩:=ex_ (code[q].1);obtain⟨y,hy⟩:=ex_ (code[q].2);rw[←hop]at d0;rw[←hy]at d1;rw[hgd,←hop]at HSU;have hbl:b<wr.heap.size:=aD d0;clear hcc hgd hop hy
          by_cases h22:op=22
          ·have t5:((op.toNat:Int)==22)=true:=by rw[h22];rfl
           have H22:=zH h22;clear h22;go_upto_region 18 with fail;obtain⟨U,hU⟩:=ex_ (wr.alloc (.cells #[.int .u8 (op.toNat:Int),.int .u8 (y.toNat:Int)] 127));have hbU:=ba_ hU;rw[←hU];have hBV:Below V.heap.size V wr:=HB3.o.trans (by rw[←HMQ.o];exact HBU.o);have g0:=(HG3.o.chg HCU.o (by omega)).cell (k:=4) (v:=.map (some M)) (by rw[HCM.o];rfl);have g0:=C8 hbU g0;have hqe:q<ends.length:=by rw[HEL.o];exact h1
           obtain⟨be,oe,rfl,g1⟩:=HEC.o q hqe;have g1:=C8 (bt hBV hbU) g1;have hge:ends.getD q 0=ends[q]:=by rw[List.getD_eq_getElem?_getD,List.getElem?_eq_getElem hqe];rfl
           have hein:=HIN.o q h1;obtain⟨v,hv⟩:=ex_ (ends[q]);rw[←hv]at g1 hge;rw[hge]at HSU hein;have hmU:=HMU.o.block (hbU.block M HMU.o.lt);have hcl2:=xA code ends q v;obtain⟨c,hc⟩:=ex_ (cT code ends q v);rw[←hc]at hcl2;have HC:=zH hc
           have hlk:∀ w',Below U.heap.size U w'→(Instr.lookup 285 (.map (some M)) (.int .i64 v) false).run Tryz.prog w'=.ok (.int .i64 (c:Int)) w':=fun w' hB=>by
            have:=(hmU.block (hB.block M hmU.lt)).look (i:=v) (by omega) (by omega);rw[HC.o];exact this
           have HLK:=zH hlk;have HMU2:=zH hmU;have HBU2:=zH hbU;have h2a:(c:Int)≤5000:=by omega
           clear hv hge hc hlk hmU hBV hbU hU;refine ba 10 [(3,.exact Bel (.map (some M))),(7,.exact Bel (.int .i64 v)),(8,.exact Bel (.int .i64 (c:Int)))] (by kernel_rfl) (by kernel_rfl) ?_;simp only[DQ,DW,DO,DX];refine cG ?_;refine gE_ (fun w' G hB hS hG=>?_) (fun K hK=>?_)
           ·have cc:=C8 hB g0
            go_simp;exact hG _ (Bel.refl _)
           refine cO ?_;clear hK K;refine gE_ (fun w' G hB hS hG=>?_) (fun K hK=>?_)
           ·have cc:=C8 hB g1
            go_simp;exact hG _ (Bel.refl _)
           refine cO ?_;clear hK K;refine gE_ (fun w' G hB hS hG=>?_) (fun K hK=>?_)
           ·have cc:=HLK.o _ hB
            go_simp;exact hG _ (Bel.refl _)
           refine cO ?_;clear hK K;refine vw ?_
           (intro w' hB hA;simp only[aB.all_some,Db,and_true]at hA)
           have hown:=HMU2.o.block (hB.block M HMU2.o.lt);obtain⟨D,hown,hat⟩:=hown;have HAT:=zH hat;have hkey:=CD (n:=v) (by omega) (by omega);have hkm:q<maxLen:=by unfold maxLen;omega
           have HBF:=zH (bt HBU2.o hB);clear hat hB hA;go_wp2_with (at_mapUpdate;refine wpList_mapUpdate_own _ rfl _ _ _ 285 rfl 3 3 CC Tryz.underlying285 _ M q _ rfl hown hkm _ _ _ rfl rfl hkey _ [] (plainElem_int Tryz.underlying3 (WalkArith.wf_i64 (by omega))) ?_;intro w1 hown1 hgrow1);refine⟨⟨q+1,by omega,by go_num,⟨_,hown1,fun i=>?_⟩,(HCU.o.trans (Da HBF.o)).trans ⟨hgrow1.os,hgrow1.tape,hgrow1.output,hgrow1.size,fun b hb hn=>hgrow1.block b hb (fun e=>hn (Option.some.inj e))⟩⟩,by simp[intOf];omega⟩;rw[HSU.o i]
           by_cases hvi:v=i
           ·subst hvi
            rw[if_pos ⟨H22.o,rfl⟩,atKey_put_same hown.isMap (by trivial),←HC.o]
            rfl
           ·rw[if_neg (fun h=>hvi h.2),atKey_put_other (by intro e;injection e with _ e;exact hvi e.symm),HAT.o i]
            rfl
          ·have t5:((op.toNat:Int)==22)=false:=by
            rw[beq_eq_false_iff_ne];intro h;exact h22 (UInt8.toNat_inj.1 (by show op.toNat=22;omega))
           have HFN:=zH (funext fun i=>by rw[HSU.o i,if_neg (fun h=>h22 h.1)];rfl:cT code ends (q+1)=cT code ends q);clear h22;have hba:=af wr (.cells #[.int .u8 (op.toNat:Int),.int .u8 (y.toNat:Int)] 127);have HBA:=zH hba;clear hba;go_wp2_with fail;exact⟨⟨q+1,by omega,by go_num,by rw[HFN.o];exact(HMU.o.block (HBA.o.block M HMU.o.lt)).mono (Nat.le_succ _),HCU.o.trans (Da HBA.o)⟩,by simp[intOf];omega⟩
         ·obtain rfl:q=code.length:=by omega
          go_wp2_with fail;go_ret2;refine⟨.inr ⟨by rw[←HE0.o]at *;exact HF.o,M,M+1,M,.slice ae code.length ce,rfl,by rw[HMQ.o];exact hb2.o.size,?_,?_⟩,HBW.o⟩
          ·rw[←HEN2.o]
           refine⟨[],_,_,_,_,⟨Nat.le_succ _,rfl,vZ (t:=292) (n:=code.length) (c:=cT code ends code.length) (Nat.le_succ _) (DC _) (by omega) (by rw[←HCM.o];exact HG3.o.chg HCU.o (by omega)) HMU.o⟩,rfl,fun e he=>absurd he (List.not_mem_nil)⟩
          ·intro w'' hB
           have hb9:Below w.heap.size w w'':=HBW.o.trans (hB.mono (by rw[HMQ.o];exact hb2.o.size));have hbM:Below V.heap.size V w'':=(HB3.o.trans (by rw[←HMQ.o];exact HBU.o)).trans (by rw[←HMQ.o];exact hB);rw[←HEN2.o];exact⟨HA.o.t.below hb9,HA.o.c.below hb9,HI.o.below hb9,HJ2.o.below hbM,HG.o.below hb9,HD.o.below hb9⟩
   ·have t2:((ins.length:Int) != (N:Int))=true:=Bi k2
    have HF:=zH (bS (texts:=texts) (code:=code) (role:=role) (ins:=ins) (fuel:=fuel) (fun h=>k2 (by rw[HN.o];exact h.2.1)));clear k1 k2;exact Fl
  ·have t1:((e0:Int) != 0)=true:=by rw[bne_iff_ne];omega
   have HF:=zH (bS (texts:=texts) (code:=code) (role:=role) (ins:=ins) (fuel:=fuel) (fun h=>k1 (by rw[HE0.o];exact h.1)));clear k1;exact Fl
end
section
attribute [local irreducible] wpG
section
variable {bZ G:Nat}{w w' w3:World}{f:Mf}{at_:Int}{st rg:List MV}{eos:List Eo}{pr:List (LU_×LU_)}{tr:List Int}{stv opv prv trv:Value}{X:List (Pt bZ)}
theorem MR.setSn (h:MR bZ w G f at_ st rg eos pr tr stv opv prv trv X)(n:Int):MR bZ (w.setCell ⟨G,26,none⟩ (.int .i64 n)) G { f with sn:=n } at_ st rg eos pr tr stv opv prv trv X∧Below bZ w (w.setCell ⟨G,26,none⟩ (.int .i64 n)):=by
 have hs:Chg (fun k=>k=G) w (w.setCell ⟨G,26,none⟩ (.int .i64 n)):=Chg.setCell _ _ _ rfl
 have hcs:(bg f at_ stv rg opv prv f.tx f.sn trv).set 26 (.int .i64 n)=bg { f with sn:=n } at_ stv rg opv prv f.tx n trv:=by
  exact GE
 have hb:=h.blk.set 26 (.int .i64 n);rw[hcs]at hb;have s2:=h.sep.upd (i:=0) rfl hs (fun k hk=>hk) (az G h.gb 292 (bg { f with sn:=n } at_ stv rg opv prv f.tx n trv)) hb (fun k hk=>.inl hk);exact Gt
theorem MR.setTx (h:MR bZ w G f at_ st rg eos pr tr stv opv prv trv X)(s:LU_):MR bZ (w.setCell ⟨G,25,none⟩ (.string (bs s))) G { f with tx:=s } at_ st rg eos pr tr stv opv prv trv X∧Below bZ w (w.setCell ⟨G,25,none⟩ (.string (bs s))):=by
 have hs:Chg (fun k=>k=G) w (w.setCell ⟨G,25,none⟩ (.string (bs s))):=Chg.setCell _ _ _ rfl
 have hcs:(bg f at_ stv rg opv prv f.tx f.sn trv).set 25 (.string (bs s))=bg { f with tx:=s } at_ stv rg opv prv s f.sn trv:=by
  exact GE
 have hb:=h.blk.set 25 (.string (bs s));rw[hcs]at hb;have s2:=h.sep.upd (i:=0) rfl hs (fun k hk=>hk) (az G h.gb 292 (bg { f with tx:=s } at_ stv rg opv prv s f.sn trv)) hb (fun k hk=>.inl hk);exact Gt
end
theorem bz {P:Program}{fn:Func}{p u:Tmp}{ty:TypeId}{tmps:Array Value}{w:World}{v:Value}{b:Nat}(hr:fn.results=#[.cell p ty,.tmp u])(hp:tmps.getD p undef=.pointer (some ⟨b,0,none⟩))(hl:(loadVar ty ⟨b,0,none⟩).run P w=.ok v w):(results fn tmps).run P w=.ok (.tuple #[v,tmps.getD u undef]) w:=by
 simp only[Array.getD_eq_getD_getElem?]at hp⊢;simp[results,hr,Sem.run_bind,Result.andThen,hp,asAddr,hl]
theorem oX {texts:LL_}{code:List VI}{role:UInt8}{ins:LL_}{fuel:Int}(h:cn texts code role ins fuel=true)(F:Nat)(h0:(cJ ⟨texts,code,ins,(aq texts code role).2.2.ends⟩ F aY).1=0):(cJ ⟨texts,code,ins,(aq texts code role).2.2.ends⟩ F aY).2.st.length=(eY role).length∧(cJ ⟨texts,code,ins,(aq texts code role).2.2.ends⟩ F aY).2.pr.length≤256:=by
 obtain⟨h1,h2,-,-,h5⟩:=dG h;obtain⟨hg,hk⟩:=fg h1 h2 h5;obtain⟨hok,hpc⟩:=kg hg F aY fA h0;have hst:=hok.st;rw[hpc]at hst;exact⟨by rw[hst];exact congrArg List.length hk,hok.pr⟩
theorem di {w:World}{b:Nat}{v0 v1 v2:Value}(h0:w.cell? ⟨b,0,none⟩=some v0)(h1:w.cell? ⟨b,1,none⟩=some v1)(h2:w.cell? ⟨b,2,none⟩=some v2):(loadVar 178 ⟨b,0,none⟩).run Tryz.prog w=.ok (.agg #[v0,v1,v2]) w:=by
 go_simp
theorem cq {w:World}{b:Nat}{t:TypeId}{a0 a1 a2:Value}(hx:Blk w b t [a0,a1,a2])(v0 v1 v2:Value):Blk (((w.setCell ⟨b,0,none⟩ v0).setCell ⟨b,1,none⟩ v1).setCell ⟨b,2,none⟩ v2) b t [v0,v1,v2]∧Chg (fun x=>x=b) w (((w.setCell ⟨b,0,none⟩ v0).setCell ⟨b,1,none⟩ v1).setCell ⟨b,2,none⟩ v2) :=
 ⟨((hx.set 0 v0).set 1 v1).set 2 v2,Chg.trans (Chg.trans (Chg.setCell w ⟨b,0,none⟩ v0 rfl) (Chg.setCell _ ⟨b,1,none⟩ v1 rfl)) (Chg.setCell _ ⟨b,2,none⟩ v2 rfl)⟩
theorem Blk.low {w w':World}{b bZ:Nat}{t:TypeId}{cs:List Value}(h:Blk w b t cs)(hB:Below bZ w w')(hb:b<bZ):Blk w' b t cs:=by
 unfold Blk at h⊢;rw[hB.block b hb];exact h
def BX (B:Nat)(r:Nat×List (LU_×LU_)×LU_)(e:Ending)(w:World):Prop :=
 ∃ pv n,e=.returned (.tuple #[.agg #[pv,.string (bs r.2.2),.int .i64 n],.int .i64 (r.1:Int)])∧recKv.Row w pv r.2.1∧∀ k,pv.ownBlock=some k→B≤k
theorem GU {T:Prop} (h:T:=by
 obtain⟨hm,-⟩:=dU a1;unfold cK at hm;simp only[DS,decide_eq_true_eq]at hm;exact hm.1.1.2
):T:=h
theorem A4 (tv cv iv:Value)(texts:LL_)(code:List VI)(role:UInt8)(ins:LL_)(fuel:Int)(w:World)(hA:mh w tv cv texts code)(hi:aK.Row w iv ins)(hil:ins.length≤10)(hcl:code.length≤5000)(his:∀ s∈ins,s.length≤140737488355328)(hf0:-9223372036854775808≤fuel)(hf1:fuel≤9223372036854775807)(hGl:cU w)(hdo:de w):Calls Tryz.prog 153 #[.agg #[tv,cv],.int .u8 (role.toNat:Int),iv,.int .i64 fuel] w fun e w'=>BX w.heap.size (vmV texts code role ins fuel) e w'∧Bw_ w w':=by
 obtain⟨at_,ct,rfl,-,-⟩:=an hA.t;obtain⟨ac,cc,rfl,-,-⟩:=ag hA.c;obtain⟨ai,ci,rfl,-,-⟩:=an hi;have HMA:=zH (fun w' (hB:Below w.heap.size w w')=>zh _ _ _ texts code role ins fuel w' (hA.below hB) (hi.below hB) hil hcl his hf0 hf1 (hGl.below hB) (hdo.below hB));have HLT:=zH hA.lt;obtain⟨B4,hB4⟩:=ex_ w.heap.size;obtain⟨W1,hW1⟩:=ex_ ((w.alloc (.cells #[.slice at_ texts.length ct,.slice ac code.length cc] 25)).alloc (.cells #[.slice none 0 0,.string ⟨#[]⟩,.int .i64 0] 178));have hb1:Below w.heap.size w W1:=by rw[hW1];exact bt (af _ _) (af _ _)
 have hs1:(w.alloc (.cells #[.slice at_ texts.length ct,.slice ac code.length cc] 25)).heap.size=B4+1:=by rw[hB4];exact bo _ _
 have hx:Blk W1 B4 25 [.slice at_ texts.length ct,.slice ac code.length cc]:=by rw[hB4,hW1];exact(Blk.new w _ _).below (af _ _)
 have hy:Blk W1 (B4+1) 178 [.slice none 0 0,.string ⟨#[]⟩,.int .i64 0]:=by rw[hW1,←hs1];exact Blk.new _ _ _
 have hsz:W1.heap.size=B4+2:=by rw[hW1,bo,hs1]
 obtain⟨x0,x1⟩:=cl2 hx;have HB1:=zH hb1;have HY:=zH hy;have HB4:=zH hB4;have HSZ:=zH hsz;go_enter Tryz.func153,Tryz.ntmps153;go_upto_region 1 with fail;rw[←hW1,←hB4];clear hW1 hB4 hA hi hGl hdo his hb1 hx hy hs1 hsz
 go_upto_if 22 with(go_at_call 195;refine(HMA.o _ HB1.o).mono ?_;rintro e w2 ⟨hres,hB2⟩;(rcases hres with ⟨hno,rfl⟩|⟨hyes,bZ,G,M,ev,rfl,hle,hMS,hEnv⟩))
 ·have HN:=zH (mB hno)
  have hB12:=bt HB1.o hB2;have hy2:=HY.o.below hB2;obtain⟨y0,y1,y2⟩:=cl3 hy2;obtain⟨k0,k1,k2⟩:=fr3 hy2;have HY2:=zH hy2;have HB12:=zH hB12;clear hno hy2 hB12 hB2 x0 x1;go_wp2_with fail;obtain⟨hy3,hc3⟩:=cq HY2.o (.slice none 0 0) (.string ⟨#[]⟩) (.int .i64 0);refine bodyPost_ret (bz rfl rfl (di (hy3.cell (k:=0) rfl) (hy3.cell (k:=1) rfl) (hy3.cell (k:=2) rfl))) rfl ?_;rw[HN.o];exact⟨⟨_,_,rfl,Rec.Row.nil _,fun k hk=>by cases hk⟩,HB12.o.trans (hc3.below (fun k hk=>by rw[show k=B4+1 from hk,HB4.o];exact Nat.le_succ _) HB12.o.size)⟩
 ·obtain⟨a1,a2,a3,a4,a5⟩:=dG hyes
  obtain⟨F,rfl⟩:∃ F:Nat,fuel=(F:Int):=⟨fuel.toNat,by omega⟩
  have hg:=(fg a1 a2 a5).1;have hF6:F≤65536:=by omega
  have hc256:code.length≤256:=by
   exact GU
  have HV:=zH (jW hyes);rw[DI]at HV;have HST:=zH (oX hyes F);obtain⟨E,hE⟩:∃ E:Me,E=⟨texts,code,ins,(aq texts code role).2.2.ends⟩:=⟨_,rfl⟩
  have hEc:E.code.length=code.length:=by rw[hE]
  rw[←hE]at hg hMS hEnv HV HST;have HR:=zH (xU hg (by have:=HLT.o;omega) (by unfold inputsV;split<;>omega) (by omega) F (by omega) hMS hEnv);have hb12:=bt HB1.o hB2;have HY2:=zH (HY.o.below hB2);have HB12:=zH hb12;have HSB:=zH (show bZ≤w2.heap.size by obtain⟨_,_,_,_,_,_,hm,_⟩:=hMS.mr;exact hm.size);have HLE:Hid (B4+2≤bZ):=by rw[←HSZ.o];exact hle
  obtain⟨c,hc⟩:=ex_ ((cJ E F aY).1);rw[←hc]at HR HST;have HC:=zH hc;clear hg hMS hEnv hE hEc hb12 hB2 hle hc a1 a2 a3 a4 a5 hyes x0 x1 HMA HB1 HY hc256
  by_cases h0:c=0
  ·subst h0
   obtain⟨hsl,-⟩:=HST.o rfl;obtain⟨FIN,hFIN⟩:=ex_ ((cJ E F aY).2);have HRV:=zH (show l8 E role F=(0,FIN.pr,if role=1 then [] else (FIN.st.headD (0,[])).2) by unfold l8;rw[←HC.o,if_pos rfl,hFIN]);rw[←hFIN]at HR hsl;have HSL:=zH hsl;clear hFIN hsl HST
   go_upto_if 42 with(go_at_call 196;refine HR.o.mono ?_;rintro r w3 ⟨rfl,hMS3,hB3⟩;obtain⟨tr,htr,hMS3⟩:=hMS3 rfl;obtain⟨eos,sv,ov,pv,ta,tc,hm3,-,-⟩:=hMS3.mr;have c27:=hm3.cellR (k:=4) rfl;have f26:=hm3.free (k:=26) (by decide);have c26:w3.cell? ⟨G,26,none⟩=some (.int .i64 0):=hm3.cellR (k:=3) rfl;have HM3:=zH hm3;have HB3:=zH hB3;have hty:(tr.length:Int)≤65536:=(by omega);clear hMS3 hm3 hB3 htr)
   obtain⟨n,hn⟩:=ex_ ((tr.length:Int));obtain⟨hm4,hb4⟩:=HM3.o.setSn n;obtain⟨W4,hW4⟩:=ex_ (w3.setCell ⟨G,26,none⟩ (.int .i64 n));rw[←hn,←hW4];rw[←hW4]at hm4 hb4;have hB4':=HB3.o.trans hb4;have HM4:=zH hm4;have HB5:=zH hB4';have HY4:=zH (HY2.o.low hB4' (by have:=HLE.o;omega));clear hn hW4 c27 f26 c26 HM3 HB3 hty hm4 hb4 hB4'
   by_cases hr:role=1
   ·have t1:((role.toNat:Int) != 1)=false:=by rw[hr];rfl
    have HRV2:=zH (show vmV texts code role ins F=(0,FIN.pr,[]) by rw[HV.o,HRV.o,if_pos hr]);have hm4:=HM4.o;have c24:=hm4.cellR (k:=1) rfl;have c25:=hm4.cellR (k:=2) rfl;have c26:=hm4.cellR (k:=3) rfl;obtain⟨y0,y1,y2⟩:=cl3 HY4.o;obtain⟨k0,k1,k2⟩:=fr3 HY4.o;obtain⟨_,_,⟨pa,pc,rfl⟩,_⟩:=hm4.slices;clear hr hm4;dsimp only at c24 c25 c26;go_wp2_with fail;obtain⟨hy3,hc3⟩:=cq HY4.o (.slice pa FIN.pr.length pc) (.string (bs [])) (.int .i64 n);refine bodyPost_ret (bz rfl rfl (di (hy3.cell (k:=0) rfl) (hy3.cell (k:=1) rfl) (hy3.cell (k:=2) rfl))) rfl ?_;rw[HRV2.o];refine⟨⟨_,_,rfl,(HM4.o.op.chgV hc3 (fun k hk e=>?_)).row,fun k hk=>by have:=(HM4.o.op.ltV k hk).1;have:=HLE.o;have:=HB4.o;omega⟩,(HB12.o.trans (HB5.o.mono (by have:=HLE.o;have:=HB4.o;omega))).trans (hc3.below (fun k hk=>by rw[show k=B4+1 from hk,HB4.o];exact Nat.le_succ _) (by have:=HB12.o.size;have:=HB5.o.size;omega))⟩;have h9:=(HM4.o.op.ltV k hk).1;rw[show k=B4+1 from e]at h9;have:=HLE.o;omega
   ·have t1:((role.toNat:Int) != 1)=true:=by
     rw[bne_iff_ne];exact GH
    obtain⟨v,hv⟩:∃ v,FIN.st=[v]:=by
     have h1:=HSL.o;unfold eY at h1;rw[if_neg hr]at h1
     match hq:FIN.st,h1 with
     | [v],_=>exact⟨v,rfl⟩
    have HRV2:=zH (show vmV texts code role ins F=(0,FIN.pr,v.2) by rw[HV.o,HRV.o,if_neg hr,hv];rfl);rw[hv]at HM4;obtain⟨_,_,⟨pa,pc,rfl⟩,_⟩:=HM4.o.slices;have HP:=zH (dS v HM4.o (by simp));clear hr hv HSL HRV;go_wp2_with (go_at_call 197;refine HP.o.mono ?_;rintro r w5 ⟨rfl,⟨sv5,hm5⟩,hB5⟩;unfold mvV;have f25:=hm5.free (k:=25) (by decide);have c24:=hm5.cellR (k:=1) rfl;have c25:=hm5.cellR (k:=2) rfl;have c26:=hm5.cellR (k:=3) rfl;dsimp only at c24 c25 c26;have hy5:=HY4.o.low hB5 (by have:=HLE.o;omega);obtain⟨y0,y1,y2⟩:=cl3 hy5;obtain⟨k0,k1,k2⟩:=fr3 hy5;have hgb:G≠B4+1:=(by have:=hm5.gb;have:=HLE.o;omega);have hgb':¬B4+1=G:=(fun e=>hgb e.symm);have HM5:=zH hm5;have HY5:=zH hy5;have HB6:=zH (HB5.o.trans hB5);clear hm5 hy5 hB5);obtain⟨hm6,hb6⟩:=HM5.o.setTx v.2;have hy6:Blk (w5.setCell ⟨G,25,none⟩ (.string (bs v.2))) (B4+1) 178 [.slice none 0 0,.string ⟨#[]⟩,.int .i64 0]:=HY5.o.chg (Chg.setCell w5 ⟨G,25,none⟩ (.string (bs v.2)) (X:=fun k=>k=G) rfl) hgb';obtain⟨hy3,hc3⟩:=cq hy6 (.slice pa FIN.pr.length pc) (.string (bs v.2)) (.int .i64 n);refine bodyPost_ret (bz rfl rfl (di (hy3.cell (k:=0) rfl) (hy3.cell (k:=1) rfl) (hy3.cell (k:=2) rfl))) rfl ?_;rw[HRV2.o];have hball:=HB6.o.trans hb6;refine⟨⟨_,_,rfl,(hm6.op.chgV hc3 (fun k hk e=>?_)).row,fun k hk=>by have:=(hm6.op.ltV k hk).1;have:=HLE.o;have:=HB4.o;omega⟩,(HB12.o.trans (hball.mono (by have:=HLE.o;have:=HB4.o;omega))).trans (hc3.below (fun k hk=>by rw[show k=B4+1 from hk,HB4.o];exact Nat.le_succ _) (by have:=HB12.o.size;have:=hball.size;omega))⟩
    have h9:=(hm6.op.ltV k hk).1;rw[show k=B4+1 from e]at h9;have:=HLE.o;omega
  ·have t1:((c:Int) != 0)=true:=by rw[bne_iff_ne];omega
   have HRV:=zH (show l8 E role F=(c,[],[]) by unfold l8;rw[←HC.o,if_neg h0]);clear h0;go_wp2_with (go_at_call 196;refine HR.o.mono ?_;rintro r w3 ⟨rfl,-,hB3⟩;have hy2:=HY2.o.low hB3 (by have:=HLE.o;omega);obtain⟨y0,y1,y2⟩:=cl3 hy2;obtain⟨k0,k1,k2⟩:=fr3 hy2;have HY3:=zH hy2;have HB3:=zH (HB12.o.trans (hB3.mono (by have:=HLE.o;have:=HB4.o;omega)));clear hy2 hB3);obtain⟨hy3,hc3⟩:=cq HY3.o (.slice none 0 0) (.string ⟨#[]⟩) (.int .i64 0);refine bodyPost_ret (bz rfl rfl (di (hy3.cell (k:=0) rfl) (hy3.cell (k:=1) rfl) (hy3.cell (k:=2) rfl))) rfl ?_;rw[HV.o,HRV.o];exact⟨⟨_,_,rfl,Rec.Row.nil _,fun k hk=>by cases hk⟩,HB3.o.trans (hc3.below (fun k hk=>by rw[show k=B4+1 from hk,HB4.o];exact Nat.le_succ _) HB3.o.size)⟩
end
