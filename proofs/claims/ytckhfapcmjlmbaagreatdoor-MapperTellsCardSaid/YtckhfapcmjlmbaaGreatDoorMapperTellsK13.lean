/- Lemmas for MapperTells: walks, plain laws. -/
import Derived.Test.YtckhfapcmjlmbaaGreatDoorMapperTellsK8
set_option linter.unusedSimpArgs false
set_option linter.unusedVariables false
set_option maxRecDepth 100000
set_option maxHeartbeats 16000000
namespace Go.Proofs.YtckhfapcmjlmbaaGreatDoor
open Go.RowKit Oct
section
attribute [local irreducible] wpG
section
variable {bZ G:Nat}{w w' w3:World}{f:Rf}{at_:Int}{st rg:List RV}{los:List Lo}{pr:List (LU_×LU_)}{tv cv iv ev ow sv sv' lv lv' prv prv':Value}{X:List (Pt bZ)}
theorem RM.addOwn {v:Value}{l:LL_}(h:RM bZ w G f at_ st rg los pr sv lv prv X)(hB:Below w.heap.size w w')(ho:aK.Own w' w.heap.size v l):RM bZ w' G f at_ st rg los pr sv lv prv (X++[ownPt aK v l]) :=
 ⟨h.gb,h.rl,h.sep.snoc hB (ownPt aK v l) (ho.baseLe h.size) (fun k hk=>(Rec.Own.ltV ho k hk).1)⟩
theorem lG (y:UInt8)(a:RV)(pc:Nat)(h:RM bZ w G ⟨tv,cv,iv,ev,ow⟩ (pc:Int) (a::st) rg los pr sv lv prv X)(hl:st.length≤900)(hlo:los.length≤900)(ha:a.2.2.length≤1024){l:List Int}(ht:∀ w',Below bZ w w'→bf.Row w' ev l)(hp:pc<l.length)(hl2:l.length≤1000):Calls Tryz.prog 225 #[.pointer (some ⟨G,0,none⟩),.agg #[.int .u8 22,.int .u8 (y.toNat:Int)]] w fun r w'=>r=.returned (.tuple #[]) ∧((bN a.2.2 y=[]∧∃ sv',RM bZ w' G ⟨tv,cv,iv,ev,ow⟩ l[pc] st rg los pr sv' lv prv X) ∨ (∃ p ps,bN a.2.2 y=p::ps∧∃ sv' lv' e',e'.at_=pc∧e'.ps=ps∧RM bZ w' G ⟨tv,cv,iv,ev,ow⟩ (pc:Int) ((true,0,p)::st) rg (los++[e']) pr sv' lv' prv X))∧Below bZ w w':=by
 obtain⟨W1,hW1⟩:=ex_ (w.alloc (.cells #[.int .u8 22,.int .u8 (y.toNat:Int)] 127));have hb1:=ba_ hW1;obtain⟨D1,hD1⟩:=ex_ w.heap.size;have hx:=bn_ hD1 hW1;have hD1b:bZ≤D1:=by rw[hD1];exact h.size
 obtain⟨x0,x1⟩:=cl2 hx;have hm1:RM bZ W1 G ⟨tv,cv,iv,ev,ow⟩ (pc:Int) (a::st) rg los pr sv lv prv (X++[az D1 hD1b 127 [.int .u8 22,.int .u8 (y.toNat:Int)]]):=by subst hD1;rw[hW1];exact h.add _ _
 have c5:=hm1.cell (k:=5) rfl;have HM1:=zH hm1;have HP:=zH (aT a (hm1.below (b_drew W1)) (by omega));have HB1:=zH (hb1.mono h.size);have HT:=zH ht;obtain⟨ps0,hps0⟩:=ex_ (bN a.2.2 y);have HPI:=zH (fun w'=>rx a.2.2 y w' ha);rw[←hps0]at HPI⊢;have hpl:ps0.length≤1025:=by rw[hps0];exact(mU ha y).1
 have HPL:=zH hpl;clear h hm1 hb1 hx ht hps0 hpl;go_enter Tryz.func225,Tryz.ntmps225;go_upto_region 1 with fail;rw[←hW1,←hD1];clear hW1 hD1;go_upto_region 9 with fail
 go_cut [5] (fun t wx=>∃ av cp sv2,t=.slice av ps0.length cp∧Hid (RM bZ wx G ⟨tv,cv,iv,ev,ow⟩ (pc:Int) st rg los pr sv2 lv prv ((X++[az D1 hD1b 127 [.int .u8 22,.int .u8 (y.toNat:Int)]])++[ownPt aK (.slice av ps0.length cp) ps0]))∧Hid (Below bZ w wx))
 case first =>
  go_region_law (first|(refine aL rfl 240 #[.string (bs a.2.2),.int .u8 (y.toNat:Int)] (by go_simp) (HPI.o w2) ?_;rintro r w4 ⟨⟨pv,rfl,ho⟩,hB⟩;obtain⟨av,cp,rfl⟩:=ap ho;have HM4:=zH (HM.o.addOwn hB ho);have HB4:=zH (HB.o.trans (hB.mono HM.o.size));clear hB ho)|(refine aL rfl 200 #[.pointer (some ⟨G,0,none⟩)] (by go_simp) HP.o ?_;rintro r w2 ⟨rfl,⟨sv2,hm⟩,hB⟩;unfold rvV;have hD4:Blk w2 D1 127 [.int .u8 22,.int .u8 (y.toNat:Int)]:=hm.loc (p:=az D1 hD1b 127 [.int .u8 22,.int .u8 (y.toNat:Int)]) (by simp);have x1':=hD4.cell (k:=1) rfl;clear hD4;have HM:=zH hm;have HB:=zH ((HB1.o.trans ((b_drew W1).mono HM1.o.size)).trans hB);clear hm hB))
  all_goals
   (try simp only[Ec,DH,DN])
   (try go_frame)
   go_wp2_with fail
   go_meet
   case rel=>exact⟨_,_,_,rfl,HM4.o,HB4.o⟩
 case rest =>
  obtain⟨av,cp,sv2,rfl,HM,HB⟩:=hcut;clear x0 x1 c5;have i0:=nn_ pc;have i1:(pc:Int)<(l.length:Int):=by omega
  have i2:(l.length:Int)≤1000:=by omega
  cases ps0 with
  | nil =>
   obtain⟨a',n,hev,hc⟩:=db (HT.o _ HB.o);obtain⟨b,off,rfl,d0⟩:=hc pc hp;subst hev;obtain⟨v,hv'⟩:∃ v,v=l[pc]:=⟨_,rfl⟩
   rw[←hv']at d0;have HV:=zH hv';have c3:=HM.o.cell (k:=3) rfl;have c5:=HM.o.cell (k:=5) rfl;have f5:=HM.o.free (k:=5) (by decide);clear hc hv';go_wp2_with fail;obtain⟨m5,b5⟩:=HM.o.setAt v;refine bodyPost_ret (results_none rfl _ _ _) rfl ?_
   first
    | exact⟨rfl,⟨_,by rw[←HV.o];exact m5.drop.drop⟩,HB.o.trans b5⟩
    | exact⟨rfl,.inl ⟨rfl,_,by rw[←HV.o];exact m5.drop.drop⟩,HB.o.trans b5⟩
  | cons p ps =>
   simp only[Du]at HM HPL⊢;obtain⟨n1,hn1⟩:=ex_ (ps.length+1);rw[←hn1]at HM HPL⊢;have hown:aK.Own wc bZ (.slice av n1 cp) (p::ps):=HM.o.loc (p:=ownPt aK (.slice av n1 cp) (p::ps)) (by simp);have hrow0:aK.Row wc (.slice av (p::ps).length cp) (p::ps):=by rw[Du,←hn1];exact hown.row
   obtain⟨av',cp',hvv,-,hcc⟩:=an hown.row;obtain⟨b,off,rfl,d0⟩:=hcc 0 (by simp);injection hvv with e1 e2 e3
   subst e1 e3;clear e2;have d0:wc.cell? ⟨b,off,none⟩=some (.string (bs p)):=d0;have i3:((n1:Int)==0)=false:=by rw[beq_eq_false_iff_ne];omega
   have i4:(0:Int)<(n1:Int):=by omega
   have i5:(n1:Int)≤1025:=by have:=HPL.o;omega
   have HN1:=zH hn1;have HR0:=zH hrow0;have hbl:=aD d0;clear hown hcc hrow0 hn1;go_upto_region 13 with(first|(go_at_call 233;refine(bj (true,0,p) (HM.o.below HC4.o) (by omega)).mono ?_;rintro r w5 ⟨rfl,⟨sv5,hm⟩,hB⟩;have HM5:=zH hm;have HB5:=zH ((HB.o.trans (HC4.o.mono HM.o.size)).trans hB);clear hm hB)|(go_at_call 234;refine(eL p _).mono ?_;rintro r w4 ⟨rfl,hB⟩;have HC4:=zH hB;clear hB));have hown5:aK.Own w5 bZ (.slice (some ⟨b,off,none⟩) n1 cp) (p::ps):=HM5.o.loc (p:=ownPt aK (.slice (some ⟨b,off,none⟩) n1 cp) (p::ps)) (by simp);obtain⟨A,C,hrun0,hrow5,hblk5⟩:=mF (l:=p::ps) (a:=some ⟨b,off,none⟩) (cap:=cp) (by rw[Du,←HN1.o];exact hown5.row) 1 (by simp);have hm0:(p::ps).length-1=ps.length:=by simp
   rw[hm0]at hrun0 hrow5 hblk5
   have hrun:∀ wx,(Instr.slice 22 (.slice (some ⟨b,off,none⟩) n1 cp) (some (.int .i64 1)) none none).run Tryz.prog wx=.ok (.slice A ps.length C) wx:=fun wx=>by
    have:=hrun0 wx;rw[Du,←HN1.o]at this;exact this
   have hrow5:aK.Row w5 (.slice A ps.length C) ps:=hrow5
   have hblk5:∀ k,(Value.slice A ps.length C).ownBlock=some k→(Value.slice (some ⟨b,off,none⟩) n1 cp).ownBlock=some k:=fun k hk=>by
    have:=hblk5 k hk;rw[Du,←HN1.o]at this;exact this
   obtain⟨av,hav⟩:∃ av:Option Addr,av=some ⟨b,off,none⟩:=⟨_,rfl⟩
   have hn1:=HN1.o;subst hn1;rw[←hav]at hrun hblk5 HM5⊢;have HAV:=zH hav;clear hav;obtain⟨e,he⟩:∃ e:Lo,e=⟨pc,A,ps.length,C,ps⟩:=⟨_,rfl⟩
   have HEC:=zH (show bH.cell e=[.int .i64 (pc:Int),.slice A ps.length C] by rw[he];rfl);have HEV:=zH (show loV e=.slice A ps.length C by rw[he];rfl);have HEA:=zH (show e.at_=pc∧e.ps=ps by rw[he];exact⟨rfl,rfl⟩);have HROW:=zH hrow5;have HBLK:=zH hblk5;obtain⟨_,⟨al,cl,rfl⟩,_⟩:=HM5.o.slices;have c31:w5.cell? ⟨G,31,none⟩=some (.slice al los.length cl):=HM5.o.cellR (k:=0) rfl;have HOL:=zH HM5.o.ol;have hlo2:(los.length:Int)≤900:=by omega
   clear hown5 hrun0 hm0 hrow5 hblk5 he d0 hbl HR0 i3 i4 i5 HN1 HPL;refine fb bH los e 14 [(4,.exact _ (.slice al los.length cl)),(5,iT bH w5.heap.size los e),(8,.exact _ (.slice A ps.length C)),(10,gQ bH w5.heap.size los e),(11,iS bH w5.heap.size los e)] (by kernel_rfl) (by kernel_rfl) ?_;simp only[DQ,DW,DO,DX];refine cG ?_;refine gE_ (fun w' G hB hS hG=>?_) (fun K hK=>?_)
   ·have y:=C8 hB c31
    go_simp;exact hG _ (dR.refl _)
   refine cO ?_;clear hK K;refine gk_ (iT bH w5.heap.size los e) (fun w' G hB hS hG=>?_) (fun x K hK=>?_)
   ·refine bH.grow_copy _ _ 300 rfl Tryz.underlying300 w5.heap.size rfl _ los (HOL.o.below hB).row rfl (by show los.length*32≤_;omega) hB.size (fun A C w'' ho hb=>hG (A,C) w'' (Dg hB.size hb) (fun φ h=>by cases h;exact ho))
   obtain⟨ad,c⟩:=x;refine cO ?_;clear hK K;refine gE_ (fun w' G hB hS hG=>?_) (fun K hK=>?_)
   ·go_simp;exact hG _ (dR.refl _)
   refine cO ?_;clear hK K;refine gk_ (gQ bH w5.heap.size los e) (fun w' G hB hS hG=>?_) (fun (bb:Nat) K hK=>?_)
   ·go_simp;exact iP hG (by rw[HEC.o]) hB.size
   refine cO ?_;clear hK K;refine gk_ (iS bH w5.heap.size los e) (fun w' G hB hS hG=>?_) (fun y K hK=>?_)
   ·have hown:bH.Own w' w5.heap.size (.slice ad los.length c) los:=at1 hS (by kernel_rfl)
    have hone:w'.heap[bb]?=some (.cells (bH.cell e).toArray bH.e (0,0)):=at0 hS (by kernel_rfl);exact bH.grow_app1 _ _ 300 rfl Tryz.underlying300 w5.heap.size _ los e hown rfl bb rfl hone (by show(los.length+1)*32≤_;omega) hB.size (fun A C w'' ho hr=>hG (A,C) w'' hr (fun φ h=>by cases h;exact ho))
   obtain⟨ad2,c2⟩:=y;refine cO ?_;clear hK K;refine ms ?_;intro w6 hB6 hA6;have ho6:bH.Own w6 w5.heap.size (.slice ad2 (los.length+1) c2) (los++[e]):=oA hA6;have hn:=HM5.o.newL (w3:=w6) (lv':=.slice ad2 (los.length+1) c2) (e:=e) (Da hB6) (fun k hk=>.inr (Rec.Own.ltV ho6 k hk).1) (ho6.baseLe HM5.o.size) (fun _=>by rw[HEV.o,HEA.o.2];exact HROW.o.below hB6) (fun k hk=>HBLK.o k (by rw[←HEV.o];exact hk));have c31':=hn.2.2.2;have f31:=hn.2.2.1;have HN:=zH hn;clear hn ho6 hB6 hA6 c31;go_wp2_with fail;refine bodyPost_end (results_none rfl _ _ _) rfl ?_;exact⟨rfl,.inr ⟨p,ps,rfl,_,_,e,HEA.o.1,HEA.o.2,HN.o.1.drop⟩,HB5.o.trans HN.o.2.1⟩
end
end
section
attribute [local irreducible] wpG
section
variable {bZ G:Nat}{w w' w3:World}{f:Rf}{at_:Int}{st rg:List RV}{los l:List Lo}{e:Lo}{pr:List (LU_×LU_)}{tv cv iv ev ow sv sv' lv lv' prv prv':Value}{X:List (Pt bZ)}
theorem tu (y:UInt8)(pc o:Nat)(h:RM bZ w G ⟨tv,cv,iv,ev,ow⟩ (pc:Int) st rg los pr sv lv prv X){own:List Int}{code:List VI}(how:bf.Row w ow own)(hcv:bp.Row w cv code)(hp:pc<own.length)(hol:own.length≤1000)(hcl:code.length≤1000)(ho:own[pc]=(o:Int))(ho2:o<code.length)(hne:code[o].1≠22):Calls Tryz.prog 225 #[.pointer (some ⟨G,0,none⟩),.agg #[.int .u8 21,.int .u8 (y.toNat:Int)]] w fun r w'=>r=.returned (.tuple #[])∧Bw_ w w':=by
 obtain⟨W1,hW1⟩:=ex_ (w.alloc (.cells #[.int .u8 21,.int .u8 (y.toNat:Int)] 127));have hb1:=ba_ hW1;have hx:=bm_ hW1;have x0:=hx.cell (k:=0) rfl;have h1:=h.below hb1;obtain⟨a1,n1,how1,hoc⟩:=db (how.below hb1);obtain⟨b1,off1,rfl,d0⟩:=hoc pc hp;subst how1;rw[ho]at d0;obtain⟨a2,n2,hcv1,-,hcc⟩:=ag (hcv.below hb1);obtain⟨b2,off2,rfl,d1,-⟩:=hcc o ho2;subst hcv1;obtain⟨q,hq⟩:=ex_ (code[o].1);rw[←hq]at d1 hne
 have t9:((q.toNat:Int) != 22)=true:=by
  rw[bne_iff_ne];intro hh;exact hne (UInt8.toNat_inj.1 (by show q.toNat=22;omega))
 have c1:W1.cell? ⟨G,1,none⟩=some (.slice (some ⟨b2,off2,none⟩) code.length n2):=h1.cell (k:=1) rfl;have c4:W1.cell? ⟨G,4,none⟩=some (.slice (some ⟨b1,off1,none⟩) own.length n1):=h1.cell (k:=4) rfl;have c5:W1.cell? ⟨G,5,none⟩=some (.int .i64 (pc:Int)):=h1.cell (k:=5) rfl;have i0:=nn_ pc;have i1:(pc:Int)<(own.length:Int):=by omega
 have i2:(own.length:Int)≤1000:=by omega
 have i3:=nn_ o;have i4:(o:Int)<(code.length:Int):=by omega
 have i5:(code.length:Int)≤1000:=by omega
 have HB1:=zH hb1;clear h h1 hb1 hx hoc hcc ho hq hne how hcv;go_enter Tryz.func225,Tryz.ntmps225;go_upto_region 1 with fail;rw[←hW1];clear hW1;go_wp2_with fail;go_quiet (fail);go_wp2_with fail;refine bodyPost_ret (results_none rfl _ _ _) rfl ?_;exact⟨rfl,bt HB1.o (C9 _ _)⟩
theorem lE (y:UInt8)(pc o:Nat)(h:RM bZ w G ⟨tv,cv,iv,ev,ow⟩ (pc:Int) st rg (l++[e]) pr sv lv prv X)(hl:st.length≤900)(hll:l.length≤900)(hps:e.ps.length≤2000){own:List Int}{code:List VI}(how:bf.Row w ow own)(hcv:bp.Row w cv code)(hp:pc<own.length)(hol:own.length≤1000)(hcl:code.length≤1000)(ho:own[pc]=(o:Int))(ho2:o<code.length)(hne:code[o].1=22):Calls Tryz.prog 225 #[.pointer (some ⟨G,0,none⟩),.agg #[.int .u8 21,.int .u8 (y.toNat:Int)]] w fun r w'=>r=.returned (.tuple #[]) ∧((e.ps=[]∧∃ lv',RM bZ w' G ⟨tv,cv,iv,ev,ow⟩ (pc:Int) st rg l pr sv lv' prv X) ∨ (∃ p ps,e.ps=p::ps∧∃ sv' lv' e',e'.at_=e.at_∧e'.ps=ps∧RM bZ w' G ⟨tv,cv,iv,ev,ow⟩ (e.at_:Int) ((true,0,p)::st) rg (l++[e']) pr sv' lv' prv X))∧Below bZ w w':=by
 obtain⟨W1,hW1⟩:=ex_ (w.alloc (.cells #[.int .u8 21,.int .u8 (y.toNat:Int)] 127));have hb1:=ba_ hW1;have hx:=bm_ hW1;have x0:=hx.cell (k:=0) rfl;have h1:=h.below hb1;obtain⟨a1,n1,how1,hoc⟩:=db (how.below hb1);obtain⟨b1,off1,rfl,d0⟩:=hoc pc hp;subst how1;rw[ho]at d0;obtain⟨a2,n2,hcv1,-,hcc⟩:=ag (hcv.below hb1);obtain⟨b2,off2,rfl,d1,-⟩:=hcc o ho2;subst hcv1;obtain⟨q,hq⟩:=ex_ (code[o].1);rw[←hq]at d1 hne;have t9:((q.toNat:Int) != 22)=false:=by rw[hne];rfl
 have c1:W1.cell? ⟨G,1,none⟩=some (.slice (some ⟨b2,off2,none⟩) code.length n2):=h1.cell (k:=1) rfl;have c4:W1.cell? ⟨G,4,none⟩=some (.slice (some ⟨b1,off1,none⟩) own.length n1):=h1.cell (k:=4) rfl;have c5:W1.cell? ⟨G,5,none⟩=some (.int .i64 (pc:Int)):=h1.cell (k:=5) rfl;have i0:=nn_ pc;have i1:(pc:Int)<(own.length:Int):=by omega
 have i2:(own.length:Int)≤1000:=by omega
 have i3:=nn_ o;have i4:(o:Int)<(code.length:Int):=by omega
 have i5:(code.length:Int)≤1000:=by omega
 have HB1:=zH (hb1.mono h.size);obtain⟨_,⟨oa,oc,hov⟩,_⟩:=h1.slices;rw[DL,Ea]at hov;subst hov;have H1:=zH h1;clear h h1 hb1 hx hoc hcc ho hq hne how hcv;go_enter Tryz.func225,Tryz.ntmps225;go_upto_region 1 with fail;rw[←hW1];clear hW1;go_wp2_with fail;go_quiet (fail);go_upto_region 16 with fail;obtain⟨W2,hW2⟩:=ex_ (W1.drewN nq);have hb2:Below W1.heap.size W1 W2:=by rw[hW2];exact C9 _ _
 rw[←hW2];have hm2:=H1.o.below hb2;have HB2:=zH (HB1.o.trans (hb2.mono H1.o.size));clear hW2 hb2 c1 c4 c5 d0 d1 i1 i2 i3 i4 i5 t9 x0 H1;have c31:W2.cell? ⟨G,31,none⟩=some (.slice oa (l.length+1) oc):=hm2.cellR (k:=0) rfl;obtain⟨a',cap,hv,-,hcc⟩:=Rec.Row.open hm2.ol.row;obtain⟨b,off,ha,hu⟩:=hcc l.length (by simp);rw[DL,Ea]at hv;injection hv with e1 e2 e3
 subst e1 e3 ha;clear e2;have hg:(l++[e])[l.length]'(by simp)=e:=by simp
 rw[hg]at hu;have d0:=hu 0 _ rfl;have d1:=hu 1 _ rfl
 change W2.cell? ⟨b,off+l.length*2,none⟩=_ at d0
 change W2.cell? ⟨b,off+l.length*2+1,none⟩=_ at d1
 obtain⟨er,-⟩:=hm2.ow.1 e (by simp);obtain⟨ea,ec,heq,-,-⟩:=an er;have hen:e.n=e.ps.length:=by unfold loV at heq;injection heq
 rw[hen]at d1;have hGl:G<W2.heap.size:=hm2.blk.lt;have hbl:b<W2.heap.size:=aD d0;have hl1:((l.length:Int)+1)-1=(l.length:Int):=by omega
 have hl2:(0:Int)≤(l.length:Int):=by omega
 have hl3:(l.length:Int)<(l.length:Int)+1:=by omega
 have hl4:(l.length:Int)≤900:=by omega
 have HM2:=zH hm2;have HEN:=zH hen;clear hm2 hu hcc hg er heq hen;go_region;obtain⟨T,hT⟩:=ex_ W2.heap.size;have hTb:bZ≤T:=by rw[hT];exact HM2.o.size
 obtain⟨W3,hW3⟩:=ex_ ((W2.alloc (.cells #[.int .i64 (e.at_:Int),.slice e.ad e.ps.length e.c] 342)).drew)
 have hm3:RM bZ W3 G ⟨tv,.slice (some ⟨b2,off2,none⟩) code.length n2,iv,ev,.slice (some ⟨b1,off1,none⟩) own.length n1⟩ (pc:Int) st rg (l++[e]) pr sv (.slice (some ⟨b,off,none⟩) (l.length+1) oc) prv (X++[az T hTb 342 [.int .i64 (e.at_:Int),.slice e.ad e.ps.length e.c]]):=by
  subst hT;rw[hW3];exact(HM2.o.add [.int .i64 (e.at_:Int),.slice e.ad e.ps.length e.c] 342).below (b_drew _)
 have HB3:=zH (show Below bZ w W3 by rw[hW3];exact HB2.o.trans ((bt (af _ _) (b_drew _)).mono HM2.o.size));rw[←hW3,←hT];clear hW3 hT HM2 HB2 d0 d1 c31 hGl hbl;obtain⟨g,hgv⟩:=hm3.ol.at0 (by simp);obtain rfl:off=0:=by injection hgv with h1;injection h1
 clear hgv;have c31:W3.cell? ⟨G,31,none⟩=some (.slice (some ⟨b,0,none⟩) (l.length+1) oc):=hm3.cellR (k:=0) rfl;have f31:=hm3.free (k:=31) (by decide);have hGl:G<W3.heap.size:=hm3.blk.lt;have ho:bH.Own W3 bZ (.slice (some ⟨b,0,none⟩) (l++[e]).length oc) (l++[e]):=by rw[DL,Ea];exact hm3.ol
 have hrun:=ho.shortRun 300 Tryz.underlying300 (by intro wx;kernel_rfl) l.length (by simp);rw[DL,Ea]at hrun
 have hsh:bH.Own W3.drew bZ (.slice (some ⟨b,0,none⟩) l.length oc) l:=by
  have:=(ho.below (b_drew W3)).short l.length (by simp)
  rwa [List.take_append_of_le_length (by simp),DB (by simp)]at this
 have hn:=(hm3.below (b_drew W3)).popL (lv':=.slice (some ⟨b,0,none⟩) l.length oc) (fun k hk=>hk) hsh;have HN:=zH hn;have HM3:=zH hm3;clear ho hsh hn hm3;go_wp2_with fail;go_region;obtain⟨hm4,hb4⟩:=HN.o;obtain⟨W4,hW4⟩:=ex_ ((W3.setCell ⟨G,31,none⟩ (.slice (some ⟨b,0,none⟩) l.length oc)).drew);have hm4:RM bZ W4 G ⟨tv,.slice (some ⟨b2,off2,none⟩) code.length n2,iv,ev,.slice (some ⟨b1,off1,none⟩) own.length n1⟩ (pc:Int) st rg l pr sv (.slice (some ⟨b,0,none⟩) l.length oc) prv ((X++[az T hTb 342 [.int .i64 (e.at_:Int),.slice e.ad e.ps.length e.c]])++[fP [e]]):=by rw[hW4];exact hm4
 have HB4:=zH (show Below bZ w W4 by rw[hW4];exact(HB3.o.trans ((b_drew W3).mono HM3.o.size)).trans hb4);rw[←hW4];clear hW4 hb4 HN HM3 HB3 c31 f31 hGl hrun;have hTk:Blk W4 T 342 [.int .i64 (e.at_:Int),.slice e.ad e.ps.length e.c]:=hm4.loc (p:=az T hTb 342 [.int .i64 (e.at_:Int),.slice e.ad e.ps.length e.c]) (by simp);have hlp:(fP (bZ:=bZ) [e]).P W4:=hm4.loc (p:=fP [e]) (by simp);obtain⟨t0,t1⟩:=cl2 hTk
 have hrowe:aK.Row W4 (.slice e.ad e.ps.length e.c) e.ps:=by
  have:=(hlp.1 e (by simp)).1;unfold loV at this
  rwa [HEN.o]at this
 have HM4:=zH hm4;have HRE:=zH hrowe;clear hm4 hTk hlp hrowe
 cases hps0:e.ps with
 | nil =>
  rw[hps0]at t1;have HPS:=zH hps0;clear hps0;go_wp2_with fail;refine bodyPost_end (results_none rfl _ _ _) rfl ?_
  first
   | exact⟨rfl,.inl ⟨HPS.o,_,HM4.o.drop.drop⟩,HB4.o⟩
   | exact⟨rfl,.inl ⟨rfl,_,HM4.o.drop.drop⟩,HB4.o⟩
 | cons p ps =>
  have hrow:=HRE.o;rw[hps0]at t1 hrow hps;have hps1:ps.length+1≤2000:=by simpa using hps
  have HPS:=zH hps0;obtain⟨av',cp',hvv,-,hcc⟩:=an hrow;obtain⟨b3,off3,hb3,d3⟩:=hcc 0 (by simp);injection hvv with e1 e2 e3
  rw[←e1]at hb3;clear e1 e2 e3;have d3:W4.cell? ⟨b3,off3,none⟩=some (.string (bs p)):=d3;rw[hb3,Du]at t1;have HAD:=zH hb3;have i6:(0:Int)<(ps.length:Int)+1:=by omega
  have i7:(ps.length:Int)+1≤2000:=by omega
  clear hcc hrow hps0 hps hps1 hb3;go_upto_region 20 with(first|(go_at_call 233;refine(bj (true,0,p) (HM4.o.below HC5.o) (by omega)).mono ?_;rintro r w6 ⟨rfl,⟨sv6,hm⟩,hB⟩;have HM6:=zH hm;have HB6:=zH ((HB4.o.trans (HC5.o.mono HM4.o.size)).trans hB);clear hm hB)|(go_at_call 234;refine(eL p _).mono ?_;rintro r w5 ⟨rfl,hB⟩;have HC5:=zH hB;clear hB));clear d3 t0 t1;have hlp:(fP (bZ:=bZ) [e]).P w6:=HM6.o.loc (p:=fP [e]) (by simp);have hTk:Blk w6 T 342 [.int .i64 (e.at_:Int),.slice e.ad e.ps.length e.c]:=HM6.o.loc (p:=az T hTb 342 [.int .i64 (e.at_:Int),.slice e.ad e.ps.length e.c]) (by simp);have hrow6:=(hlp.1 e (by simp)).1;have HLE:=zH (show(loV e).ownBlock=(Value.slice e.ad e.ps.length e.c).ownBlock by unfold loV;rw[HEN.o]);unfold loV at hrow6;rw[HEN.o]at hrow6;obtain⟨av,hav⟩:=ex_ e.ad;obtain⟨cp,hcp⟩:=ex_ e.c;rw[←hav,←hcp]at hrow6 hTk HLE;rw[HPS.o]at hrow6 hTk HLE;have t0:=hTk.cell (k:=0) rfl;have t1:w6.cell? ⟨T,1,none⟩=some (.slice av (ps.length+1) cp):=hTk.cell (k:=1) rfl;obtain⟨A,C,hrun0,hrow5,hblk5⟩:=mF (l:=p::ps) (a:=av) (cap:=cp) hrow6 1 (by simp);have hm0:(p::ps).length-1=ps.length:=by simp
  rw[hm0]at hrun0 hrow5 hblk5;have hrun:∀ wx,(Instr.slice 22 (.slice av (ps.length+1) cp) (some (.int .i64 1)) none none).run Tryz.prog wx=.ok (.slice A ps.length C) wx:=fun wx=>hrun0 wx;have hrow5:aK.Row w6 (.slice A ps.length C) ps:=hrow5;obtain⟨e',he'⟩:∃ e':Lo,e'=⟨e.at_,A,ps.length,C,ps⟩:=⟨_,rfl⟩
  have HEC:=zH (show bH.cell e'=[.int .i64 (e.at_:Int),.slice A ps.length C] by rw[he'];rfl);have HEV:=zH (show loV e'=.slice A ps.length C by rw[he'];rfl);have HEA:=zH (show e'.at_=e.at_∧e'.ps=ps by rw[he'];exact⟨rfl,rfl⟩);have HROW:=zH hrow5;have HBLK:=zH (show ∀ k,(Value.slice A ps.length C).ownBlock=some k→(fP (bZ:=bZ) [e]).fp k from fun k hk=>⟨e,by simp,by rw[HLE.o];exact hblk5 k hk⟩);obtain⟨_,⟨al,cl,hlv⟩,_⟩:=HM6.o.slices;have c31:w6.cell? ⟨G,31,none⟩=some (.slice (some ⟨b,0,none⟩) l.length oc):=HM6.o.cellR (k:=0) rfl;have HOL:=zH HM6.o.ol;obtain⟨al2,hal2⟩:∃ al2:Option Addr,al2=some ⟨b,0,none⟩:=⟨_,rfl⟩
  rw[←hal2]at c31 HOL;have HAL2:=zH hal2;clear hlp hTk hrow6 hav hcp hrun0 hm0 hrow5 hblk5 he' hlv hal2 i6 i7;refine fb bH l e' 16 [(4,.exact _ (.slice al2 l.length oc)),(5,iT bH w6.heap.size l e'),(7,.exact _ (.int .i64 (e.at_:Int))),(9,.exact _ (.slice av (ps.length+1) cp)),(10,.exact _ (.slice A ps.length C)),(12,gQ bH w6.heap.size l e'),(13,iS bH w6.heap.size l e')] (by kernel_rfl) (by kernel_rfl) ?_;simp only[DQ,DW,DO,DX];refine cG ?_;refine gE_ (fun w' G hB hS hG=>?_) (fun K hK=>?_)
  ·have y:=C8 hB c31
   go_simp;exact hG _ (dR.refl _)
  refine cO ?_;clear hK K;refine gk_ (iT bH w6.heap.size l e') (fun w' G hB hS hG=>?_) (fun x K hK=>?_)
  ·refine bH.grow_copy _ _ 300 rfl Tryz.underlying300 w6.heap.size rfl _ l (HOL.o.below hB).row rfl (by show l.length*32≤_;omega) hB.size (fun A C w'' ho hb=>hG (A,C) w'' (Dg hB.size hb) (fun φ h=>by cases h;exact ho))
  obtain⟨ad,c⟩:=x;refine cO ?_;clear hK K;refine gE_ (fun w' G hB hS hG=>?_) (fun K hK=>?_)
  ·have y:=C8 hB t0
   go_simp;exact hG _ (dR.refl _)
  refine cO ?_;clear hK K;refine gE_ (fun w' G hB hS hG=>?_) (fun K hK=>?_)
  ·have y:=C8 hB t1
   go_simp;exact hG _ (dR.refl _)
  refine cO ?_;clear hK K;refine gE_ (fun w' G hB hS hG=>?_) (fun K hK=>?_)
  ·go_simp;exact hG _ (dR.refl _)
  refine cO ?_;clear hK K;refine gk_ (gQ bH w6.heap.size l e') (fun w' G hB hS hG=>?_) (fun (bb:Nat) K hK=>?_)
  ·go_simp;exact iP hG (by rw[HEC.o]) hB.size
  refine cO ?_;clear hK K;refine gk_ (iS bH w6.heap.size l e') (fun w' G hB hS hG=>?_) (fun y K hK=>?_)
  ·have hown:bH.Own w' w6.heap.size (.slice ad l.length c) l:=at1 hS (by kernel_rfl)
   have hone:w'.heap[bb]?=some (.cells (bH.cell e').toArray bH.e (0,0)):=at0 hS (by kernel_rfl);exact bH.grow_app1 _ _ 300 rfl Tryz.underlying300 w6.heap.size _ l e' hown rfl bb rfl hone (by show(l.length+1)*32≤_;omega) hB.size (fun A C w'' ho hr=>hG (A,C) w'' hr (fun φ h=>by cases h;exact ho))
  obtain⟨ad2,c2⟩:=y;refine cO ?_;clear hK K;refine ms ?_;intro w7 hB7 hA7;have ho7:bH.Own w7 w6.heap.size (.slice ad2 (l.length+1) c2) (l++[e']):=oA hA7;have hn:=HM6.o.newL (w3:=w7) (lv':=.slice ad2 (l.length+1) c2) (e:=e') (Da hB7) (fun k hk=>.inr (Rec.Own.ltV ho7 k hk).1) (ho7.baseLe HM6.o.size) (fun _=>by rw[HEV.o,HEA.o.2];exact HROW.o.below hB7) (fun k hk=>HBLK.o k (by rw[←HEV.o];exact hk));have c31':=hn.2.2.2;have f31:=hn.2.2.1;have HN:=zH hn;clear hn ho7 hB7 hA7 c31 t0 t1;go_upto_region 21 with fail;obtain⟨W8,hW8⟩:=ex_ (w7.setCell ⟨G,31,none⟩ (.slice ad2 (l.length+1) c2));rw[←hW8];have hn8:=HN.o.1;rw[←hW8]at hn8;have HB8:=zH (show Below bZ w W8 by rw[hW8];exact HB6.o.trans HN.o.2.1);have hTk:Blk W8 T 342 [.int .i64 (e.at_:Int),.slice e.ad e.ps.length e.c]:=hn8.loc (p:=az T hTb 342 [.int .i64 (e.at_:Int),.slice e.ad e.ps.length e.c]) (by simp);have t0:=hTk.cell (k:=0) rfl;have c5:=hn8.cell (k:=5) rfl;have f5:=hn8.free (k:=5) (by decide);have HN8:=zH hn8;clear hn8 hTk hW8 HN c31' f31;go_wp2_with fail;refine bodyPost_end (results_none rfl _ _ _) rfl ?_;obtain⟨m9,b9⟩:=HN8.o.setAt (e.at_:Int)
  first
   | exact⟨rfl,.inr ⟨p,ps,HPS.o,_,_,e',HEA.o.1,HEA.o.2,m9.drop⟩,HB8.o.trans b9⟩
   | exact⟨rfl,.inr ⟨p,ps,rfl,_,_,e',HEA.o.1,HEA.o.2,m9.drop⟩,HB8.o.trans b9⟩
end
end
section
attribute [local irreducible] wpG
section
variable {bZ G:Nat}{w w' w3:World}{f:Rf}{at_:Int}{st rg:List RV}{los:List Lo}{pr:List (LU_×LU_)}{sv sv' lv lv' prv prv':Value}{X:List (Pt bZ)}
theorem tw (y:UInt8)(h:RM bZ w G f at_ st rg los pr sv lv prv X)(hp:256≤pr.length)(hp2:pr.length≤256):Calls Tryz.prog 224 #[.pointer (some ⟨G,0,none⟩),.agg #[.int .u8 23,.int .u8 (y.toNat:Int)]] w fun e w'=>e=.returned (.int .i64 4)∧Below bZ w w':=by
 obtain⟨_,_,pa,pc,rfl⟩:=h.slices;obtain⟨W1,hW1⟩:=ex_ (w.alloc (.cells #[.int .u8 23,.int .u8 (y.toNat:Int)] 127));have hb1:=ba_ hW1;have hx:=bm_ hW1;have x0:=hx.cell (k:=0) rfl;have c32:W1.cell? ⟨G,32,none⟩=some (.slice pa pr.length pc):=(h.below hb1).cellR (k:=1) rfl;have HB1:=zH (hb1.mono h.size);have t1:(256:Int)≤(pr.length:Int):=by omega
 have t2:(pr.length:Int)≤256:=by omega
 clear h hb1 hx;go_enter Tryz.func224,Tryz.ntmps224;go_upto_region 1 with fail;rw[←hW1];clear hW1;go_wp2_with fail;go_ret;exact⟨rfl,HB1.o⟩
theorem ws (y:UInt8)(a b:RV)(h:RM bZ w G f at_ (b::a::st) rg los pr sv lv prv X)(hl:st.length≤900)(hp:¬256≤pr.length):Calls Tryz.prog 224 #[.pointer (some ⟨G,0,none⟩),.agg #[.int .u8 23,.int .u8 (y.toNat:Int)]] w fun e w'=>e=.returned (.int .i64 0)∧(∃ sv' prv',RM bZ w' G f at_ st rg los (pr++[(a.2.2,b.2.2)]) sv' lv prv' X)∧Below bZ w w':=by
 obtain⟨_,_,pa,pc,rfl⟩:=h.slices;obtain⟨W1,hW1⟩:=ex_ (w.alloc (.cells #[.int .u8 23,.int .u8 (y.toNat:Int)] 127));have hb1:=ba_ hW1;have hx:=bm_ hW1;have x0:=hx.cell (k:=0) rfl;have c32:W1.cell? ⟨G,32,none⟩=some (.slice pa pr.length pc):=(h.below hb1).cellR (k:=1) rfl;have HP:=zH (aT b (h.below hb1) (by simp;omega));have HB1:=zH (hb1.mono h.size);have t1:¬(256:Int)≤(pr.length:Int):=by omega
 have t2:(pr.length:Int)≤256:=by omega
 clear h hb1 hx;go_enter Tryz.func224,Tryz.ntmps224;go_upto_region 1 with fail;rw[←hW1];clear hW1;go_upto_region 24 with(go_at_call 200;refine HP.o.mono ?_;rintro r w2 ⟨rfl,⟨sv,hm⟩,hB⟩;unfold rvV;have HM:=zH hm;have HB:=zH (HB1.o.trans hB);clear hm hB);obtain⟨D,hD⟩:=ex_ w2.heap.size;obtain⟨W2,hW2⟩:=ex_ (w2.alloc (.cells (aH b).toArray 298));have hDb:bZ≤D:=by rw[hD];exact HM.o.size
 have hm2:RM bZ W2 G f at_ (a::st) rg los pr sv lv (.slice pa pr.length pc) (X++[az D hDb 298 (aH b)]):=by subst hD;rw[hW2];exact HM.o.add (aH b) 298
 have HB2:=zH (show Below bZ w W2 by rw[hW2];exact HB.o.trans ((af _ _).mono HM.o.size));have HP2:=zH (aT a hm2 (by omega));have hg:w2.alloc (.cells #[.bool b.1,.int .i64 b.2.1,.string (bs b.2.2)] 298)=W2:=hW2.symm;rw[hg,←hD];clear hg hW2 hD hm2 HM HB c32 x0;go_upto_region 25 with(go_at_call 200;refine HP2.o.mono ?_;rintro r w3 ⟨rfl,⟨sv3,hm⟩,hB⟩;unfold rvV;have HM3:=zH hm;have HB3:=zH (HB2.o.trans hB);clear hm hB);obtain⟨D3,hD3⟩:=ex_ w3.heap.size;obtain⟨W3,hW3⟩:=ex_ (w3.alloc (.cells (aH a).toArray 298));have hD3b:bZ≤D3:=by rw[hD3];exact HM3.o.size
 have hm3:RM bZ W3 G f at_ st rg los pr sv3 lv (.slice pa pr.length pc) ((X++[az D hDb 298 (aH b)])++[az D3 hD3b 298 (aH a)]):=by subst hD3;rw[hW3];exact HM3.o.add (aH a) 298
 have HB4:=zH (show Below bZ w W3 by rw[hW3];exact HB3.o.trans ((af _ _).mono HM3.o.size));have hg:w3.alloc (.cells #[.bool a.1,.int .i64 a.2.1,.string (bs a.2.2)] 298)=W3:=hW3.symm;rw[hg,←hD3];clear hg hW3 hD3 HM3 HB3;obtain⟨d0,d1,d2,ld⟩:=hm3.atB (D:=D) (hD:=hDb) (v:=b) (by simp);obtain⟨e0,e1,e2,le⟩:=hm3.atB (D:=D3) (hD:=hD3b) (v:=a) (by simp);have c32:W3.cell? ⟨G,32,none⟩=some (.slice pa pr.length pc):=hm3.cellR (k:=1) rfl;have hGl:G<W3.heap.size:=hm3.blk.lt;have h3d:=hm3.below (b_drew W3);have hgb:bZ≤W3.drew.heap.size:=h3d.size;have hby:(pr.length+1)*32≤140737488355328:=by omega
 have hop:=h3d.op;have H3D:=zH h3d;have HM3:=zH hm3;clear h3d hm3;go_region_law (refine recKq.step_append1V W3.drew (a.2.2,b.2.2) rfl _ _ 29 rfl Tryz.underlying29 bZ (.slice pa pr.length pc) pr rfl hop _ rfl _ rfl _ rfl hby hgb ?_;intro g gc w4 hown hc hg;have hn:=H3D.o.newP (prv':=.slice (some ⟨g,0,none⟩) (pr.length+1) gc) (l:=pr++[(a.2.2,b.2.2)]) hc (fun k hk=>by cases hk;exact hg) hown;have f32:=hn.2.2.1;have c32':=hn.2.2.2;have HN:=zH hn;clear hn hown hc hg)
 all_goals
  (try simp only[Ec,DH,DN])
  (try go_frame)
  go_wp2_with fail;go_ret;exact⟨rfl,⟨_,_,HN.o.1.drop.drop⟩,(HB4.o.trans ((b_drew W3).mono HM3.o.size)).trans HN.o.2.1⟩
end
end
section
attribute [local irreducible] wpG
section
variable {bZ G:Nat}{w w' w3:World}{f:Rf}{at_:Int}{st rg:List RV}{los:List Lo}{pr:List (LU_×LU_)}{sv sv' lv lv' prv prv':Value}{X:List (Pt bZ)}
theorem qV (y:UInt8)(b a t:RV)(h:RM bZ w G f at_ (b::a::t::st) rg los pr sv lv prv X)(hl:st.length≤900)(hb:vOk b.2)(ha:vOk a.2)(ht:vOk t.2):Calls Tryz.prog 224 #[.pointer (some ⟨G,0,none⟩),.agg #[.int .u8 6,.int .u8 (y.toNat:Int)]] w fun e w'=>e=.returned (.int .i64 0)∧(∃ sv',RM bZ w' G f at_ ((true,0,fM t.2.2 a.2.1 b.2.1)::st) rg los pr sv' lv prv X)∧Below bZ w w':=by
 obtain⟨W1,hW1⟩:=ex_ (w.alloc (.cells #[.int .u8 6,.int .u8 (y.toNat:Int)] 127));have hb1:=ba_ hW1;have hx:=bm_ hW1;have x0:=hx.cell (k:=0) rfl;have HP:=zH (aT b (h.below hb1) (by simp;omega));have HB1:=zH (hb1.mono h.size);clear h hb1 hx;go_enter Tryz.func224,Tryz.ntmps224;go_upto_region 1 with fail;rw[←hW1];clear hW1;go_upto_region 12 with(go_at_call 200;refine HP.o.mono ?_;rintro r w2 ⟨rfl,⟨sv,hm⟩,hB⟩;unfold rvV;have HM:=zH hm;have HB:=zH (HB1.o.trans hB);clear hm hB);obtain⟨D,hD⟩:=ex_ w2.heap.size;obtain⟨W2,hW2⟩:=ex_ (w2.alloc (.cells (aH b).toArray 298));have hDb:bZ≤D:=by rw[hD];exact HM.o.size
 have hm2:RM bZ W2 G f at_ (a::t::st) rg los pr sv lv prv (X++[az D hDb 298 (aH b)]):=by subst hD;rw[hW2];exact HM.o.add (aH b) 298
 have HB2:=zH (show Below bZ w W2 by rw[hW2];exact HB.o.trans ((af _ _).mono HM.o.size));have HP2:=zH (aT a hm2 (by simp;omega));have hg:w2.alloc (.cells #[.bool b.1,.int .i64 b.2.1,.string (bs b.2.2)] 298)=W2:=hW2.symm;rw[hg,←hD];clear hg hW2 hD hm2 HM HB x0;go_upto_region 13 with(go_at_call 200;refine HP2.o.mono ?_;rintro r w3 ⟨rfl,⟨sv3,hm⟩,hB⟩;unfold rvV;have HM3:=zH hm;have HB3:=zH (HB2.o.trans hB);clear hm hB);obtain⟨D3,hD3⟩:=ex_ w3.heap.size;obtain⟨W3,hW3⟩:=ex_ (w3.alloc (.cells (aH a).toArray 298));have hD3b:bZ≤D3:=by rw[hD3];exact HM3.o.size
 have hm3:RM bZ W3 G f at_ (t::st) rg los pr sv3 lv prv ((X++[az D hDb 298 (aH b)])++[az D3 hD3b 298 (aH a)]):=by subst hD3;rw[hW3];exact HM3.o.add (aH a) 298
 have HB4:=zH (show Below bZ w W3 by rw[hW3];exact HB3.o.trans ((af _ _).mono HM3.o.size));have hg:w3.alloc (.cells #[.bool a.1,.int .i64 a.2.1,.string (bs a.2.2)] 298)=W3:=hW3.symm;rw[hg,←hD3];clear hg hW3 hD3 HM3 HB3;obtain⟨d0,d1,d2,ld⟩:=hm3.atB (D:=D) (hD:=hDb) (v:=b) (by simp);obtain⟨e0,e1,e2,le⟩:=hm3.atB (D:=D3) (hD:=hD3b) (v:=a) (by simp);have HM3:=zH hm3;have HP3:=zH (aT t (hm3.below (b_drew W3)) (by omega));have HPT:=zH (fun w'=>wh t.2.2 a.2.1 b.2.1 w' ht.2.2 ⟨ha.1,ha.2.1⟩ ⟨hb.1,hb.2.1⟩);obtain⟨q,hq⟩:=ex_ (fM t.2.2 a.2.1 b.2.1);rw[←hq]at HPT;have HQ:=zH hq;clear hm3 hq hb ha ht
 go_region_law (first
  | (refine aL rfl 233 #[.pointer (some ⟨G,0,none⟩),rvV (true,0,q)] (by go_simp) (bj (true,0,q) HM6.o (by omega)) ?_;rintro r w7 ⟨rfl,⟨sv7,hm⟩,hB⟩;have HM7:=zH hm;have HB7:=zH (HB6.o.trans hB);clear hm hB)
  | (refine aL rfl 234 #[.string (bs q)] (by go_simp) (eL q w5) ?_;rintro r w6 ⟨rfl,hB⟩;have HM6:=zH (HM4.o.below (bt HC5.o hB));obtain⟨d0,d1,d2,ld⟩:=HM6.o.atB (D:=D) (hD:=hDb) (v:=b) (by simp);obtain⟨e0,e1,e2,le⟩:=HM6.o.atB (D:=D3) (hD:=hD3b) (v:=a) (by simp);have HB6:=zH (HB5.o.trans ((bt HC5.o hB).mono HM4.o.size));clear hB)
  | (refine aL rfl 238 #[.string (bs t.2.2),.int .i64 a.2.1,.int .i64 b.2.1] (by go_simp) (HPT.o w4) ?_;rintro r w5 ⟨rfl,hB⟩;have HC5:=zH hB;clear hB)
  | (refine aL rfl 200 #[.pointer (some ⟨G,0,none⟩)] (by go_simp) HP3.o ?_;rintro r w4 ⟨rfl,⟨sv4,hm⟩,hB⟩;unfold rvV;obtain⟨d0,d1,d2,ld⟩:=hm.atB (D:=D) (hD:=hDb) (v:=b) (by simp);obtain⟨e0,e1,e2,le⟩:=hm.atB (D:=D3) (hD:=hD3b) (v:=a) (by simp);have HM4:=zH hm;have HB5:=zH ((HB4.o.trans ((b_drew W3).mono HM3.o.size)).trans hB);clear hm hB))
 all_goals
  (try simp only[Ec,DH,DN])
  (try go_frame)
  go_wp2_with fail;go_ret;rw[←HQ.o];exact⟨rfl,⟨_,HM7.o.drop.drop⟩,HB7.o⟩
end
end
section
attribute [local irreducible] wpG
section
variable {bZ G:Nat}{w w' w3:World}{f:Rf}{at_:Int}{st rg:List RV}{los:List Lo}{pr:List (LU_×LU_)}{tv cv iv ev ow sv sv' lv lv' prv prv':Value}{X:List (Pt bZ)}
theorem wG (n:Nat)(y:UInt8)(w:World)(hn:n≠1∧n≠2∧n≠3∧n≠14∧n≠15∧n≠16∧n≠17∧n≠18):Calls Tryz.prog 222 #[.pointer (some ⟨G,0,none⟩),.agg #[.int .u8 (n:Int),.int .u8 (y.toNat:Int)]] w fun e w'=>e=.returned (.tuple #[])∧Bw_ w w':=by
 have t1:((n:Int)==1)=false:=by rw[beq_eq_false_iff_ne];omega
 have t2:((n:Int)==2)=false:=by rw[beq_eq_false_iff_ne];omega
 have t3:((n:Int)==3)=false:=by rw[beq_eq_false_iff_ne];omega
 have t4:((n:Int)==14)=false:=by rw[beq_eq_false_iff_ne];omega
 have t5:((n:Int)==15)=false:=by rw[beq_eq_false_iff_ne];omega
 have t6:((n:Int)==16)=false:=by rw[beq_eq_false_iff_ne];omega
 have t7:((n:Int)==17)=false:=by rw[beq_eq_false_iff_ne];omega
 have t8:((n:Int)==18)=false:=by rw[beq_eq_false_iff_ne];omega
 clear hn;go_enter Tryz.func222,Tryz.ntmps222;go_wp2_with fail;refine bodyPost_end (results_none rfl _ _ _) rfl ?_;exact⟨rfl,af _ _⟩
theorem Fh {T:Prop} (h:T:=by
 go_wp2_with fail;refine bodyPost_end (results_none rfl _ _ _) rfl ?_;rw[HG.o];exact⟨rfl,⟨_,HM5.o⟩,HB5.o⟩
):T:=h
theorem qT (y:UInt8)(h:RM bZ w G ⟨tv,cv,iv,ev,ow⟩ at_ st rg los pr sv lv prv X)(hl:st.length≤900){l:LL_}(ht:aK.Row w tv l)(hy:y.toNat<l.length)(hl2:l.length≤1000):Calls Tryz.prog 222 #[.pointer (some ⟨G,0,none⟩),.agg #[.int .u8 1,.int .u8 (y.toNat:Int)]] w fun e w'=>e=.returned (.tuple #[])∧(∃ sv',RM bZ w' G ⟨tv,cv,iv,ev,ow⟩ at_ ((true,0,l.getD y.toNat [])::st) rg los pr sv' lv prv X)∧Below bZ w w':=by
 obtain⟨W1,hW1⟩:=ex_ (w.alloc (.cells #[.int .u8 1,.int .u8 (y.toNat:Int)] 127));have hb1:=ba_ hW1;obtain⟨D,hD⟩:=ex_ w.heap.size;have hx:=bn_ hD hW1;obtain⟨x0,x1⟩:=cl2 hx;obtain⟨a,n,rfl,-,hc⟩:=an (ht.below hb1);obtain⟨b,off,rfl,d0⟩:=hc y.toNat hy;have hg:l.getD y.toNat []=l[y.toNat]:=by rw[List.getD_eq_getElem?_getD,List.getElem?_eq_getElem hy];rfl
 obtain⟨u,hu⟩:=ex_ (l[y.toNat]);rw[←hu]at d0 hg;have h1:=h.below hb1;have c0:W1.cell? ⟨G,0,none⟩=some (.slice (some ⟨b,off,none⟩) l.length n):=h1.cell (k:=0) rfl;have i0:(0:Int)≤(y.toNat:Int):=by omega
 have i1:(y.toNat:Int)<(l.length:Int):=by omega
 have i2:(l.length:Int)≤1000:=by omega
 have HG:=zH hg;have H1:=zH h1;have HB1:=zH (hb1.mono h.size);have HS:=zH h.size;clear h h1 hg ht hc hu hb1 hx;go_enter Tryz.func222,Tryz.ntmps222;go_upto_region 1 with fail;rw[←hW1,←hD];clear hW1 hD;go_wp2_with fail;go_region_law (first|(refine aL rfl 233 #[.pointer (some ⟨G,0,none⟩),rvV (true,0,u)] (by go_simp) (bj (true,0,u) (H1.o.below HB4.o) (by omega)) ?_;rintro r w5 ⟨rfl,⟨sv5,hm⟩,hB⟩;have HM5:=zH hm;have HB5:=zH ((HB1.o.trans (HB4.o.mono H1.o.size)).trans hB);clear hm hB)|(refine aL rfl 234 #[.string (bs u)] (by go_simp) (eL u W1.drew) ?_;rintro r w4 ⟨rfl,hB⟩;have HB4:=zH (bt (b_drew W1) hB);clear hB))
 all_goals
  (try simp only[Ec,DH,DN])
  (try go_frame)
  exact Fh
theorem pW (y:UInt8)(h:RM bZ w G ⟨tv,cv,iv,ev,ow⟩ at_ st rg los pr sv lv prv X)(hl:st.length≤900){l:LL_}(ht:aK.Row w iv l)(hy:y.toNat<l.length)(hl2:l.length≤1000):Calls Tryz.prog 222 #[.pointer (some ⟨G,0,none⟩),.agg #[.int .u8 3,.int .u8 (y.toNat:Int)]] w fun e w'=>e=.returned (.tuple #[])∧(∃ sv',RM bZ w' G ⟨tv,cv,iv,ev,ow⟩ at_ ((true,0,l.getD y.toNat [])::st) rg los pr sv' lv prv X)∧Below bZ w w':=by
 obtain⟨W1,hW1⟩:=ex_ (w.alloc (.cells #[.int .u8 3,.int .u8 (y.toNat:Int)] 127));have hb1:=ba_ hW1;obtain⟨D,hD⟩:=ex_ w.heap.size;have hx:=bn_ hD hW1;obtain⟨x0,x1⟩:=cl2 hx;obtain⟨a,n,rfl,-,hc⟩:=an (ht.below hb1);obtain⟨b,off,rfl,d0⟩:=hc y.toNat hy;have hg:l.getD y.toNat []=l[y.toNat]:=by rw[List.getD_eq_getElem?_getD,List.getElem?_eq_getElem hy];rfl
 obtain⟨u,hu⟩:=ex_ (l[y.toNat]);rw[←hu]at d0 hg;have h1:=h.below hb1;have c0:W1.cell? ⟨G,2,none⟩=some (.slice (some ⟨b,off,none⟩) l.length n):=h1.cell (k:=2) rfl;have i0:(0:Int)≤(y.toNat:Int):=by omega
 have i1:(y.toNat:Int)<(l.length:Int):=by omega
 have i2:(l.length:Int)≤1000:=by omega
 have HG:=zH hg;have H1:=zH h1;have HB1:=zH (hb1.mono h.size);have HS:=zH h.size;clear h h1 hg ht hc hu hb1 hx;go_enter Tryz.func222,Tryz.ntmps222;go_upto_region 1 with fail;rw[←hW1,←hD];clear hW1 hD;go_wp2_with fail;go_region_law (first|(refine aL rfl 233 #[.pointer (some ⟨G,0,none⟩),rvV (true,0,u)] (by go_simp) (bj (true,0,u) (H1.o.below HB4.o) (by omega)) ?_;rintro r w5 ⟨rfl,⟨sv5,hm⟩,hB⟩;have HM5:=zH hm;have HB5:=zH ((HB1.o.trans (HB4.o.mono H1.o.size)).trans hB);clear hm hB)|(refine aL rfl 234 #[.string (bs u)] (by go_simp) (eL u W1.drew) ?_;rintro r w4 ⟨rfl,hB⟩;have HB4:=zH (bt (b_drew W1) hB);clear hB))
 all_goals
  (try simp only[Ec,DH,DN])
  (try go_frame)
  exact Fh
theorem tk (y:UInt8)(h:RM bZ w G f at_ st rg los pr sv lv prv X)(hl:st.length≤900):Calls Tryz.prog 222 #[.pointer (some ⟨G,0,none⟩),.agg #[.int .u8 2,.int .u8 (y.toNat:Int)]] w fun e w'=>e=.returned (.tuple #[])∧(∃ sv',RM bZ w' G f at_ ((false,(y.toNat:Int),[])::st) rg los pr sv' lv prv X)∧Below bZ w w':=by
 obtain⟨W1,hW1⟩:=ex_ (w.alloc (.cells #[.int .u8 2,.int .u8 (y.toNat:Int)] 127));have hb1:=ba_ hW1;obtain⟨D1,hD1⟩:=ex_ w.heap.size;have hx:=bn_ hD1 hW1;obtain⟨x0,x1⟩:=cl2 hx;have HB1:=zH (hb1.mono h.size);have H1:=zH (h.below hb1);have cw:wrap64 (y.toNat:Int)=(y.toNat:Int):=by have:=y.toNat_lt;unfold wrap64;omega
 have HCW:=zH cw;clear h hb1 hx;go_enter Tryz.func222,Tryz.ntmps222;go_upto_region 1 with fail;rw[←hW1,←hD1];clear hW1 hD1;go_wp2_with (first|(go_at_call 233;refine(bj (false,(y.toNat:Int),[]) HM4.o (by omega)).mono ?_;rintro r w5 ⟨rfl,⟨sv5,hm⟩,hB⟩;have HM5:=zH hm;have HB5:=zH (HB4.o.trans hB);clear hm hB)|(go_at_call 235;refine(gL (y.toNat:Int) _).mono ?_;rintro r w4 ⟨rfl,hB⟩;have HM4:=zH (H1.o.below hB);have HB4:=zH (HB1.o.trans (hB.mono H1.o.size));clear hB));refine bodyPost_end (results_none rfl _ _ _) rfl ?_;exact⟨rfl,⟨_,HM5.o⟩,HB5.o⟩
theorem rm (y:UInt8)(a:RV)(h:RM bZ w G f at_ (a::st) rg los pr sv lv prv X)(hl:st.length≤900):Calls Tryz.prog 222 #[.pointer (some ⟨G,0,none⟩),.agg #[.int .u8 14,.int .u8 (y.toNat:Int)]] w fun e w'=>e=.returned (.tuple #[])∧(∃ sv',RM bZ w' G f at_ st rg los pr sv' lv prv X)∧Below bZ w w':=by
 obtain⟨W1,hW1⟩:=ex_ (w.alloc (.cells #[.int .u8 14,.int .u8 (y.toNat:Int)] 127));have hb1:=ba_ hW1;obtain⟨D1,hD1⟩:=ex_ w.heap.size;have hx:=bn_ hD1 hW1;obtain⟨x0,x1⟩:=cl2 hx;have HB1:=zH (hb1.mono h.size);have HP:=zH (aT a (h.below hb1) (by omega));clear h hb1 hx;go_enter Tryz.func222,Tryz.ntmps222;go_upto_region 1 with fail;rw[←hW1,←hD1];clear hW1 hD1;go_wp2_with (go_at_call 200;refine HP.o.mono ?_;rintro r w2 ⟨rfl,⟨sv,hm⟩,hB⟩;unfold rvV;have HM:=zH hm;have HB:=zH hB;clear hm hB);refine bodyPost_end (results_none rfl _ _ _) rfl ?_;exact⟨rfl,⟨_,HM.o⟩,HB1.o.trans HB.o⟩
theorem tD (y:UInt8)(a:RV)(h:RM bZ w G f at_ (a::st) rg los pr sv lv prv X)(hl:st.length≤900):Calls Tryz.prog 222 #[.pointer (some ⟨G,0,none⟩),.agg #[.int .u8 15,.int .u8 (y.toNat:Int)]] w fun e w'=>e=.returned (.tuple #[])∧(∃ sv',RM bZ w' G f at_ (a::a::st) rg los pr sv' lv prv X)∧Below bZ w w':=by
 obtain⟨W1,hW1⟩:=ex_ (w.alloc (.cells #[.int .u8 15,.int .u8 (y.toNat:Int)] 127));have hb1:=ba_ hW1;obtain⟨D1,hD1⟩:=ex_ w.heap.size;have hx:=bn_ hD1 hW1;obtain⟨x0,x1⟩:=cl2 hx;have HB1:=zH (hb1.mono h.size);have HP:=zH (aT a (h.below hb1) (by omega));clear h hb1 hx;go_enter Tryz.func222,Tryz.ntmps222;go_upto_region 1 with fail;rw[←hW1,←hD1];clear hW1 hD1;go_upto_region 12 with(go_at_call 200;refine HP.o.mono ?_;rintro r w2 ⟨rfl,⟨sv,hm⟩,hB⟩;unfold rvV;have HM:=zH hm;have HB:=zH (HB1.o.trans hB);clear hm hB);obtain⟨D,hD⟩:=ex_ w2.heap.size;obtain⟨W2,hW2⟩:=ex_ (w2.alloc (.cells (aH a).toArray 298));have hDb:bZ≤D:=by rw[hD];exact HM.o.size
 have hm2:RM bZ W2 G f at_ (st) rg los pr sv lv prv (X++[az D hDb 298 (aH a)]):=by subst hD;rw[hW2];exact HM.o.add (aH a) 298
 have HB2:=zH (show Below bZ w W2 by rw[hW2];exact HB.o.trans ((af _ _).mono HM.o.size));have hg:w2.alloc (.cells #[.bool a.1,.int .i64 a.2.1,.string (bs a.2.2)] 298)=W2:=hW2.symm;rw[hg,←hD];clear hg hW2 hD HM HB;obtain⟨d0,d1,d2,ld⟩:=hm2.atB (D:=D) (hD:=hDb) (v:=a) (by simp);have HM2:=zH hm2;clear hm2;go_upto_region 13 with(go_at_call 233;refine(bj a HM2.o (by omega)).mono ?_;rintro r w3 ⟨rfl,⟨sv3,hm⟩,hB⟩;have HM3:=zH hm;have HB3:=zH (HB2.o.trans hB);clear hm hB);clear d0 d1 d2 ld;obtain⟨d0,d1,d2,ld⟩:=HM3.o.atB (D:=D) (hD:=hDb) (v:=a) (by simp);go_wp2_with (go_at_call 233;refine(bj a HM3.o (by simp;omega)).mono ?_;rintro r w4 ⟨rfl,⟨sv4,hm⟩,hB⟩;have HM4:=zH hm;have HB4:=zH (HB3.o.trans hB);clear hm hB);refine bodyPost_end (results_none rfl _ _ _) rfl ?_;exact⟨rfl,⟨_,HM4.o.drop⟩,HB4.o⟩
theorem qU (y:UInt8)(a b:RV)(h:RM bZ w G f at_ (b::a::st) rg los pr sv lv prv X)(hl:st.length≤900):Calls Tryz.prog 222 #[.pointer (some ⟨G,0,none⟩),.agg #[.int .u8 16,.int .u8 (y.toNat:Int)]] w fun e w'=>e=.returned (.tuple #[])∧(∃ sv',RM bZ w' G f at_ (a::b::st) rg los pr sv' lv prv X)∧Below bZ w w':=by
 obtain⟨W1,hW1⟩:=ex_ (w.alloc (.cells #[.int .u8 16,.int .u8 (y.toNat:Int)] 127));have hb1:=ba_ hW1;obtain⟨D1,hD1⟩:=ex_ w.heap.size;have hx:=bn_ hD1 hW1;obtain⟨x0,x1⟩:=cl2 hx;have HB1:=zH (hb1.mono h.size);have HP:=zH (aT b (h.below hb1) (by simp;omega));clear h hb1 hx;go_enter Tryz.func222,Tryz.ntmps222;go_upto_region 1 with fail;rw[←hW1,←hD1];clear hW1 hD1;go_upto_region 16 with(go_at_call 200;refine HP.o.mono ?_;rintro r w2 ⟨rfl,⟨sv,hm⟩,hB⟩;unfold rvV;have HM:=zH hm;have HB:=zH (HB1.o.trans hB);clear hm hB);obtain⟨D,hD⟩:=ex_ w2.heap.size;obtain⟨W2,hW2⟩:=ex_ (w2.alloc (.cells (aH b).toArray 298));have hDb:bZ≤D:=by rw[hD];exact HM.o.size
 have hm2:RM bZ W2 G f at_ (a::st) rg los pr sv lv prv (X++[az D hDb 298 (aH b)]):=by subst hD;rw[hW2];exact HM.o.add (aH b) 298
 have HB2:=zH (show Below bZ w W2 by rw[hW2];exact HB.o.trans ((af _ _).mono HM.o.size));have hg:w2.alloc (.cells #[.bool b.1,.int .i64 b.2.1,.string (bs b.2.2)] 298)=W2:=hW2.symm;rw[hg,←hD];clear hg hW2 hD HM HB;have HP2:=zH (aT a hm2 (by omega));clear hm2;go_upto_region 17 with(go_at_call 200;refine HP2.o.mono ?_;rintro r w3 ⟨rfl,⟨sv3,hm⟩,hB⟩;unfold rvV;have HM3:=zH hm;have HB3:=zH (HB2.o.trans hB);clear hm hB);obtain⟨D3,hD3⟩:=ex_ w3.heap.size;obtain⟨W3,hW3⟩:=ex_ (w3.alloc (.cells (aH a).toArray 298));have hD3b:bZ≤D3:=by rw[hD3];exact HM3.o.size
 have hm3:RM bZ W3 G f at_ st rg los pr sv3 lv prv ((X++[az D hDb 298 (aH b)])++[az D3 hD3b 298 (aH a)]):=by subst hD3;rw[hW3];exact HM3.o.add (aH a) 298
 have HB4:=zH (show Below bZ w W3 by rw[hW3];exact HB3.o.trans ((af _ _).mono HM3.o.size));have hg:w3.alloc (.cells #[.bool a.1,.int .i64 a.2.1,.string (bs a.2.2)] 298)=W3:=hW3.symm;rw[hg,←hD3];clear hg hW3 hD3 HM3 HB3;obtain⟨d0,d1,d2,ld⟩:=hm3.atB (D:=D) (hD:=hDb) (v:=b) (by simp);have HM3:=zH hm3;clear hm3;go_upto_region 18 with(go_at_call 233;refine(bj b HM3.o (by omega)).mono ?_;rintro r w5 ⟨rfl,⟨sv5,hm⟩,hB⟩;have HM5:=zH hm;have HB5:=zH (HB4.o.trans hB);clear hm hB);clear d0 d1 d2 ld;obtain⟨e0,e1,e2,le⟩:=HM5.o.atB (D:=D3) (hD:=hD3b) (v:=a) (by simp);go_wp2_with (go_at_call 233;refine(bj a HM5.o (by simp;omega)).mono ?_;rintro r w6 ⟨rfl,⟨sv6,hm⟩,hB⟩;have HM6:=zH hm;have HB6:=zH (HB5.o.trans hB);clear hm hB);refine bodyPost_end (results_none rfl _ _ _) rfl ?_;exact⟨rfl,⟨_,HM6.o.drop.drop⟩,HB6.o⟩
theorem tn (y:UInt8)(hy:y.toNat<8)(h:RM bZ w G f at_ st rg los pr sv lv prv X)(hl:st.length≤900):Calls Tryz.prog 222 #[.pointer (some ⟨G,0,none⟩),.agg #[.int .u8 17,.int .u8 (y.toNat:Int)]] w fun e w'=>e=.returned (.tuple #[])∧(∃ sv',RM bZ w' G f at_ (rg.getD y.toNat (false,0,[])::st) rg los pr sv' lv prv X)∧Below bZ w w':=by
 obtain⟨W1,hW1⟩:=ex_ (w.alloc (.cells #[.int .u8 17,.int .u8 (y.toNat:Int)] 127));have hb1:=ba_ hW1;obtain⟨D1,hD1⟩:=ex_ w.heap.size;have hx:=bn_ hD1 hW1;obtain⟨x0,x1⟩:=cl2 hx;have HB1:=zH (hb1.mono h.size);have H1:=zH (h.below hb1);obtain⟨q0,q1,q2⟩:=H1.o.reg hy;have hGl:G<W1.heap.size:=H1.o.blk.lt;have i0:(0:Int)≤(y.toNat:Int):=by omega
 have i1:(y.toNat:Int)<8:=by omega
 obtain⟨v,hv⟩:=ex_ (rg.getD y.toNat (false,0,[]));rw[←hv]at q0 q1 q2;have HV:=zH hv;clear h hb1 hx hv;go_enter Tryz.func222,Tryz.ntmps222;go_upto_region 1 with fail;rw[←hW1,←hD1];clear hW1 hD1;go_wp2_with fail;go_region_law (refine aL rfl 233 #[.pointer (some ⟨G,0,none⟩),rvV v] (by go_simp;rfl) (bj v (H1.o.below (b_drew W1)) (by omega)) ?_;rintro r w5 ⟨rfl,⟨sv5,hm⟩,hB⟩;have HM5:=zH hm;have HB5:=zH ((HB1.o.trans ((b_drew W1).mono H1.o.size)).trans hB);clear hm hB)
 all_goals
  (try simp only[Ec,DH,DN])
  (try go_frame)
  go_wp2_with fail;refine bodyPost_end (results_none rfl _ _ _) rfl ?_;rw[←HV.o];exact⟨rfl,⟨_,HM5.o⟩,HB5.o⟩
end
end
section
attribute [local irreducible] wpG
theorem uv {P:Program}{ops:Array Oper}{rest:List Oper}{op:Oper}{a:Act}{w:World}{Q:Exit→Act→World→Prop}(b:Nat)(cs cs':List Value){t:TypeId}(h:Blk w b t cs)(hgd:op.guard=none)(ty:TypeId)(x y:Operand)(ho:op.op=.store ty x y)(hx:a.eval x=.pointer (some ⟨b,0,none⟩))(hy:a.eval y=.agg cs'.toArray)(hi:(P.info? ty).map (·.size)=some cs'.length)(hl:cs.length=cs'.length)(h1:cs'.toArray.all (·.oneCell')=true)(k:∀ w',Hid (w.setRow b cs'.toArray=w')→wpList P ops Q rest (a.put op.dst undef) w'):wpList P ops Q (op::rest) a w :=
 fG b cs cs' h hgd ty x y ho hx hy hi hl h1 (k _ rfl)
def Bs:List Value→Nat→List Value→List Value
 | cs,_,[]=>cs
 | cs,o,v::r=>Bs (cs.set o v) (o+1) r
theorem Blk.setCells {b:Nat}{t:TypeId}:∀ (vs:List Value) (o:Nat) (w:World) (cs:List Value),Blk w b t cs→Blk (w.setCells b o vs) b t (Bs cs o vs)
 | [],_,_,_,h=>h
 | v::r,o,w,cs,h=>Blk.setCells r (o+1) (w.setCell ⟨b,o,none⟩ v) (cs.set o v) (h.set o v)
theorem Chg.setCells {b:Nat}:∀ (vs:List Value) (o:Nat) (w:World),Chg (fun k=>k=b) w (w.setCells b o vs)
 | [],_,_=>Chg.refl _ _
 | v::r,o,w=>by
  have h1:Chg (fun k=>k=b) w (w.setCell ⟨b,o,none⟩ v):=Chg.setCell w ⟨b,o,none⟩ v rfl;exact h1.trans (Chg.setCells r (o+1) _)
theorem vY {f:Rf}{at_:Int}{sv lv prv:Value}{rg rg':List RV}(h:rg.length=8)(h':rg'.length=8):Bs (bP f at_ sv rg lv prv) 7 (aN.cells rg')=bP f at_ sv rg' lv prv:=by
 obtain⟨a,b,c,d,e,g,i,j,rfl⟩:=fq h;obtain⟨a',b',c',d',e',g',i',j',rfl⟩:=fq h'
 kernel_rfl
theorem fK {rg:List RV}(h:rg.length=8):(aN.cells rg).length=24:=by rw[Rec.cells_length,h];rfl
theorem rb (rg:List RV):(aN.cells rg).toArray.all (·.oneCell')=true:=all_oneCell_toArray (aN.cells_one rg)
def sS:List Value:=[.bool false,.int .i64 0,.string ⟨#[]⟩,.bool false,.int .i64 0,.string ⟨#[]⟩,.bool false,.int .i64 0,.string ⟨#[]⟩,.bool false,.int .i64 0,.string ⟨#[]⟩,.bool false,.int .i64 0,.string ⟨#[]⟩,.bool false,.int .i64 0,.string ⟨#[]⟩,.bool false,.int .i64 0,.string ⟨#[]⟩,.bool false,.int .i64 0,.string ⟨#[]⟩]
theorem jh {rg:List RV}(h:rg.length=8):(Tryz.prog.info? 299).map (·.size)=some (aN.cells rg).length:=by rw[fK h];kernel_rfl
theorem ym {rg:List RV}{i:Nat}(hi:i<rg.length)(v:RV):(((aN.cells rg).set (i*3) (.bool v.1)).set (i*3+1) (.int .i64 v.2.1)).set (i*3+2) (.string (bs v.2.2))=aN.cells (rg.set i v):=by
 induction rg generalizing i with
 | nil=>simp at hi
 | cons x rg ih =>
  cases i with
  | zero=>rfl
  | succ i =>
   have e0:(i+1)*3=i*3+3:=by omega
   have:=ih (i:=i) (by simpa using hi);rw[e0];show(((_::_::_::aN.cells rg).set (i*3+3) _).set (i*3+3+1) _).set (i*3+3+2) _=_::_::_::aN.cells (rg.set i v);rw[←this]
   rfl
theorem mv3 {w:World}{T:Nat}{t:TypeId}{rg:List RV}(hb:Blk w T t (aN.cells rg))(i:Nat)(v:RV)(hi:i<rg.length):Blk (((w.setCell ⟨T,i*3,none⟩ (.bool v.1)).setCell ⟨T,i*3+1,none⟩ (.int .i64 v.2.1)).setCell ⟨T,i*3+2,none⟩ (.string (bs v.2.2))) T t (aN.cells (rg.set i v)) ∧Chg (fun k=>k=T) w (((w.setCell ⟨T,i*3,none⟩ (.bool v.1)).setCell ⟨T,i*3+1,none⟩ (.int .i64 v.2.1)).setCell ⟨T,i*3+2,none⟩ (.string (bs v.2.2))):=by
 refine⟨?_,Chg.trans (Chg.trans (Chg.setCell w ⟨T,i*3,none⟩ _ rfl) (Chg.setCell _ ⟨T,i*3+1,none⟩ _ rfl)) (Chg.setCell _ ⟨T,i*3+2,none⟩ _ rfl)⟩;have:=((hb.set (i*3) (.bool v.1)).set (i*3+1) (.int .i64 v.2.1)).set (i*3+2) (.string (bs v.2.2));rw[ym hi v]at this;exact this
section
variable {bZ G:Nat}{w w' w3:World}{f:Rf}{at_:Int}{st rg rg':List RV}{los:List Lo}{pr:List (LU_×LU_)}{tv cv iv ev ow sv sv' lv lv' prv prv':Value}{X:List (Pt bZ)}
theorem RM.regRange (h:RM bZ w G f at_ st rg los pr sv lv prv X):w.rangeAt G 7 (aN.cells rg):=by
 intro j v hv;refine h.blk.cell (k:=7+j) ?_;unfold bP;rw[List.getElem?_append_right (by simp)];rw[List.getElem?_append_left (by have:=(List.getElem?_eq_some_iff.1 hv).1;simp;omega)];rw[←hv];congr 1;simp
theorem RM.regThere (h:RM bZ w G f at_ st rg los pr sv lv prv X)(n:Nat)(hn:n≤24):w.there G 7 n:=by
 intro j hj;have hr:=h.regRange;have hl:=fK h.rl;refine⟨?_,h.free (by omega)⟩;rw[hr j _ (List.getElem?_eq_getElem (by omega))]
 rfl
theorem RM.newR (h:RM bZ w G f at_ st rg los pr sv lv prv X)(h8:rg'.length=8):RM bZ (w.setCells G 7 (aN.cells rg')) G f at_ st rg' los pr sv lv prv X∧Below bZ w (w.setCells G 7 (aN.cells rg')):=by
 have hs:=Chg.setCells (b:=G) (aN.cells rg') 7 w;have hb:=Blk.setCells (aN.cells rg') 7 w _ h.blk;rw[vY h.rl h8]at hb;have s2:=h.sep.upd (i:=0) rfl hs (fun k hk=>hk) (az G h.gb 302 (bP f at_ sv rg' lv prv)) hb (fun k hk=>.inl hk);exact⟨⟨h.gb,h8,s2⟩,h.sep.updB (i:=0) rfl hs (fun k hk=>hk) h.size⟩
theorem tg (y:UInt8)(hy:y.toNat<8)(a:RV)(h:RM bZ w G f at_ (a::st) rg los pr sv lv prv X)(hl:st.length≤900):Calls Tryz.prog 222 #[.pointer (some ⟨G,0,none⟩),.agg #[.int .u8 18,.int .u8 (y.toNat:Int)]] w fun e w'=>e=.returned (.tuple #[])∧(∃ sv',RM bZ w' G f at_ st (rg.set y.toNat a) los pr sv' lv prv X)∧Below bZ w w':=by
 obtain⟨W1,hW1⟩:=ex_ (w.alloc (.cells #[.int .u8 18,.int .u8 (y.toNat:Int)] 127));have hb1:=ba_ hW1;obtain⟨D1,hD1⟩:=ex_ w.heap.size;have hx:=bn_ hD1 hW1;have hD1b:bZ≤D1:=by rw[hD1];exact h.size
 have x0:=hx.cell (k:=0) rfl;have HB1:=zH (hb1.mono h.size);have hm1:RM bZ W1 G f at_ (a::st) rg los pr sv lv prv (X++[az D1 hD1b 127 [.int .u8 18,.int .u8 (y.toNat:Int)]]):=by subst hD1;rw[hW1];exact h.add _ _
 have HRL:=zH h.rl;have HM1:=zH hm1;obtain⟨T,hT⟩:=ex_ W1.heap.size;have hTb:bZ≤T:=by rw[hT];exact hm1.size
 obtain⟨W2,hW2⟩:=ex_ (W1.alloc (.cells sS.toArray 299));have hz:Blk W2 T 299 sS:=by rw[hT,hW2];exact Blk.new W1 _ _
 have hm2:RM bZ W2 G f at_ (a::st) rg los pr sv lv prv ((X++[az D1 hD1b 127 [.int .u8 18,.int .u8 (y.toNat:Int)]])++[az T hTb 299 sS]):=by subst hT;rw[hW2];exact hm1.add sS _
 have hB2:Below bZ W1 W2:=by rw[hW2];exact(af _ _).mono hm1.size
 have HZ:=zH hz;have HM2:=zH hm2;have HB2:=zH hB2;have HT:=zH hT;have HW2:=zH hW2;clear h hb1 hx hm1 hz hm2 hB2 hT hW2;go_enter Tryz.func222,Tryz.ntmps222;go_upto_region 1 with fail;rw[←hW1,←hD1];clear hW1 hD1;go_upto_region 23 with(first|(refine wpList_load_mid rfl _ _ rfl G 7 rfl (aN.cells rg) (.array 8 298) HM1.o.regRange Tryz.underlying299 rfl (jh HRL.o) ?_)|(refine uv W1.heap.size sS (aN.cells rg) (by have h:=HZ.o;rw[HW2.o,HT.o]at h;exact h) rfl _ _ _ rfl rfl rfl (jh HRL.o) (fK HRL.o).symm (rb rg) ?_;intro W3 HW3))
 have hrow:Blk W3 T 299 (aN.cells rg):=by
  have h1:=HZ.o.row (aN.cells rg);rw[HW2.o,HT.o]at h1;rw[HT.o,←HW3.o];exact h1
 have hc3:Chg (fun k=>k=T) W2 W3:=by
  have h1:=nN (X:=fun k=>k=T) W2 T (aN.cells rg).toArray rfl;rw[HT.o]at h1⊢;rw[HW2.o]at h1⊢;rw[←HW3.o];exact h1
 obtain⟨hm3,hb3⟩:=HM2.o.updX (i:=X.length+1) (p:=az T hTb 299 sS) (by simp) hc3 (fun k hk=>hk) (az T hTb 299 (aN.cells rg)) hrow (fun k hk=>hk)
 have hset:((X++[az D1 hD1b 127 [.int .u8 18,.int .u8 (y.toNat:Int)]])++[az T hTb 299 sS]).set (X.length+1) (az T hTb 299 (aN.cells rg))=(X++[az D1 hD1b 127 [.int .u8 18,.int .u8 (y.toNat:Int)]])++[az T hTb 299 (aN.cells rg)]:=by
  rw[List.set_append_right _ _ (by simp)];simp
 rw[hset]at hm3;have HB3:=zH ((HB1.o.trans HB2.o).trans hb3);have hD:Blk W3 D1 127 [.int .u8 18,.int .u8 (y.toNat:Int)]:=hm3.loc (p:=az D1 hD1b 127 [.int .u8 18,.int .u8 (y.toNat:Int)]) (by simp);have x1:=hD.cell (k:=1) rfl;have HM3:=zH hm3;have HP:=zH (aT a (hm3.below (b_drew W3)) (by omega));rw[←HT.o];clear hrow hc3 hb3 hset hD hm3 HW3 HW2 HT HZ HM2 HB2 x0;have i0:(0:Int)≤(y.toNat:Int):=by omega
 have i1:(y.toNat:Int)<8:=by omega
 have hyl:y.toNat<rg.length:=by rw[HRL.o];exact hy
 obtain⟨i,hi⟩:=ex_ y.toNat;have HI:=zH hi;rw[←hi]at x1 i0 i1 hyl;have HYL:=zH hyl;clear hi hyl
 (try go_frame)
 go_region_law (refine aL rfl 200 #[.pointer (some ⟨G,0,none⟩)] (by go_simp) HP.o ?_;rintro r w4 ⟨rfl,⟨sv4,hm⟩,hB⟩;unfold rvV;have hD4:Blk w4 D1 127 [.int .u8 18,.int .u8 (y.toNat:Int)]:=hm.loc (p:=az D1 hD1b 127 [.int .u8 18,.int .u8 (y.toNat:Int)]) (by simp);have x1':w4.cell? ⟨D1,1,none⟩=some (.int .u8 (i:Int)):=(by rw[HI.o];exact hD4.cell (k:=1) rfl);clear hD4;have hb:Blk w4 T 299 (aN.cells rg):=hm.loc (p:=az T hTb 299 (aN.cells rg)) (by simp);have y0:∃ u,w4.cell? ⟨T,i*3,none⟩=some u:=⟨_,hb.cell (aN.cells_at rg i HYL.o 0 _ rfl)⟩;obtain⟨u0,y0⟩:=y0;have y1:∃ u,w4.cell? ⟨T,i*3+1,none⟩=some u:=⟨_,hb.cell (aN.cells_at rg i HYL.o 1 _ rfl)⟩;obtain⟨u1,y1⟩:=y1;have y2:∃ u,w4.cell? ⟨T,i*3+2,none⟩=some u:=⟨_,hb.cell (aN.cells_at rg i HYL.o 2 _ rfl)⟩;obtain⟨u2,y2⟩:=y2;have k0:=hb.free (k:=i*3) (by rw[fK HRL.o];have:=HYL.o;have:=HRL.o;omega);have k1:=hb.free (k:=i*3+1) (by rw[fK HRL.o];have:=HYL.o;have:=HRL.o;omega);have k2:=hb.free (k:=i*3+2) (by rw[fK HRL.o];have:=HYL.o;have:=HRL.o;omega);have HM4:=zH hm;have HB4:=zH ((HB3.o.trans ((b_drew W3).mono HM3.o.size)).trans hB);have HBK:=zH hb;clear hm hB hb)
 all_goals
  (try simp only[Ec,DH,DN])
  (try go_frame)
  have HQ:=mv3 HBK.o i a HYL.o;obtain⟨W5,hW5⟩:=ex_ (((w4.setCell ⟨T,i*3,none⟩ (.bool a.1)).setCell ⟨T,i*3+1,none⟩ (.int .i64 a.2.1)).setCell ⟨T,i*3+2,none⟩ (.string (bs a.2.2)));rw[←hW5]at HQ⊢;obtain⟨hq1,hq2⟩:=HQ;obtain⟨hm5,hb5⟩:=HM4.o.updX (i:=X.length+1) (p:=az T hTb 299 (aN.cells rg)) (by simp) hq2 (fun k hk=>hk) (az T hTb 299 (aN.cells (rg.set i a))) hq1 (fun k hk=>hk)
  have hset:((X++[az D1 hD1b 127 [.int .u8 18,.int .u8 (y.toNat:Int)]])++[az T hTb 299 (aN.cells rg)]).set (X.length+1) (az T hTb 299 (aN.cells (rg.set i a)))=(X++[az D1 hD1b 127 [.int .u8 18,.int .u8 (y.toNat:Int)]])++[az T hTb 299 (aN.cells (rg.set i a))]:=by
   rw[List.set_append_right _ _ (by simp)];simp
  rw[hset]at hm5;have hrl:(rg.set i a).length=8:=by rw[DT];exact HRL.o
  have HM5:=zH hm5;have HQ1:=zH hq1;have HB5:=zH (HB4.o.trans hb5);have HRL5:=zH hrl;have HTH:=zH (hm5.regThere (aN.cells (rg.set i a)).length (by rw[fK hrl];exact DC _));clear hm5 hq1 hb5 hrl hset hq2 hW5 y0 y1 y2 k0 k1 k2 x1';go_wp2_with (first|(refine kO T (aN.cells (rg.set i a)) HQ1.o (.array 8 298) rfl _ _ rfl rfl Tryz.underlying299 rfl (jh HRL5.o) ?_)|(refine wpList_store_mid rfl _ _ _ rfl G 7 (aN.cells (rg.set i a)).toArray rfl rfl (by simpa using HTH.o) (by simpa using jh HRL5.o) (rb _) ?_));obtain⟨hm6,hb6⟩:=HM5.o.newR HRL5.o;refine bodyPost_end (results_none rfl _ _ _) rfl ?_;rw[←HI.o];exact⟨rfl,⟨_,hm6.drop.drop⟩,HB5.o.trans hb6⟩
end
end
section
attribute [local irreducible] wpG
abbrev StR:=Int→List RV→List RV→List Lo→List (LU_×LU_)→Prop
section
variable {bZ G:Nat}{w w':World}{f:Rf}{X:List (Pt bZ)}
def RS (bZ:Nat)(w:World)(G:Nat)(f:Rf)(X:List (Pt bZ))(φ:StR):Prop:=∃ at_ st rg los pr sv lv prv,RM bZ w G f at_ st rg los pr sv lv prv X∧φ at_ st rg los pr
def eqS (a:Int)(s r:List RV)(l:List Lo)(p:List (LU_×LU_)):StR:=fun a' s' r' l' p'=>a'=a∧s'=s∧r'=r∧l'=l∧p'=p
theorem RS.below {φ:StR}(h:RS bZ w G f X φ)(hB:Below w.heap.size w w'):RS bZ w' G f X φ:=by
 obtain⟨a,s,r,l,p,sv,lv,prv,h1,h2⟩:=h;exact⟨a,s,r,l,p,sv,lv,prv,h1.below hB,h2⟩
theorem RS.size {φ:StR}(h:RS bZ w G f X φ):bZ≤w.heap.size:=by
 obtain⟨a,s,r,l,p,sv,lv,prv,h1,-⟩:=h;exact h1.size
theorem RS.blk {φ:StR}{D:Nat}{hD:bZ≤D}{t:TypeId}{cs:List Value}(h:RS bZ w G f X φ)(hm:az D hD t cs∈X):Blk w D t cs:=by
 obtain⟨a,s,r,l,p,sv,lv,prv,h1,-⟩:=h;exact h1.loc (p:=az D hD t cs) hm
def xL (bZ G:Nat)(f:Rf)(F:FuncId)(n:Nat)(y:UInt8)(w0:World)(φ ψ:StR):Prop :=
 ∀ (w1:World) (X:List (Pt bZ)),Below bZ w0 w1→RS bZ w1 G f X φ→Calls Tryz.prog F #[.pointer (some ⟨G,0,none⟩),.agg #[.int .u8 (n:Int),.int .u8 (y.toNat:Int)]] w1 fun r w'=>r=.returned (.tuple #[])∧RS bZ w' G f X ψ∧Below bZ w1 w'
theorem wH (pc n:Nat)(y:UInt8)(c:Nat){tv iv ev ow cv:Value}{code:List VI}{st rg:List RV}{los:List Lo}{pr:List (LU_×LU_)}{sv lv prv:Value}{φ1 φ2 φ3 φ4:StR}(hm:RM bZ w G ⟨tv,cv,iv,ev,ow⟩ (pc:Int) st rg los pr sv lv prv X)(hcv:bp.Row w cv code)(hpc:pc<code.length)(hcl:code.length≤1000)(hn:n=code[pc].1.toNat)(hy:y=code[pc].2)(HA:xL bZ G ⟨tv,cv,iv,ev,ow⟩ 222 n y w (eqS (pc:Int) st rg los pr) φ1)(HN:xL bZ G ⟨tv,cv,iv,ev,ow⟩ 223 n y w φ1 φ2)(HT:∀ (w1:World) (X:List (Pt bZ)),Below bZ w w1→RS bZ w1 G ⟨tv,cv,iv,ev,ow⟩ X φ2→Calls Tryz.prog 224 #[.pointer (some ⟨G,0,none⟩),.agg #[.int .u8 (n:Int),.int .u8 (y.toNat:Int)]] w1 fun r w'=>r=.returned (.int .i64 (c:Int))∧(c=0→RS bZ w' G ⟨tv,cv,iv,ev,ow⟩ X φ3)∧Below bZ w1 w')(HBk:c=0→xL bZ G ⟨tv,cv,iv,ev,ow⟩ 225 n y w φ3 φ4)(hφ:∀ a s r l p,φ4 a s r l p→-1≤a∧a≤1000):Calls Tryz.prog 199 #[.pointer (some ⟨G,0,none⟩)] w fun r w'=>r=.returned (.int .i64 (c:Int))∧(c=0→RS bZ w' G ⟨tv,cv,iv,ev,ow⟩ X (fun a s r l p=>φ4 (a-1) s r l p))∧Below bZ w w':=by
 obtain⟨ac,nc,rfl,-,hcc⟩:=ag hcv;obtain⟨b,off,rfl,d0,d1⟩:=hcc pc hpc;rw[←hn]at d0;rw[←hy]at d1;have c1:w.cell? ⟨G,1,none⟩=some (.slice (some ⟨b,off,none⟩) code.length nc):=hm.cell (k:=1) rfl;have c5:w.cell? ⟨G,5,none⟩=some (.int .i64 (pc:Int)):=hm.cell (k:=5) rfl;have i0:=nn_ pc;have i1:(pc:Int)<(code.length:Int):=by omega
 have i2:(code.length:Int)≤1000:=by omega
 have hGl:G<w.heap.size:=hm.blk.lt;have hbl:b<w.heap.size:=aD d0;have HM:=zH hm;have HA:=zH HA;have HN:=zH HN;have HT:=zH HT;have HK:=zH HBk;have HF:=zH hφ;clear hm hcv hcc hn hy HBk hφ;go_enter Tryz.func199,Tryz.ntmps199;go_wp2_with fail;go_region;obtain⟨T,hT⟩:=ex_ w.heap.size;have hTb:bZ≤T:=by rw[hT];exact HM.o.size
 obtain⟨W1,hW1⟩:=ex_ ((w.alloc (.cells #[.int .u8 (n:Int),.int .u8 (y.toNat:Int)] 127)).drew);have hb1:Below w.heap.size w W1:=by rw[hW1];exact bt (af _ _) (b_drew _)
 have hm1:RS bZ W1 G ⟨tv,.slice (some ⟨b,off,none⟩) code.length nc,iv,ev,ow⟩ (X++[az T hTb 127 [.int .u8 (n:Int),.int .u8 (y.toNat:Int)]]) (eqS (pc:Int) st rg los pr):=by
  subst hT;rw[hW1];exact⟨_,_,_,_,_,_,_,_,(HM.o.add [.int .u8 (n:Int),.int .u8 (y.toNat:Int)] 127).below (b_drew _),rfl,rfl,rfl,rfl,rfl⟩
 have HB1:=zH (hb1.mono HM.o.size);rw[←hW1,←hT];have hx:=hm1.blk (D:=T) (hD:=hTb) (t:=127) (cs:=[.int .u8 (n:Int),.int .u8 (y.toNat:Int)]) (by simp);obtain⟨x0,x1⟩:=cl2 hx;have HM1:=zH hm1;clear hW1 hT hb1 hm1 hx d0 d1 c1 c5 hGl hbl;go_upto_region 3 with(go_at_call 222;refine(HA.o _ _ HB1.o HM1.o).mono ?_;rintro r w2 ⟨rfl,hm,hB⟩;have HM2:=zH hm;have HB2:=zH (HB1.o.trans hB);clear hm hB);clear x0 x1;have hx:=HM2.o.blk (D:=T) (hD:=hTb) (t:=127) (cs:=[.int .u8 (n:Int),.int .u8 (y.toNat:Int)]) (by simp);obtain⟨x0,x1⟩:=cl2 hx;clear hx;go_upto_region 4 with(go_at_call 223;refine(HN.o _ _ HB2.o HM2.o).mono ?_;rintro r w3 ⟨rfl,hm,hB⟩;have HM3:=zH hm;have HB3:=zH (HB2.o.trans hB);clear hm hB);clear x0 x1;have hx:=HM3.o.blk (D:=T) (hD:=hTb) (t:=127) (cs:=[.int .u8 (n:Int),.int .u8 (y.toNat:Int)]) (by simp);obtain⟨x0,x1⟩:=cl2 hx;clear hx
 by_cases hc:c=0
 ·have t1:((c:Int)==0)=true:=by rw[hc];rfl
  have HK2:=zH (HK.o hc);have HC:=zH hc;clear hc;go_upto_region 6 with(go_at_call 224;refine(HT.o _ _ HB3.o HM3.o).mono ?_;rintro r w4 ⟨rfl,hm,hB⟩;have HM4:=zH (hm HC.o);have HB4:=zH (HB3.o.trans hB);clear hm hB);clear x0 x1;have hx:=HM4.o.blk (D:=T) (hD:=hTb) (t:=127) (cs:=[.int .u8 (n:Int),.int .u8 (y.toNat:Int)]) (by simp);obtain⟨x0,x1⟩:=cl2 hx;clear hx;go_upto_region 7 with(go_at_call 225;refine(HK2.o _ _ HB4.o HM4.o).mono ?_;rintro r w5 ⟨rfl,hm,hB⟩;have HM5:=zH hm;have HB5:=zH (HB4.o.trans hB);clear hm hB);clear x0 x1;obtain⟨a,s,r,l,p,sv5,lv5,pv5,hm5,hf5⟩:=HM5.o;have c5:=hm5.cell (k:=5) rfl;have f5:=hm5.free (k:=5) (by decide);obtain⟨a0,a1⟩:=HF.o _ _ _ _ _ hf5;have HR5:=zH hm5;have HF5:=zH hf5;clear hm5 hf5;go_wp2_with fail;go_ret;obtain⟨m6,b6⟩:=HR5.o.setAt (a+1);refine⟨rfl,fun _=>⟨_,s,r,l,p,sv5,lv5,pv5,RM.drop (X:=X) m6,?_⟩,HB5.o.trans b6⟩;show φ4 (a+1-1) s r l p;rw[show a+1-1=a by omega];exact HF5.o
 ·have t1:((c:Int)==0)=false:=by rw[beq_eq_false_iff_ne];omega
  have HC:=zH hc;clear hc;go_wp2_with (go_at_call 224;refine(HT.o _ _ HB3.o HM3.o).mono ?_;rintro r w4 ⟨rfl,-,hB⟩;have HB4:=zH (HB3.o.trans hB);clear hB);go_ret;exact⟨rfl,fun h=>absurd h HC.o,HB4.o⟩
end
end
