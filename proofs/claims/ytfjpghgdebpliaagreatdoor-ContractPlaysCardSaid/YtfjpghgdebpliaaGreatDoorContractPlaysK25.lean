/- Lemmas. -/
import Derived.Test.YtfjpghgdebpliaaGreatDoorContractPlaysK24
set_option linter.unusedSimpArgs false
set_option linter.unusedVariables false
set_option maxRecDepth 100000
set_option maxHeartbeats 16000000
namespace Go.Proofs.YtfjpghgdebpliaaGreatDoor
attribute [local irreducible] wpG
open Go.Proofs.Tryz
open Go.RowKit Oct
theorem ry {aM:Array Oper}{o:Oper}{a:Act}{K:Act→Z→Prop}{Q:Exit→Act→Z→Prop}{E:Prop}(w:Z)(av:o.guard=none)(s x:Operand)(t:T_)(ho:o.op=.call { callee:=.builtin .append,args:=#[s,x],argTypes:=#[t,t] })(ht:prog.underlying t=some (.slice 64))(hs:a.eval s=e_)(y:V_)(D:LP_)(hx:a.eval x=y)(hr:RP w y D)(d:D.length*32≤140737488355328)(h:∀ A C w',RP w' (.slice A D.length C) D→Bw_ w w'→K (a.put o.dst (.slice A D.length C)) w'):if Region.wanted o (yielded aM a.tmps)=true then Oper.wp prog o a w K Q else E:=by
 have hw:Region.wanted o (yielded aM a.tmps)=true:=by simp[Region.wanted,av]
 rw[if_pos hw];obtain⟨i,hi,hz,ao,aG⟩:=info_parts js;have aa:=hr;obtain⟨⟨ax,ah,rfl,q,hc⟩,_⟩:=hr
 cases ax with
 | none =>
  obtain⟨h0,rfl⟩:=q rfl;have aO:=run_append_owned_none (P:=prog) (w:=w) w.heap.size t o.type 64 i 2 ht hi (e_) 0 [] (OP.nil w _);rw[h0]at hx aa;unfold Oper.wp execOp;simp only[ho,resolve,invoke,builtin,Sem.run_bind,Sem.run_pure,Result.andThen_ok,List.map_toArray,List.map_cons,List.map_nil,hs,hx,aO];have:=h none 0 w (by rw[h0];exact aa) (Ja _ _);rw[h0]at this;exact this
 | some ad =>
  refine wp_append_own w s x t ho w.heap.size 64 i (.agg #[.string ByteArray.empty,.string ByteArray.empty]) 2 32 ht hi hz ao aG rfl d_ (e_) 0 [] hs (OP.nil w _) ad D.length ah (bI D) hx (gr D) ?_ (qm D) yzb Y (I6 _) ?_
  ·exact L9
  ·intro v' w' h2 h3 _
   have h4:OP w' w.heap.size v' D:=by unfold OP;simpa using h2
   obtain⟨A,C,rfl⟩:=ay h4;exact h A C w' (OP.reads h4) ((Ja w.heap.size w).grown h3 (I6 _) (by intro k hk;cases hk))
theorem L2 {T:Prop} (h:T:=by
 go_wp2_with (first|(go_at_call 6;refine(cJ.o _ aW.o).mono ?_;rintro e w4⟨rfl,aQ⟩;have ba:=O (bt a_.o (bt aW.o aQ));clear aQ)|(go_at_call 5;refine(ae.o w2 a9.o).mono ?_;rintro e w3⟨rfl,al⟩;have aW:=O (bt a9.o (bt (af _ _) al));clear al)|(go_at_call 4;refine(cV.o _ (Ja _ _)).mono ?_;rintro e w2⟨⟨b,rfl,bb⟩,ax⟩;have a9:=O ax;have br:=O bb;clear ax bb;clear x0 x1 x2 x3 x4 x5 x6 x7;rcases b with _|_;rotate_left;focus (go_wp2_with (go_at_call 6;refine(cJ.o _ a9.o).mono ?_;rintro e w4⟨rfl,aQ⟩;have ba:=O (bt a_.o (bt a9.o aQ));clear aQ);go_ret;exact⟨rfl,ba.o⟩)));go_ret;exact⟨rfl,ba.o⟩
):T:=h
theorem L3 {T:Prop} (h:T:=by
 go_wp2_with (go_at_call 15;refine mB_ (bN.o dv cl.o) cl fun dJ R=>?_;clear x0 x1 x2 x3 x4 x5 x6 x7)
 go_meet
 case rel=>exact⟨by rw[cZ.o];simp[dw.o,cu.o],R⟩
):T:=h
theorem L4 {T:Prop} (h:T:=by
 go_roundw
 case rel=>exact⟨i+1,c,M,I,aw.o,rfl,by go_num,ac⟩
 case measure=>have:=aw.o;have:=b';simp[intOf];omega
):T:=h
theorem nC (t1 c1 t2 c2 t3 c3:V_)(j:Jb)(v:V_)(l:List Stp)(v2:V_)(rw:LP_)(id:q)(w:Z)(hj:rM w t1 c1 t2 c2 t3 c3 j)(hv:SpR w v l)(hl:l.length≤140737488355328)(hm:∀ s∈l,StB s)(ci:RP w v2 rw)(aY:GR rw)(hid:id.length≤140737488355328)(hE:lL w)(hg:0<w.heap.size)(hG:dS w)(aT:dp w):R_ 3 #[bM t1 c1 t2 c2 t3 c3 j,v,v2,s_ id] w (.bool true):=by
 obtain⟨J,hJ⟩:=H w.heap.size;obtain⟨W1,aA⟩:=H (w.alloc (.cells #[t1,c1,t2,c2,t3,c3,F j.parts,F j.fuel] 27));have a8:=ba_ aA;have hx:=bn_ hJ aA;have bp:W1.heap.size=J+1:=by rw[aA,hJ];simp
 have bS:=hj.below a8;have aH:=hv.below a8;have bF:=ci.below a8;have dh:=hE.below a8 hg;have b9:=Jr hg a8.size;have cF:=hG.below a8;have cM:=aT.below a8;have cV:=O (fun w' (hB:Bw_ W1 w')=>xu t1 c1 t2 c2 t3 c3 j v l w' (bS.below hB) (aH.below hB) hl hm);have cJ:=O (fun w' (hB:Bw_ W1 w')=>xl w' (dh.below hB b9) (Jr b9 hB.size) (cF.below hB) (cM.below hB));have ae:=O (fun w' (hB:Bw_ W1 w')=>rt _ [rw] _ (RR.oneI (bF.below hB)) i_ (by intro r hr;rw[Jp.1 hr];exact aY));have cg:=O (fun (h:uz j l)=>(show dD W1 t1 c1 t2 c2 t3 c3 j∧dp W1 from⟨bS.job h.large dh b9 cF,cM⟩));obtain⟨dK,ah,bL,a_,b0,cZ⟩:=zH6 aH bF hx a8 bp hm;obtain⟨av,cv,rfl,bj,bB⟩:=hv;have cr:=O bB;obtain⟨dL,dC,rfl,-,-⟩:=ci.open;have h:=hj;obtain⟨ta,tc,ca,cc,aV,bd,be,bf,bg,bh,bi,bk,rfl,rfl,rfl,rfl,rfl,rfl⟩:=jo_ h.a.t h.a.c h.b.t h.b.c h.c.t h.c.c;unfold bM at cV⊢;clear h hj bS aH bF dh b9 cF cM hx a8 bp hm aY hE hg hG aT bB ci;go_enter func3,ntmps3;go_upto_region 1 with fail;rw[←aA,←hJ];clear aA hJ;have f:=bL.o;obtain⟨x0,x1,x2,x3,x4,x5,x6,x7⟩:=cl8 f;clear f;obtain⟨LG,di⟩:∃ b,b=fL [rw]:=⟨_,rfl⟩
 rw[←di]at ae;have cx:=O di;clear di
 by_cases cO:id.length≤100
 ·have i1:¬100<(id.length:Int):=Y
  have db:=O cO;clear cO
  cases LG with
  | true =>
   exact L2
  | false =>
   go_upto_region 4 with(first|(go_at_call 5;refine(ae.o w2 a9.o).mono ?_;rintro e w3⟨rfl,al⟩;have aW:=O (bt a9.o (bt (af _ _) al));clear al)|(go_at_call 4;refine(cV.o _ (Ja _ _)).mono ?_;rintro e w2⟨⟨b,rfl,bb⟩,ax⟩;have a9:=O ax;have br:=O bb;clear ax bb;clear x0 x1 x2 x3 x4 x5 x6 x7;rcases b with _|_;rotate_left;focus (go_wp2_with (go_at_call 6;refine(cJ.o _ a9.o).mono ?_;rintro e w4⟨rfl,aQ⟩;have ba:=O (bt a_.o (bt a9.o aQ));clear aQ);go_ret;exact⟨rfl,ba.o⟩)));have HV:=O (br.o trivial);clear br ae cV i1;have bP:=O (cg.o HV.o);have dc:=fx [rw] cx.o.symm;have bR:=dc.2 rw i_;have Q:=O (uL bR.1 bR.2);have ag:=O (show rw.length≤1000000 by have:=bR.1;omega);clear dc bR
   go_upto_region 7 with(first
    | (go_at_call 7;refine mB_ (Ce [97] w3) aW fun w4 ba=>?_)
    | (go_at_call 8;refine mB_ (Ca [97] w4) ba fun w5 aJ=>?_)
    | (go_at_call 9;refine mB_ (zn [97] w5) aJ fun w6 bn=>?_)
    | (go_at_call 10;refine mB_ (zm w6) bn fun w7 aK=>?_)
    | (go_at_call 11;refine mB_ (zo w7) aK fun w8 aU=>?_))
   have c9:=O (fun w' (hB:Bw_ W1 w')=>np _ _ _ _ _ _ j id w' (bP.o.1.below hB) Y);have bZ:=O (fun w' (hB:Bw_ W1 w')=>sZ _ _ _ _ _ _ _ j rw w' (bP.o.1.below hB) (ah.o.below hB) Q.o ag.o);have cY:=O (fun w' (hB:Bw_ W1 w')=>sh _ _ _ _ _ _ _ j rw w' (bP.o.1.below hB) (ah.o.below hB) Q.o ag.o);have bN:=O (fun w' (hB:Bw_ W1 w')=>jM _ _ _ _ _ _ j w' (bP.o.1.below hB));have cH:=O (fun w' (hB:Bw_ W1 w') (V:bK j=true) (cG:id.length=32)=>Dz _ _ _ _ _ _ j id w' (bP.o.1.below hB) V Y);have aC:=O (show(rF j id)=if bK j=true∧id.length=32 then (cN j id,0) else ([],2) from rfl);obtain⟨L,hL⟩:=H (dT j rw);obtain⟨K,hK⟩:=H (rF j id);rw[←hL]at bZ cY;rw[←hK]at c9 aC;clear hL hK;have f:=bL.o.below aU.o;obtain⟨x0,x1,x2,x3,x4,x5,x6,x7⟩:=cl8 f;clear f;unfold bM at bZ cY c9 bN cH
   go_upto_region 10 with(first
    | (go_at_call 12;refine mB_ (bZ.o w8 aU.o) aU fun w9 bG=>?_;clear x0 x1 x2 x3 x4 x5 x6 x7;have f:=bL.o.below bG.o;obtain⟨x0,x1,x2,x3,x4,x5,x6,x7⟩:=cl8 f;clear f)
    | (go_at_call 13;refine mB_ (cY.o w9 bG.o) bG fun cy cm=>?_;clear x0 x1 x2 x3 x4 x5 x6 x7;have f:=bL.o.below cm.o;obtain⟨x0,x1,x2,x3,x4,x5,x6,x7⟩:=cl8 f;clear f)
    | (go_at_call 14;refine mB_ (c9.o cy cm.o) cm fun dv cl=>?_;clear x0 x1 x2 x3 x4 x5 x6 x7;have f:=bL.o.below cl.o;obtain⟨x0,x1,x2,x3,x4,x5,x6,x7⟩:=cl8 f;clear f))
   clear bZ cY c9
   have cA:=O (show(bK j&&decide (id.length=32))=true→K=(cN j id,0)∧bK j=true∧id.length=32 by
    intro ap;simp only[Jj,decide_eq_true_eq]at ap;exact⟨(aC.o).trans (if_pos ap),ap⟩)
   have cB:=O (show(bK j&&decide (id.length=32))=false→K=([],2) by
    intro ap;refine(aC.o).trans (if_neg ?_);rintro⟨q1,q2⟩;rw[q1,q2]at ap;exact absurd ap d_)
   obtain⟨MB,dj⟩:∃ b,b=(bK j&&decide (id.length=32)):=⟨_,rfl⟩
   rw[←dj]at cA cB;have cZ:=O dj;clear dj aC
   go_cut [18] (fun s wx=>s=.bool MB∧Hid (Bw_ W1 wx))
   case first =>
    as_aux_lemma =>
     clear cA cB cH;obtain⟨MY,dk⟩:∃ b,bK j=b:=⟨_,rfl⟩
     rw[dk]at bN;have dw:=O dk;clear dk
     by_cases ar:id.length=32
     ·have i2:(id.length:Int)=32:=Y
      have cu:=O ar;clear ar
      cases MY with
      | true =>
       exact L3
      | false =>
       exact L3
     ·have i2:¬(id.length:Int)=32:=Y
      have i3:((id.length:Int)==32)=false:=by rw[beq_eq_false_iff_ne];exact i2
      have cu:=O ar;clear ar
      cases MY with
      | true =>
       exact L3
      | false =>
       exact L3
   case rest =>
    obtain⟨rfl,b4⟩:=hcut;clear x0 x1 x2 x3 x4 x5 x6 x7;clear cZ bN;go_upto_region 11 with fail
    go_cut [138] (fun s wx=>s=.bool false∧Hid (Bw_ W1 wx))
    case first =>
     as_aux_lemma =>
      cases MB with
      | true =>
       obtain⟨K1,K2⟩:=K;obtain⟨aq,V,cG⟩:=cA.o (by trivial);have hk1:K1=cN j id:=congrArg Prod.fst aq;obtain rfl:K2=0:=congrArg Prod.snd aq;have bU:=cH.o wc b4.o V cG;rw[←hk1]at bU;have cj:=O bU;clear aq hk1 bU;have f:=bL.o.below b4.o;obtain⟨x0,x1,x2,x3,x4,x5,x6,x7⟩:=cl8 f;clear f;clear V cG cA cB cH;go_wp2_with (go_at_call 16;refine mB_ (cj.o) b4 fun dl b_=>?_;clear x0 x1 x2 x3 x4 x5 x6 x7;dsimp only)
       go_meet
       case rel=>exact⟨by simp,b_⟩
      | false =>
       obtain⟨K1,K2⟩:=K;have aq:=cB.o (by trivial);obtain rfl:K1=[]:=congrArg Prod.fst aq;obtain rfl:K2=2:=congrArg Prod.snd aq;clear aq;clear cA cB cH;go_wp2_with fail
       go_meet
       case rel=>exact⟨by simp,b4⟩
    case rest =>
     obtain⟨rfl,dq⟩:=hcut;clear b4 cA cB cH;go_upto_region 15 with(go_at_call 17;refine(xf wc).mono ?_;rintro e dl⟨rfl,bm,aI,hB⟩;obtain⟨bz,bO,b_⟩:=zH3 bm aI hB;clear hB bm aI;dsimp only);obtain⟨r,hr⟩:=H dl.heap.size;obtain⟨c0,bw⟩:∃ c,c=wc.heap.size+1:=⟨_,rfl⟩
     obtain⟨dE,cn⟩:∃ W,W=dl.alloc (.cells #[e_] 51):=⟨_,rfl⟩
     rw[←cn,←hr,←bw];have bY:=ba_ cn
     have cD:=O (show S24 W1 r (U24 l) (W24 j l) [] [] c0 wc.heap.size dE by
      have q1:=b_.o.size;have q2:=dq.o.size;have q3:=bz.o.lt;have q4:=(bO.o (fun b=>b≠r)).lt;rw[bw];exact AW HV.o (bt dq.o (bt b_.o bY)) (bz.o.below bY) ((bO.o _).below bY) (by rw[hr,cn];exact Blk.new _ _ _) q2 Y Y Y Y Y)
     obtain⟨M0,bX⟩:∃ M,M=wc.heap.size:=⟨_,rfl⟩
     rw[←bX]at cD;have b':=HV.o.len;clear hr bw cn bY bX hl bz bO b_ dq a9 aW ba aJ bn aK aU bG cm cl Q ag cx db ah;go_upto_region 18 with fail
     go_loopw [19,21] (fun cs t wr=>∃ (i c M:Nat) (I:LE_),i≤l.length∧cs=cP c∧t=F i∧Hid (S24 W1 r (U24 l) (W24 j l) I I c M wr)) (fun _ t _=>100-(intOf t).toNat)
     case atStart=>exact⟨0,c0,M0,[],Jl _,rfl,rfl,cD⟩
     case round =>
      obtain⟨i,c,M,I,hi,rfl,rfl,HS⟩:=hrel;clear cD
      by_cases h0:i<l.length
      ·have i0:=nn_ i
       have i1:(i:Int)<l.length:=Y;obtain⟨kb,ko,ra,rn,rc,ov,hA,e0,e1,e2,e3,e4,S,aP⟩:=cr.o i h0;subst hA;have aZ:=bt a_.o HS.o.b;replace e0:=IF aZ e0;replace e1:=IF aZ e1;replace e2:=IF aZ e2;replace e3:=IF aZ e3;replace e4:=IF aZ e4;have ay:=cZ.o _ (Jz h0);have bW:=O (Jz h0);obtain⟨x,hx⟩:=H (l[i]'h0);rw[←hx]at e0 e2 e3 S aP ay bW
       have cz:rn=x.rows.length:=by
        obtain⟨_,_,aS,_,_,_⟩:=S;injection aS
       subst cz;obtain⟨de,df,rfl,-,-⟩:=aP.open;obtain⟨aD,b8,aw⟩:=zH3 (S.below a_.o) (aP.below a_.o) h0;have dr:=ay.a0;have ds:=ay.a1;have cE:=O ay;clear hx S aP aZ ay h0;go_upto_region 21 with fail;obtain⟨B,N⟩:=H wr.heap.size;obtain⟨az,cQ⟩:∃ a,a=x.act:=⟨_,rfl⟩
       rw[←cQ]at dr ds⊢;obtain⟨aa,hY⟩:∃ W,W=wr.alloc (.cells #[F az,.slice ra x.rows.length rc,.int .u8 x.k.toNat,s_ x.key,.slice de x.row.length df] 53):=⟨_,rfl⟩
       rw[←hY,←N];have b2:=ba_ hY;have u:=bn_ N hY;have aR:=O (show B≠M∧B≠r from⟨by have:=HS.o.cm.lt;omega,by have:=HS.o.rc.lt;omega⟩);obtain⟨bA,cd,c_⟩:=zH3 (HS.o.below b2) u cQ;have d0:=u.c 0;clear hY N b2 u e0 e1 e2 e3 e4 HS cQ;have f:=bL.o.below bA.o.b;obtain⟨x0,x1,x2,x3,x4,x5,x6,x7⟩:=cl8 f;clear f
       by_cases a0:az=0
       ·as_aux_lemma =>
         subst a0;have ad:=Ba HV.o bW.o c_.o.symm;have aO:=EW bA.o _ _ _ _ _ _ _ j x.rows bP.o.1 bP.o.2 (aD.o.below bA.o.b) ad;have an:=fun w' (h:S24 W1 r (U24 l) (W24 j l) (ez j x.rows I).2 I c M w')=>Db h _ _ _ _ _ _ _ j x.rows bP.o.1 aD.o ad;have am:=(pT bA.o.ul j x.rows I ad.u bA.o.sC ad.v).1.2;obtain⟨X,hX⟩:=H (ez j x.rows I);rw[←hX]at aO am;rw[←hX]at an;obtain⟨⟨g,⟨q1,q2,q3⟩,dd,dB⟩,dF⟩:=X;dsimp only at aO an am;unfold bM at aO an;obtain⟨d,cR,ce⟩:=zH3 aO an am;clear hX ad aO an am
         have cL:=O (fun w' (va vb:V_) (hv:RP w' va g) (bI:RP w' vb g)=>show C_ 20 #[va,vb] w' fun e bc=>e=.returned (.bool true)∧Bw_ w' bc by
          have h:=ii va vb g g w' hv bI yzw yzw;rw[decide_eq_true rfl]at h;exact h)
         have qe:=fun w:Z=>Bz q1 q2 q3 q1 q2 q3 w;simp only[beq_self_eq_true,Bool.and_self,Bool.not_true]at qe;have qg:=fun (w:Z) (x y:Operand) (xs D:AV_)=>run_eqGuard_agg (P:=prog) w .neq 55 x y xs D sQ;have d1:=cd.o.c 1;go_upto_region 24 with(go_at_call 18;refine(d.o).mono ?_;rintro e w5⟨⟨a5,c5,rfl,cS⟩,ct,bE⟩;have U:=O ct;have cw:=O cS;have u:=cd.o.chg bE aR.o.1;have dx:=O u;clear cS ct bE u d0 d1 cd d bA;clear x0 x1 x2 x3 x4 x5 x6 x7;dsimp only);obtain⟨ab,hZ⟩:=H w5.heap.size;obtain⟨W5,aE⟩:∃ W,W=w5.alloc (.cells #[F q1,F q2,F q3] 55):=⟨_,rfl⟩
         rw[←aE,←hZ];have b5:=ba_ aE;have dy:=O (show Blk W5 ab 55 [F q1,F q2,F q3] by rw[aE,hZ];exact Blk.new _ _ _);have dG:=O (show ab≠r by have:=U.o.rc.lt;omega);have bT:=O (U.o.below b5);have bu:=O (cw.o.below b5);have u:=dx.o.below b5;have d1:=u.c 1;clear hZ aE b5 u U cw;have f:=bL.o.below bT.o.b;obtain⟨x0,x1,x2,x3,x4,x5,x6,x7⟩:=cl8 f;clear f;go_upto_region 25 with(go_at_call 19;refine(cR.o W5 bT.o).mono ?_;rintro e w7⟨⟨a7,c7,rfl,aG⟩,G,ai⟩;obtain⟨bl,ck,cK,da⟩:=zH4 G (bu.o.overR bT.o.rc ai) aG (dy.o.chg ai dG.o);clear aG G ai d1 dy bu bT cR;clear x0 x1 x2 x3 x4 x5 x6 x7;dsimp only);obtain⟨Z2,dt⟩:∃ ab,ab=w7.heap.size:=⟨_,rfl⟩
         obtain⟨W7,ao⟩:∃ W,W=w7.alloc (.cells #[F q1,F q2,F q3] 55):=⟨_,rfl⟩
         rw[←ao,←dt];have b7:=ba_ ao;have ha:=da.o.below b7;obtain⟨y0,y1,y2⟩:=cl3 ha;have aF:=bn_ dt ao;obtain⟨z0,z1,z2⟩:=cl3 aF;obtain⟨cX,cW,cT⟩:=zH3 (bl.o.below b7) (ck.o.below b7) (cK.o.below b7);clear dt ao b7 ha aF bl ck cK da
         go_wp2_with (first
          | (go_at_call 25;refine(ij n.o).mono ?_;rintro e cC⟨rfl,hB⟩;have ac:=O (n.o.below hB);clear hB;dsimp only)
          | (go_at_call 20;refine(cL.o W7 _ _ cW.o cT.o).mono ?_;rintro e w8⟨rfl,hB⟩;have n:=O (cX.o.below hB);replace y0:=IF hB y0;replace y1:=IF hB y1;replace y2:=IF hB y2;replace z0:=IF hB z0;replace z1:=IF hB z1;replace z2:=IF hB z2;clear hB;dsimp only))
         go_roundw
         case rel=>exact⟨i+1,c,M,dF,aw.o,rfl,by go_num,ac⟩
         case measure=>have:=aw.o;have:=b';simp[intOf];omega
       ·by_cases a1:az=1
        ·as_aux_lemma =>
          subst a1;have c8:=bA.o;have aX:=O (De c8);obtain⟨o,aB⟩:=H (I.map (·.1));rw[←aB]at aX;have bQ:o.length≤10000:=by rw[aB,Js];exact c8.lenC
          have b6:=O (show ∀ k∈o,k.length≤200 by
           intro k hk;rw[aB]at hk;obtain⟨y,hy,rfl⟩:=List.mem_map.1 hk;exact c8.vk _ (c8.sC.rows y hy).1)
          clear aB c8;have d2:=cd.o.c 2;obtain⟨kk,aq⟩:=H x.k.toNat;have cU:kk≤255:=by rw[aq];have:=x.k.toNat_lt;omega
          rw[←aq]at d2;clear aq
          by_cases hn:0<o.length
          ·obtain⟨ap,hq⟩:=H (kk%o.length)
           have cq:ap<o.length:=by rw[hq];exact Nat.mod_lt _ hn
           have du:(kk:Int).tmod (o.length:Int)=(ap:Int):=by rw[hq,Int.tmod_eq_emod_of_nonneg Y];rfl
           have q1:=nn_ ap;have q2:(ap:Int)<o.length:=Y;have q3:0<(o.length:Int):=Y;have q4:¬(o.length:Int)=0:=Y
           have aC:=O (show C_ 21 #[rP r] aa fun e w'=>(∃ b aL cp,e=.returned (.slice (some ⟨b,aL,none⟩) o.length cp)∧w'.cell? ⟨b,aL+ap,none⟩=some (s_ (o[ap]'cq)))∧Bw_ aa w' by
            refine aX.o.mono ?_;rintro e w'⟨⟨a,cp,rfl,h1⟩,h2⟩;obtain⟨a',c',e',-,hc⟩:=au h1;obtain⟨b,aL,ha,hu⟩:=hc ap cq;injection e' with e1 _ _
            subst e1;subst ha;exact⟨⟨b,aL,cp,rfl,hu⟩,h2⟩)
           obtain⟨z,bv⟩:∃ k,k=o[ap]'cq:=⟨_,rfl⟩
           have bq:z.length≤140737488355328:=by rw[bv];have:=b6.o _ (Jz cq);omega
           rw[←bv]at aC;have bC:=O (fun w' (h:S24 W1 r (U24 l) (W24 j l) I I c M w')=>uY h z bq);have cf:=O (fun w' (h:S24 W1 r (U24 l) (W24 j l) (bo I z) I c M w')=>AX h z)
           have dn:=O (fun w' (h:S24 W1 r (U24 l) (W24 j l) (bo I z) (bo I z) c M w')=>show C_ 9 #[cP c,s_ z] w' fun e bc=>e=.returned (.bool false)∧S24 W1 r (U24 l) (W24 j l) (bo I z) (bo I z) c M bc by
            have hr:=bA.o.sC.rise;have h1:(entAt (bo I z) z).2=false:=by rw[jY hr]
            refine(uY h z bq).mono ?_;rintro e bc⟨h2,h3,-⟩;rw[lE,h1]at h2;rw[mm h1]at h3;exact⟨h2,h3⟩)
           obtain⟨b,hb⟩:=H ((aM I z).isSome);obtain⟨E2,cb⟩:=H (bo I z);rw[←hb,←cb]at bC;rw[←hb,←cb]at cf;rw[←cb]at dn;clear hb cb bv hq hn bq b6 aX cq;clear x0 x1 x2 x3 x4 x5 x6 x7
           go_wp2_with (first
            | (go_at_call 25;refine(ij n.o).mono ?_;rintro e cC⟨rfl,hB⟩;have ac:=O (n.o.below hB);clear hB;dsimp only)
            | (go_at_call 9;refine(dn.o w7 bl.o).mono ?_;rintro e w8⟨rfl,hs⟩;have n:=O hs;clear hs;dsimp only)
            | (go_at_call 22;refine(cf.o w6 bT.o).mono ?_;rintro e w7⟨rfl,hs,-⟩;have bl:=O hs;clear hs;dsimp only)
            | (go_at_call 9;refine(bC.o w5 U.o).mono ?_;rintro e w6⟨rfl,hs,-⟩;have bT:=O hs;clear hs;dsimp only)
            | (go_at_call 21;refine(aC.o).mono ?_;rintro e w5⟨⟨dM,dN,dH,rfl,k0⟩,hB⟩;have U:=O (bA.o.below hB);replace d2:=IF hB d2;clear hB;dsimp only))
           go_roundw
           case rel=>exact⟨i+1,c,M,E2,aw.o,rfl,by go_num,ac⟩
           case measure=>have:=aw.o;have:=b';simp[intOf];omega
          ·have q3:¬0<(o.length:Int):=Y
           have dV:=O (fun w' (hB:Bw_ aa w')=>bA.o.below hB);clear hn b6;clear x0 x1 x2 x3 x4 x5 x6 x7
           go_wp2_with (first
            | (go_at_call 25;refine(ij n.o).mono ?_;rintro e cC⟨rfl,hB⟩;have ac:=O (n.o.below hB);clear hB;dsimp only)
            | (go_at_call 21;refine(aX.o).mono ?_;rintro e w5⟨⟨bH,dH,rfl,-⟩,hB⟩;have n:=O (dV.o _ hB);clear hB;dsimp only))
           exact L4
        ·by_cases a2:az=2
         ·as_aux_lemma =>
           subst a2;have m:=Dk HV.o bW.o (by rw[←c_.o];decide);have bV:=FG (j:=j) bW.o;have dz:=O (Dc bA.o x.key (.slice de x.row.length df) x.row bV b8.o m);have b1:=O (fun w' A C (h:S24 W1 r (U24 l) (W24 j l) I (dm I x.key x.row) c M w') (hv:RP w' (.slice A x.row.length C) x.row)=>EX h x.key (.slice A x.row.length C) x.row bV hv m);have ak:=O (show x.row.length*32≤140737488355328 by have:=m.2;omega);obtain⟨E2,cb⟩:∃ E,E=dm I x.key x.row:=⟨_,rfl⟩
           rw[←cb]at dz;rw[←cb]at b1;have d3:=cd.o.c 3;have d4:=cd.o.c 4;clear cb m bV;clear x0 x1 x2 x3 x4 x5 x6 x7;go_upto_region 35 with(go_at_call 23;refine(dz.o).mono ?_;rintro e w5⟨rfl,ct,bE⟩;have U:=O ct;have u:=cd.o.chg bE aR.o.2;replace d3:=u.c 3;replace d4:=u.c 4;clear ct bE u)
           go_region_law (first
            | (refine ry w5.drew rfl _ _ 29 rfl underlying29 rfl _ x.row rfl (b8.o.below (bt U.o.b (b_drew w5))) ak.o ?_;intro a6 c6 w6 bD bx;have bT:=O (U.o.below (bt (b_drew w5) bx));have bu:=O bD;replace d3:=IF (bt (b_drew w5) bx) d3;clear bD bx)
            | (refine aN rfl 8 #[cP c,s_ x.key,.slice a6 x.row.length c6] yzc (b1.o w6 a6 c6 bT.o bu.o) ?_;rintro e w7⟨rfl,G,-⟩;have n:=O G;clear G))
           all_goals
            simp only[JM,Jd,Jm];go_frame;go_wp2_with (go_at_call 25;refine(ij n.o).mono ?_;rintro e cC⟨rfl,hB⟩;have ac:=O (n.o.below hB);clear hB;dsimp only);go_roundw
            (case rel=>exact⟨i+1,c,M,E2,aw.o,rfl,by go_num,ac⟩)
            (case measure=>have:=aw.o;have:=b';simp[intOf];omega)
         ·by_cases a3:az=3
          ·as_aux_lemma =>
            subst a3;have cI:=O (EY bA.o x.key (by have:=cE.o.kl;omega));have b3:=O (fun w' (h:S24 W1 r (U24 l) (W24 j l) I I c M w')=>Dd h x.key)
            have ce:=O (show((aM I x.key).getD []).length≤2000 by
             cases hg:aM I x.key with
             | none=>simp
             | some y=>exact(StU.get bA.o.sC hg).2)
            obtain⟨g,hg⟩:=H ((aM I x.key).getD []);obtain⟨b,hb⟩:=H ((aM I x.key).isSome);rw[←hg]at ce;rw[←hg,←hb]at cI;rw[←hg,←hb]at b3;clear hg hb
            have cL:=O (fun w' (va vb:V_) (hv:RP w' va g) (bI:RP w' vb g)=>show C_ 20 #[va,vb] w' fun e bc=>e=.returned (.bool true)∧Bw_ w' bc by
             have h:=ii va vb g g w' hv bI yzw yzw;rw[decide_eq_true rfl]at h;exact h)
            have d3:=cd.o.c 3
            go_wp2_with (first
             | (go_at_call 25;refine(ij n.o).mono ?_;rintro e cC⟨rfl,hB⟩;have ac:=O (n.o.below hB);clear hB;dsimp only)
             | (go_at_call 20;refine(cL.o w6 _ _ cw.o bu.o).mono ?_;rintro e w7⟨rfl,hB⟩;have n:=O (bT.o.below hB);clear hB;dsimp only)
             | (go_at_call 24;refine(b3.o w5 U.o).mono ?_;rintro e w6⟨⟨a6,c6,rfl,bD⟩,hB⟩;obtain⟨bT,cw,bu⟩:=zH3 (U.o.below hB) (dI.o.below hB) bD;clear hB bD;dsimp only)
             | (go_at_call 7;refine(cI.o).mono ?_;rintro e w5⟨⟨a5,c5,rfl,cS⟩,hB⟩;have U:=O (bA.o.below hB);have dI:=O cS;replace d3:=IF hB d3;clear hB cS;dsimp only))
            exact L4
          ·by_cases a4:az=4
           ·as_aux_lemma =>
             subst a4;have ch:=O (Df bA.o)
             have aj:=O (fun w' (h:S24 W1 r (U24 l) (W24 j l) I I c M w')=>show C_ 8 #[cP c,s_ [115,112,111,105,108,116],e_] w' fun e bc=>e=.returned (F 0)∧Chg (fun b=>b=M) w' bc by
              refine(qY c M I.length I [115,112,111,105,108,116] (e_) [] w' h.cc h.cm d_ (RP.nil w') i_ (by have:=h.lenC;omega) (fun b hb=>by have:=h.rc.lt;omega)).mono ?_;rintro e bc⟨h1,-,h3⟩;exact⟨h1,h3⟩)
             clear bA;clear x0 x1 x2 x3 x4 x5 x6 x7
             go_wp2_with (first
              | (go_at_call 25;refine(ij n.o).mono ?_;rintro e cC⟨rfl,hB⟩;have ac:=O (n.o.below hB);clear hB;dsimp only)
              | (go_at_call 8;refine(aj.o w5 U.o).mono ?_;rintro e w6⟨rfl,hc⟩;have n:=O (dU.o _ hc);clear hc;dsimp only)
              | (go_at_call 11;refine(ch.o).mono ?_;rintro e w5⟨c5,rfl,⟨M5,bJ⟩,hs,-⟩;have U:=O hs;have dU:=O bJ;clear hs bJ;dsimp only))
             go_roundw
             case rel=>exact⟨i+1,c5,M5,I,aw.o,rfl,by go_num,ac⟩
             case measure=>have:=aw.o;have:=b';simp[intOf];omega
           ·as_aux_lemma =>
             have n0:¬az=0:=a0;have dO:(az==0)=false:=by rw[beq_eq_false_iff_ne];exact a0
             have dP:(az==1)=false:=by rw[beq_eq_false_iff_ne];exact a1
             have dQ:(az==2)=false:=by rw[beq_eq_false_iff_ne];exact a2
             have dR:(az==3)=false:=by rw[beq_eq_false_iff_ne];exact a3
             have dW:(az==4)=false:=by rw[beq_eq_false_iff_ne];exact a4
             have n:=O bA.o;clear bA;go_wp2_with (go_at_call 25;refine(ij n.o).mono ?_;rintro e cC⟨rfl,hB⟩;have ac:=O (n.o.below hB);clear hB;dsimp only);exact L4
      ·have i1:¬(i:Int)<l.length:=Y
       clear h0;go_wp2_with (go_at_call 6;refine(cJ.o wr HS.o.b).mono ?_;rintro e dX⟨rfl,hB⟩;have dA:=O (bt a_.o (bt HS.o.b hB));clear hB;dsimp only);go_ret;exact⟨rfl,dA.o⟩
 ·have i1:100<(id.length:Int):=Y
  clear cO
  cases LG with
  | true =>
   exact L2
  | false =>
   exact L2