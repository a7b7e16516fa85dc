/- Lemmas for MapperTells: walks, plain laws. -/
import Derived.Test.YtckhfapcmjlmbaaGreatDoorMapperTellsK23
set_option linter.unusedSimpArgs false
set_option linter.unusedVariables false
set_option maxRecDepth 100000
set_option maxHeartbeats 16000000
namespace Go.Proofs.YtckhfapcmjlmbaaGreatDoor
open Go.RowKit Oct
section
def SplitRes (l:List PR)(n:Int)(bZ:Nat)(e:Ending)(w':World):Prop :=
 if np n then ∃ D,e=.returned (.tuple #[.slice (some ⟨D,0,none⟩) n.toNat n.toNat,.int .i64 0])∧bZ≤D∧OR w' D D (splitP l n.toNat)
 else e=.returned (.tuple #[.slice none 0 0,.int .i64 2])
theorem xG (v:Value)(l:List PR)(n:Int)(w:World)(hr:RP w v l)(hl:l.length≤1000000)(hm:∀ p∈l,p.1.length≤70368744177664):Calls Tryz.prog 68 #[v,.int .i64 n] w fun e w'=>SplitRes l n w.heap.size e w'∧Below w.heap.size w w':=by
 obtain⟨a,cap,rfl,_,hcell⟩:=hr.open;have HCELL:=zH hcell;clear hr hcell
 cases hmb:np n with
 | false =>
  have HC:=zH (show nM n=2 by rw[nM,hmb];rfl);have HR:=zH (show ∀ e w',e=.returned (.tuple #[.slice none 0 0,.int .i64 2])→SplitRes l n w.heap.size e w' from fun e w' h=>by unfold SplitRes;rw[hmb];exact h);clear hmb;go_enter Tryz.func68,Tryz.ntmps68;go_wp2_with fail;refine(mV n w).mono ?_;rw[HC.o];rintro e w1 ⟨rfl,hB1⟩;have HB1:=zH hB1;clear hB1;go_wp2_with fail;go_ret2;exact⟨HR.o _ _ rfl,HB1.o⟩
 | true =>
  have HC:=zH (show nM n=0 by rw[nM,hmb];rfl);obtain⟨m,rfl,h1,h2⟩:=ze hmb;have HR:=zH (show ∀ e w',(∃ D,e=.returned (.tuple #[.slice (some ⟨D,0,none⟩) m m,.int .i64 0])∧w.heap.size≤D∧OR w' D D (splitP l m))→SplitRes l (m:Int) w.heap.size e w' from fun e w' h=>by unfold SplitRes;rw[hmb,DI];exact h);have HM:=zH hm;clear hmb hm;go_enter Tryz.func68,Tryz.ntmps68;go_wp2_with fail;refine(mV m w).mono ?_;rw[HC.o];rintro e w1 ⟨rfl,hB1⟩;have HB1:=zH hB1;clear hB1;go_wp2_with fail;refine(BJ m w1).mono ?_;rintro e w2 ⟨b,rfl,hb,_,hB2⟩;have HBk:=zH hb;have HB2:=zH (bt HB1.o hB2);have hz:Blk (w2.alloc (.cells #[.nilFunc] 184)) w2.heap.size 184 [.nilFunc]:=Blk.new w2 [.nilFunc] _;have HZ:=zH hz;have HI:=zH (show(Tryz.prog.info? 184).map (·.size)=some 1 by kernel_rfl);clear hb hB2 hz;go_wp2_with (refine nS w2.heap.size [.nilFunc] [.func (.func 157) #[] #[.pointer (some ⟨b,0,none⟩)]] HZ.o rfl _ _ _ rfl rfl rfl HI.o rfl (by simp[Value.oneCell']) ?_);intro w3 hw3
  have hC3:Blk w3 w2.heap.size 184 [.func (.func 157) #[] #[.pointer (some ⟨b,0,none⟩)]]:=by
   rw[←hw3.o];exact HZ.o.row _
  have hB23:Below w2.heap.size w2 w3:=by rw[←hw3.o];exact cF (af _ _) (DC _) _
  have HBk3:=zH (HBk.o.below hB23);have HB3:=zH (bt HB2.o hB23);have HC3:=zH hC3;obtain⟨C,hC⟩:=ex_ w2.heap.size;rw[←hC]at HC3⊢;clear hw3 hC3 hB23 hC HZ HBk;have hmk:=kE (P:=Tryz.prog) 32 29 (.slice none 0 0) 24 Tryz.underlying32 (by kernel_rfl) rfl m (by omega) (by omega) w3;have HO:=zH (OR.empty w3 w3.heap.size m);obtain⟨w4,hw4⟩:=ex_ (w3.alloc (.cells (List.replicate m (.slice none 0 0)).toArray 29));rw[←hw4]at hmk HO;have hB4:=ba_ hw4;have HB4:=zH hB4
  have hsp:splitP (l.take 0) m=List.replicate m []:=by
   apply List.ext_getElem
   ·simp[splitP]
   ·intro i h h';simp[splitP]
  rw[←hsp]at HO;clear hw4 hB4 hsp;obtain⟨D,hD⟩:=ex_ w3.heap.size;rw[←hD]at HO HB4 hmk;have HD:=zH hD;clear hD;go_wp2;clear hmk
  go_loopw [23] (fun t wx=>∃ k:Nat,k≤l.length∧t=.int .i64 (k:Int)∧Hid (OR wx D D (splitP (l.take k) m))∧Hid (Below D w3 wx)) (fun t _=>l.length-(intOf t).toNat)
  case atStart=>exact⟨0,by omega,rfl,HO,HB4⟩
  case round =>
   clear HO HB4;obtain⟨k,hk,rfl,HO,HB4⟩:=hrel
   by_cases hkl:k<l.length
   ·have k0:=nn_ k
    have k1:(k:Int)<(l.length:Int):=by omega
    obtain⟨bl,ol,rfl,d1,d2⟩:=HCELL.o k hkl;have HBx:=zH (show Below w.heap.size w wr from HB3.o.trans (HB4.o.mono (by have:=HB3.o.size;have:=HD.o;omega)));replace d1:=C8 HBx.o d1;replace d2:=C8 HBx.o d2;obtain⟨p,hp⟩:=ex_ (l[k]);rw[←hp]at d1 d2;have HP:=zH hp;have HPL:=zH (show p.1.length≤70368744177664 by rw[hp];exact HM.o _ (DY hkl));have HB34:Below w3.heap.size w3 wr:=by rw[←HD.o];exact HB4.o
    have cC:=(HC3.o.below HB34).cell (k:=0) rfl;have hCl:=(HC3.o.below HB34).lt;have HBk4:=zH (HBk3.o.below HB34);have hDl:D<wr.heap.size:=by obtain⟨_,_,h,_⟩:=HO.o;exact h
    clear hp HB34;go_wp2_with fail;obtain⟨w5,hw5⟩:=ex_ (wr.alloc (.cells #[.string (bs p.1),.string (bs p.2)] 70));have hB5:=ba_ hw5;have hpb:Blk w5 wr.heap.size 70 [.string (bs p.1),.string (bs p.2)]:=by rw[hw5];exact Blk.new wr [.string (bs p.1),.string (bs p.2)] _
    rw[←hw5];have HBk5:=zH (HBk4.o.below hB5);have HO5:=zH (HO.o.below hB5);have HPB5:=zH hpb;have HB5:=zH hB5;have hs5:=hB5.size;clear hw5 hB5 hpb cC hCl HBk4 HO d1 d2;refine(AW p.1 m b w5 HBk5.o h1 h2 HPL.o).mono ?_;rintro e w6 ⟨rfl,hB6⟩;have HO6:=zH (HO5.o.below hB6);have hpb6:=HPB5.o.below hB6;obtain⟨e1,e2⟩:=cl2 hpb6;have HB6:=zH (HB5.o.trans (hB6.mono hs5));have hs6:=hB6.size;have hat:=kz p.1 m h1;obtain⟨t,ht⟩:=ex_ (partF p.1 m);rw[←ht]at hat⊢;have HT:=zH ht;clear hB6 hpb6 ht HBk5 HO5 HPB5;obtain⟨vs,q1,q2,q3,q4,q5⟩:=HO6.o;have q1':=q1;rw[dp]at q1';have hvl:t<vs.length:=by omega
    have hrl:t<(splitP (l.take k) m).length:=by rw[dp];exact hat
    have dv:=q3.cell (k:=t) (List.getElem?_eq_getElem hvl);have fv:=q3.free (k:=t) hvl;have hown:=(q4 t hvl hrl).1;obtain⟨at_,ct,hvt⟩:=ap hown;have t0:=nn_ t;have t1:(t:Int)<(m:Int):=by omega
    rw[hvt]at dv;have HV:=zH hvt;have HQ1:=zH q1;have HQ3:=zH q3;have HQ4:=zH q4;have HQ5:=zH q5;have HOWN:=zH hown;clear hvt q1 q1' q3 q4 q5 hown;obtain⟨R,hR⟩:=ex_ ((splitP (l.take k) m)[t]'hrl);rw[←hR]at dv HV HOWN;rw[HV.o]at HOWN;have HRD:=zH hR
    have HRL:=zH (show R.length≤1000000 by
     rw[hR,g7 _ _ _ hat];refine DG (List.length_filter_le _ _) ?_;rw[DU];omega)
    clear hR;go_wp2;have hown6:OP w6.drew D (.slice at_ R.length ct) R:=HOWN.o;have HO6d:=zH hown6;have hby:(R.length+1)*32≤140737488355328:=by have:=HRL.o;omega
    have hbase:D≤w6.drew.heap.size:=by show D≤w6.heap.size;omega
    have hne8:(Value.slice at_ R.length ct).ownBlock≠some D:=by rw[←HV.o];exact(HQ4.o t hvl hrl).2
    have HNE:=zH hne8;have hD6:D<w6.drew.heap.size:=by show D<w6.heap.size;omega
    have dv':w6.drew.cell? ⟨D,t,none⟩=some (.slice at_ R.length ct):=dv;have fv':w6.drew.frozen? ⟨D,t,none⟩=false:=fv;have HDV:=zH dv';have HFV:=zH fv';clear hown6 hne8 dv' fv';go_region_law (refine nY w6.drew p rfl _ _ 29 rfl Tryz.underlying29 D _ R rfl HO6d.o _ rfl hby hbase ?_;intro g8 cap8 w8 hown8 hkeep8 hlie8 hB8;have hblk:=hkeep8.o D hD6 HNE.o;have dv8:w8.cell? ⟨D,t,none⟩=some (.slice at_ R.length ct):=(World.cell?_of_block (w:=w6.drew) (a:=⟨D,t,none⟩) hblk).trans HDV.o;have fv8:w8.frozen? ⟨D,t,none⟩=false:=(World.frozen?_of_block (w:=w6.drew) (a:=⟨D,t,none⟩) hblk).trans HFV.o;clear hblk)
    all_goals
     have hstep:=OR.step (w:=w6) (w1:=w6.drew) (w2:=w8) (bZ:=D) (D:=D) (g:=g8) (cap:=cap8) (k:=t) (rows:=splitP (l.take k) m) (vs:=vs) (p:=p) HQ1.o HQ3.o HQ4.o HQ5.o hrl (b_drew w6) (by rw[←HRD.o];exact hown8) (fun j hj hne=>hkeep8.o j hj (by rw[←HV.o];exact hne)) (by rw[HV.o];exact hlie8.o) hB8.size;rw[←HRD.o]at hstep
     have hsn:splitP (l.take (k+1)) m=(splitP (l.take k) m).set t (R++[p]):=by
      rw[Dz hkl,←HP.o,lz _ _ _ t HT.o.symm hat,←HRD.o]
     rw[←hsn]at hstep;have HST:=zH hstep
     have HBW:=zH (show Below D w3 (w8.setCell ⟨D,t,none⟩ (.slice (some ⟨g8,0,none⟩) (R.length+1) cap8)) from
      ((HB4.o.trans (HB6.o.mono (by omega))).trans (((b_drew w6).mono (by omega)).trans hB8)).setCell (p:=⟨D,t,none⟩) (DC _) _)
     clear hstep hsn hown8 hkeep8 hlie8 hB8 dv8 fv8;go_wp2;refine⟨?_,by simp[intOf];omega⟩
     first
      | exact⟨k+1,by omega,by go_num,HST.o,HBW.o⟩
      | ((repeat apply Exists.intro);exact⟨⟨k+1,by omega,by go_num,HST.o,HBW.o⟩,rfl⟩)
   ·obtain rfl:k=l.length:=by omega
    have HF:=zH (List.take_length (l:=l));go_wp2;go_ret2;refine⟨HR.o _ _ ⟨D,rfl,by have:=HD.o;have:=HB3.o.size;omega,?_⟩,?_⟩
    ·have:=HO.o
     rw[HF.o]at this;exact this
    ·exact HB3.o.trans (HB4.o.mono (by have:=HD.o;have:=HB3.o.size;omega))
theorem OP.some {w:World}{bZ:Nat}{v:Value}{l:List PR}(h:OP w bZ v l)(h0:0<l.length):∃ g cap,v=.slice (some ⟨g,0,none⟩) l.length cap∧bZ≤g:=by
 rcases h.2 with ⟨_,h0'⟩|⟨g,cap,cur,hv,hg,_⟩
 ·omega
 ·exact⟨g,cap,hv,hg⟩
theorem tF (v:Value)(l:List PR)(m:Nat)(w:World)(hr:RP w v l)(hl:l.length≤1000000)(hm:∀ p∈l,p.1.length≤1099511627776)(h1:1≤m)(h2:m≤16):Calls Tryz.prog 71 #[v,.int .i64 (m:Int)] w fun e w'=>∃ D,e=.returned (.slice (some ⟨D,0,none⟩) m m)∧w.heap.size≤D∧OR w' D D (splitP l m)∧Below w.heap.size w w':=by
 obtain⟨a,cap,rfl,_,hcell⟩:=hr.open;have HCELL:=zH hcell;have HM:=zH hm;have hmk:=kE (P:=Tryz.prog) 32 29 (.slice none 0 0) 24 Tryz.underlying32 (by kernel_rfl) rfl m (by omega) (by omega) w;have HO:=zH (OR.empty w w.heap.size m);obtain⟨w4,hw4⟩:=ex_ (w.alloc (.cells (List.replicate m (.slice none 0 0)).toArray 29));rw[←hw4]at hmk HO;have hB4:=ba_ hw4;have HB4:=zH hB4
 have hsp:splitP (l.take 0) m=List.replicate m []:=by
  apply List.ext_getElem
  ·simp[splitP]
  ·intro i h h';simp[splitP]
 rw[←hsp]at HO;obtain⟨D,hD⟩:=ex_ w.heap.size;rw[←hD]at HO HB4 hmk;have HD:=zH hD;clear hr hcell hm hw4 hB4 hsp hD;go_enter Tryz.func71,Tryz.ntmps71;go_wp2;clear hmk
 go_loopw [6] (fun t wx=>∃ k:Nat,k≤l.length∧t=.int .i64 (k:Int)∧Hid (OR wx D D (splitP (l.take k) m))∧Hid (Below D w wx)) (fun t _=>l.length-(intOf t).toNat)
 case atStart=>exact⟨0,by omega,rfl,HO,HB4⟩
 case round =>
  clear HO HB4;obtain⟨k,hk,rfl,HO,HB4⟩:=hrel
  by_cases hkl:k<l.length
  ·have k0:=nn_ k
   have k1:(k:Int)<(l.length:Int):=by omega
   obtain⟨bl,ol,rfl,d1,d2⟩:=HCELL.o k hkl;have HBx:Below w.heap.size w wr:=by rw[←HD.o];exact HB4.o
   have HD1:=zH d1;have HD2:=zH d2;replace d1:=C8 HBx d1;obtain⟨p,hp⟩:=ex_ (l[k]);rw[←hp]at d1 HD1 HD2;have HP:=zH hp;have HPL:=zH (show p.1.length≤1099511627776 by rw[hp];exact HM.o _ (DY hkl));clear hp d2 HBx;go_wp2_with fail;refine(yN p.1 m wr h1 h2 HPL.o).mono ?_;rintro e w6 ⟨rfl,hB6⟩;have HO6:=zH (HO.o.below hB6);have HB6:=zH (HB4.o.trans (hB6.mono (by obtain⟨_,_,h,_⟩:=HO.o;omega)));have hat:=kz p.1 m h1;obtain⟨t,ht⟩:=ex_ (partF p.1 m);rw[←ht]at hat⊢;have HT:=zH ht;clear hB6 ht;obtain⟨vs,q1,q2,q3,q4,q5⟩:=HO6.o;have q1':=q1;rw[dp]at q1';have hvl:t<vs.length:=by omega
   have hrl:t<(splitP (l.take k) m).length:=by rw[dp];exact hat
   have dv:=q3.cell (k:=t) (List.getElem?_eq_getElem hvl);have fv:=q3.free (k:=t) hvl;have hown:=(q4 t hvl hrl).1;obtain⟨at_,ct,hvt⟩:=ap hown;have t0:=nn_ t;have t1:(t:Int)<(m:Int):=by omega
   rw[hvt]at dv;have HV:=zH hvt;have HQ1:=zH q1;have HQ3:=zH q3;have HQ4:=zH q4;have HQ5:=zH q5;have HOWN:=zH hown;clear hvt q1 q1' q3 q4 q5 hown;obtain⟨R,hR⟩:=ex_ ((splitP (l.take k) m)[t]'hrl);rw[←hR]at dv HV HOWN;rw[HV.o]at HOWN;have HRD:=zH hR
   have HRL:=zH (show R.length≤1000000 by
    rw[hR,g7 _ _ _ hat];refine DG (List.length_filter_le _ _) ?_;rw[DU];omega)
   have hDv:=zH dv;have hFv:=zH fv;clear hR fv;have HRP:=zH (show RP w6 (.slice at_ R.length ct) R from HOWN.o.reads);go_wp2_with (at_builtin;go_must (refine df w6 rfl _ _ 29 rfl Tryz.underlying29 w6.heap.size _ [] rfl (OP.nil _ _) _ R rfl HRP.o (by have:=HRL.o;simp;omega) (DC _) ?_));intro v7 w7 hown7 hB7;obtain⟨a7,c7,rfl⟩:=ap hown7;have HO7:=zH hown7;have HB7:=zH hB7;have hs7:=hB7.size;have HBw7:=zH (show Below w.heap.size w w7 by rw[←HD.o];exact HB6.o.trans (hB7.mono (by omega)));have e1:=C8 HBw7.o HD1.o;have e2:=C8 HBw7.o HD2.o;clear hown7 hB7 dv d1;go_wp2_with (at_builtin;go_must (refine kR w7 p rfl _ _ 29 rfl Tryz.underlying29 w6.heap.size _ R rfl HO7.o _ rfl (by have:=HRL.o;omega) hs7 ?_));intro v8 w8 hown8 hB8;obtain⟨g8,cap8,hv8,hg8⟩:=hown8.some (by simp);rw[DL,Ea]at hv8;subst hv8;have hB68:=HB7.o.trans hB8;have hblk:=hB68.block D (by omega);have dv8:w8.cell? ⟨D,t,none⟩=some (.slice at_ R.length ct):=(World.cell?_of_block (w:=w6) (a:=⟨D,t,none⟩) hblk).trans hDv.o;have fv8:w8.frozen? ⟨D,t,none⟩=false:=(World.frozen?_of_block (w:=w6) (a:=⟨D,t,none⟩) hblk).trans hFv.o;have hown8':OP w8 D (.slice (some ⟨g8,0,none⟩) (R.length+1) cap8) (R++[p]):=OP.mono hown8 (by omega);have hstep:=OR.step (w:=w6) (w1:=w6) (w2:=w8) (bZ:=D) (D:=D) (g:=g8) (cap:=cap8) (k:=t) (rows:=splitP (l.take k) m) (vs:=vs) (p:=p) HQ1.o HQ3.o HQ4.o HQ5.o hrl (dM w6) (by rw[←HRD.o];exact hown8') (fun j hj _=>hB68.block j hj) (.inr hg8) hB68.size;rw[←HRD.o]at hstep
   have hsn:splitP (l.take (k+1)) m=(splitP (l.take k) m).set t (R++[p]):=by
    rw[Dz hkl,←HP.o,lz _ _ _ t HT.o.symm hat,←HRD.o]
   rw[←hsn]at hstep;have HST:=zH hstep
   have HBW:=zH (show Below D w (w8.setCell ⟨D,t,none⟩ (.slice (some ⟨g8,0,none⟩) (R.length+1) cap8)) from
    (HB6.o.trans (hB68.mono (by omega))).setCell (p:=⟨D,t,none⟩) (DC _) _)
   clear hstep hsn hown8 hown8' hB8 hblk hB68 e1 e2;go_wp2;refine⟨?_,by simp[intOf];omega⟩
   first
    | exact⟨k+1,by omega,by go_num,HST.o,HBW.o⟩
    | ((repeat apply Exists.intro);exact⟨⟨k+1,by omega,by go_num,HST.o,HBW.o⟩,rfl⟩)
  ·obtain rfl:k=l.length:=by omega
   have HF:=zH (List.take_length (l:=l));go_wp2;go_ret;refine⟨D,rfl,by have:=HD.o;omega,?_,?_⟩
   ·have:=HO.o
    rw[HF.o]at this;exact this
   ·rw[←HD.o];exact HB4.o
end
