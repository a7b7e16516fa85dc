/- Lemmas for MapperTells: walks, plain laws. -/
import Derived.Test.YtckhfapcmjlmbaaGreatDoorMapperTellsK20
import Derived.Test.YtckhfapcmjlmbaaGreatDoorMapperTellsK27
set_option linter.unusedSimpArgs false
set_option linter.unusedVariables false
set_option maxRecDepth 100000
set_option maxHeartbeats 16000000
namespace Go.Proofs.YtckhfapcmjlmbaaGreatDoor
open Go.RowKit Oct
section
def dD (j:Jb):LU_→LL_→LU_×Nat
 | s,[]=>(s,0)
 | s,v::r=>if (vmV j.jt j.jc 2 [s,v] j.fuel).1≠0 then ([],(vmV j.jt j.jc 2 [s,v] j.fuel).1) else dD j (vmV j.jt j.jc 2 [s,v] j.fuel).2.2 r
def bu (j:Jb)(l:LL_):LU_×Nat:=if bJ j=true∧0<l.length then dD j (l.headD []) l.tail else ([],2)
theorem pt {j:Jb}{s v:LU_}{r:LL_}(h:(vmV j.jt j.jc 2 [s,v] j.fuel).1≠0):dD j s (v::r)=([],(vmV j.jt j.jc 2 [s,v] j.fuel).1):=by rw[dD,if_pos h]
theorem so {j:Jb}{s v:LU_}{r:LL_}(h:(vmV j.jt j.jc 2 [s,v] j.fuel).1=0):dD j s (v::r)=dD j (vmV j.jt j.jc 2 [s,v] j.fuel).2.2 r:=by rw[dD,if_neg (fun q=>q h)]
def dI (j:Jb):List PR→List (List PR)→List PR×LU_×Nat
 | out,[]=>(out,[],0)
 | out,g::gs=>if (bu j (g.map (·.2))).2≠0 then ([],hk1 g,(bu j (g.map (·.2))).2) else dI j (out++[(hk1 g,(bu j (g.map (·.2))).1)]) gs
def cM (j:Jb)(rows:List (List PR)):List PR×LU_×Nat:=if bJ j=true then dI j [] (grp (srt rows.flatten)) else ([],[],2)
theorem wi {j:Jb}{out:List PR}{g:List PR}{gs:List (List PR)}(h:(bu j (g.map (·.2))).2≠0):dI j out (g::gs)=([],hk1 g,(bu j (g.map (·.2))).2):=by rw[dI,if_pos h]
theorem yp {j:Jb}{out:List PR}{g:List PR}{gs:List (List PR)}(h:(bu j (g.map (·.2))).2=0):dI j out (g::gs)=dI j (out++[(hk1 g,(bu j (g.map (·.2))).1)]) gs:=by rw[dI,if_neg (fun q=>q h)]
def ofR (rows:List (List PR))(k:LU_):LL_:=(cB k rows.flatten).map (·.2)
def eJ (j:Jb)(rows:List (List PR)):List PR→LL_→List PR×LU_×Nat
 | out,[]=>(out,[],0)
 | out,k::ks=>if (bu j (ofR rows k)).2≠0 then ([],k,(bu j (ofR rows k)).2) else eJ j rows (out++[(k,(bu j (ofR rows k)).1)]) ks
theorem xl {j:Jb}{rows:List (List PR)}{out:List PR}{k:LU_}{ks:LL_}(h:(bu j (ofR rows k)).2≠0):eJ j rows out (k::ks)=([],k,(bu j (ofR rows k)).2):=by rw[eJ,if_pos h]
theorem zm {j:Jb}{rows:List (List PR)}{out:List PR}{k:LU_}{ks:LL_}(h:(bu j (ofR rows k)).2=0):eJ j rows out (k::ks)=eJ j rows (out++[(k,(bu j (ofR rows k)).1)]) ks:=by rw[eJ,if_neg (fun q=>q h)]
theorem kI (j:Jb)(rows:List (List PR)):∀ (gs:List (List PR)) (out:List PR),(∀ g∈gs,g=cB (hk1 g) rows.flatten)→eJ j rows out (gs.map hk1)=dI j out gs
 | [],out,_=>rfl
 | g::gs,out,h=>by
  have hg:ofR rows (hk1 g)=g.map (·.2):=by unfold ofR;rw[←h g (D2 ..)]
  rw[List.map_cons,eJ,dI,hg]
  split
  ·rfl
  ·exact kI j rows gs _ (fun x hx=>h x (D4 _ hx))
theorem ue (j:Jb)(rows:List (List PR)):eJ j rows [] ((grp (srt rows.flatten)).map hk1)=dI j [] (grp (srt rows.flatten)):=by
 refine kI j rows _ _ (fun g hg=>?_);have h:=((iY (srt rows.flatten).length (srt rows.flatten) (DC _) (dT _)).1 g hg).1;rw[pg]at h;exact h
end
section
attribute [local irreducible] wpG
theorem ur {j:Jb}{x:LU_}{r:LL_}(h:bJ j=true):bu j (x::r)=dD j x r:=if_pos ⟨h,Nat.succ_pos _⟩
theorem FV {T:Prop} (h:T:=by
 go_wp2_with (go_at_call 16;refine(HMAY.o _ HB1.o).mono ?_;rintro e w2 ⟨rfl,hB2⟩;have HB2:=zH (bt HB1.o hB2);clear hB2);go_ret2;rw[HR.o];exact⟨rfl,HB2.o⟩
):T:=h
theorem om (t1 c1 t2 c2 t3 c3 v:Value)(j:Jb)(l:LL_)(w:World)(h:dH w t1 c1 t2 c2 t3 c3 j)(hv:aK.Row w v l)(hl:l.length≤140737488355328)(hb:∀ s∈l,s.length≤140737488355328):Calls Tryz.prog 114 #[bM t1 c1 t2 c2 t3 c3 j,v] w fun e w'=>e=.returned (.tuple #[.string (bs (bu j l).1),.int .i64 ((bu j l).2:Int)])∧Bw_ w w':=by
 have HMAY:=zH (fun w' (hB:Below w.heap.size w w')=>ie t1 c1 t2 c2 t3 c3 j w' (h.below hB));have HJO:=zH (fun (s u:LU_) (h1:s.length≤140737488355328) (h2:u.length≤140737488355328) w' (hB:Below w.heap.size w w')=>ry t1 c1 t2 c2 t3 c3 j s u w' (h.below hB) h1 h2);obtain⟨ta,tc,ca,cc,ta2,tc2,ca2,cc2,ta3,tc3,ca3,cc3,rfl,rfl,rfl,rfl,rfl,rfl⟩:=jo_ h.a.t h.a.c h.b.t h.b.c h.c.t h.c.c;obtain⟨av,cv,rfl,_,hc⟩:=an hv;unfold bM at HMAY HJO⊢;have HCC:=zH hc;have HBB:=zH hb;obtain⟨W1,hW1⟩:=ex_ (w.alloc (.cells #[.slice ta j.mt.length tc,.slice ca j.mc.length cc,.slice ta2 j.jt.length tc2,.slice ca2 j.jc.length cc2,.slice ta3 j.tt.length tc3,.slice ca3 j.tc.length cc3,.int .i64 j.parts,.int .i64 j.fuel] 27));have hb1:=ba_ hW1;obtain⟨J,hJ⟩:=ex_ w.heap.size;have hx:=bn_ hJ hW1;obtain⟨x0,x1,x2,x3,x4,x5,x6,x7⟩:=cl8 hx;have HB1:=zH hb1;have HX:=zH hx;go_enter Tryz.func114,Tryz.ntmps114;go_upto_region 1 with fail;rw[←hW1,←hJ];clear hW1 hJ hb1 hx h hv hc hb
 by_cases hm:bJ j=true
 ·rw[hm]at HMAY
  cases l with
  | nil =>
   have HR:=zH (show bu j []=([],2) from if_neg (fun q=>absurd q.2 (Nat.lt_irrefl 0)));clear hm;exact FV
  | cons p0 r =>
   have HR:=zH (ur (x:=p0) (r:=r) hm);clear hm;obtain⟨L,hL⟩:=ex_ (p0::r);have HLD:=zH (show L.drop 1=r by rw[hL];rfl);have hln:1≤L.length:=by rw[hL];simp
   obtain⟨b0,o0,hav,d0⟩:=HCC.o 0 (by simp);subst hav;have HD0:=zH (show w.cell? ⟨b0,o0,none⟩=some (.string (bs p0)) from d0);have HP0:=zH (HBB.o p0 (D2 ..));clear d0;rw[←hL]at HCC HBB hl;rw[←hL];have z0:(0:Int)<(L.length:Int):=by omega
   have z1:((L.length:Int)==0)=false:=by rw[beq_eq_false_iff_ne];omega
   clear hL;go_upto_region 4 with(go_at_call 16;refine(HMAY.o _ HB1.o).mono ?_;rintro e w2 ⟨rfl,hB2⟩;have HX2:=zH (HX.o.below hB2);have d1:=C8 (bt HB1.o hB2) HD0.o;have HB2:=zH (bt HB1.o hB2);clear hB2 x0 x1 x2 x3 x4 x5 x6 x7);clear d1;go_wp2_with fail
   go_loopw [6,7] (fun a b wr=>∃ (k:Nat) (s:LU_),1≤k∧k≤L.length∧a=.string (bs s)∧b=.int .i64 k∧Hid (dD j s (L.drop k)=dD j p0 r)∧Hid (s.length≤140737488355328)∧Hid (Below w2.heap.size w2 wr)) (fun _ b _=>L.length-(intOf b).toNat)
   case atStart=>exact⟨1,p0,by omega,hln,rfl,rfl,(by show dD j p0 (L.drop 1)=dD j p0 r;rw[HLD.o]),HP0.o,DF _ _⟩
   case round =>
    obtain⟨k,s,hk1,hk,rfl,rfl,HFV,HSL,HBR⟩:=hrel
    by_cases h0:k<L.length
    ·obtain⟨b,off,hA,e1⟩:=HCC.o k h0
     cases hA
     have hbl:=HBB.o _ (DY h0);have hdr:L.drop k=L[k]::L.drop (k+1):=Dw h0;obtain⟨v,hve⟩:=ex_ (L[k]);rw[←hve]at e1 hbl hdr;have HD:=zH hdr;have hBw:=bt HB2.o HBR.o;replace e1:=C8 hBw e1;have hxx:=HX2.o.below HBR.o;have HG:=zH (HJO.o s v HSL.o hbl wr.drew (bt hBw (b_drew _)));have hrl:=qB j.jt j.jc 2 [s,v] j.fuel;have i0:=nn_ k;have i1:(k:Int)<(L.length:Int):=by omega
     obtain⟨R,hR⟩:=ex_ (vmV j.jt j.jc 2 [s,v] j.fuel);rw[←hR]at HG hrl;have HR2:=zH hR;have HRL:=zH hrl;have HHH:=zH h0;have HK1:=zH hk1;obtain⟨x0,x1,x2,x3,x4,x5,x6,x7⟩:=cl8 hxx;clear hR hdr hve hBw hbl hrl h0 hxx hk1
     by_cases hz:R.1=0
     ·have t1:((R.1:Int) != 0)=false:=by rw[hz];rfl
      have HQ:=zH (show dD j s (v::L.drop (k+1))=dD j R.2.2 (L.drop (k+1)) by rw[HR2.o];exact so (by rw[←HR2.o];exact hz));clear hz;go_wp2_with fail;go_region_law (refine aL rfl 160 #[.agg #[.slice ta j.mt.length tc,.slice ca j.mc.length cc,.slice ta2 j.jt.length tc2,.slice ca2 j.jc.length cc2,.slice ta3 j.tt.length tc3,.slice ca3 j.tc.length cc3,.int .i64 j.parts,.int .i64 j.fuel],.string (bs s),.string (bs v)] (by go_simp) HG.o ?_;rintro e w7 ⟨rfl,hB7⟩;have HB7:=zH (bt HBR.o (bt (b_drew wr) hB7));clear hB7)
      all_goals
       go_wp2_with fail;go_roundw
       case rel=>exact⟨k+1,R.2.2,by omega,HHH.o,rfl,by go_num,by rw[←HQ.o,←HD.o];exact HFV.o,DG HRL.o (by decide),HB7.o⟩
       case measure=>have:=HHH.o;simp[intOf];omega
     ·have t1:((R.1:Int) != 0)=true:=by rw[bne_iff_ne];omega
      have HQ:=zH (show dD j s (v::L.drop (k+1))=([],R.1) by rw[HR2.o];exact pt (by rw[←HR2.o];exact hz));clear hz;go_wp2_with fail;go_region_law (refine aL rfl 160 #[.agg #[.slice ta j.mt.length tc,.slice ca j.mc.length cc,.slice ta2 j.jt.length tc2,.slice ca2 j.jc.length cc2,.slice ta3 j.tt.length tc3,.slice ca3 j.tc.length cc3,.int .i64 j.parts,.int .i64 j.fuel],.string (bs s),.string (bs v)] (by go_simp) HG.o ?_;rintro e w7 ⟨rfl,hB7⟩;have HB7:=zH (bt HBR.o (bt (b_drew wr) hB7));clear hB7)
      all_goals
       go_wp2_with fail;go_ret2;rw[HR.o,←HFV.o,HD.o,HQ.o];exact⟨rfl,bt HB2.o HB7.o⟩
    ·have i1:¬(k:Int)<(L.length:Int):=by omega
     have HE:=zH (show dD j p0 r=(s,0) by rw[←HFV.o,Ef (by omega)];rfl);clear h0;go_wp2_with fail;go_ret2;rw[HR.o,HE.o];exact⟨rfl,bt HB2.o HBR.o⟩
 ·have hno:bJ j=false:=by cases q:bJ j with
   | false=>rfl
   | true=>exact absurd q hm
  rw[hno]at HMAY;have HR:=zH (show bu j l=([],2) from if_neg (fun q=>hm q.1));clear hm hno;exact FV
def cz (key:LU_)(l:List PR):LL_:=(cB key l).map (·.2)
theorem oH (key:LU_)(a b:List PR):cz key (a++b)=cz key a++cz key b:=by unfold cz;rw[fC,DJ]
theorem oG (key:LU_)(l:List PR):(cz key l).length≤l.length:=by unfold cz cB;rw[Ed];exact List.length_filter_le _ _
theorem vR (key:LU_)(p:PR):cz key [p]=if p.1=key then [p.2] else []:=by
 unfold cz cB
 by_cases h:p.1=key
 ·rw[if_pos h];simp[h]
 ·rw[if_neg h];simp[h]
theorem Ba {α:Type}(l:List α)(k:Nat)(h:k<l.length):l.take (k+1)=l.take k++[l[k]]:=Dz h
theorem bdF (key:LU_)(rows:List (List PR))(i:Nat)(h:i<rows.length)(hf:rows.flatten.length≤1000000):(cz key (rows.take i).flatten).length+rows[i].length≤1000000:=by
 have h1:=oG key (rows.take i).flatten;have h2:=qk rows (i+1);rw[jp rows i h,DL]at h2;omega
theorem wJ (v:Value)(key:LU_)(rows:List (List PR))(w:World)(hr:RR w v rows)(hl:rows.length≤140737488355328)(hf:rows.flatten.length≤1000000)(hm:∀ r∈rows,r.length≤1000000):Calls Tryz.prog 115 #[v,.string (bs key)] w fun e w'=>(∃ u,e=.returned u∧aK.Own w' w.heap.size u (cz key rows.flatten))∧Bw_ w w':=by
 obtain⟨a,cap,rfl,_,_,hc⟩:=hr;have HC:=zH hc;have HM:=zH hm;have HF:=zH hf;clear hc hm hf;go_enter Tryz.func115,Tryz.ntmps115;go_wp2
 go_loopw [5,6] (fun u t wr=>∃ i:Nat,i≤rows.length∧t=.int .i64 (i:Int)∧Hid (aK.Own wr w.heap.size u (cz key (rows.take i).flatten))∧Hid (Below w.heap.size w wr)) (fun _ t _=>rows.length-(intOf t).toNat)
 case atStart=>exact⟨0,by omega,rfl,Rec.Own.nil _ _,DF _ _⟩
 case round =>
  obtain⟨i,hi,rfl,HO,HB⟩:=hrel;obtain⟨ao,co,rfl⟩:=ap HO.o
  by_cases h0:i<rows.length
  ·obtain⟨b1,o1,u,rfl,d1,hru⟩:=HC.o i h0
   obtain⟨a2,c2,rfl,-,hc2⟩:=hru.open;have HC2:=zH hc2;have HD:=zH d1;have hrl:=HM.o rows[i] (DY h0);have hbd:=bdF key rows i h0 HF.o;have HT:=zH (show cz key (rows.take (i+1)).flatten=cz key (rows.take i).flatten++cz key rows[i] by rw[jp rows i h0,oH]);obtain⟨r,hr⟩:=ex_ (rows[i]);rw[←hr]at HC2 HD hrl hbd HT;obtain⟨O,hO⟩:=ex_ (cz key (rows.take i).flatten);rw[←hO]at HO hbd HT;have hOE:=congrArg List.length hO;obtain⟨Wr,hWr⟩:=ex_ wr;subst hWr;have kk0:=nn_ i;have kk1:(i:Int)<(rows.length:Int):=by omega
   have HI:=zH h0;have HBD:=zH hbd;rw[←hOE];clear hc2 hr d1 hO hOE h0 hbd hru;go_wp2
   go_loopw [5,7] (fun u t wx=>∃ (k:Nat) (I:LL_),k≤r.length∧I.length≤k∧t=.int .i64 (k:Int)∧Hid (aK.Own wx w.heap.size u (O++I))∧Hid (I=cz key (r.take k))∧Hid (Below w.heap.size w wx)) (fun _ t _=>r.length-(intOf t).toNat)
   case atStart=>exact⟨0,[],by omega,DC _,rfl,by rw[DR];exact HO.o,rfl,HB.o⟩
   case round =>
    obtain⟨k,I,hk,hIl,rfl,HOI,HIE,HB2⟩:=hrel;obtain⟨ai,ci,rfl⟩:=ap HOI.o;have dd:=C8 HB2.o HD.o;have jj0:=nn_ k
    by_cases h3:k<r.length
    ·obtain⟨b3,o3,rfl,e1,e2⟩:=HC2.o k h3
     have HTK:=zH (show cz key (r.take (k+1))=cz key (r.take k)++(if r[k].1=key then [r[k].2] else []) by rw[Ba r k h3,oH,vR]);obtain⟨p,hp⟩:=ex_ (r[k]);rw[←hp]at e1 e2 HTK;replace e1:=C8 HB2.o e1;replace e2:=C8 HB2.o e2;have jj1:(k:Int)<(r.length:Int):=by omega
     have HBY:=zH (show((O++I).length+1)*16≤140737488355328 by rw[DL];have:=HBD.o;omega);have H3:=zH h3;have hIl2:=hIl;clear hp h3
     by_cases he:p.1=key
     ·have t1:(p.1==key)=true:=by simp[he]
      rw[if_pos he]at HTK;clear he;go_wp2_with (at_builtin;go_must (refine aK.append1 wr p.2 rfl _ _ 22 rfl Tryz.underlying22 w.heap.size _ (O++I) HOI.o rfl _ rfl _ rfl _ rfl HBY.o HB2.o.size ?_);intro g cap w8 hown8 hB8;have HO8:=zH hown8;have HB8:=zH hB8;clear hown8 hB8);go_roundw
      case rel=>exact⟨k+1,I++[p.2],H3.o,by rw[DL];simp;omega,by go_num,by have q:=HO8.o;rw[DL,DK]at q;exact q,(show I++[p.2]=cz key (r.take (k+1)) by rw[HTK.o,←HIE.o]),HB2.o.trans HB8.o⟩
      case measure=>have:=H3.o;simp[intOf];omega
     ·have t1:(p.1==key)=false:=by simp[he]
      rw[if_neg he,DR]at HTK;clear he;go_wp2_with fail;go_roundw
      case rel=>exact⟨k+1,I,H3.o,by omega,by go_num,HOI.o,(show I=cz key (r.take (k+1)) by rw[HTK.o];exact HIE.o),HB2.o⟩
      case measure=>have:=H3.o;simp[intOf];omega
    ·have jj1:¬(k:Int)<(r.length:Int):=by omega
     have HEI:=zH (show I=cz key r by rw[HIE.o,DB (by omega)]);clear h3;go_wp2_with fail;go_roundw
     case rel=>exact⟨i+1,HI.o,by go_num,by rw[HT.o,←HEI.o];exact HOI.o,HB2.o⟩
     case measure=>have:=HI.o;simp[intOf];omega
  ·have kk1:¬(i:Int)<(rows.length:Int):=by omega
   have HE:=zH (show cz key (rows.take i).flatten=cz key rows.flatten by rw[DB (by omega)]);clear h0;go_wp2_with fail;go_ret;exact⟨⟨_,rfl,by rw[←HE.o];exact HO.o⟩,HB.o⟩

theorem vS {key:LU_}{l:List PR}(hm:∀ p∈l,p.2.length≤140737488355328):∀ s∈cz key l,s.length≤140737488355328:=by
 intro s hs;obtain⟨p,hp,rfl⟩:=List.mem_map.1 hs;exact hm p (List.mem_filter.1 hp).1
theorem CI {a b:Nat}(h:a≤b)(hb:b≤1000000):(a+1)*32≤140737488355328:=by omega
theorem zx (l:List PR):((grp (srt l)).map hk1).length≤l.length:=by
 rw[Ed];have h1:=cL (srt l).length (srt l) (DC _);rw[bK]at h1;exact h1
theorem rt (t1 c1 t2 c2 t3 c3 v:Value)(j:Jb)(rows:List (List PR))(w:World)(h:dH w t1 c1 t2 c2 t3 c3 j)(hr:RR w v rows)(hl:rows.length≤1000000)(hf:rows.flatten.length≤1000000)(hm:∀ r∈rows,r.length≤1000000)(hp:∀ p∈rows.flatten,p.2.length≤140737488355328):Calls Tryz.prog 72 #[bM t1 c1 t2 c2 t3 c3 j,v] w fun e w'=>(∃ pv,e=.returned (.tuple #[pv,.string (bs (cM j rows).2.1),.int .i64 ((cM j rows).2.2:Int)])∧recKv.Own w' w.heap.size pv (cM j rows).1)∧Bw_ w w':=by
 have HMAY:=zH (fun w' (hB:Below w.heap.size w w')=>ie t1 c1 t2 c2 t3 c3 j w' (h.below hB));have HVA:=zH (fun (u:Value) (l:LL_) w' (hB:Below w.heap.size w w') hv h1 h2=>om t1 c1 t2 c2 t3 c3 u j l w' (h.below hB) hv h1 h2);have HOF:=zH (fun (k:LU_) w' (hB:Below w.heap.size w w')=>wJ v k rows w' (hr.below hB) (DG hl (by decide)) hf hm);obtain⟨ta,tc,ca,cc,ta2,tc2,ca2,cc2,ta3,tc3,ca3,cc3,rfl,rfl,rfl,rfl,rfl,rfl⟩:=jo_ h.a.t h.a.c h.b.t h.b.c h.c.t h.c.c;obtain⟨av,cv,rfl,_,_,hc⟩:=hr;unfold bM at HMAY HVA⊢;have HCC:=zH hc;have HF:=zH hf;have HP:=zH hp;have HM:=zH hm;obtain⟨W1,hW1⟩:=ex_ (w.alloc (.cells #[.slice ta j.mt.length tc,.slice ca j.mc.length cc,.slice ta2 j.jt.length tc2,.slice ca2 j.jc.length cc2,.slice ta3 j.tt.length tc3,.slice ca3 j.tc.length cc3,.int .i64 j.parts,.int .i64 j.fuel] 27));have hb1:=ba_ hW1;obtain⟨J,hJ⟩:=ex_ w.heap.size;have hx:=bn_ hJ hW1;obtain⟨x0,x1,x2,x3,x4,x5,x6,x7⟩:=cl8 hx;have HB1:=zH hb1;have HX:=zH hx;go_enter Tryz.func72,Tryz.ntmps72;go_upto_region 1 with fail;rw[←hW1,←hJ];clear hW1 hJ hb1 hx h hc hf hp hm
 by_cases hmy:bJ j=true
 ·rw[hmy]at HMAY
  have HR:=zH (show cM j rows=eJ j rows [] ((grp (srt rows.flatten)).map hk1) from(if_pos hmy).trans (ue j rows).symm);clear hmy;go_upto_region 5 with(go_at_call 16;refine(HMAY.o _ HB1.o).mono ?_;rintro e w2 ⟨rfl,hB2⟩;have HX2:=zH (HX.o.below hB2);have HB2:=zH (bt HB1.o hB2);clear hB2 x0 x1 x2 x3 x4 x5 x6 x7)
  go_loopw [7,8] (fun u t wr=>∃ i:Nat,i≤rows.length∧t=.int .i64 (i:Int)∧Hid (OP wr w2.heap.size u (rows.take i).flatten)∧Hid (Below w2.heap.size w2 wr)) (fun _ t _=>rows.length-(intOf t).toNat)
  case atStart=>exact⟨0,by omega,rfl,OP.nil _ _,DF _ _⟩
  case round =>
   obtain⟨i,hi,rfl,HO,HB⟩:=hrel;obtain⟨ao,co,rfl⟩:=ap HO.o
   by_cases h0:i<rows.length
   ·obtain⟨b1,o1,u,rfl,d1,hru⟩:=HCC.o i h0
    have hfl:=qk rows (i+1);have hft:=jp rows i h0;have hru2:=hru.below (bt HB2.o HB.o);obtain⟨a2,c2,rfl,-,-⟩:=hru.open;have d2:=C8 (bt HB2.o HB.o) d1;have HU:=zH hru2;have kk0:=nn_ i;have kk1:(i:Int)<(rows.length:Int):=by omega
    rw[hft,DL]at hfl;have HBY:=zH (show((rows.take i).flatten.length+rows[i].length)*32≤140737488355328 by have:=HF.o;omega);have HFT:=zH hft;have HI:=zH h0;obtain⟨O,hO⟩:=ex_ ((rows.take i).flatten);rw[←hO]at HO HBY HFT;obtain⟨r,hr⟩:=ex_ (rows[i]'h0);rw[←hr]at HBY;rw[←hr]at HFT;rw[←hr]at d2;rw[←hr]at HU;have hOE:=congrArg List.length hO;have hrE:=congrArg List.length hr;rw[←hOE];clear hfl hft hru hru2 d1 hO hr hOE hrE h0;go_wp2_with (at_builtin;go_must (refine df wr rfl _ _ 29 rfl Tryz.underlying29 w2.heap.size _ O rfl HO.o _ r rfl HU.o HBY.o HB.o.size ?_);intro v8 w8 hown8 hB8;have HO8:=zH hown8;have HB8:=zH hB8;clear hown8 hB8);go_roundw
    case rel=>exact⟨i+1,HI.o,by go_num,by rw[HFT.o];exact HO8.o,HB.o.trans HB8.o⟩
    case measure=>have:=HI.o;simp[intOf];omega
   ·have kk1:¬(i:Int)<(rows.length:Int):=by omega
    have HE:=zH (show(rows.take i).flatten=rows.flatten by rw[DB (by omega)]);rw[HE.o]at HO;obtain⟨ALL,hALL⟩:=ex_ rows.flatten;have HAE:=zH hALL;rw[HE.o,←hALL];rw[←hALL]at HO HR;have hal:ALL.length≤1000000:=by rw[hALL];exact HF.o
    have HK:=zH (wK _ ALL wr (OP.reads HO.o) hal);obtain⟨KS,hKS⟩:=ex_ ((grp (srt ALL)).map hk1);have hkl:KS.length≤1000000:=by rw[hKS];exact DG (zx ALL) hal
    rw[←hKS]at HK HR;clear hALL h0 hKS;go_upto_region 11 with(go_at_call 113;refine HK.o.mono ?_;rintro e w3 ⟨⟨ku,rfl,hown3⟩,hB3⟩;obtain⟨ka,kc,rfl⟩:=ap hown3;have HK3:=zH hown3;have HB3:=zH (bt HB.o hB3);clear hown3 hB3);have HKO:=zH (show aK.Own w3 wr.heap.size (.slice ka KS.length kc) KS by unfold Rec.Own;rw[lF];exact HK3.o);obtain⟨_,_,hkv,_,hkc⟩:=an HKO.o.row;injection hkv with q1 _ q3
    subst q1 q3;have HKC:=zH hkc;have HX3:=zH (HX2.o.below HB3.o);have HBW:=zH (bt HB2.o HB3.o);clear hkc HK3 HO hal HK
    go_loopw [10,11] (fun u t wx=>∃ (k:Nat) (out:List PR),k≤KS.length∧out.length≤k∧t=.int .i64 (k:Int)∧Hid (recKv.Own wx w3.heap.size u out)∧Hid (eJ j rows out (KS.drop k)=eJ j rows [] KS)∧Hid (Below w3.heap.size w3 wx)) (fun _ t _=>KS.length-(intOf t).toNat)
    case atStart=>exact⟨0,[],by omega,DC _,rfl,Rec.Own.nil _ _,rfl,DF _ _⟩
    case round =>
     obtain⟨k,out,hk,hol,rfl,HO,HKV,HB4⟩:=hrel;obtain⟨ao,co,rfl⟩:=ap HO.o
     by_cases h0:k<KS.length
     ·obtain⟨kb,ko,hA,e1⟩:=HKC.o k h0
      subst hA;have hdr:KS.drop k=KS[k]::KS.drop (k+1):=Dw h0;obtain⟨key,hke⟩:=ex_ (KS[k]'h0);rw[←hke]at e1;rw[←hke]at hdr;have HD:=zH hdr;have e1':=C8 HB4.o e1;have hx4:=HX3.o.below HB4.o;have HX4:=zH hx4;have hbw:=bt HBW.o HB4.o;have HBX:=zH hbw;have hvl:(cz key ALL).length≤1000000:=DG (oG key ALL) (by rw[HAE.o];exact HF.o);have HVL:=zH hvl
      have HOK:=zH (fun w' (hB:Below w.heap.size w w')=>show Calls Tryz.prog 115 _ w' fun e w''=>(∃ u,e=.returned u∧aK.Own w'' w'.heap.size u (cz key ALL))∧Below w'.heap.size w' w'' by
       have q:=HOF.o key w' hB;rw[←HAE.o]at q;exact q)
      have HVK:=zH (fun (u:Value) w' (hB:Below w.heap.size w w') hv=>HVA.o u (cz key ALL) w' hB hv (DG HVL.o (by decide)) (vS (by rw[HAE.o];exact HP.o)));have HRK:=zH (show ofR rows key=cz key ALL by rw[HAE.o];rfl);obtain⟨VL,hVL⟩:=ex_ (cz key ALL);obtain⟨R,hR⟩:=ex_ (bu j VL);rw[←hVL]at HOK HVK HRK;rw[←hR]at HVK;have HR2:=zH hR;have i0:=nn_ k;have i1:(k:Int)<(KS.length:Int):=by omega
      have HHH:=zH h0;have HBY:=zH (CI hol (DG hk hkl));clear hdr hke e1 hbw hvl hVL hR h0 hx4;go_upto_region 13 with fail;refine rk_ [(0,.exact _ (.agg #[.slice ta j.mt.length tc,.slice ca j.mc.length cc,.slice ta2 j.jt.length tc2,.slice ca2 j.jc.length cc2,.slice ta3 j.tt.length tc3,.slice ca3 j.tc.length cc3,.int .i64 j.parts,.int .i64 j.fuel])),(5,.exact _ (.string (bs key))),(6,rY aK 0 VL),(7,.exact _ (.tuple #[.string (bs R.1),.int .i64 (R.2:Int)]))] ?_;refine cG ?_;refine gE_ (fun w' G hB hS hG=>?_) (fun K hK=>?_)
      ·have hx:=HX4.o.below hB
       obtain⟨y0,y1,y2,y3,y4,y5,y6,y7⟩:=cl8 hx;go_simp;exact hG _ (Bel.refl _)
      refine cO ?_;clear hK K;refine gE_ (fun w' G hB hS hG=>?_) (fun K hK=>?_)
      ·have y:=C8 hB e1'
       go_simp;exact hG _ (Bel.refl _)
      refine cO ?_;clear hK K;refine gk_ (rY aK 0 VL) (fun w' G hB hS hG=>?_) (fun x K hK=>?_)
      ·go_simp
       refine(HOK.o w' (bt HBX.o hB)).mono ?_;rintro e w'' ⟨⟨u,rfl,ho⟩,hB2⟩;obtain⟨ua,uc,rfl⟩:=ap ho;exact⟨_,rfl,hG (ua,uc) w'' hB2 (fun φ h=>by cases h;exact ho.mono (D6 _))⟩
      obtain⟨ad,c⟩:=x;refine cO ?_;clear hK K;refine gE_ (fun w' G hB hS hG=>?_) (fun K hK=>?_)
      ·have hown0:aK.Own w' 0 (.slice ad VL.length c) VL:=at0 hS (by kernel_rfl)
       have hu:=HVK.o _ w' (bt HBX.o hB) hown0.row;go_simp;exact aO hG hu
      refine cO ?_;clear hK K;refine dm ?_;intro w7 hB7 hA7;have HB7:=zH (bt HB4.o hB7);have HO7:=zH (HO.o.below hB7);have HS7:=zH (show w3.heap.size≤w7.heap.size from DG HB4.o.size hB7.size);have e7:=C8 hB7 e1';clear hA7 hB7 e1'
      by_cases hz:R.2=0
      ·have t1:((R.2:Int) != 0)=false:=by rw[hz];rfl
       have HQ:=zH (show eJ j rows out (key::KS.drop (k+1))=eJ j rows (out++[(key,R.1)]) (KS.drop (k+1)) by rw[HR2.o,←HRK.o];exact zm (by rw[HRK.o,←HR2.o];exact hz));clear hz;go_wp2_with (at_builtin;go_must (refine recKv.append1 w7 (key,R.1) rfl _ _ 29 rfl Tryz.underlying29 w3.heap.size _ out HO7.o rfl _ rfl _ rfl _ rfl HBY.o HS7.o ?_);intro g cap w8 hown8 hB8;have HO8:=zH hown8;have HB8:=zH hB8;clear hown8 hB8);go_roundw
       case rel=>exact⟨_,_,_,_,_,⟨k+1,HHH.o,out++[(key,R.1)],by rw[DL];simp;omega,by go_num,by first|exact HO8.o|(rw[DL];exact HO8.o),(show eJ j rows (out++[(key,R.1)]) (KS.drop (k+1))=eJ j rows [] KS by rw[←HQ.o,←HD.o];exact HKV.o),HB7.o.trans HB8.o⟩,rfl,rfl,rfl,rfl,rfl⟩
       case measure=>have:=HHH.o;simp[intOf];omega
      ·have t1:((R.2:Int) != 0)=true:=by rw[bne_iff_ne];omega
       have HQ:=zH (show eJ j rows out (key::KS.drop (k+1))=([],key,R.2) by rw[HR2.o,←HRK.o];exact xl (by rw[HRK.o,←HR2.o];exact hz));clear hz;go_wp2_with fail;go_quiet (fail);go_wp2_with fail;go_ret3;rw[HR.o,←HKV.o,HD.o,HQ.o];exact⟨⟨_,rfl,Rec.Own.nil _ _⟩,bt HBW.o (bt HB7.o (C9 _ _))⟩
     ·have i1:¬(k:Int)<(KS.length:Int):=by omega
      have HE:=zH (show eJ j rows [] KS=(out,[],0) by rw[←HKV.o,Ef (by omega)];rfl);clear h0;go_wp2_with fail;go_ret3;rw[HR.o,HE.o];exact⟨⟨_,rfl,HO.o.mono HBW.o.size⟩,bt HBW.o HB4.o⟩
 ·have hno:bJ j=false:=by cases q:bJ j with
   | false=>rfl
   | true=>exact absurd q hmy
  rw[hno]at HMAY;have HR:=zH (show cM j rows=([],[],2) from if_neg hmy);clear hmy hno;go_wp2_with (go_at_call 16;refine(HMAY.o _ HB1.o).mono ?_;rintro e w2 ⟨rfl,hB2⟩;have HB2:=zH (bt HB1.o hB2);clear hB2);go_ret3;rw[HR.o];exact⟨⟨_,rfl,Rec.Own.nil _ _⟩,HB2.o⟩
end
section
attribute [local go_sem] Oper.semAt_some
def kh (U:World)(Q:Nat):Option Nat:=(U.cell? ⟨Q,0,none⟩).bind Value.ownBlock
def YrF (Q D:Nat)(U U':World):Prop:=U.heap.size≤U'.heap.size∧(∀ k,k<U.heap.size→k≠Q→k≠D→k≠D+1→kh U Q≠some k→U'.heap[k]?=U.heap[k]?)∧∀ k,kh U' Q=some k→kh U Q=some k∨U.heap.size≤k
theorem kX {Q:Nat}{U U':World}(h:U'.heap[Q]?=U.heap[Q]?):kh U' Q=kh U Q:=by unfold kh;rw[World.cell?_of_block (w:=U) (a:=⟨Q,0,none⟩) h]
theorem YrF.comp {Q D:Nat}(hQ:Q<D)(a b c d:World)(hs:Q<a.heap.size)(h1:Chg (fun k=>k=D∨k=D+1) a b)(h:YrF Q D b c)(h2:Chg (fun k=>k=D∨k=D+1) c d):YrF Q D a d:=by
 have e1:kh b Q=kh a Q:=kX (h1.block Q hs (by omega));have s1:=h1.size;have s2:=h.1;have s3:=h2.size;have e2:kh d Q=kh c Q:=kX (h2.block Q (by omega) (by omega));refine⟨by omega,fun k hk k1 k2 k3 k4=>?_,fun k hk=>?_⟩
 ·exact((h2.block k (by omega) (by omega)).trans (h.2.1 k (by omega) k1 k2 k3 (by rw[e1];exact k4))).trans (h1.block k hk (by omega))
 ·rw[e2]at hk
  rcases h.2.2 k hk with q|q
  ·exact .inl (by rw[←e1];exact q)
  ·exact .inr (by omega)
def ElF (D:Nat)(x:List PR)(vs:Array Value)(U:World):Prop:=∃ A C,vs=#[.string (bs (hk1 x)),.slice A x.length C]∧aK.Own U (D+2) (.slice A x.length C) (x.map (·.2))
def IvF (Q D:Nat)(W0 U:World):Prop:=W0.heap.size≤U.heap.size∧(∀ k,k<W0.heap.size→k≠Q→k≠D→k≠D+1→U.heap[k]?=W0.heap[k]?)∧∀ k,kh U Q=some k→W0.heap.size≤k
theorem IvF.below {Q D:Nat}{W0 U U':World}(hQ:Q<W0.heap.size)(h:IvF Q D W0 U)(hB:Below U.heap.size U U'):IvF Q D W0 U':=by
 have s0:=h.1;have s1:=hB.size;refine⟨by omega,fun k hk k1 k2 k3=>(hB.block k (by omega)).trans (h.2.1 k hk k1 k2 k3),fun k hk=>h.2.2 k ?_⟩;rw[←kX (hB.block Q (by omega))];exact hk
theorem IvF.yr {Q D:Nat}{W0 U U':World}(h:IvF Q D W0 U)(hY:YrF Q D U U'):IvF Q D W0 U':=by
 have s0:=h.1;have s1:=hY.1;refine⟨by omega,fun k hk k1 k2 k3=>(hY.2.1 k (by omega) k1 k2 k3 (fun q=>by have:=h.2.2 k q;omega)).trans (h.2.1 k hk k1 k2 k3),fun k hk=>?_⟩;rcases hY.2.2 k hk with q|q
 ·exact h.2.2 k q
 ·omega
theorem IvF.cell {Q D:Nat}{W0 U:World}(h:IvF Q D W0 U)(hQ:∀ o u,W0.cell? ⟨Q,o,none⟩=some u→u=.slice none 0 0)(hD:∀ o,W0.cell? ⟨D,o,none⟩=none)(hD1:∀ o,W0.cell? ⟨D+1,o,none⟩=none){b o:Nat}{u:Value}(hu:W0.cell? ⟨b,o,none⟩=some u)(hne:u≠.slice none 0 0):U.cell? ⟨b,o,none⟩=some u:=by
 rw[World.cell?_of_block (w:=W0) (a:=⟨b,o,none⟩) (h.2.1 b (aD hu) (fun q=>hne (hQ o u (by rw[←q];exact hu))) (fun q=>by subst q;rw[hD]at hu;cases hu) (fun q=>by subst q;rw[hD1]at hu;cases hu))];exact hu
theorem nO {b:Nat}{w w':World}(h:w'.heap[b]?=w.heap[b]?)(o:Nat):w'.cell? ⟨b,o,none⟩=w.cell? ⟨b,o,none⟩:=World.cell?_of_block (w:=w) (a:=⟨b,o,none⟩) h
theorem AJ {W0 U:World}{Q D:Nat}{a:Option Addr}{cap:Nat}{gs:List (List PR)}(h:IvF Q D W0 U)(hQ:∀ o u,W0.cell? ⟨Q,o,none⟩=some u→u=.slice none 0 0)(hD:∀ o,W0.cell? ⟨D,o,none⟩=none)(hD1:∀ o,W0.cell? ⟨D+1,o,none⟩=none)(hr:RR W0 (.slice a gs.length cap) gs)(hne:∀ g∈gs,0<g.length)(i:Nat)(hi:i<gs.length):∃ b1 o1 a2 c2,a=some ⟨b1,o1,none⟩∧U.cell? ⟨b1,o1+i,none⟩=some (.slice a2 gs[i].length c2)∧∀ k (hk:k<gs[i].length),∃ b3 o3,a2=some ⟨b3,o3,none⟩∧U.cell? ⟨b3,o3+k*2,none⟩=some (.string (bs gs[i][k].1))∧U.cell? ⟨b3,o3+k*2+1,none⟩=some (.string (bs gs[i][k].2)):=by
 obtain⟨a',cap',hv,-,-,hc⟩:=hr;injection hv with q1 _ _
 subst q1;obtain⟨b1,o1,u,h1,h2,h3⟩:=hc i hi;obtain⟨a2,c2,rfl,-,hcc⟩:=h3.open;have hpos:=hne gs[i] (DY hi);refine⟨b1,o1,a2,c2,h1,h.cell hQ hD hD1 h2 (fun q=>by injection q with _ q2 _;omega),fun k hk=>?_⟩;obtain⟨b3,o3,r1,r2,r3⟩:=hcc k hk;exact⟨b3,o3,r1,h.cell hQ hD hD1 r2 (fun q=>by cases q),h.cell hQ hD hD1 r3 (fun q=>by cases q)⟩
end
section
attribute [local go_sem] Oper.semAt_some
attribute [local irreducible] wpG
theorem CM {a c:Nat}(h:a≤1000000)(hc:c<a):(c+1)*16≤140737488355328:=by omega
theorem Gs {T:Prop} (h:T:=by
 have h1:=(iY (srt rows.flatten).length (srt rows.flatten) (DC _) (dT _)).1 g hg;have h2:g.length≤(srt rows.flatten).length:=by rw[h1.1];unfold cB;exact List.length_filter_le _ _
 rw[bK]at h2;exact DG h2 hf
):T:=h
theorem GV {T:Prop} (h:T:=by
 have h1:=cL (srt rows.flatten).length (srt rows.flatten) (DC _);rw[bK]at h1;exact DG h1 hf
):T:=h
theorem qh (n X Q D:Nat)(v:Value)(rows:List (List PR))(W:World)(hX:Blk W X 32 [v])(hr:RR W v rows)(hl:rows.length≤1000000)(hf:rows.flatten.length≤1000000)(hQ:Blk W Q 29 [.slice none 0 0])(hQD:Q<D)(hD:D+2≤W.heap.size)(hD0:∀ o,W.cell? ⟨D,o,none⟩=none)(hD1:∀ o,W.cell? ⟨D+1,o,none⟩=none):pF Fence.wide n Tryz.prog 140 #[.pointer (some ⟨X,0,none⟩)] (fun U U'=>Below U.heap.size U U') (fun U U'=>Q<U.heap.size→YrF Q D U U') (fun _=>True) (ElF D) (grp (srt rows.flatten)) W:=by
 intro l J Jx hJ hJx hY hJ0;refine callsIn_wide.2 ?_;have HJ:=zH hJ;have HJx:=zH hJx;have HY:=zH hY;have HM:=zH (xH v rows W hr (DG hl (by decide)) (DG (DV 32 hf) (by decide)));have HG:=zH (fun (u:Value) (w':World) (h:OP w' W.heap.size u (srt rows.flatten))=>uI u (srt rows.flatten) w' (OP.reads h) (by rw[bK];exact DG (DV 32 hf) (by decide)));have hne:∀ g∈grp (srt rows.flatten),0<g.length:=ul _ _ (DC _)
 have hgl:∀ g∈grp (srt rows.flatten),g.length≤1000000:=fun g hg=>by
  exact Gs
 have hgn:(grp (srt rows.flatten)).length≤1000000:=by
  exact GV
 have c0:=hX.cell (k:=0) rfl;rw[Ab]at HG;obtain⟨gs,hgs⟩:=ex_ (grp (srt rows.flatten));rw[←hgs]at HG HY hne hgl hgn⊢;have HNE:=zH hne;have HGL:=zH hgl;have HQ:=zH hQ;have HD0:=zH hD0;have HD1:=zH hD1;have HJ0:=zH hJ0;obtain⟨av,cv,rfl,-,-,-⟩:=hr;clear hJ hJx hY hJ0 hX hne hgl hQ hD0 hD1 hgs;go_enter Tryz.func140,Tryz.ntmps140;go_wp2_with (first|(go_at_call 142;refine HM.o.mono ?_;rintro e w1 ⟨mv,rfl,hown1,hB1⟩;obtain⟨ma,mc,rfl⟩:=ap hown1;have HG1:=zH (HG.o _ _ hown1);have HB1:=zH hB1;clear hown1 hB1 c0)|(go_at_call 141;refine HG1.o.mono ?_;rintro e w2 ⟨gv,bZ,cells,rfl,hown2,hrows2,-,hB2⟩;obtain⟨ga,gc,rfl⟩:=ap hown2;have HRR:=zH (cH.rr hown2 hrows2);have HB2:=zH (bt HB1.o hB2);clear hown2 hrows2 hB2))
 have HQ2:=zH (show ∀ o u,w2.cell? ⟨Q,o,none⟩=some u→u=.slice none 0 0 from fun o u hu=>by
  have hq:w2.heap[Q]?=some (.cells #[.slice none 0 0] 29 (0,0)):=HQ.o.below HB2.o
  cases o with
  | zero=>have:=cell_of_one hq;rw[this]at hu;injection hu with hu;exact hu.symm
  | succ o=>simp[World.cell?,hq]at hu)
 have HD2:=zH (show ∀ o,w2.cell? ⟨D,o,none⟩=none from fun o=>by rw[nO (HB2.o.block D (by omega))];exact HD0.o o);have HD3:=zH (show ∀ o,w2.cell? ⟨D+1,o,none⟩=none from fun o=>by rw[nO (HB2.o.block (D+1) (by omega))];exact HD1.o o)
 have HIV:=zH (show IvF Q D w2 w2 from⟨DC _,fun _ _ _ _ _=>rfl,fun k hk=>by
  have hq:w2.heap[Q]?=some (.cells #[.slice none 0 0] 29 (0,0)):=HQ.o.below HB2.o;unfold kh at hk;rw[cell_of_one hq]at hk;simp[Value.ownBlock]at hk⟩)
 have HJ2:=zH (HJ.o _ _ _ HJ0.o HB2.o);have hs2:=HB2.o.size;have hQ2:Q<w2.heap.size:=by omega
 clear HQ HD0 HD1 HG1 HG HM HJ0 hl hf
 go_loopw [12] (fun t wr=>∃ i:Nat,i≤gs.length∧t=.int .i64 (i:Int)∧Hid (IvF Q D w2 wr)∧Hid (J (gs.take i) wr)) (fun t _=>gs.length-(intOf t).toNat)
 case atStart=>exact⟨0,by omega,rfl,HIV.o,HJ2.o⟩
 case round =>
  clear HIV HJ2;obtain⟨i,hi,rfl,HI,HJd⟩:=hrel;have i0:=nn_ i
  by_cases h0:i<gs.length
  ·obtain⟨b1,o1,a2,c2,rfl,d1,hcc⟩:=AJ HI.o HQ2.o HD2.o HD3.o HRR.o HNE.o i h0
   have hpos:=HNE.o gs[i] (DY h0);have hglen:=HGL.o gs[i] (DY h0);have HT:=zH (show gs.take (i+1)=gs.take i++[gs[i]] from Dz h0);have HPF:=zH (show gs.take i++[gs[i]] <+: gs from⟨gs.drop (i+1),by rw[←Dz h0];exact List.take_append_drop _ _⟩);obtain⟨g,hg⟩:=ex_ (gs[i]'h0);rw[←hg]at d1 hcc hpos hglen HT HPF;have HCC:=zH hcc;have HH:=zH h0;have i1:(i:Int)<(gs.length:Int):=by omega
   obtain⟨Wr,hWr⟩:=ex_ wr;subst hWr;clear hcc hg h0;go_wp2
   go_loopw [5,18] (fun u t wx=>∃ k:Nat,k≤g.length∧t=.int .i64 (k:Int)∧Hid (aK.Own wx Wr.heap.size u ((g.take k).map (·.2)))∧Hid (Below Wr.heap.size Wr wx)) (fun _ t _=>g.length-(intOf t).toNat)
   case atStart=>exact⟨0,by omega,rfl,Rec.Own.nil _ _,DF _ _⟩
   case round =>
    obtain⟨k,hk,rfl,HO,HB⟩:=hrel;obtain⟨ao,co,rfl⟩:=ap HO.o;have k0:=nn_ k
    by_cases h3:k<g.length
    ·obtain⟨b3,o3,rfl,e1,e2⟩:=HCC.o k h3
     have HTK:=zH (show(g.take (k+1)).map (·.2)=(g.take k).map (·.2)++[g[k].2] by rw[Ba g k h3,DJ];rfl);have hol:((g.take k).map (·.2)).length=k:=by rw[Ed,DU];omega
     obtain⟨p,hp⟩:=ex_ (g[k]'h3);rw[←hp]at e1 e2 HTK;obtain⟨O,hO⟩:=ex_ ((g.take k).map (·.2));rw[←hO]at HO HTK hol;have hOE:=congrArg List.length hO;rw[←hOE];replace e1:=C8 HB.o e1;replace e2:=C8 HB.o e2;have k1:(k:Int)<(g.length:Int):=by omega
     have HBY:=zH (show(O.length+1)*16≤140737488355328 by rw[hol];exact CM hglen h3);have H3:=zH h3;have HOL:=zH hol;clear hp hO hOE h3 hol;have HBA:=zH (bt HB.o (af wr (.cells #[.string (bs p.1),.string (bs p.2)] 70)));go_wp2_with (at_builtin;go_must (refine aK.append1 (wr.alloc (.cells #[.string (bs p.1),.string (bs p.2)] 70)) p.2 rfl _ _ 22 rfl Tryz.underlying22 Wr.heap.size _ O (HO.o.below (af _ _)) rfl _ (by rw[bo];rfl) _ rfl _ rfl HBY.o HBA.o.size ?_);intro g8 cap w8 hown8 hB8;have HO8:=zH hown8;have HB8:=zH (HBA.o.trans hB8);clear hown8 hB8);go_roundw
     case rel=>exact⟨k+1,H3.o,by go_num,by rw[HTK.o];exact HO8.o,HB8.o⟩
     case measure=>have:=H3.o;simp[intOf];omega
    ·have k1:¬(k:Int)<(g.length:Int):=by omega
     obtain rfl:k=g.length:=by omega
     obtain⟨b3,o3,rfl,e1,-⟩:=HCC.o 0 hpos;replace e1:=C8 HB.o e1;rw[BD g hpos,Nat.zero_mul,Nat.add_zero]at e1
     have HO2:=zH (show aK.Own wr (D+2) (.slice ao g.length co) (g.map (·.2)) by
      have q:=HO.o;have hl2:((g.take g.length).map (·.2)).length=g.length:=by rw[DB (DC _),Ed]
      rw[hl2,DB (DC _)]at q;exact q.mono (by have:=HI.o.1;omega))
     have hl2:((g.take g.length).map (·.2)).length=g.length:=by rw[DB (DC _),Ed]
     rw[hl2];have HB9:=zH HB.o;have p1:(0:Int)<(g.length:Int):=by omega
     have HJ6:=zH (HJ.o _ _ _ HJd.o HB.o);have HI6:=zH (HI.o.below hQ2 HB.o);clear HO hl2 HJd HB h3;go_upto_region 9 with fail;refine(wpIn_wide (n:=n)).1 ?_;obtain⟨fn,tm,asg,bod,hy,hRd⟩:=HY.o (gs.take i) g #[.string (bs (hk1 g)),.slice ao g.length co] wr HJ6.o ⟨ao,co,rfl,HO2.o⟩ HPF.o;gi_wp2;refine⟨fun h=>(by cases h),?_⟩;refine hRd.mono ?_;rintro e W7 (⟨rfl,hJ7,hc7⟩|⟨rfl,hJx7⟩)
     ·gi_wp2
      go_wp2;exact⟨⟨i+1,HH.o,by go_num,HI6.o.yr (hc7 (Dv hQ2 HI6.o.1)),by rw[HT.o];exact hJ7⟩,by have:=HH.o;simp[intOf];omega⟩
     ·gi_wp2
      go_wp2;refine bodyPost_ret (results_none rfl _ _ _) rfl ?_;exact⟨⟨_,rfl⟩,.inr ⟨_,HPF.o,hJx7⟩⟩
  ·have i1:¬(i:Int)<(gs.length:Int):=by omega
   have HE:=zH (show gs.take i=gs from DB (by omega));clear h0;go_wp2;go_end0;exact⟨⟨_,rfl⟩,.inl (by rw[←HE.o];exact HJd.o)⟩
end
section
attribute [local go_sem] Oper.semAt_some
section
variable {α:Type}
theorem Rec.append1G {F:Fence}{k:Nat}{ops:Array Oper}{rest:List Oper}{o:Oper}{a:Act}{Q:Exit→Act→World→Prop}(R:Rec α)(w:World)(p:α)(hgd:o.guard=none)(s x:Operand)(t:TypeId)(ho:o.op=.call { callee:=.builtin .append,args:=#[s,x],argTypes:=#[t,t] })(ht:Tryz.prog.underlying t=some (.slice R.e))(bZ:Nat)(v:Value)(xs:List α)(hown:R.Own w bZ v xs)(hs:a.eval s=v)(c:Nat)(hx:a.eval x=.slice (some ⟨w.heap.size,0,none⟩) 1 c)(cs:Array Value)(hcs:cs=(R.cell p).toArray)(e:TypeId)(he:e=R.e)(hbytes:(xs.length+1)*R.bytes≤140737488355328)(hbase:bZ≤w.heap.size)(h:∀ g cap w',R.Own w' bZ (.slice (some ⟨g,0,none⟩) (xs.length+1) cap) (xs++[p])→Chg (fun k=>v.ownBlock=some k) w w'→(v.ownBlock=some g∨w.heap.size≤g)→wpListIn F k Tryz.prog ops Q rest (a.put o.dst (.slice (some ⟨g,0,none⟩) (xs.length+1) cap)) w'):wpListIn F k Tryz.prog ops Q (o::rest) a (w.alloc (.cells cs e)):=by
 subst hcs he;obtain⟨i,hi,hz,hi1,hi2⟩:=info_parts R.info;have hn:xs.length+1≤(xs.length+1)*R.bytes:=Nat.le_mul_of_pos_right _ R.bpos
 obtain⟨g,cap,w',hrun,r1,r2,r3,-⟩:=run_append_lies (P:=Tryz.prog) (w.alloc (.cells (R.cell p).toArray R.e)) t o.type bZ R.e i R.z R.n R.bytes ht hi hz hi1 hi2 R.zs R.pos v xs.length (R.cells xs) (World.ownsRow.alloc hown _) ⟨w.heap.size,0,none⟩ 1 c (R.cell p) (by simpa using R.len p)
  (fun j u hj=>by
   have:j<(R.cell p).length:=by
    exact GQ
   rw[Addr.add_lit,DE,World.cell?_alloc_new];simpa using hj) (R.one p) (by decide) (by unfold maxLen;omega) hbytes (by simp;omega) _ rfl
 refine wpListIn_plain hgd fun K hK'=>?_;have hB:Below bZ w w':=((DF bZ w).alloc hbase _).grown r2 (by simp;omega) (fun k hk=>(Rec.Own.ltV hown k hk).1);unfold Oper.wpIn;refine⟨?_,?_⟩
 ·simp[Oper.about,ho,resolve,Target.leads,Sem.run_pure]
 ·rw[Oper.semAt_plain F _ _ (by rw[ho];intro c hc';cases hc')]
  simp[execOp,ho,resolve,invoke,builtin,hs,hx,hrun,Result.andThen];refine hK' _ _ (h g cap w' ?_ ⟨hB.os,hB.tape,hB.output,hB.size,fun j hj hne=>?_⟩ ?_)
  ·unfold Rec.Own;rw[R.cells_append,DL,Rec.cells,Rec.cells,DR];exact r1
  ·rw[r2.block j (by simp;omega) (fun e=>hne e.symm)]
   exact Below.heap_alloc _ _ _ hj
  ·rcases r3 with r3|r3
   ·exact .inl r3
   ·exact .inr (by simp at r3;omega)
end
theorem gB {P:Program}{fn:Func}{p q r:Tmp}{ty tq tr:TypeId}{tmps:Array Value}{w:World}{v u x:Value}{b c d:Nat}(hr:fn.results=#[.cell p ty,.cell q tq,.cell r tr])(hp:tmps.getD p undef=.pointer (some ⟨b,0,none⟩))(hq:tmps.getD q undef=.pointer (some ⟨c,0,none⟩))(hr3:tmps.getD r undef=.pointer (some ⟨d,0,none⟩))(hl:(loadVar ty ⟨b,0,none⟩).run P w=.ok v w)(hl2:(loadVar tq ⟨c,0,none⟩).run P w=.ok u w)(hl3:(loadVar tr ⟨d,0,none⟩).run P w=.ok x w):(results fn tmps).run P w=.ok (.tuple #[v,u,x]) w:=by
 simp only[Array.getD_eq_getD_getElem?]at hp hq hr3⊢;simp[results,hr,Sem.run_bind,Result.andThen,hp,hq,hr3,asAddr,hl,hl2,hl3]
theorem pV {U:World}{Q:Nat}{t:TypeId}{v:Value}(h:Blk U Q t [v]):kh U Q=v.ownBlock:=by
 unfold kh;rw[h.cell (k:=0) rfl]
 rfl
theorem uq {Q D g n cap:Nat}{v:Value}{t:TypeId}{U2 w3 w8:World}(hQ:Q<D)(hb:Blk U2 Q t [v])(hB:Below U2.heap.size U2 w3)(hc:Chg (fun k=>v.ownBlock=some k) w3 w8)(hg:v.ownBlock=some g∨w3.heap.size≤g)(hlt:∀ k,v.ownBlock=some k→D+2≤k):dK D U2 (w8.setCell ⟨Q,0,none⟩ (.slice (some ⟨g,0,none⟩) n cap))∧YrF Q D U2 (w8.setCell ⟨Q,0,none⟩ (.slice (some ⟨g,0,none⟩) n cap)):=by
 have hl:=hb.lt;have s1:=hB.size;have s2:=hc.size
 have hx:Chg (fun k=>k=Q∨v.ownBlock=some k) U2 (w8.setCell ⟨Q,0,none⟩ (.slice (some ⟨g,0,none⟩) n cap)) :=
  ((Da hB).trans (hc.mono fun k hk=>.inr hk)).trans (Chg.setCell w8 ⟨Q,0,none⟩ _ (.inl rfl))
 have hb8:Blk w8 Q t [v]:=(hb.below hB).chg hc (fun q=>by have:=hlt Q q;omega);have hb9:=hb8.set 0 (.slice (some ⟨g,0,none⟩) n cap);refine⟨Df hx (fun k hk q=>?_),⟨hx.size,fun k hk k1 k2 k3 k4=>hx.block k hk (fun q=>?_),fun k hk=>?_⟩⟩
 ·rcases q with q|q
  ·omega
  ·have:=hlt k q;omega
 ·rcases q with q|q
  ·exact k1 q
  ·exact k4 (by rw[pV hb];exact q)
 ·rw[pV (v:=.slice (some ⟨g,0,none⟩) n cap) hb9]at hk
  have hk2:g=k:=by simpa[Value.ownBlock] using hk
  subst hk2;rw[pV hb];rcases hg with hg|hg
  ·exact .inl hg
  ·exact .inr (by omega)
structure FI (J Q B E D:Nat) (w:World) (jc:List Value) (j:Jb) (pre:List (List PR)) (U:World):Prop where
 job:Blk U J 27 jc
 row:∃ v out,Blk U Q 29 [v]∧recKv.Own U (D+2) v out∧out.length≤pre.length∧∀ rest,dI j [] (pre++rest)=dI j out rest
 bad:∃ x,Blk U B 9 [x]
 err:∃ x,Blk U E 37 [x]
 bel:Below w.heap.size w U
theorem FI.below {J Q B E D:Nat}{w:World}{jc:List Value}{j:Jb}{pre:List (List PR)}{U U':World}(h:FI J Q B E D w jc j pre U)(hB:Below U.heap.size U U'):FI J Q B E D w jc j pre U':=by
 obtain⟨v,out,h1,h2,h3,h4⟩:=h.row;obtain⟨x,hx⟩:=h.bad;obtain⟨y,hy⟩:=h.err;exact⟨h.job.below hB,⟨v,out,h1.below hB,h2.below hB,h3,h4⟩,⟨x,hx.below hB⟩,⟨y,hy.below hB⟩,bt h.bel hB⟩
theorem FI.chg {J Q B E D:Nat}{w:World}{jc:List Value}{j:Jb}{pre:List (List PR)}{U U':World}(hJ:J<D)(hQ:Q<D)(hBd:B<D)(hE:E<D)(hw:w.heap.size≤D)(h:FI J Q B E D w jc j pre U)(hc:Chg (fun k=>k=D∨k=D+1) U U'):FI J Q B E D w jc j pre U':=by
 obtain⟨v,out,h1,h2,h3,h4⟩:=h.row;obtain⟨x,hx⟩:=h.bad;obtain⟨y,hy⟩:=h.err;exact⟨h.job.chg hc (by omega),⟨v,out,h1.chg hc (by omega),cV h2 hc (fun k hk=>by omega),h3,h4⟩,⟨x,hx.chg hc (by omega)⟩,⟨y,hy.chg hc (by omega)⟩,h.bel.trans (hc.below (fun k hk=>by omega) h.bel.size)⟩
def FX (Q B E:Nat)(w:World)(j:Jb)(c:Code)(pre:List (List PR))(U:World):Prop:=c=.ret∧Blk U Q 29 [.slice none 0 0]∧(∃ (key:LU_) (er:Nat),Blk U B 9 [.string (bs key)]∧Blk U E 37 [.int .i64 (er:Int)]∧∀ rest,dI j [] (pre++rest)=([],key,er))∧Below w.heap.size w U
theorem FX.below {Q B E:Nat}{w:World}{j:Jb}{c:Code}{pre:List (List PR)}{U U':World}(h:FX Q B E w j c pre U)(hB:Below U.heap.size U U'):FX Q B E w j c pre U':=by
 obtain⟨h0,h1,⟨key,er,h2,h3,h4⟩,h5⟩:=h;exact⟨h0,h1.below hB,⟨key,er,h2.below hB,h3.below hB,h4⟩,bt h5 hB⟩
theorem FX.chg {Q B E D:Nat}{w:World}{j:Jb}{c:Code}{pre:List (List PR)}{U U':World}(hQ:Q<D)(hBd:B<D)(hE:E<D)(hw:w.heap.size≤D)(h:FX Q B E w j c pre U)(hc:Chg (fun k=>k=D∨k=D+1) U U'):FX Q B E w j c pre U':=by
 obtain⟨h0,h1,⟨key,er,h2,h3,h4⟩,h5⟩:=h;exact⟨h0,h1.chg hc (by omega),⟨key,er,h2.chg hc (by omega),h3.chg hc (by omega),h4⟩,h5.trans (hc.below (fun k hk=>by omega) h5.size)⟩
end
section
attribute [local irreducible] wpG
theorem eO {w:World}{b:Nat}{v0:Value}(h0:w.cell? ⟨b,0,none⟩=some v0):(loadVar 9 ⟨b,0,none⟩).run Tryz.prog w=.ok v0 w:=by
 go_simp
def CP (S E:Nat)(R:Nat×List (LU_×LU_)×LU_)(e:Ending)(w w':World):Prop :=
 e=.returned (.bool ((R.1:Int)==0))∧Blk w' S 9 [.string (bs R.2.2)]∧Blk w' E 37 [.int .i64 (R.1:Int)]∧Chg (fun x=>x=S∨x=E) w w'
theorem yb (J S E:Nat)(t1 c1 t2 c2 t3 c3 x:Value)(j:Jb)(s v:LU_)(w:World)(h:dH w t1 c1 t2 c2 t3 c3 j)(hmay:bJ j=true)(hdo:de w)(hJ:Blk w J 27 [t1,c1,t2,c2,t3,c3,.int .i64 j.parts,.int .i64 j.fuel])(hS:Blk w S 9 [.string (bs s)])(hE:Blk w E 37 [x])(hne:S≠E)(h1:s.length≤140737488355328)(h2:v.length≤140737488355328):Calls Tryz.prog 143 #[.string (bs v),.pointer (some ⟨J,0,none⟩),.pointer (some ⟨S,0,none⟩),.pointer (some ⟨E,0,none⟩)] w fun e w'=>CP S E (vmV j.jt j.jc 2 [s,v] j.fuel) e w w':=by
 have HJO:=zH (show _ from by
  have q:=xn t1 c1 t2 c2 t3 c3 j s v w h hdo h1 h2;rw[ny hmay]at q;exact q)
 obtain⟨R,hR⟩:=ex_ (vmV j.jt j.jc 2 [s,v] j.fuel);rw[←hR]at HJO⊢;obtain⟨ta,tc,ca,cc,ta2,tc2,ca2,cc2,ta3,tc3,ca3,cc3,rfl,rfl,rfl,rfl,rfl,rfl⟩:=jo_ h.a.t h.a.c h.b.t h.b.c h.c.t h.c.c;unfold bM at HJO;obtain⟨x0,x1,x2,x3,x4,x5,x6,x7⟩:=cl8 hJ;have s0:=hS.cell (k:=0) rfl;have e0:=hE.cell (k:=0) rfl;have HS:=zH hS;have HE:=zH hE;have HNE:=zH hne;clear h hmay hdo hJ hS hE hne h1 h2 hR;go_enter Tryz.func143,Tryz.ntmps143;go_wp2_with (go_at_call 144;refine HJO.o.mono ?_;rintro e w2 ⟨rfl,hB2⟩;have hs2:=HS.o.below hB2;have he2:=HE.o.below hB2;have s2:=hs2.cell (k:=0) rfl;have e2:=he2.cell (k:=0) rfl;have fs:=hs2.free (k:=0) (by simp);have fe:=he2.free (k:=0) (by simp);have hsl:=hs2.lt;have hel:=he2.lt;have hne:=HNE.o;have hne2:=HNE.o.symm;have HS2:=zH hs2;have HE2:=zH he2;have HB2:=zH hB2;clear hB2 hs2 he2 s0 e0 x0 x1 x2 x3 x4 x5 x6 x7);go_ret;have hc1:Chg (fun x=>x=S∨x=E) w2 (w2.setCell ⟨S,0,none⟩ (.string (bs R.2.2))):=Chg.setCell _ _ _ (.inl rfl);have hs3:=HS2.o.set 0 (.string (bs R.2.2));have he3:=HE2.o.chg (X:=fun x=>x=S) (Chg.setCell w2 ⟨S,0,none⟩ (.string (bs R.2.2)) rfl) (fun q=>HNE.o q.symm);have hs4:=hs3.chg (X:=fun x=>x=E) (Chg.setCell _ ⟨E,0,none⟩ (.int .i64 (R.1:Int)) rfl) (fun q=>HNE.o q);have he4:=he3.set 0 (.int .i64 (R.1:Int));exact⟨rfl,hs4,he4,((Da HB2.o).trans hc1).trans (Chg.setCell _ _ _ (.inr rfl))⟩
theorem us {j:Jb}{x:LU_}{r:LL_}(h:bJ j=true):bu j (x::r)=dD j x r:=if_pos ⟨h,Nat.succ_pos _⟩
theorem F8 {T:Prop} (h:T:=by
 clear hm hck HVC;go_wp2_with (go_at_call 61;refine(HCK.o _ HB2.o).mono ?_;rintro e w3 ⟨rfl,hB3⟩;have hy3:=HY.o.below hB3;have hz3:=HZ.o.below hB3;have s2:=hy3.cell (k:=0) rfl;have e2:=hz3.cell (k:=0) rfl;have fs:=hy3.free (k:=0) (by simp);have fe:=hz3.free (k:=0) (by simp);have hsl:=hy3.lt;have hel:=hz3.lt;have HY3:=zH hy3;have HZ3:=zH hz3;have HB3:=zH (bt HB2.o hB3);clear hB3 hy3 hz3 x0 x1 x2 x3 x4 x5 x6 x7);have hs3:=HY3.o.set 0 (.string ⟨#[]⟩);have he3:=HZ3.o.chg (X:=fun x=>x=J+1) (Chg.setCell w3 ⟨J+1,0,none⟩ (.string ⟨#[]⟩) rfl) (by simp);have hs4:=hs3.chg (X:=fun x=>x=J+1+1) (Chg.setCell _ ⟨J+1+1,0,none⟩ (.int .i64 2) rfl) (by simp);have he4:=he3.set 0 (.int .i64 2);refine bodyPost_ret (da rfl rfl rfl (eO (hs4.cell (k:=0) rfl)) (fO (he4.cell (k:=0) rfl))) rfl ?_;rw[HR.o];exact⟨rfl,HB3.o.trans ((Chg.trans (Chg.setCell w3 ⟨J+1,0,none⟩ (.string ⟨#[]⟩) (X:=fun x=>x=J+1∨x=J+1+1) (.inl rfl)) (Chg.setCell _ ⟨J+1+1,0,none⟩ (.int .i64 2) (.inr rfl))).below (fun x hx=>by have:=HJW.o;rcases hx with rfl|rfl<;>omega) HB3.o.size)⟩
):T:=h
theorem qp (t1 c1 t2 c2 t3 c3 v:Value)(j:Jb)(l:LL_)(w:World)(h:dH w t1 c1 t2 c2 t3 c3 j)(hdo:de w)(hv:aK.Row w v l)(hl:l.length≤140737488355328)(hb:∀ s∈l,s.length≤140737488355328):Calls Tryz.prog 97 #[bM t1 c1 t2 c2 t3 c3 j,v] w fun e w'=>e=.returned (.tuple #[.string (bs (bu j l).1),.int .i64 ((bu j l).2:Int)])∧Bw_ w w':=by
 have HCK:=zH (fun w' (hB:Below w.heap.size w w')=>im t1 c1 t2 c2 t3 c3 j w' (h.below hB));have HVC:=zH (fun (hm:bJ j=true) (J S E:Nat) (x:Value) (s v:LU_) w' (hB:Below w.heap.size w w') hJ hS hE hne h1 h2=>yb J S E t1 c1 t2 c2 t3 c3 x j s v w' (h.below hB) hm (hdo.below hB) hJ hS hE hne h1 h2);obtain⟨ta,tc,ca,cc,ta2,tc2,ca2,cc2,ta3,tc3,ca3,cc3,rfl,rfl,rfl,rfl,rfl,rfl⟩:=jo_ h.a.t h.a.c h.b.t h.b.c h.c.t h.c.c;obtain⟨av,cv,rfl,_,hc⟩:=an hv;unfold bM at HCK⊢;have HCC:=zH hc;have HBB:=zH hb;have HV:=zH hv;obtain⟨J,hJ⟩:=ex_ w.heap.size;obtain⟨W0,hW0⟩:=ex_ (w.alloc (.cells #[.slice ta j.mt.length tc,.slice ca j.mc.length cc,.slice ta2 j.jt.length tc2,.slice ca2 j.jc.length cc2,.slice ta3 j.tt.length tc3,.slice ca3 j.tc.length cc3,.int .i64 j.parts,.int .i64 j.fuel] 27));have hs0:W0.heap.size=J+1:=by rw[hW0,bo,hJ]
 obtain⟨W1,hW1⟩:=ex_ (W0.alloc (.cells #[.string ⟨#[]⟩] 9));have hs1:W1.heap.size=J+1+1:=by rw[hW1,bo,hs0]
 obtain⟨W2,hW2⟩:=ex_ (W1.alloc (.cells #[.int .i64 0] 37));have hx0:=bn_ hJ hW0;have hb0:=ba_ hW0;have hb1:=ba_ hW1;have hb2:=ba_ hW2;have hx:=(hx0.below hb1).below hb2
 have hy:Blk W2 (J+1) 9 [.string ⟨#[]⟩]:=by
  have q:=bm_ hW1;rw[hs0]at q;exact q.below hb2
 have hz:Blk W2 (J+1+1) 37 [.int .i64 0]:=by
  have q:=bm_ hW2
  rwa [hs1]at q
 have HB2:=zH (bt (bt hb0 hb1) hb2);have HX:=zH hx;have HY:=zH hy;have HZ:=zH hz;have HJW:=zH (show w.heap.size≤J by rw[hJ];exact DC _);obtain⟨x0,x1,x2,x3,x4,x5,x6,x7⟩:=cl8 hx;go_enter Tryz.func97,Tryz.ntmps97;go_upto_region 1 with fail;rw[←hJ,←hW0]
 try rw[hs0]
 rw[←hW1]
 try rw[hs1]
 rw[←hW2];clear hJ hW0 hW1 hW2 hs0 hs1 hx0 hb0 hb1 hb2 hx hy hz h hdo hv hc hb;obtain⟨ck,hck⟩:=ex_ (br j);rw[←hck]at HCK
 by_cases hm:bJ j=true
 ·have t1:((ck.2.2:Int) != 0)=false:=by rw[hck,nl hm];rfl
  cases l with
  | nil =>
   have HR:=zH (show bu j []=([],2) from if_neg (fun q=>absurd q.2 (Nat.lt_irrefl 0)));exact F8
  | cons p0 r =>
   have HR:=zH (us (x:=p0) (r:=r) hm);have HVM:=zH (HVC.o hm);have hlr:r.length≤140737488355328:=by rw[Du]at hl;omega
   clear hl;clear hm hck HVC;obtain⟨A,C,hrun0,hrow,-⟩:=mF HV.o 1 (by simp);have hm0:(p0::r).length-1=r.length:=by simp
   rw[hm0]at hrun0 hrow;have hrow2:aK.Row w (.slice A r.length C) r:=hrow;obtain⟨_,_,hv2,_,hcr⟩:=an hrow2;injection hv2 with q1 _ q3
   subst q1 q3;obtain⟨b0,o0,hav,d0⟩:=HCC.o 0 (by simp);subst hav;have hrun:∀ wx,(Instr.slice 22 (.slice (some ⟨b0,o0,none⟩) (r.length+1) cv) (some (.int .i64 1)) none none).run Tryz.prog wx=.ok (.slice A r.length C) wx:=fun wx=>hrun0 wx;have HCR:=zH hcr;have HRB:=zH (show ∀ s∈r,s.length≤140737488355328 from fun s hs=>HBB.o s (D4 _ hs));have HX0:=zH (HBB.o p0 (D2 ..));have d0':w.cell? ⟨b0,o0,none⟩=some (.string (bs p0)):=d0;have HD0:=zH d0';clear hrun0 hrow hrow2 hcr hm0 d0 d0' HCC HV HBB;rw[show(p0::r).length=r.length+1 from rfl];go_upto_region 5 with(go_at_call 61;refine(HCK.o _ HB2.o).mono ?_;rintro e w3 ⟨rfl,hB3⟩;have hy3:=HY.o.below hB3;have s2:=hy3.cell (k:=0) rfl;have fs:=hy3.free (k:=0) (by simp);have hsl:=hy3.lt;have d1:=C8 (bt HB2.o hB3) HD0.o;have HX3:=zH (HX.o.below hB3);have HY3:=zH hy3;have HZ3:=zH (HZ.o.below hB3);have HB3:=zH (bt HB2.o hB3);clear hB3 hy3 x0 x1 x2 x3 x4 x5 x6 x7);obtain⟨W4,hW4⟩:=ex_ (w3.setCell ⟨J+1,0,none⟩ (.string (bs p0)));have hc4:Chg (fun x=>x=J+1∨x=J+1+1) w3 W4:=by rw[hW4];exact Chg.setCell _ _ _ (.inl rfl)
   have HS4:=zH (show Blk W4 (J+1) 9 [.string (bs p0)] by rw[hW4];exact HY3.o.set 0 _);have HE4:=zH (HZ3.o.chg (X:=fun x=>x=J+1) (show Chg (fun x=>x=J+1) w3 W4 by rw[hW4];exact Chg.setCell _ _ _ rfl) (by simp));have HX4:=zH (HX3.o.chg hc4 (by omega));have HC4:=zH hc4;rw[←hW4];clear hW4 hc4 s2 fs hsl d1;go_wp2_with fail
   go_loopw [32] (fun i wr=>∃ (k:Nat) (s:LU_),k≤r.length∧i=.int .i64 k∧Hid (dD j s (r.drop k)=dD j p0 r)∧Hid (s.length≤140737488355328)∧Hid (Blk wr (J+1) 9 [.string (bs s)])∧Hid (Blk wr (J+1+1) 37 [.int .i64 0])∧Hid (Chg (fun x=>x=J+1∨x=J+1+1) w3 wr)) (fun i _=>r.length-(intOf i).toNat)
   case atStart=>exact⟨0,p0,by omega,rfl,rfl,HX0.o,HS4.o,HE4.o,HC4.o⟩
   case round =>
    obtain⟨k,s,hk,rfl,HFV,HSL,HS,HE,HC⟩:=hrel;have hxr:=HX3.o.chg HC.o (by omega);have hbw:Below w.heap.size w wr:=HB3.o.trans (HC.o.below (fun x hx=>by have:=HJW.o;rcases hx with rfl|rfl<;>omega) HB3.o.size)
    by_cases h0:k<r.length
    ·obtain⟨bb,off,hA,e1⟩:=HCR.o k h0
     subst hA;have hbl:=HRB.o _ (DY h0);have hdr:r.drop k=r[k]::r.drop (k+1):=Dw h0;obtain⟨v,hve⟩:=ex_ (r[k]);rw[←hve]at e1 hbl hdr;have HD:=zH hdr;replace e1:=C8 hbw e1;have i0:=nn_ k;have i1:(k:Int)<(r.length:Int):=by omega
     have HHH:=zH h0;have HG:=zH (HVM.o J (J+1) (J+1+1) _ s v wr hbw hxr HS.o HE.o (by omega) HSL.o hbl);have hrl:=qB j.jt j.jc 2 [s,v] j.fuel;obtain⟨R,hR⟩:=ex_ (vmV j.jt j.jc 2 [s,v] j.fuel);rw[←hR]at HG hrl;have HR2:=zH hR;have HRL:=zH hrl;have HBW:=zH hbw;clear hR hdr hve hxr hbw h0 hbl hrl
     by_cases hz:R.1=0
     ·have t1:((R.1:Int)==0)=true:=by rw[hz];rfl
      have HQ:=zH (show dD j s (v::r.drop (k+1))=dD j R.2.2 (r.drop (k+1)) by rw[HR2.o];exact so (by rw[←HR2.o];exact hz));have HZ0:=zH hz;clear hz;go_wp2_with (go_at_call 143;refine HG.o.mono ?_;rintro e w7 ⟨rfl,hs7,he7,hc7⟩;have HS7:=zH hs7;have HE7:=zH he7;have HC7:=zH hc7;clear hs7 he7 hc7);refine⟨⟨_,_,_,_,_,_,_,_,_,_,_,?rel,rfl⟩,?mes⟩
      case rel=>exact⟨k+1,R.2.2,HHH.o,by go_num,by rw[←HQ.o,←HD.o];exact HFV.o,DG HRL.o (by decide),HS7.o,by have q:=HE7.o;rw[HZ0.o]at q;exact q,HC.o.trans HC7.o⟩
      case mes=>have:=HHH.o;simp[intOf];omega
     ·have t1:((R.1:Int)==0)=false:=by rw[beq_eq_false_iff_ne];omega
      have HQ:=zH (show dD j s (v::r.drop (k+1))=([],R.1) by rw[HR2.o];exact pt (by rw[←HR2.o];exact hz));clear hz;go_upto_region 10 with(go_at_call 143;refine HG.o.mono ?_;rintro e w7 ⟨rfl,hs7,he7,hc7⟩;have s2:=hs7.cell (k:=0) rfl;have e2:=he7.cell (k:=0) rfl;have fs:=hs7.free (k:=0) (by simp);have fe:=he7.free (k:=0) (by simp);have hsl:=hs7.lt;have hel:=he7.lt;have HS7:=zH hs7;have HE7:=zH he7;have HC7:=zH hc7;clear hs7 he7 hc7);go_region
      all_goals
       go_wp2_with fail;have hs3:=HS7.o.set 0 (.string ⟨#[]⟩);have he3:=HE7.o.chg (X:=fun x=>x=J+1) (Chg.setCell w7 ⟨J+1,0,none⟩ (.string ⟨#[]⟩) rfl) (by simp);have hs4:=hs3.chg (X:=fun x=>x=J+1+1) (Chg.setCell _ ⟨J+1+1,0,none⟩ (.int .i64 (R.1:Int)) rfl) (by simp);have he4:=he3.set 0 (.int .i64 (R.1:Int));refine bodyPost_ret (da rfl rfl rfl (eO ((hs4.below (b_drew _)).cell (k:=0) rfl)) (fO ((he4.below (b_drew _)).cell (k:=0) rfl))) rfl ?_;rw[HR.o,←HFV.o,HD.o,HQ.o];have hb7:=HBW.o.trans (HC7.o.below (fun x hx=>by have:=HJW.o;rcases hx with rfl|rfl<;>omega) HBW.o.size);exact⟨rfl,bt (hb7.trans ((Chg.trans (Chg.setCell w7 ⟨J+1,0,none⟩ (.string ⟨#[]⟩) (X:=fun x=>x=J+1∨x=J+1+1) (.inl rfl)) (Chg.setCell _ ⟨J+1+1,0,none⟩ (.int .i64 (R.1:Int)) (.inr rfl))).below (fun x hx=>by have:=HJW.o;rcases hx with rfl|rfl<;>omega) hb7.size)) (b_drew _)⟩
    ·have i1:¬(k:Int)<(r.length:Int):=by omega
     have HE0:=zH (show dD j p0 r=(s,0) by rw[←HFV.o,Ef (by omega)];rfl);have s2:=HS.o.cell (k:=0) rfl;have e2:=HE.o.cell (k:=0) rfl;have fs:=HS.o.free (k:=0) (by simp);have fe:=HE.o.free (k:=0) (by simp);have hsl:=HS.o.lt;have hel:=HE.o.lt;have HBW:=zH hbw;clear hxr hbw h0;go_wp2_with fail;have hs3:=HS.o.set 0 (.string (bs s));have he3:=HE.o.chg (X:=fun x=>x=J+1) (Chg.setCell wr ⟨J+1,0,none⟩ (.string (bs s)) rfl) (by simp);have hs4:=hs3.chg (X:=fun x=>x=J+1+1) (Chg.setCell _ ⟨J+1+1,0,none⟩ (.int .i64 0) rfl) (by simp);have he4:=he3.set 0 (.int .i64 0);refine bodyPost_ret (da rfl rfl rfl (eO (hs4.cell (k:=0) rfl)) (fO (he4.cell (k:=0) rfl))) rfl ?_;rw[HR.o,HE0.o];exact⟨rfl,HBW.o.trans ((Chg.trans (Chg.setCell wr ⟨J+1,0,none⟩ (.string (bs s)) (X:=fun x=>x=J+1∨x=J+1+1) (.inl rfl)) (Chg.setCell _ ⟨J+1+1,0,none⟩ (.int .i64 0) (.inr rfl))).below (fun x hx=>by have:=HJW.o;rcases hx with rfl|rfl<;>omega) HBW.o.size)⟩
 ·have t1:((ck.2.2:Int) != 0)=true:=by rw[bne_iff_ne];have:=p9 hm;rw[←hck]at this;omega
  have HR:=zH (show bu j l=([],2) from if_neg (fun q=>hm q.1));exact F8
end
