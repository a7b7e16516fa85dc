/- Lemmas for MapperTells: walks, plain laws. -/
import Derived.Test.YtckhfapcmjlmbaaGreatDoorMapperTellsK26
set_option linter.unusedSimpArgs false
set_option linter.unusedVariables false
set_option maxRecDepth 100000
set_option maxHeartbeats 16000000
namespace Go.Proofs.YtckhfapcmjlmbaaGreatDoor
open Go.RowKit Oct
section
attribute [local go_sem] Oper.semAt_some
attribute [local irreducible] wpG
theorem un (a:Option Addr)(n c:Nat)(w:World):Calls Tryz.prog 96 #[.slice a n c] w fun e w'=>e=.returned (.func (.func 140) #[] #[.pointer (some ⟨w.heap.size,0,none⟩)])∧w'=w.alloc (.cells #[.slice a n c] 32):=by
 go_enter Tryz.func96,Tryz.ntmps96;go_wp2;go_ret;exact⟨rfl,rfl⟩
theorem um {rows:List (List PR)}(hf:rows.flatten.length≤1000000):∀ g∈grp (srt rows.flatten),g.length≤1000000:=fun g hg=>by
 exact Gs
theorem pp {rows:List (List PR)}(hf:rows.flatten.length≤1000000):(grp (srt rows.flatten)).length≤1000000:=by
 exact GV
theorem zw {rows:List (List PR)}(hp:∀ p∈rows.flatten,p.2.length≤140737488355328):∀ g∈grp (srt rows.flatten),∀ s∈g.map (·.2),s.length≤140737488355328:=fun g hg s hs=>by
 have h1:=(iY (srt rows.flatten).length (srt rows.flatten) (DC _) (dT _)).1 g hg;obtain⟨p,hpg,rfl⟩:=List.mem_map.1 hs;rw[h1.1,pg]at hpg;exact hp p (List.mem_filter.1 hpg).1
theorem li {w:World}{b:Nat}{v:Value}(h:w.cell? ⟨b,0,none⟩=some v):(loadVar 29 ⟨b,0,none⟩).run Tryz.prog w=.ok v w:=by simp[go_sem,h]
theorem Bc {Q:Nat}{t1 t2 t3:TypeId}{W:World}{a b c:Value}(hq:Blk W Q t1 [a])(hb:Blk W (Q+1) t2 [b])(he:Blk W (Q+1+1) t3 [c])(x y z:Value):Blk (((W.setCell ⟨Q,0,none⟩ x).setCell ⟨Q+1,0,none⟩ y).setCell ⟨Q+1+1,0,none⟩ z) Q t1 [x]∧Blk (((W.setCell ⟨Q,0,none⟩ x).setCell ⟨Q+1,0,none⟩ y).setCell ⟨Q+1+1,0,none⟩ z) (Q+1) t2 [y] ∧Blk (((W.setCell ⟨Q,0,none⟩ x).setCell ⟨Q+1,0,none⟩ y).setCell ⟨Q+1+1,0,none⟩ z) (Q+1+1) t3 [z]∧Chg (fun k=>k=Q∨k=Q+1∨k=Q+1+1) W (((W.setCell ⟨Q,0,none⟩ x).setCell ⟨Q+1,0,none⟩ y).setCell ⟨Q+1+1,0,none⟩ z):=by
 have c1:Chg (fun k=>k=Q) W (W.setCell ⟨Q,0,none⟩ x):=Chg.setCell _ _ _ rfl;have q1:=hq.set 0 x;have b1:=hb.chg c1 (by omega);have e1:=he.chg c1 (by omega);obtain⟨W1,hW1⟩:=ex_ (W.setCell ⟨Q,0,none⟩ x);rw[←hW1]at c1 q1 b1 e1⊢;have c2:Chg (fun k=>k=Q+1) W1 (W1.setCell ⟨Q+1,0,none⟩ y):=Chg.setCell _ _ _ rfl;have q2:=q1.chg c2 (by omega);have b2:=b1.set 0 y;have e2:=e1.chg c2 (by omega);obtain⟨W2,hW2⟩:=ex_ (W1.setCell ⟨Q+1,0,none⟩ y);rw[←hW2]at c2 q2 b2 e2⊢;have c3:Chg (fun k=>k=Q+1+1) W2 (W2.setCell ⟨Q+1+1,0,none⟩ z):=Chg.setCell _ _ _ rfl;exact⟨q2.chg c3 (by omega),b2.chg c3 (by omega),e2.set 0 z,((c1.mono fun k hk=>.inl hk).trans (c2.mono fun k hk=>.inr (.inl hk))).trans (c3.mono fun k hk=>.inr (.inr hk))⟩
theorem uE (t1 c1 t2 c2 t3 c3 v:Value)(j:Jb)(rows:List (List PR))(w:World)(h:dH w t1 c1 t2 c2 t3 c3 j)(hdo:de w)(hr:RR w v rows)(hl:rows.length≤1000000)(hf:rows.flatten.length≤1000000)(hp:∀ p∈rows.flatten,p.2.length≤140737488355328):Calls Tryz.prog 53 #[bM t1 c1 t2 c2 t3 c3 j,v] w fun e w'=>(∃ pv,e=.returned (.tuple #[pv,.string (bs (cM j rows).2.1),.int .i64 ((cM j rows).2.2:Int)])∧recKv.Own w' w.heap.size pv (cM j rows).1)∧Bw_ w w':=by
 have HCK:=zH (fun w' (hB:Below w.heap.size w w')=>im t1 c1 t2 c2 t3 c3 j w' (h.below hB));have HVA:=zH (fun (u:Value) (l:LL_) w' (hB:Below w.heap.size w w') hv h1 h2=>qp t1 c1 t2 c2 t3 c3 u j l w' (h.below hB) (hdo.below hB) hv h1 h2);have HIT:=zH (fun (X Q D:Nat) (W:World) hX (hB:Below w.heap.size w W) hQ hQD hD hD0 hD1=>qh 2 X Q D v rows W hX (hr.below hB) hl hf hQ hQD hD hD0 hD1);obtain⟨ta,tc,ca,cc,ta2,tc2,ca2,cc2,ta3,tc3,ca3,cc3,rfl,rfl,rfl,rfl,rfl,rfl⟩:=jo_ h.a.t h.a.c h.b.t h.b.c h.c.t h.c.c;obtain⟨av,cv,rfl,_,_,_⟩:=hr;unfold bM at HCK HVA⊢;have HGB:=zH (um hf);have HGV:=zH (zw hp);have HGC:=zH (pp hf);obtain⟨J,hJ⟩:=ex_ w.heap.size;obtain⟨W0,hW0⟩:=ex_ (w.alloc (.cells #[.slice ta j.mt.length tc,.slice ca j.mc.length cc,.slice ta2 j.jt.length tc2,.slice ca2 j.jc.length cc2,.slice ta3 j.tt.length tc3,.slice ca3 j.tc.length cc3,.int .i64 j.parts,.int .i64 j.fuel] 27));have hs0:W0.heap.size=J+1:=by rw[hW0,bo,hJ]
 obtain⟨W1,hW1⟩:=ex_ (W0.alloc (.cells #[.slice none 0 0] 29));have hs1:W1.heap.size=J+1+1:=by rw[hW1,bo,hs0]
 obtain⟨W2,hW2⟩:=ex_ (W1.alloc (.cells #[.string ⟨#[]⟩] 9));have hs2:W2.heap.size=J+1+1+1:=by rw[hW2,bo,hs1]
 obtain⟨W3,hW3⟩:=ex_ (W2.alloc (.cells #[.int .i64 0] 37));have hx0:=bn_ hJ hW0;have hb0:=ba_ hW0;have hb1:=ba_ hW1;have hb2:=ba_ hW2;have hb3:=ba_ hW3;have hx:=((hx0.below hb1).below hb2).below hb3
 have hy:Blk W3 (J+1) 29 [.slice none 0 0]:=by
  have q:=bm_ hW1;rw[hs0]at q;exact(q.below hb2).below hb3
 have hz:Blk W3 (J+1+1) 9 [.string ⟨#[]⟩]:=by
  have q:=bm_ hW2;rw[hs1]at q;exact q.below hb3
 have hu:Blk W3 (J+1+1+1) 37 [.int .i64 0]:=by
  have q:=bm_ hW3
  rwa [hs2]at q
 have HB3:=zH (bt (bt (bt hb0 hb1) hb2) hb3);have HX:=zH hx;have HY:=zH hy;have HZ:=zH hz;have HU:=zH hu;have HJW:=zH (show w.heap.size=J from hJ.symm);obtain⟨x0,x1,x2,x3,x4,x5,x6,x7⟩:=cl8 hx;refine cE Tryz.func53 rfl ?_;simp only[Tryz.ntmps53,List.size_toArray,Du,Eb,Nat.reduceAdd,Nat.reduceSub,Array.replicate_succ,Array.replicate_zero,List.push_toArray,List.append_toArray,D5,Dx];go_upto_region 1 with fail;rw[←hJ,←hW0]
 try rw[hs0]
 rw[←hW1]
 try rw[hs1]
 rw[←hW2]
 try rw[hs2]
 rw[←hW3];clear hJ hW0 hW1 hW2 hW3 hs0 hs1 hs2 hx0 hb0 hb1 hb2 hb3 hx hy hz hu h hdo hl hf hp;obtain⟨ck,hck⟩:=ex_ (br j);rw[←hck]at HCK
 by_cases hm:bJ j=true
 ·have t1:((ck.2.2:Int) != 0)=false:=by rw[hck,nl hm];rfl
  have HR:=zH (show cM j rows=dI j [] (grp (srt rows.flatten)) from if_pos hm);clear hm hck;go_wp2_with (first|(go_at_call 61;refine(HCK.o _ HB3.o).mono ?_;rintro e w3 ⟨rfl,hB4⟩;have HX4:=zH (HX.o.below hB4);have HY4:=zH (HY.o.below hB4);have HZ4:=zH (HZ.o.below hB4);have HU4:=zH (HU.o.below hB4);have HB4:=zH (bt HB3.o hB4);clear hB4 x0 x1 x2 x3 x4 x5 x6 x7)|(go_at_call 96;refine(un av rows.length cv _).mono ?_;rintro e w5 ⟨rfl,hw5⟩;have HW5:=zH hw5;clear hw5));have hw5:=HW5.o;clear HW5;have hX5:=bm_ hw5;have hB5:=ba_ hw5;have hs5:w5.heap.size=w3.heap.size+1:=by rw[hw5,bo]
  have hE3:=HU4.o.lt;have HX5:=zH hX5;have HJ5:=zH (HX4.o.below hB5);have HY5:=zH (HY4.o.below hB5);have HZ5:=zH (HZ4.o.below hB5);have HU5:=zH (HU4.o.below hB5);have HB5:=zH (bt HB4.o hB5);have hJw:=HJW.o;obtain⟨gs,hgs⟩:=ex_ (grp (srt rows.flatten));have hgn:gs.length≤1000000:=by rw[hgs];exact HGC.o
  have HGN:=zH hgn;rw[←hgs]at HIT HGB HGV HR;clear hw5 hX5 hB5 hgs hgn HX4 HY4 HZ4 HU4 HB4 HCK
  refine vu (D:=w5.heap.size) rfl (gf:=140) (lb:=#[.pointer (some ⟨w3.heap.size,0,none⟩)]) rfl (enters_of Tryz.func140 (by kernel_rfl) rfl)
   (Xr:=fun U U'=>Below U.heap.size U U') (Yr:=fun U U'=>(J+1)<U.heap.size→YrF (J+1) w5.heap.size U U') (Fin:=fun _=>True) (El:=ElF w5.heap.size) (out:=gs) (fun U U' h=>Df (X:=fun _=>False) (Da h) (fun _ _ q=>q)) (fun a b c d h1 h2 h3 hs=>YrF.comp (by omega) a b c d hs h1 (h2 (Dv hs h1.size)) h3) (fun _ _ _ _=>trivial)
   (fun W hW hD0 hD1 hBW=>HIT.o w3.heap.size (J+1) w5.heap.size W (HX5.o.below (hBW.mono (by omega))) ?seq (HY5.o.below hBW) (by omega) hW hD0 hD1) (fun x vs U h=>by obtain⟨A,C,rfl,-⟩:=h;rfl) (fun x vs U U' h hc=>by obtain⟨A,C,e,h2⟩:=h;exact⟨A,C,e,cV h2 hc (fun k hk=>by omega)⟩)
   (FI J (J+1) (J+1+1) (J+1+1+1) w5.heap.size w [.slice ta j.mt.length tc,.slice ca j.mc.length cc,.slice ta2 j.jt.length tc2,.slice ca2 j.jc.length cc2,.slice ta3 j.tt.length tc3,.slice ca3 j.tc.length cc3,.int .i64 j.parts,.int .i64 j.fuel] j) (FX (J+1) (J+1+1) (J+1+1+1) w j) (fun pre U U' h hx=>h.below hx) (fun pre U U' h hc=>h.chg (by omega) (by omega) (by omega) (by omega) (by omega) hc) (fun c pre U U' h hx=>h.below hx) (fun c pre U U' h hc=>h.chg (by omega) (by omega) (by omega) (by omega) hc)
   ⟨HJ5.o,⟨_,[],HY5.o,Rec.Own.nil _ _,DC _,fun rest=>rfl⟩,⟨_,HZ5.o⟩,⟨_,HU5.o⟩,HB5.o⟩ ?round ?done ?stop
  case seq=>exact bt HB5.o hBW
  case round =>
   rintro l pre x vs U _ ⟨A,C,rfl,_⟩ hpre;gi_wp2;refine⟨DF _ _,?_⟩;rintro U2 h2 hI ⟨A',C',hv',hro⟩ hcU;have hv2:Value.slice A x.length C=.slice A' x.length C':=by simpa using hv'
   injection hv2 with q1 _ q3
   subst q1 q3;obtain⟨rv,out,hrq,hrown,hol,hrw⟩:=hI.row;obtain⟨ra,rc,rfl⟩:=ap hrown;obtain⟨bx,hbx⟩:=hI.bad;obtain⟨ex,hex⟩:=hI.err;have hxm:x∈gs:=by obtain⟨r,hr⟩:=hpre;rw[←hr];simp
   have hxl:=HGB.o x hxm
   have hpl:pre.length<1000000+1:=by
    have q:=hpre.length_le;have:=HGN.o;rw[DL]at q;simp at q;omega
   have HV:=zH (HVA.o (.slice A x.length C) (x.map (·.2)) U2 hI.bel (by rw[show x.length=(x.map (·.2)).length by simp]at hro⊢;exact hro.row) (by rw[Ed];exact DG hxl (by decide)) (HGV.o x hxm));obtain⟨y0,y1,y2,y3,y4,y5,y6,y7⟩:=cl8 hI.job;obtain⟨R,hR⟩:=ex_ (bu j (x.map (·.2)));rw[←hR]at HV;have HR2:=zH hR;have HQ:=zH hrq;have HO:=zH hrown;have HBX:=zH hbx;have HEX:=zH hex;have HRW:=zH hrw;have HIJ:=zH hI.job;have HIB:=zH hI.bel;clear hI hv' hro hcU hrq hrown hbx hex hrw hR hxm hpre;gi_wp2;refine⟨trivial,CallsIn.inRound _ (callsIn_wide.2 (HV.o.mono ?_))⟩;rintro e w8 ⟨rfl,hB8⟩;have hq8:=HQ.o.below hB8;have hb8:=HBX.o.below hB8;have he8:=HEX.o.below hB8;have z1:=hq8.cell (k:=0) rfl;have z2:=hb8.cell (k:=0) rfl;have z3:=he8.cell (k:=0) rfl;have f1:=hq8.free (k:=0) (by simp);have f2:=hb8.free (k:=0) (by simp);have f3:=he8.free (k:=0) (by simp);have l1:=hq8.lt;have l2:=hb8.lt;have l3:=he8.lt;have HQ8:=zH hq8;have HBX8:=zH hb8;have HEX8:=zH he8;have HO8:=zH (HO.o.below hB8);have HB8:=zH hB8;clear hq8 hb8 he8 hB8 y0 y1 y2 y3 y4 y5 y6 y7
   by_cases hz:R.2=0
   ·have t2:((R.2:Int) != 0)=false:=by rw[hz];rfl
    have HRZ:=zH (show ∀ rest,dI j [] ((pre++[x])++rest)=dI j (out++[(hk1 x,R.1)]) rest from fun rest=>by
     rw[DK,HRW.o,List.singleton_append,yp (by rw[←HR2.o];exact hz),←HR2.o])
    have HBY:=zH (show(out.length+1)*32≤140737488355328 by omega);have HSZ:=zH (show w5.heap.size+2≤w8.heap.size from DG h2 HB8.o.size);clear hz;have HLT:=zH (show ∀ k,(Value.slice ra out.length rc).ownBlock=some k→w5.heap.size+2≤k from fun k hk=>(Rec.Own.ltV HO.o k hk).1);gi_wp2_with (gi_at_builtin;go_loud (refine recKv.append1G w8 (hk1 x,R.1) rfl _ _ 29 rfl Tryz.underlying29 (w5.heap.size+2) _ out HO8.o rfl _ rfl _ rfl _ rfl HBY.o HSZ.o ?_);intro g cap w9 hown9 hc9 hg9;have HO9:=zH hown9;have HC9:=zH hc9;have HG9:=zH hg9;have hq9:=HQ8.o.chg hc9 (fun q=>by have:=HLT.o _ q;omega);have y1:=hq9.cell (k:=0) rfl;have g1:=hq9.free (k:=0) (by simp);have m1:=hq9.lt;have HQ9:=zH hq9;clear hown9 hc9 hg9 hq9);have hfr:=uq (n:=out.length+1) (cap:=cap) (by omega) HQ.o HB8.o HC9.o HG9.o HLT.o;have hcs:Chg (fun k=>k=J+1) w9 (w9.setCell ⟨J+1,0,none⟩ (.slice (some ⟨g,0,none⟩) (out.length+1) cap)):=Chg.setCell _ _ _ rfl
    refine⟨hfr.1,fun _=>hfr.2,⟨((HIJ.o.below HB8.o).chg HC9.o (fun q=>by have:=HLT.o _ q;omega)).chg hcs (by omega),⟨_,out++[(hk1 x,R.1)],HQ9.o.set 0 _,cV HO9.o hcs (fun k hk=>by omega),by rw[DL,DL];exact Nat.add_le_add_right hol 1,HRZ.o⟩,
     ⟨_,(HBX8.o.chg HC9.o (fun q=>by have:=HLT.o _ q;omega)).chg hcs (by omega)⟩,⟨_,(HEX8.o.chg HC9.o (fun q=>by have:=HLT.o _ q;omega)).chg hcs (by omega)⟩,?_⟩⟩
    exact(bt HIB.o HB8.o).trans (((HC9.o.mono (fun k hk=>.inr hk)).trans (hcs.mono (fun k hk=>.inl hk))).below (X:=fun k=>k=J+1∨(Value.slice ra out.length rc).ownBlock=some k) (fun k hk=>hk.elim (fun q=>by omega) (fun q=>by have:=HLT.o _ q;omega)) (bt HIB.o HB8.o).size)
   ·have t2:((R.2:Int) != 0)=true:=by simpa using hz
    have HRZ:=zH (show ∀ rest,dI j [] ((pre++[x])++rest)=([],hk1 x,R.2) from fun rest=>by
     rw[DK,HRW.o,List.singleton_append,wi (by rw[←HR2.o];exact hz),←HR2.o])
    clear hz;gi_wp2;have hq9:=HQ8.o.set 0 (.slice none 0 0);have hb9:=HBX8.o.chg (X:=fun k=>k=J+1) (Chg.setCell w8 ⟨J+1,0,none⟩ (.slice none 0 0) rfl) (by omega);have he9:=HEX8.o.chg (X:=fun k=>k=J+1) (Chg.setCell w8 ⟨J+1,0,none⟩ (.slice none 0 0) rfl) (by omega);have hx9:Chg (fun k=>k=J+1∨k=J+1+1∨k=J+1+1+1) w8 (w8.setCell ⟨J+1,0,none⟩ (.slice none 0 0)):=Chg.setCell _ _ _ (.inl rfl);obtain⟨w9,hw9⟩:=ex_ (w8.setCell ⟨J+1,0,none⟩ (.slice none 0 0));rw[←hw9]at hq9 hb9 he9 hx9⊢;clear hw9;have hc1:Chg (fun k=>k=J+1+1) w9 (w9.setCell ⟨J+1+1,0,none⟩ (.string (bs (hk1 x)))):=Chg.setCell _ _ _ rfl;have hq10:=hq9.chg hc1 (by omega);have hb10:=hb9.set 0 (.string (bs (hk1 x)));have he10:=he9.chg hc1 (by omega);have hx10:=hx9.trans (hc1.mono (fun k hk=>.inr (.inl hk)));obtain⟨w10,hw10⟩:=ex_ (w9.setCell ⟨J+1+1,0,none⟩ (.string (bs (hk1 x))));rw[←hw10]at hc1 hq10 hb10 he10 hx10⊢;clear hw10;have hc2:Chg (fun k=>k=J+1+1+1) w10 (w10.setCell ⟨J+1+1+1,0,none⟩ (.int .i64 (R.2:Int))):=Chg.setCell _ _ _ rfl;have hx11:=hx10.trans (hc2.mono (fun k hk=>.inr (.inr hk)));exact⟨Df ((Da HB8.o).trans hx11) (fun k hk q=>by omega),rfl,hq10.chg hc2 (by omega),⟨hk1 x,R.2,hb10.chg hc2 (by omega),he10.set 0 _,HRZ.o⟩,(bt HIB.o HB8.o).trans (hx11.below (fun k hk=>by omega) (bt HIB.o HB8.o).size)⟩
  case done =>
   rintro W h2 hI-hK;obtain⟨rv,out,hrq,hrown,hol,hrw⟩:=hI.row;obtain⟨ra,rc,rfl⟩:=ap hrown;obtain⟨bx,hbx⟩:=hI.bad;obtain⟨ex,hex⟩:=hI.err
   have HRO:=zH (show dI j [] gs=(out,[],0) by
    have q:=hrw [];rw[DR]at q;rw[q];rfl)
   have z1:=hrq.cell (k:=0) rfl;have z2:=hbx.cell (k:=0) rfl;have z3:=hex.cell (k:=0) rfl;have f1:=hrq.free (k:=0) (by simp);have f2:=hbx.free (k:=0) (by simp);have f3:=hex.free (k:=0) (by simp);have l1:=hrq.lt;have l2:=hbx.lt;have l3:=hex.lt;have HQ:=zH hrq;have HBX:=zH hbx;have HEX:=zH hex;have HO:=zH hrown;have HIB:=zH hI.bel;have HK:=zH hK;clear hI hrq hbx hex hrown hrw hK;go_wp2;have h3:=Bc HQ.o HBX.o HEX.o (.slice ra out.length rc) (.string ⟨#[]⟩) (.int .i64 0);obtain⟨W8,hW8⟩:=ex_ (((W.setCell ⟨J+1,0,none⟩ (.slice ra out.length rc)).setCell ⟨J+1+1,0,none⟩ (.string ⟨#[]⟩)).setCell ⟨J+1+1+1,0,none⟩ (.int .i64 0));rw[←hW8]at h3⊢;obtain⟨g1,g2,g3,g4⟩:=h3;have hp:Chg (fun k=>k=w5.heap.size) W8 (W8.putObj w5.heap.size (.deferred none)):=Chg.putObj _ _ _ rfl;refine fD (D:=w5.heap.size) rfl (g4.at HK.o (by omega)) (gB rfl rfl rfl rfl (li ((g1.chg hp (by omega)).cell (k:=0) rfl)) (eO ((g2.chg hp (by omega)).cell (k:=0) rfl)) (fO ((g3.chg hp (by omega)).cell (k:=0) rfl))) ?_;rw[HR.o,HRO.o];exact⟨⟨_,rfl,dF (cV (cV HO.o g4 (fun k hk=>by omega)) hp (fun k hk=>by omega)) (by omega)⟩,HIB.o.trans ((g4.below (fun k hk=>by omega) HIB.o.size).trans (hp.below (fun k hk=>by omega) (DG HIB.o.size g4.size)))⟩
  case stop =>
   rintro c pre W h2 hpre ⟨rfl,hq,⟨key,er,hb,he,hrw⟩,hbel⟩ hK;have HRO:=zH (show dI j [] gs=([],key,er) by obtain⟨r,hr⟩:=hpre;rw[←hr];exact hrw r);clear hrw hpre;go_wp2;have hp:Chg (fun k=>k=w5.heap.size) W (W.putObj w5.heap.size (.deferred none)):=Chg.putObj _ _ _ rfl;refine fD (D:=w5.heap.size) rfl hK (gB rfl rfl rfl rfl (li ((hq.chg hp (by omega)).cell (k:=0) rfl)) (eO ((hb.chg hp (by omega)).cell (k:=0) rfl)) (fO ((he.chg hp (by omega)).cell (k:=0) rfl))) ?_;rw[HR.o,HRO.o];exact⟨⟨_,rfl,Rec.Own.nil _ _⟩,hbel.trans (hp.below (fun k hk=>by omega) hbel.size)⟩
 ·have t1:((ck.2.2:Int) != 0)=true:=by rw[hck];simpa using p9 hm
  have HR:=zH (show cM j rows=([],[],2) from if_neg hm);clear hm hck;go_wp2_with (go_at_call 61;refine(HCK.o _ HB3.o).mono ?_;rintro e w3 ⟨rfl,hB4⟩;have hy4:=HY.o.below hB4;have hz4:=HZ.o.below hB4;have hu4:=HU.o.below hB4;have z1:=hy4.cell (k:=0) rfl;have z2:=hz4.cell (k:=0) rfl;have z3:=hu4.cell (k:=0) rfl;have f1:=hy4.free (k:=0) (by simp);have f2:=hz4.free (k:=0) (by simp);have f3:=hu4.free (k:=0) (by simp);have l1:=hy4.lt;have l2:=hz4.lt;have l3:=hu4.lt;have HY4:=zH hy4;have HZ4:=zH hz4;have HU4:=zH hu4;have HB4:=zH (bt HB3.o hB4);clear hB4 hy4 hz4 hu4 x0 x1 x2 x3 x4 x5 x6 x7);have h3:=Bc HY4.o HZ4.o HU4.o (.slice none 0 0) (.string ⟨#[]⟩) (.int .i64 2);obtain⟨g1,g2,g3,g4⟩:=h3;refine tX rfl (gB rfl rfl rfl rfl (li (g1.cell (k:=0) rfl)) (eO (g2.cell (k:=0) rfl)) (fO (g3.cell (k:=0) rfl))) ?_;rw[HR.o];have hJw:=HJW.o;exact⟨⟨_,rfl,Rec.Own.nil _ _⟩,HB4.o.trans (g4.below (fun k hk=>by omega) HB4.o.size)⟩
end
section
attribute [local irreducible] wpG

theorem oO (j:Jb):∀ (gs:List (List PR)) (out:List PR),(dI j out gs).1.length≤out.length+gs.length
 | [],out=>by simp[dI]
 | g::gs,out=>by
  rw[dI]
  split
  ·simp
  ·have h:=oO j gs (out++[(hk1 g,(bu j (g.map (·.2))).1)])
   rw[DL]at h;simp only[Du,Eb]at h⊢;omega
theorem wj (j:Jb)(rows:List (List PR))(hf:rows.flatten.length≤1000000):(cM j rows).1.length≤1000000:=by
 unfold cM
 split
 ·have h:=oO j (grp (srt rows.flatten)) []
  have h2:=pp hf;simp only[Eb,DE]at h;omega
 ·simp
end
