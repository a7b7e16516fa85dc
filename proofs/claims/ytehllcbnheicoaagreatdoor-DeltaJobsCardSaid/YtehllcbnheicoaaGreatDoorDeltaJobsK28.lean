/- Lemmas for DeltaJobs: walks, plain laws. -/
import Derived.Test.YtehllcbnheicoaaGreatDoorDeltaJobsK25
set_option linter.unusedSimpArgs false
set_option linter.unusedVariables false
set_option maxRecDepth 100000
set_option maxHeartbeats 16000000
namespace Go.Proofs.YtehllcbnheicoaaGreatDoor
open Go.RowKit Oct
section
theorem n8 (v:Value)(o:Option PR)(t:TR)(w:World)(h:Dv w v o):Calls Tryz.prog 79 #[v,.agg #[.string (bs t.key),.string (bs t.was),.string (bs t.now),.bool t.had,.bool t.has]] w fun e w'=>e=.returned (.bool (da o t))∧Bw_ w w':=by
 cases o with
 | none=>obtain rfl:=h;exact yi t w
 | some x=>obtain⟨b,off,rfl,h1,h2⟩:=h;exact yh b off x t w h1 h2
def AN (w:World)(v:Value)(t:TR):Prop:=∃ b off,v=.pointer (some ⟨b,off,none⟩)∧w.cell? ⟨b,off,none⟩=some (.string (bs t.key))∧w.cell? ⟨b,off+1,none⟩=some (.string (bs t.was)) ∧
 w.cell? ⟨b,off+2,none⟩=some (.string (bs t.now))∧w.cell? ⟨b,off+3,none⟩=some (.bool t.had)∧w.cell? ⟨b,off+4,none⟩=some (.bool t.has)
theorem AN.below {w w':World}{v:Value}{t:TR}(h:AN w v t)(hB:Below w.heap.size w w'):AN w' v t:=by
 obtain⟨b,off,hv,h1,h2,h3,h4,h5⟩:=h;exact⟨b,off,hv,DK hB h1,DK hB h2,DK hB h3,DK hB h4,DK hB h5⟩
def di (s:List PR×Bool)(o:Option PR×Option TR):List PR×Bool :=
 match o.2 with
 | none=>(s.1++o.1.toList,s.2)
 | some t=>if da o.1 t then (if t.has then (s.1++[(t.key,t.now)],s.2) else s) else (s.1,true)
def pY (b:Bool):Int:=if b then 2 else 0
def ey (p:Nat)(w:World)(s:List PR×Bool):Prop :=
 ew p (p+2) 37 62 2 w s.1.length (aS s.1)∧w.heap[p+1]?=some (.cells #[.int .i64 (pY s.2)] 33 (0,0))
theorem ey.below {p:Nat}{w w':World}{s:List PR×Bool}(h:ey p w s)(hB:Below w.heap.size w w'):ey p w' s :=
 ⟨ew.chg h.1 (DM (X:=fun _=>False) hB) (fun _ h=>h.elim),(hB.block (p+1) (by obtain⟨hh,_⟩:=Array.getElem?_eq_some_iff.1 h.2;exact hh)).trans h.2⟩
theorem ey.open {p:Nat}{w:World}{s:List PR×Bool}(h:ey p w s):∃ a c,w.cell? ⟨p,0,none⟩=some (.slice a s.1.length c)∧w.frozen? ⟨p,0,none⟩=false∧OP w (p+2) (.slice a s.1.length c) s.1∧p+1<w.heap.size ∧w.cell? ⟨p+1,0,none⟩=some (.int .i64 (pY s.2))∧w.frozen? ⟨p+1,0,none⟩=false:=by
 obtain⟨⟨v,hh,hown⟩,he⟩:=h;obtain⟨a,c,rfl⟩:=ap hown;exact⟨a,c,cell_of_one hh,free_of_one hh,hown,aD (cell_of_one he),cell_of_one he,free_of_one he⟩
theorem ey.stored {p g cap:Nat}{U W:World}{s:List PR×Bool}{l:List PR}(hb:ey p U s)(hB:Below (p+2) U W)(hown:OP W (p+2) (.slice (some ⟨g,0,none⟩) l.length cap) l):ey p (W.setCell ⟨p,0,none⟩ (.slice (some ⟨g,0,none⟩) l.length cap)) (l,s.2)∧Below p U (W.setCell ⟨p,0,none⟩ (.slice (some ⟨g,0,none⟩) l.length cap)):=by
 obtain⟨⟨v,hs,_⟩,he⟩:=hb;refine⟨⟨(ew.stored (bZ:=p+2) (by omega) hs hB hown).1,?_⟩,Below.setCell (hB.mono (Nat.le_add_right p 2)) (p:=⟨p,0,none⟩) (Ei _) _⟩;rw[Below.heap_setCell _ _ _ _ (by simp)];exact(hB.block (p+1) (by omega)).trans he
theorem ey.bad {p:Nat}{U:World}{s:List PR×Bool}(hb:ey p U s):ey p (U.setCell ⟨p+1,0,none⟩ (.int .i64 2)) (s.1,true):=by
 obtain⟨⟨v,hs,hown⟩,he⟩:=hb;exact⟨⟨v,by rw[Below.heap_setCell _ _ _ _ (by simp)];exact hs,ownsRow_setCell_below hown (by simp) _⟩,one_setCell (v:=.int .i64 (pY s.2)) he⟩
theorem wv (p:Nat)(b off:Nat)(x:PR)(s:List PR×Bool)(w:World)(h1:w.cell? ⟨b,off,none⟩=some (.string (bs x.1)))(h2:w.cell? ⟨b,off+1,none⟩=some (.string (bs x.2)))(hbox:ey p w s)(hl:(s.1.length+1)*32≤140737488355328):Calls Tryz.prog 78 #[.pointer (some ⟨b,off,none⟩),.pointer none,.pointer (some ⟨p,0,none⟩),.pointer (some ⟨p+1,0,none⟩)] w fun e w'=>e=.returned (.tuple #[])∧ey p w' (di s (some x,none))∧Below p w w':=by
 have HBX:=zH hbox;obtain⟨av,cv,c,f,hown,hp,c2,f2⟩:=hbox.open;have hownd:=World.ownsRow.drew hown;have hp0:p<w.heap.size:=by omega
 have hbase:p+2≤w.drew.heap.size:=hp;clear hbox hown;go_enter Tryz.func78,Tryz.ntmps78;go_wp2;go_region_law (refine fx w.drew x rfl _ _ 37 rfl Tryz.underlying37 (p+2) _ s.1 rfl hownd _ rfl hl hbase ?_;intro g cap w3 hown3 hB3;have c':=(hB3.cell (p:=⟨p,0,none⟩) (by simp)).trans c;have f':=(hB3.frozen (p:=⟨p,0,none⟩) (by simp)).trans f)
 all_goals
  have HO3:=zH hown3;have HB3:=zH (((Em (p+2) w).drew).trans hB3);clear hown3 hB3 hownd c f c' f' c2 f2 h1 h2;go_wp2;refine bodyPost_end (results_none rfl _ _ _) rfl ?_;have hst:=HBX.o.stored (l:=s.1++[x]) (g:=g) (cap:=cap) HB3.o (by rw[Ev];exact HO3.o);rw[Ev]at hst;exact⟨rfl,hst.1,hst.2⟩
theorem qT (p:Nat)(v vt:Value)(o:Option PR)(t:TR)(s:List PR×Bool)(w:World)(hv:Dv w v o)(ht:AN w vt t)(hbox:ey p w s)(hl:(s.1.length+1)*32≤140737488355328):Calls Tryz.prog 78 #[v,vt,.pointer (some ⟨p,0,none⟩),.pointer (some ⟨p+1,0,none⟩)] w fun e w'=>e=.returned (.tuple #[])∧ey p w' (di s (o,some t))∧Below p w w':=by
 have HBX:=zH hbox;have HV:=zH hv;have HT:=zH ht;obtain⟨b,off,rfl,t1,t2,t3,t4,t5⟩:=ht;clear hbox hv;have hmk:∀ w' (u:Value),(loadVar 77 ⟨b,off,none⟩).run Tryz.prog w'=.ok u w'→True:=fun _ _ _=>trivial;clear hmk
 cases hf:da o t with
 | false =>
  have HF:=zH hf;clear hf;go_enter Tryz.func78,Tryz.ntmps78;go_wp2_with fail;refine(n8 v o t w HV.o).mono ?_;rw[HF.o];rintro e w2 ⟨rfl,hB2⟩;have HBX2:=zH (HBX.o.below hB2);have HB2:=zH hB2;obtain⟨av,cv,c,f,hown,hp,c2,f2⟩:=HBX2.o.open;have hpw:p≤w.heap.size:=by obtain⟨_,_,_,_,_,h,_⟩:=HBX.o.open;omega
  clear hown hB2 t1 t2 t3 t4 t5;go_wp2;refine bodyPost_end (results_none rfl _ _ _) rfl ?_;refine⟨rfl,?_,Below.setCell (HB2.o.mono hpw) (p:=⟨p+1,0,none⟩) (Nat.le_succ _) _⟩;unfold di;simp only[HF.o,Bool.false_eq_true,if_false];exact HBX2.o.bad
 | true =>
  have HF:=zH hf;clear hf
  cases hh:t.has with
  | false =>
   have HH:=zH hh;rw[hh]at t5;clear hh;go_enter Tryz.func78,Tryz.ntmps78;go_wp2_with fail;have hfc:=n8 v o t w HV.o;rw[HH.o,HF.o]at hfc;refine hfc.mono ?_;rintro e w2 ⟨rfl,hB2⟩;have HBX2:=zH (HBX.o.below hB2);have HB2:=zH hB2;have t5':=DK hB2 t5;have hpw:p≤w.heap.size:=by obtain⟨_,_,_,_,_,h,_⟩:=HBX.o.open;omega
   clear hB2 t1 t2 t3 t4 t5 hfc;go_wp2;refine bodyPost_end (results_none rfl _ _ _) rfl ?_;refine⟨rfl,?_,HB2.o.mono hpw⟩;unfold di;simp only[HF.o,HH.o,if_true,Bool.false_eq_true,if_false];exact HBX2.o
  | true =>
   have HH:=zH hh;rw[hh]at t5;clear hh;go_enter Tryz.func78,Tryz.ntmps78;go_wp2_with fail;have hfc:=n8 v o t w HV.o;rw[HH.o,HF.o]at hfc;refine hfc.mono ?_;rintro e w2 ⟨rfl,hB2⟩;have HBX2:=zH (HBX.o.below hB2);have HB2:=zH hB2;have t1':=DK hB2 t1;have t3':=DK hB2 t3;have t5':=DK hB2 t5;have hpw:p≤w.heap.size:=by obtain⟨_,_,_,_,_,h,_⟩:=HBX.o.open;omega
   have hb2:=aD t1';obtain⟨av,cv,c,f,hown,hp,c2,f2⟩:=HBX2.o.open;have hownd:=World.ownsRow.drew hown;have hp0:p<w2.heap.size:=by omega
   have hbase:p+2≤w2.drew.heap.size:=hp;clear hB2 t1 t2 t3 t4 t5 hfc hown;go_wp2;go_region_law (refine fx w2.drew (t.key,t.now) rfl _ _ 37 rfl Tryz.underlying37 (p+2) _ s.1 rfl hownd _ rfl hl hbase ?_;intro g cap w3 hown3 hB3;have c':=(hB3.cell (p:=⟨p,0,none⟩) (by simp)).trans c;have f':=(hB3.frozen (p:=⟨p,0,none⟩) (by simp)).trans f)
   all_goals
    have HO3:=zH hown3;have HB3:=zH (((Em (p+2) w2).drew).trans hB3);clear hown3 hB3 hownd c f c' f' c2 f2;go_wp2;refine bodyPost_end (results_none rfl _ _ _) rfl ?_;have hst:=HBX2.o.stored (l:=s.1++[(t.key,t.now)]) (g:=g) (cap:=cap) HB3.o (by rw[Ev];exact HO3.o);rw[Ev]at hst;refine⟨rfl,?_,(HB2.o.mono hpw).trans hst.2⟩;unfold di;simp only[HF.o,HH.o,if_true];exact hst.1
end
section
attribute [local irreducible] wpG
def apF (a:List PR)(b:List TR)(s:List PR×Bool):List PR×Bool:=(steps Prod.fst TR.key a b).foldl di s
theorem wy (s:List PR×Bool):apF [] [] s=s:=by rw[apF,steps];rfl
theorem AI (x:PR)(a:List PR)(s:List PR×Bool):apF (x::a) [] s=apF a [] (di s (some x,none)):=by rw[apF,steps];rfl
theorem qb (y:TR)(b:List TR)(s:List PR×Bool):apF [] (y::b) s=apF [] b (di s (none,some y)):=by rw[apF,steps];rfl
theorem Cx (x:PR)(y:TR)(a:List PR)(b:List TR)(s:List PR×Bool)(h:lt x.1 y.key=true):apF (x::a) (y::b) s=apF a (y::b) (di s (some x,none)):=by rw[apF,steps,if_pos h];rfl
theorem Cy (x:PR)(y:TR)(a:List PR)(b:List TR)(s:List PR×Bool)(h:lt x.1 y.key=false)(h2:lt y.key x.1=true):apF (x::a) (y::b) s=apF (x::a) b (di s (none,some y)):=by rw[apF,steps,if_neg (by rw[h];simp),if_pos h2];rfl
theorem vE (x:PR)(y:TR)(a:List PR)(b:List TR)(s:List PR×Bool)(h:lt x.1 y.key=false)(h2:lt y.key x.1=false):apF (x::a) (y::b) s=apF a b (di s (some x,some y)):=by rw[apF,steps,if_neg (by rw[h];simp),if_neg (by rw[h2];simp)];rfl
theorem jm (s:List PR×Bool)(o:Option PR×Option TR):(di s o).1.length≤s.1.length+1:=by
 obtain⟨o,t⟩:=o;unfold di
 cases t with
 | none=>cases o<;>simp
 | some t=>dsimp only;split<;>(try split)<;>simp
theorem b32 {d na nb m:Nat}(h:d+na+nb≤m)(hm:(m+1)*32≤140737488355328):(d+1)*32≤140737488355328:=by omega
theorem im {d d' na nb na' nb' m:Nat}(h:d+na+nb≤m)(ht:d'≤d+1)(h2:na'+nb'+1≤na+nb):d'+na'+nb'≤m:=by omega
theorem mj {w:World}{a:Option Addr}{m c:Nat}{x:TR}{r:List TR}(h:dm.Row w (.slice a (m+1) c) (x::r))(hm:m=r.length):∃ b off A C,a=some ⟨b,off,none⟩∧AN w (.pointer (some ⟨b,off,none⟩)) x ∧(∀ wx,(Instr.slice 51 (.slice a (m+1) c) (some (.int .i64 1)) none none).run Tryz.prog wx=.ok (.slice A m C) wx)∧dm.Row w (.slice A m C) r:=by
 subst hm;have h':dm.Row w (.slice a (x::r).length c) (x::r):=h;obtain⟨A,C,hrun,hr⟩:=h'.cutRun 51 (by kernel_rfl) (fun wx=>by kernel_rfl) 1 1 rfl (by simp);obtain⟨a',c',hv,_,hc⟩:=fZ h';injection hv with e1 _ _
 subst e1;obtain⟨b,off,ha,h1,h2,h3,h4,h5⟩:=hc 0 (by simp);rw[Nat.zero_mul,Nat.add_zero]at h1 h2 h3 h4 h5;simp only[Ea,Nat.add_sub_cancel,EA,EL]at hrun hr;exact⟨b,off,A,C,ha,⟨b,off,rfl,h1,h2,h3,h4,h5⟩,hrun,hr⟩
theorem GY {T:Prop} (h:T:=by
 go_simp;exact(eK x.1 y.key w').mono fun _ _ ⟨he,hw⟩=>⟨_,by rw[he,HCF.o],hG _ (by rw[←hw];exact Bel.refl _)⟩
):T:=h
theorem GZ {T:Prop} (h:T:=by
 obtain⟨_,_,hv,c1,c2,c3,c4,c5⟩:=HPT.o.below hB
 cases hv
 go_simp;exact hG _ (Bel.refl _)
):T:=h
theorem G0 {T:Prop} (h:T:=by
 have c1:=DK hB HX1.o;have c2:=DK hB HX2.o;go_simp;exact hG _ (Bel.refl _)
):T:=h
theorem vA (v1 v2:Value)(a:List PR)(b:List TR)(w0 w:World)(hr1:RP w0 v1 a)(hr2:dm.Row w0 v2 b)(hbox:ey w0.heap.size w ([],false))(hB:Below w0.heap.size w0 w)(hl:(a.length+b.length+1)*32≤140737488355328):Calls Tryz.prog 76 #[v1,v2,.func (.func 73) #[] #[],.func (.func 77) #[] #[],.func (.func 78) #[] #[.pointer (some ⟨w0.heap.size,0,none⟩),.pointer (some ⟨w0.heap.size+1,0,none⟩)]] w fun e w'=>e=.returned (.tuple #[])∧ey w0.heap.size w' (apF a b ([],false))∧Below w0.heap.size w0 w':=by
 obtain⟨a1,c1,rfl,_,_⟩:=hr1.open;obtain⟨a2,c2,rfl,_,_⟩:=fZ hr2;have HR1:=zH hr1;have HR2:=zH hr2;have HBX:=zH hbox;have HBW:=zH hB;have HLB:=zH hl;clear hr1 hr2 hbox hB hl;go_enter Tryz.func76,Tryz.ntmps76;go_wp2
 go_loopw [0,1] (fun v0 v1 wr=>∃ ra rb done,∃ n0 n1:Nat,∃ A0 C0 A1 C1,v0=.slice A0 n0 C0∧v1=.slice A1 n1 C1∧n0=ra.length∧n1=rb.length∧Hid (RP w0 (.slice A0 n0 C0) ra)∧Hid (dm.Row w0 (.slice A1 n1 C1) rb)∧Hid (apF ra rb done=apF a b ([],false))∧Hid (done.1.length+ra.length+rb.length≤a.length+b.length)∧Hid (ey w0.heap.size wr done)∧Hid (Below w0.heap.size w0 wr)) (fun v0 v1 _=>kd v0+kd v1)
 case atStart=>exact⟨a,b,([],false),_,_,_,_,_,_,rfl,rfl,rfl,rfl,HR1.o,HR2.o,rfl,by simp[Hid],HBX.o,HBW.o⟩
 case round =>
  clear HR1 HR2 HBX HBW;obtain⟨ra,rb,done,n0,n1,A0,C0,A1,C1,rfl,rfl,hn0,hn1,HRA,HRB,HEQ0,HLEN,HBX,HBW⟩:=hrel;obtain⟨Wr,hWr⟩:=ex_ wr;subst hWr
  cases ra with
  | nil =>
   obtain rfl:n0=0:=hn0
   cases rb with
   | nil =>
    obtain rfl:n1=0:=hn1;go_wp2;refine bodyPost_end (results_none rfl _ _ _) rfl ?_;have:=HEQ0.o;rw[wy]at this;exact⟨rfl,by rw[←this];exact HBX.o,HBW.o⟩
   | cons y r2 =>
    obtain⟨m1,rfl⟩:∃ m,n1=m+1:=⟨r2.length,by simpa using hn1⟩
    have HM1:=zH (show m1=r2.length by simpa using hn1);clear hn1;obtain⟨b2,o2,A3,C3,rfl,hpt,ry,hry⟩:=mj HRB.o HM1.o;have HPT:=zH (hpt.below HBW.o);have HR2:=zH hry;clear hpt hry;have j0:(0:Int)<(m1:Int)+1:=by omega
    have j1:(1:Int)≤(m1:Int)+1:=by omega
    have j2:(((m1:Int)+1)==0)=false:=by rw[beq_eq_false_iff_ne];omega
    have HB2:=zH (dB Wr);go_wp2;refine rk_ [] ?_;refine cG ?_;refine cM ?_;intro w3 hB3 hA3;have HB3:=zH (bt HB2.o hB3);clear hB3 hA3;have zy:=HPT.o.below HB3.o;have HC:=zH (qT w0.heap.size _ _ none y done _ rfl zy (HBX.o.below HB3.o) (b32 HLEN.o HLB.o));clear zy;go_wp2_with fail;refine HC.o.mono ?_;rintro e w6 ⟨rfl,hbox6,hB6⟩;have HBX6:=zH hbox6;have HB6:=zH (HBW.o.trans ((HB3.o.mono HBW.o.size).trans hB6));clear hbox6 hB6 HC;go_wp2
    have HEQ:apF ([]:List PR) r2 (di done (none,some y))=apF a b ([],false):=by
     have:=HEQ0.o;rw[qb]at this;exact this
    have HLE:(di done (none,some y)).1.length+([]:List PR).length+r2.length≤a.length+b.length:=im HLEN.o (jm done (none,some y)) (BX r2.length);have HREL:=zH (And.intro HEQ HLE);clear HEQ HLE;go_roundw
    case rel=>exact⟨([]:List PR),r2,di done (none,some y),0,m1,_,_,_,_,rfl,rfl,rfl,HM1.o,HRA.o,HR2.o,HREL.o.1,HREL.o.2,HBX6.o,HB6.o⟩
    case measure=>simp[kd]
  | cons x r1 =>
   obtain⟨m0,rfl⟩:∃ m,n0=m+1:=⟨r1.length,by simpa using hn0⟩
   have HM0:=zH (show m0=r1.length by simpa using hn0);obtain⟨b1,o1,A2,C2,rfl,cx1,cx2,rx,hrx⟩:=DY HRA.o HM0.o;have HX1:=zH (DK HBW.o cx1);have HX2:=zH (DK HBW.o cx2);have HR1:=zH hrx;clear cx1 cx2 hrx;have i0:(0:Int)<(m0:Int)+1:=by omega
   have i1:(1:Int)≤(m0:Int)+1:=by omega
   have i2:(((m0:Int)+1)==0)=false:=by rw[beq_eq_false_iff_ne];omega
   cases rb with
   | nil =>
    obtain rfl:n1=0:=hn1;clear hn0;have HB2:=zH (dB Wr);go_wp2;refine rk_ [] ?_;refine cG ?_;refine cM ?_;intro w3 hB3 hA3;have HB3:=zH (bt HB2.o hB3);clear hB3 hA3;have zx1:=DK HB3.o HX1.o;have zx2:=DK HB3.o HX2.o;have HC:=zH (wv w0.heap.size _ _ x done _ zx1 zx2 (HBX.o.below HB3.o) (b32 HLEN.o HLB.o));clear zx1 zx2;go_wp2_with fail;refine HC.o.mono ?_;rintro e w6 ⟨rfl,hbox6,hB6⟩;have HBX6:=zH hbox6;have HB6:=zH (HBW.o.trans ((HB3.o.mono HBW.o.size).trans hB6));clear hbox6 hB6 HC;go_wp2
    have HEQ:apF r1 ([]:List TR) (di done (some x,none))=apF a b ([],false):=by
     have:=HEQ0.o;rw[AI]at this;exact this
    have HLE:(di done (some x,none)).1.length+r1.length+([]:List TR).length≤a.length+b.length:=im HLEN.o (jm done (some x,none)) (BY r1.length);have HREL:=zH (And.intro HEQ HLE);clear HEQ HLE;go_roundw
    case rel=>exact⟨r1,([]:List TR),di done (some x,none),m0,0,_,_,_,_,rfl,rfl,HM0.o,rfl,HR1.o,HRB.o,HREL.o.1,HREL.o.2,HBX6.o,HB6.o⟩
    case measure=>simp[kd]
   | cons y r2 =>
    obtain⟨m1,rfl⟩:∃ m,n1=m+1:=⟨r2.length,by simpa using hn1⟩
    have HM1:=zH (show m1=r2.length by simpa using hn1);clear hn0 hn1;obtain⟨b2,o2,A3,C3,rfl,hpt,ry,hry⟩:=mj HRB.o HM1.o;have HPT:=zH (hpt.below HBW.o);have HR2:=zH hry;clear hpt hry;have j0:(0:Int)<(m1:Int)+1:=by omega
    have j1:(1:Int)≤(m1:Int)+1:=by omega
    have j2:(((m1:Int)+1)==0)=false:=by rw[beq_eq_false_iff_ne];omega
    cases hlt:lt x.1 y.1 with
    | true =>
     have HL1:=zH hlt;clear hlt;have hcf:lp x.1 y.key=(-1):=by unfold lp;rw[HL1.o];rfl
     have HCF:=zH hcf;clear hcf;go_wp2;refine rk_ [(3,.exact Bel (.agg #[.string (bs x.1),.string (bs x.2)])),(4,.exact Bel (.string (bs x.1))),(8,.exact Bel (.agg #[.string (bs y.key),.string (bs y.was),.string (bs y.now),.bool y.had,.bool y.has])),(9,.exact Bel (.string (bs y.key))),(10,.exact Bel (.int .i64 (-1)))] ?_;refine cG ?_;refine gE_ (fun w' G hB hS hG=>?_) (fun K hK=>?_)
     ·exact G0
     refine cO ?_;clear hK K;refine gE_ (fun w' G hB hS hG=>?_) (fun K hK=>?_)
     ·go_simp
      exact aH hG (fX x w')
     refine cO ?_;clear hK K;refine gE_ (fun w' G hB hS hG=>?_) (fun K hK=>?_)
     ·exact GZ
     refine cO ?_;clear hK K;refine gE_ (fun w' G hB hS hG=>?_) (fun K hK=>?_)
     ·go_simp
      exact aH hG (lQ y w')
     refine cO ?_;clear hK K;refine gE_ (fun w' G hB hS hG=>?_) (fun K hK=>?_)
     ·exact GY
     refine cO ?_;clear hK K;refine cM ?_;intro w2 hB2 hA2;have HB2:=zH hB2;clear hB2 hA2;go_wp2;refine rk_ [] ?_;refine cG ?_;refine cM ?_;intro w3 hB3 hA3;have HB3:=zH (bt HB2.o hB3);clear hB3 hA3;have zx1:=DK HB3.o HX1.o;have zx2:=DK HB3.o HX2.o;have HC:=zH (wv w0.heap.size _ _ x done _ zx1 zx2 (HBX.o.below HB3.o) (b32 HLEN.o HLB.o));clear zx1 zx2;go_wp2_with fail;refine HC.o.mono ?_;rintro e w6 ⟨rfl,hbox6,hB6⟩;have HBX6:=zH hbox6;have HB6:=zH (HBW.o.trans ((HB3.o.mono HBW.o.size).trans hB6));clear hbox6 hB6 HC;go_wp2
     have HEQ:apF r1 (y::r2) (di done (some x,none))=apF a b ([],false):=by
      have:=HEQ0.o;rw[Cx _ _ _ _ _ HL1.o]at this;exact this
     have HLE:(di done (some x,none)).1.length+r1.length+(y::r2).length≤a.length+b.length:=im HLEN.o (jm done (some x,none)) (zR r1.length r2.length);have HREL:=zH (And.intro HEQ HLE);clear HEQ HLE;go_roundw
     case rel=>exact⟨r1,(y::r2),di done (some x,none),m0,(m1+1),_,_,_,_,rfl,rfl,HM0.o,(by rw[Ea,←HM1.o]),HR1.o,HRB.o,HREL.o.1,HREL.o.2,HBX6.o,HB6.o⟩
     case measure=>simp[kd]
    | false =>
     have HL1:=zH hlt;clear hlt
     cases hgt:lt y.1 x.1 with
     | true =>
      have HL2:=zH hgt;clear hgt;have hcf:lp x.1 y.key=1:=by unfold lp;rw[HL1.o,HL2.o];rfl
      have HCF:=zH hcf;clear hcf;go_wp2;refine rk_ [(3,.exact Bel (.agg #[.string (bs x.1),.string (bs x.2)])),(4,.exact Bel (.string (bs x.1))),(8,.exact Bel (.agg #[.string (bs y.key),.string (bs y.was),.string (bs y.now),.bool y.had,.bool y.has])),(9,.exact Bel (.string (bs y.key))),(10,.exact Bel (.int .i64 1))] ?_;refine cG ?_;refine gE_ (fun w' G hB hS hG=>?_) (fun K hK=>?_)
      ·exact G0
      refine cO ?_;clear hK K;refine gE_ (fun w' G hB hS hG=>?_) (fun K hK=>?_)
      ·go_simp
       exact aH hG (fX x w')
      refine cO ?_;clear hK K;refine gE_ (fun w' G hB hS hG=>?_) (fun K hK=>?_)
      ·exact GZ
      refine cO ?_;clear hK K;refine gE_ (fun w' G hB hS hG=>?_) (fun K hK=>?_)
      ·go_simp
       exact aH hG (lQ y w')
      refine cO ?_;clear hK K;refine gE_ (fun w' G hB hS hG=>?_) (fun K hK=>?_)
      ·exact GY
      refine cO ?_;clear hK K;refine cM ?_;intro w2 hB2 hA2;have HB2:=zH hB2;clear hB2 hA2;go_wp2;refine rk_ [] ?_;refine cG ?_;refine cM ?_;intro w3 hB3 hA3;have HB3:=zH (bt HB2.o hB3);clear hB3 hA3;have zy:=HPT.o.below HB3.o;have HC:=zH (qT w0.heap.size _ _ none y done _ rfl zy (HBX.o.below HB3.o) (b32 HLEN.o HLB.o));clear zy;go_wp2_with fail;refine HC.o.mono ?_;rintro e w6 ⟨rfl,hbox6,hB6⟩;have HBX6:=zH hbox6;have HB6:=zH (HBW.o.trans ((HB3.o.mono HBW.o.size).trans hB6));clear hbox6 hB6 HC;go_wp2
      have HEQ:apF (x::r1) r2 (di done (none,some y))=apF a b ([],false):=by
       have:=HEQ0.o;rw[Cy _ _ _ _ _ HL1.o HL2.o]at this;exact this
      have HLE:(di done (none,some y)).1.length+(x::r1).length+r2.length≤a.length+b.length:=im HLEN.o (jm done (none,some y)) (zS r1.length r2.length);have HREL:=zH (And.intro HEQ HLE);clear HEQ HLE;go_roundw
      case rel=>exact⟨(x::r1),r2,di done (none,some y),(m0+1),m1,_,_,_,_,rfl,rfl,(by rw[Ea,←HM0.o]),HM1.o,HRA.o,HR2.o,HREL.o.1,HREL.o.2,HBX6.o,HB6.o⟩
      case measure=>simp[kd]
     | false =>
      have HL2:=zH hgt;clear hgt;have hcf:lp x.1 y.key=0:=by unfold lp;rw[HL1.o,HL2.o];rfl
      have HCF:=zH hcf;clear hcf;go_wp2;refine rk_ [(3,.exact Bel (.agg #[.string (bs x.1),.string (bs x.2)])),(4,.exact Bel (.string (bs x.1))),(8,.exact Bel (.agg #[.string (bs y.key),.string (bs y.was),.string (bs y.now),.bool y.had,.bool y.has])),(9,.exact Bel (.string (bs y.key))),(10,.exact Bel (.int .i64 0))] ?_;refine cG ?_;refine gE_ (fun w' G hB hS hG=>?_) (fun K hK=>?_)
      ·exact G0
      refine cO ?_;clear hK K;refine gE_ (fun w' G hB hS hG=>?_) (fun K hK=>?_)
      ·go_simp
       exact aH hG (fX x w')
      refine cO ?_;clear hK K;refine gE_ (fun w' G hB hS hG=>?_) (fun K hK=>?_)
      ·exact GZ
      refine cO ?_;clear hK K;refine gE_ (fun w' G hB hS hG=>?_) (fun K hK=>?_)
      ·go_simp
       exact aH hG (lQ y w')
      refine cO ?_;clear hK K;refine gE_ (fun w' G hB hS hG=>?_) (fun K hK=>?_)
      ·exact GY
      refine cO ?_;clear hK K;refine cM ?_;intro w2 hB2 hA2;have HB2:=zH hB2;clear hB2 hA2;go_wp2;refine rk_ [] ?_;refine cG ?_;refine cM ?_;intro w3 hB3 hA3;have HB3:=zH (bt HB2.o hB3);clear hB3 hA3;go_wp2;refine rk_ [] ?_;refine cG ?_;refine cM ?_;intro w4 hB4 hA4;have HB4:=zH (bt HB3.o hB4);clear hB4 hA4;have zx1:=DK HB4.o HX1.o;have zx2:=DK HB4.o HX2.o;have zy:=HPT.o.below HB4.o;have HC:=zH (qT w0.heap.size _ _ (some x) y done _ ⟨_,_,rfl,zx1,zx2⟩ zy (HBX.o.below HB4.o) (b32 HLEN.o HLB.o));clear zx1 zx2 zy;go_wp2_with fail;refine HC.o.mono ?_;rintro e w6 ⟨rfl,hbox6,hB6⟩;have HBX6:=zH hbox6;have HB6:=zH (HBW.o.trans ((HB4.o.mono HBW.o.size).trans hB6));clear hbox6 hB6 HC;go_wp2
      have HEQ:apF r1 r2 (di done (some x,some y))=apF a b ([],false):=by
       have:=HEQ0.o;rw[vE _ _ _ _ _ HL1.o HL2.o]at this;exact this
      have HLE:(di done (some x,some y)).1.length+r1.length+r2.length≤a.length+b.length:=im HLEN.o (jm done (some x,some y)) (zT r1.length r2.length);have HREL:=zH (And.intro HEQ HLE);clear HEQ HLE;go_roundw
      case rel=>exact⟨r1,r2,di done (some x,some y),m0,m1,_,_,_,_,rfl,rfl,HM0.o,HM1.o,HR1.o,HR2.o,HREL.o.1,HREL.o.2,HBX6.o,HB6.o⟩
      case measure=>exact wd m0 m1
end
section
open Oct
theorem lH (k:LU_):∀ l:LL_,jb (k::l)=true↔(∀ y∈l,lt k y=true)∧jb l=true
 | []=>by simp[jb]
 | q::l=>by
  have ih:=lH q l;simp only[jb,EE];constructor
  ·rintro⟨h1,h2⟩
   refine⟨fun y hy=>?_,h2⟩;rcases EW.1 hy with rfl|hy
   ·exact h1
   ·exact eG h1 ((ih.1 h2).1 y hy)
  ·rintro⟨h1,h2⟩
   exact⟨h1 q (by simp),h2⟩
theorem gd (x:PR)(l:List PR):cP (x::l)=true↔(∀ y∈l,lt x.1 y.1=true)∧cP l=true:=by
 unfold cP jC;rw[List.map_cons,lH];simp
theorem CD (k:LU_):∀ a b:List PR,(∀ x∈a,lt k x.1=true)→(∀ y∈b,lt k y.1=true)→∀ t∈ofF a b,lt k t.key=true:=by
 have key:∀ n,∀ a b:List PR,a.length+b.length=n→(∀ x∈a,lt k x.1=true)→(∀ y∈b,lt k y.1=true)→∀ t∈ofF a b,lt k t.key=true:=by
  intro n
  induction n using Nat.strongRecOn with
  | ind n ih =>
   intro a b hn ha hb t ht
   match a,b with
   | [],[]=>rw[k6]at ht;simp at ht
   | x::a,[] =>
    rw[jy,Ey]at ht;rcases ht with ht|ht
    ·simp[aU]at ht;subst ht;exact ha x (by simp)
    ·exact ih _ (by simp only[Ea,ET]at hn⊢;omega) a [] rfl (fun z hz=>ha z (by simp[hz])) hb t ht
   | [],y::b =>
    rw[gi,Ey]at ht;rcases ht with ht|ht
    ·simp[aU]at ht;subst ht;exact hb y (by simp)
    ·exact ih _ (by simp only[Ea,ET]at hn⊢;omega) [] b rfl ha (fun z hz=>hb z (by simp[hz])) t ht
   | x::a,y::b =>
    cases h1:lt x.1 y.1 with
    | true =>
     rw[lN _ _ _ _ h1,Ey]at ht;rcases ht with ht|ht
     ·simp[aU]at ht;subst ht;exact ha x (by simp)
     ·exact ih _ (by simp only[Ea,ET]at hn⊢;omega) a (y::b) rfl (fun z hz=>ha z (by simp[hz])) hb t ht
    | false =>
     cases h2:lt y.1 x.1 with
     | true =>
      rw[nN _ _ _ _ h1 h2,Ey]at ht;rcases ht with ht|ht
      ·simp[aU]at ht;subst ht;exact hb y (by simp)
      ·exact ih _ (by simp only[Ea,ET]at hn⊢;omega) (x::a) b rfl ha (fun z hz=>hb z (by simp[hz])) t ht
     | false =>
      rw[lO _ _ _ _ h1 h2,Ey]at ht;rcases ht with ht|ht
      ·rw[show aU (some x) (some y)=if x=y then [] else [⟨y.1,x.2,y.2,true,true⟩] from rfl]at ht
       split at ht
       ·simp at ht
       ·simp at ht;subst ht;exact hb y (by simp)
      ·exact ih _ (by simp only[Ea,ET]at hn⊢;omega) a b rfl (fun z hz=>ha z (by simp[hz])) (fun z hz=>hb z (by simp[hz])) t ht
 exact fun a b=>key _ a b rfl
theorem nT {a b:LU_}(h1:lt a b=false)(h2:lt b a=false):a=b:=by
 rcases lt3 a b with ⟨h,_⟩|⟨_,h,_⟩|⟨h,_⟩
 ·rw[h1]at h;cases h
 ·rw[h2]at h;cases h
 ·exact h
theorem ro (o p:Option PR)(h:∀ x y,o=some x→p=some y→x.1=y.1):aU p o=(aU o p).map ws:=by
 cases o<;>cases p<;>simp[aU,ws]
 rename_i x y;have:=h x y rfl rfl
 by_cases e:x=y
 ·simp[e]
 ·rw[if_neg e,if_neg (fun h=>e h.symm)]
  simp[ws,this]
theorem Dz:∀ (n:Nat) (a b:List PR),a.length+b.length=n→ofF b a=(ofF a b).map ws:=by
 intro n
 induction n using Nat.strongRecOn with
 | ind n ih =>
  intro a b hn
  match a,b with
  | [],[]=>rw[k6];rfl
  | x::a,[] =>
   rw[jy,gi,EO,ih _ (by simp only[Ea,ET]at hn⊢;omega) a [] rfl]
   rfl
  | [],y::b =>
   rw[jy,gi,EO,ih _ (by simp only[Ea,ET]at hn⊢;omega) [] b rfl]
   rfl
  | x::a,y::b =>
   cases h1:lt x.1 y.1 with
   | true =>
    rw[lN _ _ _ _ h1,nN _ _ _ _ (eH h1) h1,EO,ih _ (by simp only[Ea,ET]at hn⊢;omega) a (y::b) rfl]
    rfl
   | false =>
    cases h2:lt y.1 x.1 with
    | true =>
     rw[nN _ _ _ _ h1 h2,lN _ _ _ _ h2,EO,ih _ (by simp only[Ea,ET]at hn⊢;omega) (x::a) b rfl]
     rfl
    | false =>
     rw[lO _ _ _ _ h1 h2,lO _ _ _ _ h2 h1,EO,ih _ (by simp only[Ea,ET]at hn⊢;omega) a b rfl];rw[ro (some x) (some y) (fun x' y' e1 e2=>by cases e1;cases e2;exact nT h1 h2)]
theorem uJ:∀ (n:Nat) (a b:List PR),a.length+b.length=n→(ofF a b).length≤n:=by
 intro n
 induction n using Nat.strongRecOn with
 | ind n ih =>
  intro a b hn
  match a,b with
  | [],[]=>rw[k6];simp
  | x::a,[] =>
   have:=ih (a.length+0) (by simp at hn;omega) a [] rfl;rw[jy,Ev];have:=dG (some x) none;simp at hn;omega
  | [],y::b =>
   have:=ih (0+b.length) (by simp at hn;omega) [] b rfl;rw[gi,Ev];have:=dG none (some y);simp at hn;omega
  | x::a,y::b =>
   simp at hn
   cases h1:lt x.1 y.1 with
   | true =>
    have:=ih (a.length+(b.length+1)) (by omega) a (y::b) rfl;rw[lN _ _ _ _ h1,Ev];have:=dG (some x) none;omega
   | false =>
    cases h2:lt y.1 x.1 with
    | true =>
     have:=ih (a.length+1+b.length) (by omega) (x::a) b rfl;rw[nN _ _ _ _ h1 h2,Ev];have:=dG none (some y);omega
    | false =>
     have:=ih (a.length+b.length) (by omega) a b rfl;rw[lO _ _ _ _ h1 h2,Ev];have:=dG (some x) (some y);omega
end
section
open Oct
section
variable {α β:Type}(ka:α→LU_)(kb:β→LU_)
theorem o9:steps ka kb [] []=[]:=by rw[steps]
theorem nk (x:α)(a:List α):steps ka kb (x::a) []=(some x,none)::steps ka kb a []:=by rw[steps]
theorem l8 (y:β)(b:List β):steps ka kb [] (y::b)=(none,some y)::steps ka kb [] b:=by rw[steps]
theorem rA (x:α)(y:β)(a:List α)(b:List β)(h:lt (ka x) (kb y)=true):steps ka kb (x::a) (y::b)=(some x,none)::steps ka kb a (y::b):=by rw[steps,if_pos h]
theorem rB (x:α)(y:β)(a:List α)(b:List β)(h:lt (ka x) (kb y)=false)(h2:lt (kb y) (ka x)=true):steps ka kb (x::a) (y::b)=(none,some y)::steps ka kb (x::a) b:=by rw[steps,if_neg (by rw[h];simp),if_pos h2]
theorem rC (x:α)(y:β)(a:List α)(b:List β)(h:lt (ka x) (kb y)=false)(h2:lt (kb y) (ka x)=false):steps ka kb (x::a) (y::b)=(some x,some y)::steps ka kb a b:=by rw[steps,if_neg (by rw[h];simp),if_neg (by rw[h2];simp)]
def lT (a:List α)(b:List β):Option α×Option β→Prop
 | (some x,none)=>x∈a∧∀ y∈b,kb y≠ka x
 | (none,some y)=>y∈b∧∀ x∈a,ka x≠kb y
 | (some x,some y)=>x∈a∧y∈b∧ka x=kb y
 | (none,none)=>False
theorem lT.wider {a a':List α}{b b':List β}{s:Option α×Option β}(h:lT ka kb a b s)(ha:∀ x∈a,x∈a')(hb:∀ y∈b,y∈b')(hx:∀ x∈a',x∈a∨∀ y∈b,ka x≠kb y)(hy:∀ y∈b',y∈b∨∀ x∈a,kb y≠ka x):lT ka kb a' b' s:=by
 obtain⟨o,p⟩:=s
 cases o with
 | none =>
  cases p with
  | none=>exact h
  | some y=>exact⟨hb _ h.1,fun x hx'=>(hx x hx').elim (fun m=>h.2 x m) (fun m=>m y h.1)⟩
 | some x =>
  cases p with
  | none=>exact⟨ha _ h.1,fun y hy'=>(hy y hy').elim (fun m=>h.2 y m) (fun m=>m x h.1)⟩
  | some y=>exact⟨ha _ h.1,hb _ h.2.1,h.2.2⟩
theorem fA {γ:Type}(k:γ→LU_)(x:γ)(l:List γ):jb ((x::l).map k)=true↔(∀ y∈l,lt (k x) (k y)=true)∧jb (l.map k)=true:=by
 rw[List.map_cons,lH];simp
theorem ne_of_lt {a b:LU_}(h:lt a b=true):a≠b:=by rintro rfl;rw[lt_irr]at h;cases h
theorem zg:∀ (n:Nat) (a:List α) (b:List β),a.length+b.length=n→jb (a.map ka)=true→jb (b.map kb)=true→∀ s∈steps ka kb a b,lT ka kb a b s:=by
 intro n
 induction n using Nat.strongRecOn with
 | ind n ih =>
  intro a b hn ha hb s hs
  match a,b with
  | [],[]=>rw[o9]at hs;simp at hs
  | x::a,[] =>
   obtain⟨hx,ha'⟩:=(fA ka x a).1 ha;rw[nk,EW]at hs;rcases hs with rfl|hs
   ·exact⟨by simp,by simp⟩
   ·refine(ih _ (by simp only[Ea,ET]at hn⊢;omega) a [] rfl ha' hb s hs).wider ka kb (fun z h=>by simp[h]) (fun z h=>h) (fun z h=>?_) (fun z h=>.inl h)
    exact .inr (by simp)
  | [],y::b =>
   obtain⟨hy,hb'⟩:=(fA kb y b).1 hb;rw[l8,EW]at hs;rcases hs with rfl|hs
   ·exact⟨by simp,by simp⟩
   ·refine(ih _ (by simp only[Ea,ET]at hn⊢;omega) [] b rfl ha hb' s hs).wider ka kb (fun z h=>h) (fun z h=>by simp[h]) (fun z h=>.inl h) (fun z h=>?_)
    exact .inr (by simp)
  | x::a,y::b =>
   obtain⟨hx,ha'⟩:=(fA ka x a).1 ha;obtain⟨hy,hb'⟩:=(fA kb y b).1 hb
   cases h1:lt (ka x) (kb y) with
   | true =>
    have hxb:∀ z∈y::b,lt (ka x) (kb z)=true:=fun z hz=>by
     rcases EW.1 hz with rfl|hz
     ·exact h1
     ·exact eG h1 (hy z hz)
    rw[rA _ _ _ _ _ _ h1,EW]at hs;rcases hs with rfl|hs
    ·exact⟨by simp,fun z hz=>(ne_of_lt (hxb z hz)).symm⟩
    ·refine(ih _ (by simp only[Ea]at hn⊢;omega) a (y::b) rfl ha' hb s hs).wider ka kb (fun z h=>by simp[h]) (fun z h=>h) (fun z h=>?_) (fun z h=>.inl h)
     rcases EW.1 h with rfl|h
     ·exact .inr fun z hz=>ne_of_lt (hxb z hz)
     ·exact .inl h
   | false =>
    cases h2:lt (kb y) (ka x) with
    | true =>
     have hya:∀ z∈x::a,lt (kb y) (ka z)=true:=fun z hz=>by
      rcases EW.1 hz with rfl|hz
      ·exact h2
      ·exact eG h2 (hx z hz)
     rw[rB _ _ _ _ _ _ h1 h2,EW]at hs;rcases hs with rfl|hs
     ·exact⟨by simp,fun z hz=>(ne_of_lt (hya z hz)).symm⟩
     ·refine(ih _ (by simp only[Ea]at hn⊢;omega) (x::a) b rfl ha hb' s hs).wider ka kb (fun z h=>h) (fun z h=>by simp[h]) (fun z h=>.inl h) (fun z h=>?_)
      rcases EW.1 h with rfl|h
      ·exact .inr fun z hz=>ne_of_lt (hya z hz)
      ·exact .inl h
    | false =>
     have he:=nT h1 h2;rw[rC _ _ _ _ _ _ h1 h2,EW]at hs;rcases hs with rfl|hs
     ·exact⟨by simp,by simp,he⟩
     ·refine(ih _ (by simp only[Ea]at hn⊢;omega) a b rfl ha' hb' s hs).wider ka kb (fun z h=>by simp[h]) (fun z h=>by simp[h]) (fun z h=>?_) (fun z h=>?_)
      ·rcases EW.1 h with rfl|h
       ·exact .inr fun z hz=>ne_of_lt (by rw[he];exact hy z hz)
       ·exact .inl h
      ·rcases EW.1 h with rfl|h
       ·exact .inr fun z hz=>ne_of_lt (by rw[←he];exact hx z hz)
       ·exact .inl h
end
theorem lm:∀ (a:List PR),cP a=true→∀ x∈a,fnd x.1 a=some x.2
 | y::a,h,x,hx=>by
  obtain⟨hy,ha⟩:=(gd y a).1 h;rcases EW.1 hx with rfl|hx
  ·simp[fnd]
  ·rw[fnd,if_neg (ne_of_lt (hy x hx)),lm a ha x hx]
theorem qN:∀ (a:List PR) (k:LU_),(∀ x∈a,x.1≠k)→fnd k a=none
 | [],_,_=>rfl
 | y::a,k,h=>by rw[fnd,if_neg (h y (by simp)),qN a k fun x hx=>h x (by simp[hx])]
theorem jx:∀ l:List PR,cP l=true→bR l=true
 | [],_=>rfl
 | x::l,h=>by
  obtain⟨h1,h2⟩:=(gd x l).1 h;exact dU.2 ⟨fun y hy=>eH (h1 y hy),jx l h2⟩
theorem mem_mrg {z:PR}:∀ a b:List PR,z∈mrg a b→z∈a∨z∈b:=by
 intro a b
 induction a,b using mrg.induct with
 | case1 b=>rw[eF];exact .inr
 | case2 a h=>rw[gk];exact .inl
 | case3 x a y b h ih =>
  rw[bT,if_pos h,EW];rintro (rfl|hz)
  ·exact .inr (by simp)
  ·rcases ih hz with h|h
   ·exact .inl h
   ·exact .inr (by simp[h])
 | case4 x a y b h ih =>
  rw[bT,if_neg h,EW];rintro (rfl|hz)
  ·exact .inl (by simp)
  ·rcases ih hz with h|h
   ·exact .inl (by simp[h])
   ·exact .inr h
theorem mT (x:PR)(l:List PR)(h:∀ y∈l,lt x.1 y.1=true):grp (x::l)=[x]::grp l:=by
 have h1:1=head1 (x::l):=by
  refine jG (x::l) (by simp) 1 (by omega) (by simp) (fun j hj=>?_) (fun hk=>?_)
  ·obtain rfl:j=0:=by omega
   rfl
  ·cases l with
   | nil=>simp at hk
   | cons y l=>exact(ne_of_lt (h y (by simp))).symm
 rw[gG (x::l) (by simp),←h1]
 rfl
theorem Bt (x y:PR)(l:List PR)(he:x.1=y.1)(h:∀ z∈l,lt x.1 z.1=true):grp (x::y::l)=[x,y]::grp l:=by
 have h1:2=head1 (x::y::l):=by
  refine jG (x::y::l) (by simp) 2 (by omega) (by simp) (fun j hj=>?_) (fun hk=>?_)
  ·match j,hj with
   | 0,_=>rfl
   | 1,_=>exact he.symm
  ·cases l with
   | nil=>simp at hk
   | cons z l=>exact(ne_of_lt (h z (by simp))).symm
 rw[gG (x::y::l) (by simp),←h1]
 rfl
def mB:Option PR×Option PR→LU_
 | (some x,_)=>x.1
 | (none,some y)=>y.1
 | (none,none)=>[]
theorem Bu:∀ (n:Nat) (a b:List PR),a.length+b.length=n→cP a=true→cP b=true→(grp (mrg a b)).map hk1=(steps Prod.fst Prod.fst a b).map mB:=by
 intro n
 induction n using Nat.strongRecOn with
 | ind n ih =>
  intro a b hn ha hb
  match a,b with
  | [],[]=>rw[o9,eF];rfl
  | x::a,[] =>
   obtain⟨hx,ha'⟩:=(gd x a).1 ha;have:=ih _ (by simp only[Ea,ET]at hn⊢;omega) a [] rfl ha' hb;rw[gk]at this⊢;rw[nk,mT x a hx,List.map_cons,this]
   rfl
  | [],y::b =>
   obtain⟨hy,hb'⟩:=(gd y b).1 hb;have:=ih _ (by simp only[Ea,ET]at hn⊢;omega) [] b rfl ha hb';rw[eF]at this⊢;rw[l8,mT y b hy,List.map_cons,this]
   rfl
  | x::a,y::b =>
   obtain⟨hx,ha'⟩:=(gd x a).1 ha;obtain⟨hy,hb'⟩:=(gd y b).1 hb
   cases h1:lt x.1 y.1 with
   | true =>
    have hall:∀ z∈mrg a (y::b),lt x.1 z.1=true:=fun z hz=>by
     rcases mem_mrg _ _ hz with h|h
     ·exact hx z h
     ·rcases EW.1 h with rfl|h
      ·exact h1
      ·exact eG h1 (hy z h)
    rw[bT,if_neg (by rw[eH h1];simp),rA _ _ _ _ _ _ h1,mT x _ hall,List.map_cons,ih _ (by simp only[Ea]at hn⊢;omega) a (y::b) rfl ha' hb]
    rfl
   | false =>
    cases h2:lt y.1 x.1 with
    | true =>
     have hall:∀ z∈mrg (x::a) b,lt y.1 z.1=true:=fun z hz=>by
      rcases mem_mrg _ _ hz with h|h
      ·rcases EW.1 h with rfl|h
       ·exact h2
       ·exact eG h2 (hx z h)
      ·exact hy z h
     rw[bT,if_pos h2,rB _ _ _ _ _ _ h1 h2,mT y _ hall,List.map_cons,ih _ (by simp only[Ea]at hn⊢;omega) (x::a) b rfl ha hb']
     rfl
    | false =>
     have he:=nT h1 h2
     have hm:mrg a (y::b)=y::mrg a b:=by
      cases a with
      | nil=>rw[eF,eF]
      | cons z a=>rw[bT,if_pos (by rw[←he];exact hx z (by simp))]
     have hall:∀ z∈mrg a b,lt x.1 z.1=true:=fun z hz=>by
      rcases mem_mrg _ _ hz with h|h
      ·exact hx z h
      ·rw[he];exact hy z h
     rw[bT,if_neg (by rw[h2];simp),hm,rC _ _ _ _ _ _ h1 h2,Bt x y _ he hall,List.map_cons,ih _ (by simp only[Ea]at hn⊢;omega) a b rfl ha' hb']
     rfl
theorem Ab (a b:List PR)(ha:cP a=true)(hb:cP b=true):pP a b=(steps Prod.fst Prod.fst a b).map mB:=by
 unfold pP;rw[←qE,gX a (jx a ha),gX b (jx b hb)];exact Bu _ a b rfl ha hb
theorem uo (a b:List PR)(ha:cP a=true)(hb:cP b=true)(s:Option PR×Option PR)(h:lT Prod.fst Prod.fst a b s):eC a b (mB s)=aU s.1 s.2:=by
 obtain⟨o,p⟩:=s
 cases o with
 | none =>
  cases p with
  | none=>exact h.elim
  | some y =>
   have h1:=qN a y.1 h.2;have h2:=lm b hb y h.1;simp[eC,mB,aU,h1,h2]
 | some x =>
  cases p with
  | none =>
   have h1:=lm a ha x h.1;have h2:=qN b x.1 h.2;simp[eC,mB,aU,h1,h2]
  | some y =>
   obtain⟨hx,hy,he⟩:=h;have h1:=lm a ha x hx;have h2:=lm b hb y hy;have he':x.1=y.1:=he;rw[←he']at h2;unfold eC mB aU;simp only[h1,h2,Option.getD_some,Option.isSome_some,bne_self_eq_false,Bool.or_false]
   by_cases hxy:x=y
   ·rw[if_pos hxy,if_neg (by rw[hxy];simp)]
   ·have hne:x.2≠y.2:=fun h=>hxy (Prod.ext he' h)
    rw[if_neg hxy,if_pos (by rw[bne_iff_ne];exact hne),he']
theorem Bb (a b:List PR)(ha:cP a=true)(hb:cP b=true):Bc a b=ofF a b:=by
 unfold Bc ofF;rw[Ab a b ha hb,List.flatMap_map]
 have key:∀ L:List (Option PR×Option PR),(∀ s∈L,lT Prod.fst Prod.fst a b s)→L.flatMap (fun s=>eC a b (mB s))=L.flatMap (fun s=>aU s.1 s.2):=by
  intro L hL
  induction L with
  | nil=>rfl
  | cons s L ih=>rw[List.flatMap_cons,List.flatMap_cons,uo a b ha hb s (hL s (by simp)),ih fun t ht=>hL t (by simp[ht])]
 exact key _ (zg Prod.fst Prod.fst _ a b rfl ha hb)
end
section
theorem Ct {n:Nat}(h:n*56≤140737488355328):n*32≤140737488355328:=by omega
def mJ (a:List PR)(l:List TR)(n:Nat)(e:Ending)(w:World):Prop :=
 match cP a&&pm l with
 | false=>e=.returned (.tuple #[.slice none 0 0,.int .i64 2])
 | true=>match (apF a l ([],false)).2 with
  | true=>e=.returned (.tuple #[.slice none 0 0,.int .i64 2])
  | false=>∃ v,e=.returned (.tuple #[v,.int .i64 0])∧OP w n v (apF a l ([],false)).1
theorem mJ.good {a:List PR}{l:List TR}{n:Nat}{e:Ending}{w:World}(h:mJ a l n e w)(hh:(cP a&&pm l)=true)(o:List PR)(ho:apF a l ([],false)=(o,false)):∃ v,e=.returned (.tuple #[v,.int .i64 0])∧OP w n v o:=by
 unfold mJ at h;rw[hh,ho]at h;exact h
theorem ey.set0 {p:Nat}{w:World}{s:List PR×Bool}(h:ey p w s)(u:Value):(w.setCell ⟨p,0,none⟩ u).cell? ⟨p,0,none⟩=some u:=by
 obtain⟨⟨v,hh,_⟩,_⟩:=h;exact cell_of_one (one_setCell (v:=v) hh)
theorem DV {p:Nat}{w:World}{s:List PR×Bool}(h:ey p w s){u:Value}:(w.setCell ⟨p,0,none⟩ u).heap[p+1]?=some (.cells #[.int .i64 (pY s.2)] 33 (0,0)):=by
 rw[Below.heap_setCell _ _ _ _ (by simp)];exact h.2
theorem jR {w:World}{a b:Addr}{u v:Value}(hne:a.block≠b.block)(h:w.cell? a=some v):(w.setCell b u).cell? a=some v :=
 (World.cell?_of_block (w:=w) (Below.heap_setCell w b u a.block hne)).trans h
theorem kN {w:World}{p:Nat}{u v:Value}{t:TypeId}(h:w.heap[p]?=some (.cells #[v] t (0,0))):(w.setCell ⟨p,0,none⟩ u).cell? ⟨p,0,none⟩=some u:=cell_of_one (one_setCell (v:=v) h)
theorem yF (v1 v2:Value)(a:List PR)(l:List TR)(w:World)(hr1:RP w v1 a)(hr2:dm.Row w v2 l)(hl:(a.length+l.length+1)*56≤140737488355328):Calls Tryz.prog 42 #[v1,v2] w fun e w'=>mJ a l w.heap.size e w'∧Bw_ w w':=by
 obtain⟨a1,c1,rfl,_,_⟩:=hr1.open;obtain⟨a2,c2,rfl,_,_⟩:=fZ hr2;have hla:a.length≤140737488355328:=by omega
 have hlb:l.length≤140737488355328:=by omega
 have HLB:=zH (Ct hl);have HR1:=zH hr1;have HR2:=zH hr2;have HLA:=zH hla;have HLB2:=zH hlb;clear hr1 hr2 hl hla hlb;have hmf:∀ (fn:Fn) (first cap:Array Value) (w:World),(Instr.makeFunc fn first cap).run Tryz.prog w=.ok (.func fn first cap) w:=fun _ _ _ _=>rfl;obtain⟨w1,hw1⟩:=ex_ ((w.alloc (.cells #[.slice none 0 0] 37)).alloc (.cells #[.int .i64 0] 33));obtain⟨hb1,hb2,hB1⟩:=mP w (.cells #[.slice none 0 0] 37) (.cells #[.int .i64 0] 33);rw[←hw1]at hb1 hb2 hB1;have HBX1:=zH (show ey w.heap.size w1 ([],false) from⟨⟨_,hb1,World.ownsRow_nil _ _ _ _⟩,hb2⟩);have HB1:=zH hB1;clear hB1 hb1 hb2;go_enter Tryz.func42,Tryz.ntmps42;go_wp2_with fail;rw[←hw1];clear hw1
 cases hoa:cP a with
 | false =>
  have HOA:=zH hoa;clear hoa;refine(ik _ a w1 (HR1.o.below HB1.o) HLA.o).mono ?_;rw[HOA.o];rintro e w2 ⟨rfl,hB2⟩;have HB2:=zH (bt HB1.o hB2);have HBX2:=zH (HBX1.o.below hB2);clear hB2;obtain⟨av,cv,cc,ff,_,hp,c2,f2⟩:=HBX2.o.open;go_wp2;refine bodyPost_ret (dN (v:=.slice none 0 0) (u:=.int .i64 2) rfl rfl rfl (iM (jR (by simp) (ey.set0 HBX2.o _))) (iN (kN (DV HBX2.o)))) rfl ?_;refine⟨?_,Below.setCell (Below.setCell HB2.o (p:=⟨w.heap.size,0,none⟩) (Ei _) _) (p:=⟨w.heap.size+1,0,none⟩) (Nat.le_succ _) _⟩;unfold mJ;rw[HOA.o,Bool.false_and]
 | true =>
  have HOA:=zH hoa;clear hoa;refine(ik _ a w1 (HR1.o.below HB1.o) HLA.o).mono ?_;rw[HOA.o];rintro e w2 ⟨rfl,hB2⟩;have HB2:=zH (bt HB1.o hB2);have HBX2:=zH (HBX1.o.below hB2);clear hB2;go_wp2_with fail
  cases hob:pm l with
  | false =>
   have HOB:=zH hob;clear hob;refine(pk _ l w2 (HR2.o.below HB2.o) HLB2.o).mono ?_;rw[HOB.o];rintro e w3 ⟨rfl,hB3⟩;have HB3:=zH (bt HB2.o hB3);have HBX3:=zH (HBX2.o.below hB3);clear hB3;obtain⟨av,cv,cc,ff,_,hp,c2,f2⟩:=HBX3.o.open;go_wp2;refine bodyPost_ret (dN (v:=.slice none 0 0) (u:=.int .i64 2) rfl rfl rfl (iM (jR (by simp) (ey.set0 HBX3.o _))) (iN (kN (DV HBX3.o)))) rfl ?_;refine⟨?_,Below.setCell (Below.setCell HB3.o (p:=⟨w.heap.size,0,none⟩) (Ei _) _) (p:=⟨w.heap.size+1,0,none⟩) (Nat.le_succ _) _⟩;unfold mJ;rw[HOB.o,Bool.and_false]
  | true =>
   have HOB:=zH hob;clear hob;refine(pk _ l w2 (HR2.o.below HB2.o) HLB2.o).mono ?_;rw[HOB.o];rintro e w3 ⟨rfl,hB3⟩;have HB3:=zH (bt HB2.o hB3);have HBX3:=zH (HBX2.o.below hB3);clear hB3;go_wp2_with fail;refine(vA _ _ a l w w3 HR1.o HR2.o HBX3.o HB3.o HLB.o).mono ?_;rintro e w4 ⟨rfl,hbox4,hB4⟩;have HB4:=zH hB4;clear hB4;obtain⟨S,hS⟩:=ex_ (apF a l ([],false));rw[←hS]at hbox4;have HS:=zH hS;obtain⟨o,bd⟩:=S;have HBX4:=zH hbox4;clear hbox4 hS
   cases bd with
   | true =>
    obtain⟨av,cv,cc,ff,_,hp,c2,f2⟩:=HBX4.o.open;rw[show pY (o,true).2=2 from rfl]at c2;have hp0:w.heap.size<w4.heap.size:=by omega
    go_wp2;go_region;go_wp2;refine bodyPost_ret (dN (v:=.slice none 0 0) (u:=.int .i64 2) rfl rfl rfl (iM (jR (by simp) (ey.set0 (HBX4.o.below (b_drew _)) _))) (iN (kN (DV (HBX4.o.below (b_drew _)))))) rfl ?_;refine⟨?_,Below.setCell (Below.setCell (HB4.o.trans ((b_drew _).mono HB4.o.size)) (p:=⟨w.heap.size,0,none⟩) (Ei _) _) (p:=⟨w.heap.size+1,0,none⟩) (Nat.le_succ _) _⟩;unfold mJ;rw[HOA.o,HOB.o,←HS.o]
    rfl
   | false =>
    obtain⟨av,cv,cc,ff,hown,hp,c2,f2⟩:=HBX4.o.open;rw[show pY (o,false).2=0 from rfl]at c2;have HO:=zH hown;clear hown;go_wp2;refine bodyPost_ret (dN (v:=.slice av o.length cv) (u:=.int .i64 0) rfl rfl rfl (iM (jR (by simp) (ey.set0 HBX4.o _))) (iN (kN (DV HBX4.o)))) rfl ?_;refine⟨?_,Below.setCell (Below.setCell HB4.o (p:=⟨w.heap.size,0,none⟩) (Ei _) _) (p:=⟨w.heap.size+1,0,none⟩) (Nat.le_succ _) _⟩;unfold mJ;rw[HOA.o,HOB.o,←HS.o];exact⟨_,rfl,dL (ownsRow_setCell_below (ownsRow_setCell_below HO.o (by simp) _) (by simp) _) (by omega)⟩
def LA:List PR:=[([97],[49]),([98],[50])]
def LB:List PR:=[([98],[51]),([99],[52])]
def LT:List TR:=[⟨[97],[49],[],true,false⟩,⟨[98],[50],[51],true,true⟩,⟨[99],[],[52],false,true⟩]
theorem BW:ofF LA LB=LT:=by
 unfold LA LB LT;rw[lN _ _ _ _ (by decide),lO _ _ _ _ (by decide) (by decide),gi,k6]
 rfl
theorem Ds:apF LA LT ([],false)=(LB,false):=by
 unfold LA LT LB;rw[vE _ _ _ _ _ (by decide) (by decide),vE _ _ _ _ _ (by decide) (by decide),qb,wy]
 rfl
theorem iw.len {a b:List PR}{n:Nat}{e:Ending}{w:World}(h:iw a b n e w)(hh:(cP a&&cP b)=true):∃ av cv,e=.returned (.tuple #[.slice av (ofF a b).length cv,.int .i64 0])∧dm.Own w n (.slice av (ofF a b).length cv) (ofF a b):=by
 obtain⟨v,rfl,hown⟩:=h.good hh;obtain⟨av,cv,rfl⟩:=ap hown;exact⟨av,cv,rfl,hown⟩
theorem qU (w:World):Calls Tryz.prog 19 #[] w fun e w'=>e=.returned (.bool true)∧Bw_ w w':=by
 obtain⟨w1,hw1⟩:=ex_ (w.alloc (.cells (aS LA).toArray 62));obtain⟨w2,hw2⟩:=ex_ (w1.alloc (.cells (aS LB).toArray 62));have hs1:w1.heap.size=w.heap.size+1:=by rw[hw1];simp
 have hra:=RP.new w LA 62;have hrb:=RP.new w1 LB 62;rw[←hw1]at hra;rw[←hw2,hs1]at hrb;have hB2:Below w.heap.size w w2:=by rw[hw2];exact bt (by rw[hw1];exact af _ _) (af _ _)
 have hB12:=ba_ hw2;have HA2:=zH (hra.below hB12);have HB2':=zH hrb;have HW2:=zH hB2;have hww:w2=(w.alloc (.cells #[.string { data:=#[97] },.string { data:=#[49] },.string { data:=#[98] },.string { data:=#[50] }] 62)).alloc (.cells #[.string { data:=#[98] },.string { data:=#[51] },.string { data:=#[99] },.string { data:=#[52] }] 62):=by rw[hw2,hw1];rfl
 clear hra hrb hB2 hB12 hs1 hw1 hw2;go_enter Tryz.func19,Tryz.ntmps19;go_wp2_with fail;rw[←hww];clear hww;refine(vN _ _ LA LB w2 HA2.o HB2'.o (by decide)).mono ?_;rintro e w3 ⟨hres,hB3⟩;obtain⟨a3,c3,rfl,hown3⟩:=hres.len (by decide);rw[BW]at hown3;have HT3:=zH hown3;have HA3:=zH (HA2.o.below hB3);have HB3:=zH (HB2'.o.below hB3);have HW3:=zH (bt HW2.o hB3);clear hres hB3 hown3;rw[BW,show LT.length=3 from rfl];go_wp2_with fail;refine(yF _ _ LA LT w3 HA3.o (Rec.Own.row (R:=dm) HT3.o) (by decide)).mono ?_;rintro e w4 ⟨hres,hB4⟩;obtain⟨v4,rfl,hown4⟩:=hres.good (by decide) LB Ds;obtain⟨a4,c4,rfl⟩:=ap hown4;have HO4:=zH (OP.reads hown4);have HT4:=zH ((Rec.Own.row (R:=dm) HT3.o).below hB4);have HB4:=zH (HB3.o.below hB4);have HW4:=zH (bt HW3.o hB4);clear hres hB4 hown4;obtain⟨w5,hw5⟩:=ex_ (w4.alloc (.cells (aS [([],[]),([],[])]).toArray 62));have hrz:=RP.new w4 [([],[]),([],[])] 62;have hB5:=ba_ hw5;have HZ5:=zH (show RP w5 _ _ by rw[hw5];exact hrz);have HO5:=zH (HO4.o.below hB5);have HT5:=zH (HT4.o.below hB5);have HB5:=zH (HB4.o.below hB5);have HW5:=zH (bt HW4.o hB5);have hww:w5=w4.alloc (.cells #[.string { data:=#[] },.string { data:=#[] },.string { data:=#[] },.string { data:=#[] }] 62):=hw5;clear hrz hB5 hw5;rw[show LB.length=2 from rfl];go_wp2_with fail;rw[←hww];clear hww;refine(vN _ _ [] [([],[]),([],[])] w5 (RP.nil _) HZ5.o (by decide)).mono ?_;rintro e w6 ⟨hres,hB6⟩;obtain rfl:=hres.bad (by decide);have HO6:=zH (HO5.o.below hB6);have HT6:=zH (HT5.o.below hB6);have HB6:=zH (HB5.o.below hB6)
 have HW6:=zH (bt HW5.o hB6);clear hres hB6;obtain⟨w7,hw7⟩:=ex_ (w6.alloc (.cells (dm.cells LT).toArray 77));have hrz:=Rec.Row.new (R:=dm) w6 LT 77;have hB7:=ba_ hw7;have HZ7:=zH (show dm.Row w7 _ _ by rw[hw7];exact hrz);have HO7:=zH (HO6.o.below hB7);have HT7:=zH (HT6.o.below hB7);have HB7:=zH (HB6.o.below hB7);have HW7:=zH (bt HW6.o hB7);have hww:w7=w6.alloc (.cells #[.string { data:=#[97] },.string { data:=#[49] },.string { data:=#[] },.bool true,.bool false,.string { data:=#[98] },.string { data:=#[50] },.string { data:=#[51] },.bool true,.bool true,.string { data:=#[99] },.string { data:=#[] },.string { data:=#[52] },.bool false,.bool true] 77):=hw7;clear hrz hB7 hw7;go_wp2_with fail;rw[←hww];clear hww;refine(ph _ _ LT LT w7 HT7.o HZ7.o (by decide) (by decide)).mono ?_;rw[decide_eq_true rfl];rintro e w8 ⟨rfl,hB8⟩;have HO8:=zH (HO7.o.below hB8);have HB8:=zH (HB7.o.below hB8);have HW8:=zH (bt HW7.o hB8);clear hB8;go_wp2_with fail;refine(tZ _ _ LB LB w8 HO8.o HB8.o (by decide) (by decide)).mono ?_;rw[decide_eq_true rfl];rintro e w9 ⟨rfl,hB9⟩;have HW9:=zH (bt HW8.o hB9);clear hB9;go_wp2;go_ret;exact⟨rfl,HW9.o⟩
end
