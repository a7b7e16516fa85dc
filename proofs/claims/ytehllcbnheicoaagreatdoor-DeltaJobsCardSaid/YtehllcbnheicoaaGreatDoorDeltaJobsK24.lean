/- Lemmas for DeltaJobs: walks, plain laws. -/
import Derived.Deep.DeepCutAuto
import Derived.Test.YtehllcbnheicoaaGreatDoorDeltaJobsK5
set_option linter.unusedSimpArgs false
set_option linter.unusedVariables false
set_option maxRecDepth 100000
set_option maxHeartbeats 16000000
namespace Go.Proofs.YtehllcbnheicoaaGreatDoor
open Go.RowKit Oct
section
attribute [local go_sem] Oper.semAt_some
theorem qd (a:Addr)(i:Nat):(a.add i).block=a.block:=by unfold Addr.add;split<;>rfl
theorem RP.move {w w':World}{a:Option Addr}{n c:Nat}{l:List PR}(h:RP w (.slice a n c) l)(hk:∀ ad,a=some ad→w'.heap[ad.block]?=w.heap[ad.block]?):RP w' (.slice a n c) l:=by
 obtain⟨⟨a',cap,hv,hn,hc⟩,h2⟩:=h;injection hv with e1 e2 e3
 subst e1 e3;refine⟨⟨a,c,by rw[e2],hn,fun j u hj=>?_⟩,h2⟩;obtain⟨b,off,ha,hu⟩:=hc j u hj;have e:w'.cell? ⟨b,off+j,none⟩=w.cell? ⟨b,off+j,none⟩:=World.cell?_of_block (w:=w) (a:=⟨b,off+j,none⟩) (hk ⟨b,off,none⟩ ha);exact⟨b,off,ha,e.trans hu⟩
theorem RP.cutRunB {w:World}{a:Option Addr}{cap:Nat}{l:List PR}(h:RP w (.slice a l.length cap) l)(k:Nat)(hk:k≤l.length):∃ A C,(∀ wx,(Instr.slice 37 (.slice a l.length cap) (some (.int .i64 (k:Int))) none none).run Tryz.prog wx=.ok (.slice A (l.length-k) C) wx)∧RP w (.slice A (l.length-k) C) (l.drop k)∧(∀ ad,A=some ad→∃ ad0,a=some ad0∧ad.block=ad0.block):=by
 refine⟨_,_,fun wx=>?_,h.cut k hk,?_⟩
 ·rw[run_slice_l wx 37 a l.length cap (by kernel_rfl) .i64 k (by omega) (by omega)]
  have he:(sizeOf (Tryz.prog.elem 37)).run Tryz.prog wx=.ok 2 wx:=by kernel_rfl
  rw[he];simp[Result.andThen,sliced]
 ·intro ad hA
  split at hA
  ·exact⟨ad,hA,rfl⟩
  ·obtain⟨ad0,h1,h2⟩:=Option.map_eq_some_iff.1 hA
   exact⟨ad0,h1,by rw[←h2,qd]⟩
theorem RP.fullRun {w:World}{a:Option Addr}{cap:Nat}{l:List PR}(h:RP w (.slice a l.length cap) l)(k:Nat)(h1:1≤k)(hk:k≤l.length):∃ A,(∀ wx,(Instr.slice 37 (.slice a l.length cap) none (some (.int .i64 (k:Int))) (some (.int .i64 (k:Int)))).run Tryz.prog wx=.ok (.slice A k k) wx)∧RP w (.slice A k k) (l.take k)∧(∀ ad,A=some ad→∃ ad0,a=some ad0∧ad.block=ad0.block):=by
 have hx:=RP.head h k hk;obtain⟨_,a',cap',hv,hle⟩:=id h;injection hv with _ _ h3
 subst h3;refine⟨a.map (·.add (0*2)),fun wx=>?_,?_,fun ad hA=>by obtain⟨ad0,h1,h2⟩:=Option.map_eq_some_iff.1 hA;exact⟨ad0,h1,by rw[←h2,qd]⟩⟩
 ·rw[run_slice_hm wx 37 a l.length cap (by kernel_rfl) .i64 .i64 k k (by omega) (by omega) (by omega)]
  have he:(sizeOf (Tryz.prog.elem 37)).run Tryz.prog wx=.ok 2 wx:=by kernel_rfl
  rw[he];simp[Result.andThen,sliced,show k≠0 by omega]
 ·have hlen:(l.take k).length=k:=by simp;omega
  unfold sliced at hx;rw[if_neg (by omega)]at hx;obtain⟨⟨a1,c1,hv1,hn1,hc1⟩,_⟩:=hx;injection hv1 with e1 e2 e3
  refine⟨⟨_,k,by rw[hlen],?_,?_⟩,_,k,by rw[hlen],by rw[hlen];exact Ei _⟩
  ·intro hnone
   rw[e1]at hnone;have:=hn1 hnone;omega
  ·rw[e1];exact hc1
def ElP (Yr:Nat→Prop)(x:List PR)(vs:Array Value)(U:World):Prop:=∃ A C,vs=#[.slice A x.length C]∧RP U (.slice A x.length C) x∧∀ ad,A=some ad→Yr ad.block
def Dc:Option Value→Nat
 | some (.slice _ n _)=>n
 | _=>0
theorem Cl (q:List PR):Hid (∀ j (hj:j<1) (h:j<q.length),q[j].1=q[0].1):=by
 intro j hj h;obtain rfl:j=0:=by omega
 rfl
theorem wi {B k n:Nat}{q r:List PR}{dn:List (List PR)}{Yr:Nat→Prop}{J:List (List PR)→World→Prop}{W6 W7:World}{Ac:Option Addr}{Cc:Nat}(hc:Chg (fun k=>¬(k=B∨Yr k)) W6 W7)(hB:W6.heap[B]?=some (.cells #[.slice Ac (q.length-k) Cc] 37 (0,0)))(hR:RP W6 (.slice Ac (q.length-k) Cc) (q.drop k))(hb:∀ ad,Ac=some ad→Yr ad.block)(hG:grp r=(dn++[q.take k])++grp (q.drop k))(hJ:J (dn++[q.take k]) W7)(hq:q.length≤n)(hk:k≤q.length):∃ (q:List PR) (A:Option Addr) (C:Nat) (dn:List (List PR)),q.length≤n∧Hid (W7.heap[B]?=some (.cells #[.slice A q.length C] 37 (0,0)))∧Hid (RP W7 (.slice A q.length C) q)∧Hid (∀ ad,A=some ad→Yr ad.block)∧Hid (grp r=dn++grp q)∧Hid (J dn W7):=by
 have hl:(q.drop k).length=q.length-k:=by simp
 refine⟨q.drop k,Ac,Cc,dn++[q.take k],by omega,?_,?_,hb,hG,hJ⟩
 ·rw[hl];exact hc.at hB fun h=>h (.inl rfl)
 ·rw[hl]
  by_cases h0:(q.drop k).length=0
  ·obtain⟨⟨a',cap,hv,hn,hcc⟩,h2⟩:=hR
   refine⟨⟨a',cap,hv,hn,fun j u hj=>?_⟩,h2⟩;have:q.drop k=[]:=Ej h0;rw[this]at hj;simp[aS]at hj
  ·refine hR.move fun ad had=>?_
   rw[←hl]at hR;obtain⟨a',cap',hv,_,hcc⟩:=hR.open;injection hv with e1 _ _
   subst e1;obtain⟨b,off,hab,hu,_⟩:=hcc 0 (by omega);rw[had]at hab
   cases hab
   exact hc.block b (aD hu) fun h=>h (.inr (hb _ had))
theorem sS {B m:Nat}{Yr:Nat→Prop}{W6 W7:World}{Ac:Option Addr}{Cc:Nat}(hc:Chg (fun k=>¬(k=B∨Yr k)) W6 W7)(hB:W6.heap[B]?=some (.cells #[.slice Ac m Cc] 37 (0,0))):Dc (W7.cell? ⟨B,0,none⟩)=m:=by
 rw[cell_of_one (hc.at hB fun h=>h (.inl rfl))];rfl
theorem kK {α:Type}{q:List α}{k:Nat}(h:k≤q.length):(q.take k).length=k:=by simp[Nat.min_eq_left h]
theorem Ic {T:Prop} (h:T:=by
 obtain⟨⟨a',cap,hv,hn,hcc⟩,h2⟩:=h;refine⟨⟨a',cap,hv,hn,fun j u hj=>?_⟩,h2⟩;have:l=[]:=Ej hl;subst this;simp[aS]at hj
):T:=h
theorem wk {B k nq:Nat}{q r:List PR}{dn:List (List PR)}{Yr:Nat→Prop}{W0 wr:World}{A Ac Af:Option Addr}{C Cc:Nat}(hB:W0.heap[B]?=some (.cells #[.slice A q.length C] 37 (0,0)))(hbel:Below W0.heap.size W0 wr)(hRF:RP W0 (.slice Af k k) (q.take k))(hRC:RP W0 (.slice Ac (q.length-k) Cc) (q.drop k))(hbF:∀ ad,Af=some ad→Yr ad.block)(hbC:∀ ad,Ac=some ad→Yr ad.block)(hYB:¬Yr B)(hG:grp r=dn++grp q)(hk:k=head1 q)(h0:0<q.length):((wr.drewN nq).setCell ⟨B,0,none⟩ (.slice Ac (q.length-k) Cc)).heap[B]?=some (.cells #[.slice Ac (q.length-k) Cc] 37 (0,0))∧Chg (fun k=>k=B) W0 ((wr.drewN nq).setCell ⟨B,0,none⟩ (.slice Ac (q.length-k) Cc)) ∧RP ((wr.drewN nq).setCell ⟨B,0,none⟩ (.slice Ac (q.length-k) Cc)) (.slice Af k k) (q.take k)∧RP ((wr.drewN nq).setCell ⟨B,0,none⟩ (.slice Ac (q.length-k) Cc)) (.slice Ac (q.length-k) Cc) (q.drop k) ∧(dn++[q.take k] <+: grp r)∧grp r=(dn++[q.take k])++grp (q.drop k):=by
 have hlt:=(Array.getElem?_eq_some_iff.1 hB).1
 have hc:Chg (fun k=>k=B) W0 ((wr.drewN nq).setCell ⟨B,0,none⟩ (.slice Ac (q.length-k) Cc)) :=
  (DM (bt hbel (DL wr nq))).trans (Chg.setCell _ _ _ rfl)
 have hg:grp r=(dn++[q.take k])++grp (q.drop k):=by rw[hG,gG q h0,←hk];simp
 have mv:∀ {a:Option Addr} {n c:Nat} {l:List PR},RP W0 (.slice a n c) l→(∀ ad,a=some ad→Yr ad.block)→RP ((wr.drewN nq).setCell ⟨B,0,none⟩ (.slice Ac (q.length-k) Cc)) (.slice a n c) l:=by
  intro a n c l h hb
  by_cases hl:l.length=0
  ·exact Ic
  ·refine h.move fun ad had=>?_
   obtain⟨a',cap',hv,_,hcc⟩:=h.open;injection hv with e1 _ _
   subst e1;obtain⟨b,off,hab,hu,_⟩:=hcc 0 (by omega);rw[had]at hab
   cases hab
   exact hc.block b (aD hu) fun e=>hYB (by rw[←e];exact hb _ had)
 exact⟨one_setCell (v:=.slice A q.length C) ((hbel.block B hlt).trans hB),hc,mv hRF hbF,mv hRC hbC,⟨_,hg.symm⟩,hg⟩
theorem GN {T:Prop} (h:T:=by
 go_wp2;go_quiet (fail);go_upto_region 6 with(fail)
 (obtain⟨W6,hW6⟩:=ex_ (((wr.drewN nq).setCell ⟨B,0,none⟩ (.slice Ac (q.length-k) Cc)));have h6:=(H6 nq).o;rw[←hW6]at h6⊢;clear hW6 H6;obtain⟨hB6,hc6,hRF6,hRC6,hp6,hG6⟩:=h6;have hJ6:=HJ.o _ _ _ hJd.o hc6;obtain⟨fn,tm,asg,bod,hy,hRd⟩:=HY.o dn (q.take k) #[.slice Af k k] W6 hJ6 ⟨Af,k,by rw[kK hk2],by rw[kK hk2];exact hRF6,HBF.o⟩ hp6;have HP6:=zH hRC6;have HG6:=zH hG6;have HQ6:=zH hp6;have HB6:=zH hB6;clear hRC6 hG6 hp6 hB6 hJ6 hc6 hRF6)
 (refine(wpIn_wide (n:=n)).1 ?_;gi_wp2;refine⟨fun h=>(by cases h),?_⟩;refine hRd.mono ?_;rintro e W7 (⟨rfl,hJ7,hc7⟩|⟨rfl,hJx7⟩);(gi_wp2;go_wp2;go_roundw;(case rel=>exact wi hc7 HB6.o HP6.o HBC.o HG6.o hJ7 hql hk2);(case measure=>rw[sS hc7 HB6.o,c1];show q.length-k<q.length;omega));(gi_wp2;go_wp2;refine bodyPost_ret (results_none rfl _ _ _) rfl ?_;exact⟨⟨_,rfl⟩,.inr ⟨_,HQ6.o,hJx7⟩⟩))
):T:=h
theorem qL (n B:Nat)(r:List PR)(Yr:Nat→Prop)(A0:Option Addr)(C0:Nat)(W:World)(hB:W.heap[B]?=some (.cells #[.slice A0 r.length C0] 37 (0,0)))(hr:RP W (.slice A0 r.length C0) r)(hblk:∀ ad,A0=some ad→Yr ad.block)(hYB:¬Yr B)(hl:r.length≤4398046511104):tJ Fence.wide n Tryz.prog 156 #[.pointer (some ⟨B,0,none⟩)] (fun k=>k=B) (fun k=>k=B∨Yr k) (ElP Yr) (grp r) W:=by
 intro l J Jx hJ hJx hY hJ0;refine callsIn_wide.2 ?_;have HJ:=zH hJ;have HJx:=zH hJx;have HY:=zH hY;have HB:=zH hB;have HBlk:=zH hblk;clear hJ hJx hY hB hblk;go_enter Tryz.func156,Tryz.ntmps156;go_wp2
 go_loopw [3] (fun _ wr=>∃ (q:List PR) (A:Option Addr) (C:Nat) (dn:List (List PR)),q.length≤4398046511104∧Hid (wr.heap[B]?=some (.cells #[.slice A q.length C] 37 (0,0)))∧Hid (RP wr (.slice A q.length C) q)∧Hid (∀ ad,A=some ad→Yr ad.block)∧Hid (grp r=dn++grp q)∧Hid (J dn wr)) (fun _ wr=>Dc (wr.cell? ⟨B,0,none⟩))
 case atStart=>exact⟨r,A0,C0,[],hl,HB,hr,HBlk,rfl,hJ0⟩
 case round =>
  clear hr hJ0 HB HBlk;obtain⟨q,A,C,dn,hql,hB,hR,hblk,hG,hJd⟩:=hrel;have c1:=cell_of_one hB.o;have f1:=free_of_one hB.o
  by_cases h0:0<q.length
  ·have m0:(0:Int)<(q.length:Int):=by omega
   obtain⟨_,_,hv,_,hcell⟩:=hR.o.open;injection hv with e1 _ e3
   subst e1 e3;obtain⟨b,off,hA,d0,_⟩:=hcell 0 h0;rw[Nat.zero_mul,Nat.add_zero]at d0;subst hA;have HC:=zH hcell;clear hcell;obtain⟨W0,hW0⟩:=ex_ wr;subst hW0;go_wp2
   go_loopw [3] (fun kk wx=>∃ k:Nat,1≤k∧k≤q.length∧kk=.int .i64 k∧Hid (∀ j (hj:j<k) (h:j<q.length),q[j].1=q[0].1)∧Hid (Below W0.heap.size W0 wx)) (fun kk _=>q.length-(intOf kk).toNat)
   case atStart=>exact⟨1,by omega,by omega,rfl,Cl q,Em _ _⟩
   case round =>
    obtain⟨k,hk1,hk2,rfl,hin,hbel⟩:=hrel;have c2:=DK hbel.o c1;have d2:=DK hbel.o d0;have ki0:=nn_ k
    by_cases hkq:k<q.length
    ·have ki1:(k:Int)<(q.length:Int):=by omega
     obtain⟨_,_,e1,dk,_⟩:=HC.o k hkq
     cases e1
     replace dk:=DK hbel.o dk
     by_cases he:q[k].1=q[0].1
     ·have he2:(q[k].1==q[0].1)=true:=by simpa using he
      have HE:=zH he;clear he;go_wp2;go_quiet (fail);go_wp2;go_roundw
      case rel =>
       refine⟨k+1,by omega,by omega,by go_num,?_,bt hbel.o (DL _ _)⟩;intro j hj h
       by_cases hjk:j=k
       ·subst hjk;exact HE.o
       ·exact hin.o j (by omega) h
      case measure=>simp[intOf];omega
     ·have he2:(q[k].1==q[0].1)=false:=by simpa using he
      have hhead:k=head1 q:=jG q h0 k hk1 hk2 (fun j hj=>hin.o j hj (by omega)) (fun _=>he);clear he
      (obtain⟨Af,hrunF,hRF,hblkF⟩:=RP.fullRun hR.o k (by omega) (by omega);obtain⟨Ac,Cc,hrunC,hRC,hblkC⟩:=RP.cutRunB hR.o k (by omega);have f2:wr.frozen? ⟨B,0,none⟩=false:=(hbel.o.frozen (p:=⟨B,0,none⟩) (aD c1)).trans f1;have H6:=fun nq=>zH (wk (nq:=nq) hB.o hbel.o hRF hRC (fun ad h=>by obtain⟨ad0,e1,e2⟩:=hblkF ad h;rw[e2];exact hblk.o _ e1) (fun ad h=>by obtain⟨ad0,e1,e2⟩:=hblkC ad h;rw[e2];exact hblk.o _ e1) hYB hG.o hhead h0);have HBF:=zH (show ∀ ad,Af=some ad→Yr ad.block from fun ad h=>by obtain⟨ad0,e1,e2⟩:=hblkF ad h;rw[e2];exact hblk.o _ e1);have HBC:=zH (show ∀ ad,Ac=some ad→Yr ad.block from fun ad h=>by obtain⟨ad0,e1,e2⟩:=hblkC ad h;rw[e2];exact hblk.o _ e1);have hk0:(0:Int)<(k:Int):=(by omega);have HH:=zH hhead;clear hhead hRF hRC hblkF hblkC)
      exact GN
    ·have hhead:k=head1 q:=jG q h0 k hk1 hk2 (fun j hj=>hin.o j hj (by omega)) (fun h=>absurd h hkq)
     (obtain⟨Af,hrunF,hRF,hblkF⟩:=RP.fullRun hR.o k (by omega) (by omega);obtain⟨Ac,Cc,hrunC,hRC,hblkC⟩:=RP.cutRunB hR.o k (by omega);have f2:wr.frozen? ⟨B,0,none⟩=false:=(hbel.o.frozen (p:=⟨B,0,none⟩) (aD c1)).trans f1;have H6:=fun nq=>zH (wk (nq:=nq) hB.o hbel.o hRF hRC (fun ad h=>by obtain⟨ad0,e1,e2⟩:=hblkF ad h;rw[e2];exact hblk.o _ e1) (fun ad h=>by obtain⟨ad0,e1,e2⟩:=hblkC ad h;rw[e2];exact hblk.o _ e1) hYB hG.o hhead h0);have HBF:=zH (show ∀ ad,Af=some ad→Yr ad.block from fun ad h=>by obtain⟨ad0,e1,e2⟩:=hblkF ad h;rw[e2];exact hblk.o _ e1);have HBC:=zH (show ∀ ad,Ac=some ad→Yr ad.block from fun ad h=>by obtain⟨ad0,e1,e2⟩:=hblkC ad h;rw[e2];exact hblk.o _ e1);have hk0:(0:Int)<(k:Int):=(by omega);have HH:=zH hhead;clear hhead hRF hRC hblkF hblkC)
     exact GN
  ·obtain rfl:q=[]:=Ej (by omega)
   have hfin:grp r=dn:=by have:=hG.o;rw[gS,Ep]at this;exact this
   have HF:=zH hfin;clear hfin;have c2:wr.cell? ⟨B,0,none⟩=some (.slice A 0 C):=c1;clear c1;go_wp2;go_end0;exact⟨⟨_,rfl⟩,.inl (by rw[HF.o];exact hJd.o)⟩
theorem sU (n B:Nat)(r:List PR)(A0:Option Addr)(C0:Nat)(W:World)(hB:W.heap[B]?=some (.cells #[.slice A0 r.length C0] 37 (0,0)))(hr:RP W (.slice A0 r.length C0) r)(hblk:∀ ad,A0=some ad→ad.block<B)(hl:r.length≤4398046511104):tJ Fence.wide n Tryz.prog 156 #[.pointer (some ⟨B,0,none⟩)] (fun k=>k=B) (fun k=>k≤B) (ElP fun k=>k<B) (grp r) W:=by
 have h:=qL n B r (fun k=>k<B) A0 C0 W hB hr hblk (Nat.lt_irrefl B) hl;have e:(fun k=>k=B∨k<B)=fun k=>k≤B:=by funext k;simp only[eq_iff_iff];omega
 rwa [e]at h
theorem Br:(Tryz.prog.info? 37).map (fun i=>(i.zero,i.size,i.bytes))=some (some (.slice none 0 0),1,24):=by kernel_rfl
def de (B:Nat)(U:World)(cells:List Value)(gs:List (List PR)):Prop:=cells.length=gs.length ∧
 ∀ k (hk:k<gs.length),∃ A C,cells[k]?=some (.slice A gs[k].length C)∧RP U (.slice A gs[k].length C) gs[k]∧∀ ad,A=some ad→ad.block<B
theorem qs {X:Nat→Prop}{w w':World}{a:Option Addr}{n c:Nat}{l:List PR}(h:RP w (.slice a n c) l)(hc:Chg X w w')(hX:∀ ad,a=some ad→¬X ad.block):RP w' (.slice a n c) l:=by
 by_cases hl:l.length=0
 ·exact Ic
 ·refine h.move fun ad had=>?_
  obtain⟨a',cap',hv,_,hcc⟩:=h.open;injection hv with e1 _ _
  subst e1;obtain⟨b,off,hab,hu,_⟩:=hcc 0 (by omega);rw[had]at hab
  cases hab
  exact hc.block b (aD hu) (hX _ had)
theorem de.chg {B:Nat}{X:Nat→Prop}{U U':World}{cells:List Value}{gs:List (List PR)}(h:de B U cells gs)(hc:Chg X U U')(hX:∀ k,X k→B≤k):de B U' cells gs :=
 ⟨h.1,fun k hk=>by
  obtain⟨A,C,h1,h2,h3⟩:=h.2 k hk;exact⟨A,C,h1,qs h2 hc fun ad had hx=>by have:=h3 ad had;have:=hX _ hx;omega,h3⟩⟩
theorem de.snoc {B:Nat}{U:World}{cells:List Value}{gs:List (List PR)}{x:List PR}{A:Option Addr}{C:Nat}(h:de B U cells gs)(hx:RP U (.slice A x.length C) x)(hA:∀ ad,A=some ad→ad.block<B):de B U (cells++[.slice A x.length C]) (gs++[x]):=by
 refine⟨by simp[h.1],fun k hk=>?_⟩
 by_cases hk2:k<gs.length
 ·obtain⟨A',C',h1,h2,h3⟩:=h.2 k hk2
  refine⟨A',C',?_,?_,h3⟩
  ·rw[List.getElem?_append_left (by rw[h.1];exact hk2),EX hk2];exact h1
  ·rw[EX hk2];exact h2
 ·obtain rfl:k=gs.length:=by simp at hk;omega
  refine⟨A,C,?_,?_,hA⟩
  ·rw[List.getElem?_append_right (by rw[h.1];exact Ei _)];simp[h.1]
  ·simpa using hx
theorem de.rr {B bZ:Nat}{U:World}{v:Value}{cells:List Value}{gs:List (List PR)}(hown:U.ownsRow bZ 37 1 v gs.length cells)(h:de B U cells gs):RR U v gs:=by
 obtain⟨a,cap,hv,hn,hc⟩:=DQ hown;subst hv
 have hle:gs.length≤cap:=by
  rcases hown.2 with ⟨hv,h0⟩|⟨g,cap',cur,hv,_,_,hcc,_⟩
  ·omega
  ·injection hv with _ _ e3;omega
 refine⟨a,cap,rfl,hle,hn,fun k hk=>?_⟩;obtain⟨A,C,h1,h2,_⟩:=h.2 k hk;obtain⟨b,off,ha,hu⟩:=hc k _ h1;exact⟨b,off,_,ha,hu,h2⟩
def vQ (B s:Nat)(w:World)(pre:List (List PR))(U:World):Prop:=∃ cells,ew s (s+3) 28 37 1 U pre.length cells∧de B U cells pre∧Chg (fun k=>k=B∨s≤k) w U
theorem vQ.chg {B s:Nat}{w U U':World}{pre:List (List PR)}(hBs:B<s)(h:vQ B s w pre U)(hc:Chg (fun k=>k=B∨k=s+1∨k=s+1+1) U U'):vQ B s w pre U':=by
 obtain⟨cells,h1,h2,h3⟩:=h;exact⟨cells,h1.chg hc (fun k hk=>by omega),h2.chg hc (fun k hk=>by omega),h3.trans (hc.mono fun k hk=>by omega)⟩
theorem ElP.chg {B s:Nat}{x:List PR}{vs:Array Value}{U U':World}(hBs:B<s)(h:ElP (fun k=>k<B) x vs U)(hc:Chg (fun k=>k=s+1∨k=s+1+1) U U'):ElP (fun k=>k<B) x vs U':=by
 obtain⟨A,C,h1,h2,h3⟩:=h;exact⟨A,C,h1,qs h2 hc (fun ad had hx=>by have:=h3 ad had;omega),h3⟩
theorem vQ.step {B s g cap:Nat}{w U W:World}{pre:List (List PR)}{x:List PR}{v:Value}{cells:List Value}{A:Option Addr}{C:Nat}(hBs:B<s)(hbox:U.heap[s]?=some (.cells #[v] 28 (0,0)))(hrows:de B U cells pre)(hw:Chg (fun k=>k=B∨s≤k) w U)(hx:RP U (.slice A x.length C) x)(hA:∀ ad,A=some ad→ad.block<B)(hB:Below (s+3) U W)(hown:W.ownsRow (s+3) 37 1 (.slice (some ⟨g,0,none⟩) (pre.length+1) cap) (pre.length+1) (cells++[.slice A x.length C])):Chg (fun k=>¬(k≤B∨k=s+1∨k=s+1+1)) U (W.setCell ⟨s,0,none⟩ (.slice (some ⟨g,0,none⟩) (pre.length+1) cap))∧vQ B s w (pre++[x]) (W.setCell ⟨s,0,none⟩ (.slice (some ⟨g,0,none⟩) (pre.length+1) cap)):=by
 obtain⟨h1,h2⟩:=ew.stored (by omega) hbox hB hown;refine⟨h2.mono fun k hk=>by omega,_,by simpa using h1,(hrows.snoc hx hA).chg h2 fun k hk=>by omega,hw.trans (h2.mono fun k hk=>by omega)⟩
theorem oW (B:Nat)(r:List PR)(A0:Option Addr)(C0:Nat)(w:World)(hB:w.heap[B]?=some (.cells #[.slice A0 r.length C0] 37 (0,0)))(hr:RP w (.slice A0 r.length C0) r)(hblk:∀ ad,A0=some ad→ad.block<B)(hl:r.length≤4398046511104):Calls Tryz.prog 155 #[.slice none 0 0,.func (.func 156) #[] #[.pointer (some ⟨B,0,none⟩)]] w fun e w'=>∃ v cells,e=.returned v∧w'.ownsRow (w.heap.size+3) 37 1 v (grp r).length cells∧de B w' cells (grp r)∧Chg (fun k=>k=B) w w':=by
 have hgl:=bX r.length r (Ei _);have hBlt:=(Array.getElem?_eq_some_iff.1 hB).1;refine db Tryz.func155 rfl ?_;simp only[Tryz.ntmps155,List.size_toArray,Ea,ET,Nat.reduceAdd,Nat.reduceSub,Array.replicate_succ,Array.replicate_zero,List.push_toArray,List.append_toArray,Eu,Ed];go_wp2;obtain⟨W1,hW1⟩:=ex_ (w.alloc (.cells #[.slice none 0 0] 28));have hs1:W1.heap.size=w.heap.size+1:=by rw[hW1];simp
 have hbx:W1.heap[w.heap.size]?=some (.cells #[.slice none 0 0] 28 (0,0)):=by rw[hW1];exact World.alloc_heap_new w _
 have hc1:∀ X,Chg X w W1:=fun X=>by rw[hW1];exact Chg.alloc X w _
 rw[←hW1];clear hW1;have hB1:=(hc1 (fun _=>False)).at hB (fun h=>h);have hr1:=qs hr (hc1 (fun _=>False)) (fun _ _ h=>h)
 refine rd (D:=w.heap.size+1) hs1 (gf:=156) (lb:=#[.pointer (some ⟨B,0,none⟩)]) rfl (enters_of Tryz.func156 (by kernel_rfl) rfl)
  (X:=fun k=>k=B) (Y:=fun k=>k≤B) (El:=ElP fun k=>k<B) (out:=grp r) (fun k hk=>by omega) (fun k hk=>by omega)
  (fun W hW=>sU 2 B r A0 C0 W ((hW.block B (by omega)).trans hB1) (qs (X:=fun _=>False) hr1 (DM (hW.mono (by omega))) (fun _ _ h=>h)) hblk hl)
  (fun x vs U h=>by obtain⟨A,C,rfl,_⟩:=h;rfl) (fun x vs U U' h hc=>h.chg hBlt hc)
  (vQ B w.heap.size w) (fun _ _ _=>False) (fun pre U U' h hc=>h.chg hBlt hc) (fun _ _ _ _ h _=>h.elim)
  ⟨[],⟨_,hbx,World.ownsRow_nil _ _ _ _⟩,⟨rfl,fun k hk=>by simp at hk⟩,hc1 _⟩ ?round ?done ?stop
 case round =>
  rintro l pre x vs U _ _ ⟨A,C,rfl,_,_⟩ hpre;have hlen:=hpre.length_le;rw[Ev]at hlen;have hby:(pre.length+1)*24≤140737488355328:=by simp at hlen;omega
  gi_wp2;refine⟨Em _ _,?_⟩;rintro U2 h2 ⟨cells,⟨v,hbox,hown⟩,hrows,hchg⟩ ⟨A',C',hv',hx,hA⟩ hc2;have hv2:Value.slice A x.length C=.slice A' x.length C':=by simpa using hv'
  injection hv2 with e1 _ e3
  subst e1 e3;obtain⟨av,cv,rfl⟩:=ap hown;have c:=cell_of_one hbox;have f:=free_of_one hbox;clear hv' hlen hpre hc2;gi_wp2_with (gi_at_builtin;refine p9 U2 [_] 37 rfl _ _ 28 rfl (w.heap.size+3) (.slice none 0 0) 1 24 Tryz.underlying28 Br rfl (by decide) _ _ _ rfl hown _ rfl rfl (by simp[Value.oneCell']) hby (by decide) h2 ?_;intro g cap W3 hown3 hB3;have c3:=cell_of_one ((hB3.block w.heap.size (by omega)).trans hbox);have f3:=free_of_one ((hB3.block w.heap.size (by omega)).trans hbox));exact vQ.step hBlt hbox hrows hchg hx hA hB3 hown3
 case done =>
  rintro W h2 ⟨cells,⟨v,hbox,hown⟩,hrows,hchg⟩ hK;obtain⟨av,cv,rfl⟩:=ap hown;have c:=cell_of_one hbox;go_wp2;have hp:∀ X:Nat→Prop,X (w.heap.size+1)→Chg X W (W.putObj (w.heap.size+1) (.deferred none)):=fun X hx=>Chg.putObj _ _ _ hx;refine gl (D:=w.heap.size+1) rfl hK (results_tmp rfl _ _ _) ⟨_,cells,rfl,?_,?_,?_⟩
  ·exact cE hown (hp (fun k=>k=w.heap.size+1) rfl) fun k hk=>by omega
  ·exact hrows.chg (hp (fun k=>k=w.heap.size+1) rfl) fun k hk=>by omega
  ·have hc:=hchg.trans (hp _ (.inr (by omega)))
   exact⟨hc.os,hc.tape,hc.output,hc.size,fun k hk hn=>hc.block k hk (by omega)⟩
 case stop=>exact fun _ _ _ _ _ h _=>h.elim
theorem yd (a:Option Addr)(n c:Nat)(w:World):Calls Tryz.prog 113 #[.slice a n c] w fun e w'=>e=.returned (.func (.func 156) #[] #[.pointer (some ⟨w.heap.size,0,none⟩)])∧w'=w.alloc (.cells #[.slice a n c] 37):=by
 go_enter Tryz.func113,Tryz.ntmps113;go_wp2;go_ret;exact⟨rfl,rfl⟩
theorem tK (B:Nat)(r:List PR)(A0:Option Addr)(C0:Nat)(w:World)(hB:w.heap[B]?=some (.cells #[.slice A0 r.length C0] 37 (0,0)))(hr:RP w (.slice A0 r.length C0) r)(hblk:∀ ad,A0=some ad→ad.block<B)(hl:r.length≤4398046511104):Calls Tryz.prog 112 #[.func (.func 156) #[] #[.pointer (some ⟨B,0,none⟩)]] w fun e w'=>∃ a n c cells,e=.returned (.slice a n c)∧w'.ownsRow (w.heap.size+3) 37 1 (.slice a n c) (grp r).length cells∧de B w' cells (grp r)∧Chg (fun k=>k=B) w w':=by
 have H:=zH (oW B r A0 C0 w hB hr hblk hl);clear hB hr hblk hl;go_enter Tryz.func112,Tryz.ntmps112;go_wp2_with fail;refine H.o.mono ?_;rintro e w1 ⟨v,cells,rfl,hown,hrows,hc⟩;obtain⟨a,c,rfl⟩:=ap hown;have HO:=zH hown;clear hown;go_wp2_with fail;go_ret;exact⟨_,_,_,cells,rfl,HO,hrows,hc⟩
theorem bt' {w1 w2 w3:World}(h:Below w1.heap.size w1 w2)(hc:Chg (fun k=>k=w1.heap.size) w2 w3)(hs:w2.heap.size=w1.heap.size+1):Below w1.heap.size w1 w3 :=
 h.trans (hc.below (fun k hk=>by omega) (by omega))
theorem vP (v:Value)(r:List PR)(w:World)(hr:RP w v r)(hl:r.length*32≤140737488355328):Calls Tryz.prog 69 #[v] w fun e w'=>∃ v' bZ cells,e=.returned v'∧w'.ownsRow bZ 37 1 v' (grp (srt r)).length cells∧de bZ w' cells (grp (srt r))∧w.heap.size≤bZ∧Bw_ w w':=by
 obtain⟨a,cap,rfl,_,_⟩:=hr.open;have hsl:=bC r;obtain⟨L,hL⟩:=ex_ (srt r);have hLl:L.length≤4398046511104:=by rw[hL];omega
 clear hsl;have hS:=tF _ _ r w (Ei _) hr hl;rw[←hL]at hS⊢;have HS:=zH hS;have HL:=zH hL;clear hS hL;go_enter Tryz.func69,Tryz.ntmps69;go_wp2_with fail;refine HS.o.mono ?_;rintro e w1 ⟨v1,rfl,hown,hB1⟩;obtain⟨a1,c1,rfl⟩:=ap hown;have hrow:=hown.reads
 have hlt:∀ ad,a1=some ad→ad.block<w1.heap.size:=by
  intro ad had;rcases hown.2 with ⟨hv,_⟩|⟨g,cap',cur,hv,_,hh,_⟩
  ·injection hv with e1 _ _;rw[e1]at had;cases had
  ·injection hv with e1 _ _
   rw[e1]at had
   cases had
   exact(Array.getElem?_eq_some_iff.1 hh).1
 have HR:=zH hrow;have HLT:=zH hlt;clear hown hrow hlt;go_wp2_with fail;refine(yd a1 L.length c1 w1).mono ?_;rintro e w2 ⟨rfl,hw2⟩;have hb2:w2.heap[w1.heap.size]?=some (.cells #[.slice a1 L.length c1] 37 (0,0)):=by rw[hw2];exact World.alloc_heap_new w1 _
 have hB2:Below w1.heap.size w1 w2:=by rw[hw2];exact af w1 _
 have hs2:w2.heap.size=w1.heap.size+1:=by rw[hw2];simp
 have HC:=zH (tK w1.heap.size L a1 c1 w2 hb2 (HR.o.below hB2) HLT.o hLl);have HS2:=zH hs2;clear hw2 hb2 hs2;go_wp2_with fail;refine HC.o.mono ?_;rintro e w3 ⟨a3,n3,c3,cells,rfl,hown3,hrows,hc3⟩;have HO:=zH hown3;clear hown3;go_wp2_with fail;go_ret;refine⟨_,w1.heap.size,cells,rfl,dL HO.o (by have:=HS2.o;omega),hrows,hB1.size,bt hB1 (bt' hB2 hc3 HS2.o)⟩
theorem Cq (x:List PR)(h:0<x.length):x[0].1=hk1 x:=by
 cases x with
 | nil=>simp at h
 | cons p l=>rfl
end
