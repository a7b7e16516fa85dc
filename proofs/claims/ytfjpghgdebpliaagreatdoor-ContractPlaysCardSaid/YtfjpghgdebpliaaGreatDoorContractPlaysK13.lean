/- Lemmas. -/
import Derived.BigRegion
import Derived.Test.YtfjpghgdebpliaaGreatDoorContractPlaysK7
import Derived.Test.YtfjpghgdebpliaaGreatDoorContractPlaysK9
set_option linter.unusedSimpArgs false
set_option linter.unusedVariables false
set_option maxRecDepth 100000
set_option maxHeartbeats 16000000
namespace Go.Proofs.YtfjpghgdebpliaaGreatDoor
attribute [local irreducible] wpG
open Go.Proofs.Tryz
open Go.RowKit Oct
theorem aj {w:Z}{v:V_}{l:LJ_}(h:bH.Row w v l):∃ a ah,v=.slice a l.length ah∧l.length≤ah∧∀ k (hk:k<l.length),∃ b aL,a=some ⟨b,aL,none⟩∧w.cell? ⟨b,aL+k*2,none⟩=some (.int .u8 (l[k].1.toNat:Int))∧w.cell? ⟨b,aL+k*2+1,none⟩=some (.int .u8 (l[k].2.toNat:Int)):=by
 exact MA
theorem lH {α:Type}{f:α→Bool}{l:List α}(k:Nat)(h:k<l.length)(hk:f l[k]=false):l.all f=false:=by
 rw[List.all_eq_false];exact⟨l[k],Jz h,by rw[hk];simp⟩
theorem nB {α:Type}{f:α→Bool}{l:List α}(h:∀ k (hk:k<l.length),f l[k]=true):l.all f=true:=by
 exact M6
theorem Kx {T:Prop} (h:T:=by
 rw[←hq]at bo;have HQ:=O hq;clear hq
 cases ap with
 | false =>
  go_wp2_with fail;refine mB_ bo.o hB fun w1 a_=>?_;go_wp2;go_ret;exact⟨⟨_,rfl,by rw[lH i h0 HQ.o.symm];simp⟩,a_.o⟩
 | true =>
  go_wp2_with fail;refine mB_ bo.o hB fun w1 a_=>?_;go_wp2;go_roundw
  case rel =>
   refine⟨i+1,by omega,by go_num,?_,a_.o⟩;intro j hj ae
   by_cases e:j=i
   ·subst e;exact HQ.o.symm
   ·exact X.o j hj (by omega)
  case measure=>simp[intOf];omega
):T:=h
theorem KD {T:Prop} (h:T:=by
 obtain rfl:i=l.length:=by omega
 go_wp2;go_ret;exact⟨⟨_,rfl,by rw[HF.o];rfl⟩,hB.o⟩
):T:=h
theorem yT (v:V_)(l:LL_)(w:Z)(hr:aP.Row w v l)(hl:l.length≤140737488355328)(hm:∀ s∈l,s.length≤140737488355328):C_ 113 #[v,.func (.func 154) #[] #[]] w fun e w'=>(∃ i:Int,e=.returned (F i)∧decide (0≤i)=!l.all gi)∧Bw_ w w':=by
 obtain⟨a,ah,rfl,_,hc⟩:=au hr;have HC:=O hc;have HM:=O hm;clear hc hr hm;go_enter func113,ntmps113;go_wp2
 go_loopw [8] (fun t wr=>∃ i:Nat,i≤l.length∧t=F i∧Hid (∀ j (hj:j<l.length),j<i→gi l[j]=true)∧Hid (Bw_ w wr)) (fun t _=>l.length-(intOf t).toNat)
 case atStart=>exact⟨0,by omega,rfl,fun j _ h=>absurd h Y,Ja _ _⟩
 case round =>
  obtain⟨i,hi,rfl,X,hB⟩:=hrel
  by_cases h0:i<l.length
  ·obtain⟨b,aL,rfl,c0⟩:=HC.o i h0
   have e0:=IF hB.o c0;clear c0;have ar:=nn_ i;have a5:(i:Int)<l.length:=Y;have W:=HM.o l[i] (Jz h0);have bo:=O (DT l[i] wr W);clear W;obtain⟨ap,hq⟩:=H (gi l[i]);exact Kx
  ·have HF:=O (nB (f:=gi) fun k hk=>X.o k hk Y)
   exact KD
theorem Kz {T:Prop} (h:T:=by
 clear hi;go_wp2;go_ret;exact⟨by rw[←HQ.o];simp[d],a_.o⟩
):T:=h
theorem rK (v:V_)(l:LL_)(w:Z)(hr:aP.Row w v l)(hl:l.length≤140737488355328)(hm:∀ s∈l,s.length≤140737488355328):R_ 77 #[v,.func (.func 154) #[] #[]] w (.bool (!l.all gi)):=by
 have f:=yT v l w hr hl hm;obtain⟨a,ah,rfl,_,_⟩:=au hr;have b:=O f;clear f hr hm;go_enter func77,ntmps77;go_wp2_with fail;refine b.o.mono ?_;rintro e w1⟨⟨i,rfl,hi⟩,aF⟩;have a_:=O aF;clear aF;obtain⟨ap,hq⟩:=H (!l.all gi);rw[←hq]at hi;have HQ:=O hq;clear hq
 cases ap with
 | false =>
  have d:¬(0:Int)≤i:=of_decide_eq_false hi;exact Kz
 | true =>
  have d:(0:Int)≤i:=of_decide_eq_true hi;exact Kz
theorem ud (v:V_)(l:LJ_)(w:Z)(hr:bH.Row w v l)(hl:l.length≤140737488355328):C_ 169 #[v,.func (.func 155) #[] #[]] w fun e w'=>(∃ i:Int,e=.returned (F i)∧decide (0≤i)=!l.all bw)∧Bw_ w w':=by
 obtain⟨a,ah,rfl,_,hc⟩:=aj hr;have HC:=O hc;clear hc hr;go_enter func169,ntmps169;go_wp2
 go_loopw [8] (fun t wr=>∃ i:Nat,i≤l.length∧t=F i∧Hid (∀ j (hj:j<l.length),j<i→bw l[j]=true)∧Hid (Bw_ w wr)) (fun t _=>l.length-(intOf t).toNat)
 case atStart=>exact⟨0,by omega,rfl,fun j _ h=>absurd h Y,Ja _ _⟩
 case round =>
  obtain⟨i,hi,rfl,X,hB⟩:=hrel
  by_cases h0:i<l.length
  ·obtain⟨b,aL,rfl,c0,c1⟩:=HC.o i h0
   have e0:=IF hB.o c0;have e1:=IF hB.o c1;clear c0 c1;have ar:=nn_ i;have a5:(i:Int)<l.length:=Y;have bo:=O (zt l[i] wr);obtain⟨ap,hq⟩:=H (bw l[i]);exact Kx
  ·have HF:=O (nB (f:=bw) fun k hk=>X.o k hk Y)
   exact KD
theorem pj (v:V_)(l:LJ_)(w:Z)(hr:bH.Row w v l)(hl:l.length≤140737488355328):R_ 157 #[v,.func (.func 155) #[] #[]] w (.bool (!l.all bw)):=by
 have f:=ud v l w hr hl;obtain⟨a,ah,rfl,_,_⟩:=aj hr;have b:=O f;clear f hr;go_enter func157,ntmps157;go_wp2_with fail;refine b.o.mono ?_;rintro e w1⟨⟨i,rfl,hi⟩,aF⟩;have a_:=O aF;clear aF;obtain⟨ap,hq⟩:=H (!l.all bw);rw[←hq]at hi;have HQ:=O hq;clear hq
 cases ap with
 | false =>
  have d:¬(0:Int)≤i:=of_decide_eq_false hi;exact Kz
 | true =>
  have d:(0:Int)≤i:=of_decide_eq_true hi;exact Kz
theorem DO (texts:LL_)(I:LJ_):dH texts I=(decide (texts.length≤16)&&decide (I.length≤256)&&texts.all gi&&I.all bw):=rfl
theorem Ky {T:Prop} (h:T:=by
 go_enter func126,ntmps126;go_upto_region 1 with fail;rw[←aA];clear aA;go_wp2_with fail;refine(HT.o _ a_.o).mono ?_;rintro e w2⟨rfl,ax⟩;have a9:=O (bt a_.o ax);have y0:=IF ax x0;have y1:=IF ax x1;clear ax x0 x1;go_wp2_with fail;refine(bz.o _ a9.o).mono ?_;rintro e w3⟨rfl,al⟩;have aW:=O (bt a9.o al);clear al y0 y1;go_wp2_with fail;go_ret;exact⟨by rw[HE.o];rfl,aW.o⟩
):T:=h
theorem KB {T:Prop} (h:T:=by
 go_enter func126,ntmps126;exact MP
):T:=h
theorem rx (tv cv:V_)(texts:LL_)(I:LJ_)(w:Z)(ht:aP.Row w tv texts)(hc:bH.Row w cv I)(aC:texts.length≤140737488355328)(cg:I.length≤140737488355328)(hm:∀ s∈texts,s.length≤140737488355328):R_ 126 #[.agg #[tv,cv]] w (F (if dH texts I=true then 0 else 2)):=by
 have HT:=O (fun w' (hB:Bw_ w w')=>rK tv texts w' (ht.below hB) aC hm);have bz:=O (fun w' (hB:Bw_ w w')=>pj cv I w' (hc.below hB) cg);obtain⟨ak,ct,rfl,_,_⟩:=au ht;obtain⟨ac,cc,rfl,_,_⟩:=aj hc;obtain⟨c,a⟩:∃ ap,ap=texts.all gi:=⟨_,rfl⟩
 obtain⟨d,b⟩:∃ ap,ap=I.all bw:=⟨_,rfl⟩
 have hM:=DO texts I;rw[←a,←b]at hM;rw[←a]at HT;rw[←b]at bz;obtain⟨r,hr⟩:∃ r:Int,r=if dH texts I=true then 0 else 2:=⟨_,rfl⟩
 rw[←hr];rw[hM]at hr;have HM:=O hr;clear hr hM a b ht hc hm;obtain⟨W1,aA⟩:=H (w.alloc (.cells #[.slice ak texts.length ct,.slice ac I.length cc] 25));have a8:=ba_ aA;have hx:=bm_ aA;obtain⟨x0,x1⟩:=cl2 hx;have a_:=O a8;clear hx a8
 by_cases h1:texts.length≤16
 ·have q1:¬16<(texts.length:Int):=Y
  by_cases h2:I.length≤256
  ·have q2:¬256<(I.length:Int):=Y
   cases c with
   | false =>
    have HE:=O (show r=2 by rw[HM.o];simp);go_enter func126,ntmps126;go_upto_region 1 with fail;rw[←aA];clear aA;go_wp2_with fail;refine(HT.o _ a_.o).mono ?_;rintro e w2⟨rfl,ax⟩;have a9:=O (bt a_.o ax);have y0:=IF ax x0;have y1:=IF ax x1;clear ax x0 x1;go_wp2_with fail;go_ret;exact⟨by rw[HE.o];rfl,a9.o⟩
   | true =>
    cases d with
    | false =>
     have HE:=O (show r=2 by rw[HM.o];simp);exact Ky
    | true =>
     have HE:=O (show r=0 by rw[HM.o];simp[h1,h2]);exact Ky
  ·have q2:256<(I.length:Int):=Y
   have HE:=O (show r=2 by rw[HM.o];simp[h2]);exact KB
 ·have q1:16<(texts.length:Int):=Y
  have HE:=O (show r=2 by rw[HM.o];simp[h1]);exact KB
theorem jo_ {w:Z}{t1 c1 t2 c2 t3 c3:V_}{l1 l3 i:LL_}{l2 l4 l:LJ_}(h1:aP.Row w t1 l1)(h2:bH.Row w c1 l2)(h3:aP.Row w t2 l3)(h4:bH.Row w c2 l4)(h5:aP.Row w t3 i)(h6:bH.Row w c3 l):∃ ta tc ca cc aV bd be bf bg bh bi bk,t1=.slice ta l1.length tc∧c1=.slice ca l2.length cc∧t2=.slice aV l3.length bd∧c2=.slice be l4.length bf∧t3=.slice bg i.length bh∧c3=.slice bi l.length bk:=by
 obtain⟨a1,b1,e1,-,-⟩:=au h1;obtain⟨a2,b2,e2,-,-⟩:=aj h2;obtain⟨a3,b3,e3,-,-⟩:=au h3;obtain⟨a4,b4,e4,-,-⟩:=aj h4;obtain⟨a5,b5,e5,-,-⟩:=au h5;obtain⟨a6,b6,e6,-,-⟩:=aj h6;exact⟨a1,b1,a2,b2,a3,b3,a4,b4,a5,b5,a6,b6,e1,e2,e3,e4,e5,e6⟩
theorem ke (n:Nat):bD.cells (List.replicate n 0)=List.replicate n (F 0):=by
 induction n with
 | zero=>rfl
 | succ n H=>rw[List.replicate_succ,List.replicate_succ,←H];rfl
theorem tX (n:Nat)(hn:n≤1000000)(w:Z):(Instr.makeSlice 92 (F n) (F n)).run prog w=.ok (.slice (some ⟨w.heap.size,0,none⟩) n n) (w.alloc (.cells (bD.cells (List.replicate n 0)).toArray 3)):=by
 have h:=wk (P:=prog) 92 3 (F 0) 8 underlying92 q_ rfl n Y Y w;rw[h,ke]
theorem bP (w:Z)(o:Obj):(w.alloc o).heap.size=w.heap.size+1:=Array.size_push ..
theorem qx (w:Z)(n bZ:Nat)(hn:n≤1000000)(hb:bZ≤w.heap.size):bD.Own (w.alloc (.cells (bD.cells (List.replicate n 0)).toArray 3)) bZ (.slice (some ⟨w.heap.size,0,none⟩) n n) (List.replicate n 0):=by
 have h1:(List.replicate n (0:Int)).length=n:=JR ..;have h2:bD.cells (List.replicate n 0)=List.replicate n (F 0):=ke n;have h3:(1000000:Nat)≤maxLen:=d_;have h4:n≤maxLen:=Y;show(w.alloc (.cells (bD.cells (List.replicate n 0)).toArray 3)).ownsRow bZ bD.e bD.n (.slice (some ⟨w.heap.size,0,none⟩) n n) (List.replicate n (0:Int)).length (bD.cells (List.replicate n 0));rw[h1,h2];refine⟨by rw[JR];show n=n*1;omega,.inr ⟨w.heap.size,n,(List.replicate n (F 0)).toArray,rfl,hb,?_,I6 _,h4,?_,?_⟩⟩
 ·show(w.heap.push _)[w.heap.size]?=_
  rw[Array.getElem?_push_size]
  rfl
 ·rw[List.size_toArray,JR];show n=n*1;omega
 ·show(List.replicate n (F 0)).take (n*1)=_
  rw[Nat.mul_one,I5 (by rw[JR];exact I6 _)]
section
variable {w:Z}{bZ G:Nat}{tv cv bv sv ev:V_}{ip:Nat}{ag:U8_}{s:Vs}
theorem VG.setInp (h:VG w bZ G tv cv ip ag s bv sv ev)(n:Nat):VG (w.setCell ⟨G,2,none⟩ (F n)) bZ G tv cv n ag s bv sv ev∧B_ bZ w (w.setCell ⟨G,2,none⟩ (F n)):=by
 have hc:Chg (fun x=>x=G) w (w.setCell ⟨G,2,none⟩ (F n)):=Chg.setCell _ _ _ rfl
 have z:∀ {β:Type} (R:Rec β) (x:V_) (l:List β),R.Own w bZ x l→(∀ b,x.ownBlock=some b→b≠G)→R.Own (w.setCell ⟨G,2,none⟩ (F n)) bZ x l:=fun R x l ho hn=>by
  exact Mh
 have hb:=h.blk.set 2 (F n);exact⟨⟨hb,z _ _ _ h.ob (fun b hb=>(h.a1 b hb).1),z _ _ _ h.os (fun b hb=>(h.a2 b hb).1),z _ _ _ h.oe h.a3,h.gb,h.a1,h.a2,h.a3⟩,hc.below (fun x hx=>by have:=h.gb;omega) (Jc h.gb (JA h.blk.lt))⟩
end
theorem CV (w:Z)(tv cv:V_)(n bZ:Nat)(ag:U8_)(hn:n≤1000000)(hb:bZ≤w.heap.size)(w1 w2:Z)(h1:w1=w.alloc (.cells (bD.cells (List.replicate n 0)).toArray 3))(h2:w2=w1.alloc (.cells #[tv,cv,F 2,.int .u8 ag.toNat,.string ⟨#[]⟩,e_,e_,.slice (some ⟨w.heap.size,0,none⟩) n n,F 0] 249)):VG w2 bZ (w.heap.size+1) tv cv 2 ag (bd n) (e_) (e_) (.slice (some ⟨w.heap.size,0,none⟩) n n):=by
 have hs:w1.heap.size=w.heap.size+1:=by rw[h1,bP]
 refine⟨?_,Rec.Own.nil _ _,Rec.Own.nil _ _,?_,by omega,?_,?_,?_⟩
 ·rw[←hs,h2]
  exact Blk.new w1 ([tv,cv,F 2,.int .u8 ag.toNat,.string ⟨#[]⟩,e_,e_,.slice (some ⟨w.heap.size,0,none⟩) n n,F 0]:LV_) _
 ·have ho:=qx w n bZ hn hb
  rw[←h1]at ho;rw[h2];exact ho.below (af _ _)
 ·intro b hb;cases hb
 ·intro b hb;cases hb
 ·intro b hb
  injection hb with hb
  show b≠_;have:w.heap.size=b:=hb;omega
def ThR (w w':Z)(tv cv:V_)(ag:U8_)(T:Nat×Nat×Vs)(e:Ending):Prop :=
 ∃ G bZ ai bv sv ev,e=.returned (.tuple #[p_ G,.int .i64 T.1,.int .i64 T.2.1])∧VG w' bZ G tv cv ai ag T.2.2 bv sv ev∧Bw_ w w'
theorem gE {texts:LL_}{I:LJ_}{ag:U8_}(h:(dH texts I&&dX ag)=false):az texts I ag=(0,2,bd I.length):=by unfold az;rw[if_neg (by rw[h];simp)]
theorem bX {texts:LL_}{I:LJ_}{ag:U8_}(h:(dH texts I&&dX ag)=true){r:Nat×Nat×Vs}(hr:fF texts.length (inputsV ag) ag 0 I (bd I.length)=r)(h0:r.2.1≠0):az texts I ag=r:=by unfold az;rw[if_pos h,if_neg (by rw[hr];exact h0),hr]
theorem gp {texts:LL_}{I:LJ_}{ag:U8_}(h:(dH texts I&&dX ag)=true){r:Nat×Nat×Vs}(hr:fF texts.length (inputsV ag) ag 0 I (bd I.length)=r)(h0:r.2.1=0):az texts I ag=(0,0,r.2.2):=by unfold az;rw[if_pos h,if_pos (by rw[hr];exact h0),hr]
theorem nF (n:Nat)(hn:n≤256):lK 0 (bd n):=⟨by simp[bd],by simp[bd],fun b hb=>by simp[bd]at hb,by simp[bd];exact hn,by simp[bd],by simp[bd]⟩
theorem D2 {texts:LL_}{I:LJ_}(h:dH texts I=true):texts.length≤16∧I.length≤256∧∀ k (hk:k<I.length),I[k].1.toNat<24:=by
 unfold dH at h;simp only[Jj,decide_eq_true_eq,List.all_eq_true]at h;obtain⟨⟨⟨h1,h2⟩,h3⟩,h4⟩:=h;refine⟨h1,h2,fun k hk=>?_⟩;have:=h4 _ (Jz hk);unfold bw at this;simp only[Jj,decide_eq_true_eq]at this;omega
theorem KE {T:Prop} (h:T:=by
 go_wp2_with fail
 go_loopw [4,39] (fun m t wr=>∃ (i:Nat) (s:Vs) (bv sv:V_),m=.pointer (some ⟨G,0,none⟩)∧t=.int .i64 i∧i≤I.length∧Hid (fF texts.length ai ag i (I.drop i) s=fF texts.length ai ag 0 I (bd I.length))∧Hid (VG wr W1.heap.size G (.slice ak texts.length ct) (.slice ac I.length cc) ai ag s bv sv ev)∧Hid (lK i s)∧Hid (s.ends.length=I.length)∧Hid (Bw_ W1 wr)) (fun _ t _=>I.length-(intOf t).toNat)
 case atStart=>exact⟨0,bd _,_,_,rfl,rfl,Jl _,rfl,H5.o,nF _ u,by simp[bd,Hid],aJ.o⟩
 case round =>
  obtain⟨i,s,bv,sv,rfl,rfl,hi,HR,HV,y,aO,HB⟩:=hrel
  by_cases h0:i<I.length
  ·obtain⟨b,aL,rfl,d0,d1⟩:=cK.o i h0
   have aF:=bt a_.o HB.o;have e0:=IF aF d0;have e1:=IF aF d1;have a7:=O aF;have ar:=nn_ i;have a5:(i:Int)<I.length:=by omega
   have HP:=O (bo.o i h0);clear d0 d1 aF;have HA:=O (af wr (.cells #[.int .u8 (I[i].1.toNat:Int),.int .u8 (I[i].2.toNat:Int)] 109));have j:=O (JP h0);go_wp2_with fail;refine(zR (HV.o.below HA.o) (J.o _ (bt a7.o HA.o)) B.o I[i].1 I[i].2 i HP.o y.o (by omega) (by omega) (by first|omega|exact a) (by omega)).mono ?_;rintro e w6⟨rfl,⟨an,V,d⟩,bx⟩;have bn:=O ((bt HB.o HA.o).trans bx);have E:=O (fun (C:(cq texts.length ai ag i I[i] s).1=0)=>lK.one (nt:=texts.length) (ai:=ai) (ag:=ag) (x:=I[i]) y.o (by rw[aO.o];exact h0) C);obtain⟨r,hr⟩:=H (cq texts.length ai ag i (I[i].1,I[i].2) s);rw[←hr]at d⊢;rw[show cq texts.length ai ag i I[i] s=r from hr.symm]at E;have aD:=O (show cq texts.length ai ag i I[i] s=r from hr.symm);have H6:=O d;clear hr d bx HA
   by_cases hz:r.1=0
   ·have t1:((r.1:Int) != 0)=false:=by rw[bne_eq_false_iff_eq];omega
    obtain⟨ao,aG⟩:=E.o hz;have db:=O ao;have l:=O (aG.trans aO.o);have ah:=O (show fF texts.length ai ag (i+1) (I.drop (i+1)) r.2=fF texts.length ai ag 0 I (bd I.length) by rw[←HR.o,j.o,pp (by rw[aD.o];exact hz),aD.o]);clear hz ao aG E aD HR j;go_wp2_with fail;go_roundw
    case rel=>exact⟨i+1,r.2,an,V,rfl,by go_num,by omega,ah.o,H6.o,db.o,l.o,bn.o⟩
    case measure=>simp[intOf];omega
   ·have t1:((r.1:Int) != 0)=true:=by rw[bne_iff_ne];omega
    have HE:=O (bX br.o (r:=(i,r.1,r.2)) (by rw[←bi.o,←HR.o,j.o,jk (by rw[aD.o];exact hz),aD.o]) hz);clear hz E aD HR j;go_wp2_with fail;go_ret3;exact⟨G,_,_,_,_,_,by rw[HE.o];rfl,by rw[HE.o];exact H6.o,bt a_.o bn.o⟩
  ·obtain rfl:i=I.length:=by omega
   have ah:=O (show fF texts.length ai ag 0 I (bd I.length)=(I.length,overV ag s,s) by rw[←HR.o,List.drop_length,mD]);have g:=O (vU HV.o (by have:=y.o.bl;omega) (by have:=y.o.kl;omega));have x1:=IF HB.o bL.o;obtain⟨o,ho⟩:=H (overV ag s);rw[←ho]at ah g;clear ho HR;go_wp2_with fail;refine g.o.mono ?_;rintro e w6⟨rfl,rfl⟩
   by_cases hz:o=0
   ·have t1:((o:Int) != 0)=false:=by rw[bne_eq_false_iff_eq];omega
    have HE:=O (gp br.o (r:=(I.length,o,s)) (by rw[←bi.o,ah.o]) hz);clear hz;go_wp2_with fail;go_ret3;exact⟨G,_,_,_,_,_,by rw[HE.o];rfl,by rw[HE.o];exact HV.o,bt a_.o HB.o⟩
   ·have t1:((o:Int) != 0)=true:=by rw[bne_iff_ne];omega
    have HE:=O (bX br.o (r:=(I.length,o,s)) (by rw[←bi.o,ah.o]) hz);clear hz;go_wp2_with fail;go_region;go_wp2_with fail;go_ret3;exact⟨G,_,_,_,_,_,by rw[HE.o];rfl,by rw[HE.o];exact HV.o.below (b_drew _),bt a_.o (bt HB.o (b_drew _))⟩
):T:=h
theorem KF {T:Prop} (h:T:=by
 go_wp2_with fail;refine(f.o _ (bt a_.o a9.o)).mono ?_;rintro e w4⟨rfl,aQ⟩;have x0:=IF aQ x0;have x1:=IF aQ x1;have ba:=O (bt a9.o aQ);have H4:=O (H2.o.below aQ);have ad:=Jr ad aQ.size;clear aQ H2 a9;go_wp2_with fail;go_ret3;exact⟨G,_,_,_,_,_,by rw[HE.o];rfl,by rw[HE.o];exact H4.o,bt a_.o ba.o⟩
):T:=h
theorem om (tv cv:V_)(texts:LL_)(I:LJ_)(ag:U8_)(w:Z)(ht:aP.Row w tv texts)(hc:bH.Row w cv I)(aC:texts.length≤1000)(cg:I.length≤5000)(hm:∀ s∈texts,s.length≤140737488355328)(hE:lL w)(hg:0<w.heap.size):C_ 139 #[.agg #[tv,cv],.int .u8 ag.toNat] w fun e w'=>ThR w w' tv cv ag (az texts I ag) e:=by
 obtain⟨f,J,HG⟩:=zH3 (fun w' (hB:Bw_ w w')=>rx tv cv texts I w' (ht.below hB) (hc.below hB) Y Y hm) (fun w' (hB:Bw_ w w')=>hE.below hB hg) hg;obtain⟨ak,ct,rfl,-,-⟩:=au ht;obtain⟨ac,cc,rfl,-,X⟩:=aj hc;have cK:=O X;clear ht hc X hm hE hg;obtain⟨W1,aA⟩:=H (w.alloc (.cells #[.slice ak texts.length ct,.slice ac I.length cc] 25));have a8:=ba_ aA;have bp:W1.heap.size=w.heap.size+1:=by rw[aA,bP]
 have hx:=bm_ aA;obtain⟨x0,x1⟩:=cl2 hx;obtain⟨a_,bL,b0⟩:=zH3 a8 x1 bp;have B:=O (show 0<W1.heap.size by have:=HG.o;omega);have be:w.heap.size<W1.heap.size:=Y;have bJ:=tX I.length Y;obtain⟨E0,av⟩:=H ((bD.cells (List.replicate I.length 0)).toArray);rw[←av]at bJ;have a0:=O av;clear a8 av bp hx;go_enter func139,ntmps139;go_upto_region 1 with fail;rw[←aA];clear aA;go_region;clear bJ;go_simp;obtain⟨w2,bl⟩:=H (((W1.alloc (.cells E0 3)).alloc (.cells #[.slice ak texts.length ct,.slice ac I.length cc,F 2,.int .u8 ag.toNat,.string ⟨#[]⟩,e_,e_,.slice (some ⟨W1.heap.size,0,none⟩) I.length I.length,F 0] 249)).drew)
 have bI:VG w2 W1.heap.size (W1.heap.size+1) (.slice ak texts.length ct) (.slice ac I.length cc) 2 ag (bd I.length) (e_) (e_) (.slice (some ⟨W1.heap.size,0,none⟩) I.length I.length):=by
  have h:=CV W1 (.slice ak texts.length ct) (.slice ac I.length cc) I.length W1.heap.size ag Y (I6 _) _ _ rfl rfl;rw[←a0.o]at h;rw[bl];exact h.below (b_drew _)
 have aY:Bw_ W1 w2:=by rw[bl];exact bt (af _ _) (bt (af _ _) (b_drew _))
 rw[←bl];clear bl a0;have x0:=IF aY x0;have x1:=IF aY x1;have a9:=O aY;have ad:=bI.blk.lt;obtain⟨G,hG⟩:=H (W1.heap.size+1);rw[←hG]at bI ad⊢;have cF:w.heap.size<G:=Y;have H2:=O bI;have P:=O x0;obtain⟨ev,aV⟩:∃ ev:V_,ev=.slice (some ⟨W1.heap.size,0,none⟩) I.length I.length:=⟨_,rfl⟩
 rw[←aV]at H2;have q:=bL.o;clear bI aY b0 be hG aV q
 by_cases c:dH texts I=true
 ·rw[if_pos c]at f
  obtain⟨N,u,bg⟩:=D2 c;have bo:=O bg;clear bg
  by_cases r1:1≤ag.toNat
  ·have q1:¬(ag.toNat:Int)<1:=Y
   by_cases r2:ag.toNat≤3
   ·have q2:¬3<(ag.toNat:Int):=Y
    have br:=O (show(dH texts I&&dX ag)=true by unfold dX;simp[c,r1,r2]);clear c r1 r2;obtain⟨ai,ay⟩:=H (inputsV ag)
    by_cases r3:ag=1
    ·have ao:ai=1:=by rw[ay,inputsV,if_pos r3]
     have q3:((ag.toNat:Int)==1)=true:=by rw[r3];rfl
     have bi:=O ay;have a:ai≤1000:=Y;clear r3 ay;go_wp2_with fail;refine(f.o _ (bt a_.o a9.o)).mono ?_;rintro e w4⟨rfl,aQ⟩;have x0:=IF aQ x0;have x1:=IF aQ x1;have ba:=O (bt a9.o aQ);have H4:=O (H2.o.below aQ);have ad:=Jr ad aQ.size;clear aQ H2 a9;have f4:=H4.o.free (k:=2) Y;have c4:=H4.o.c 2;go_upto_region 6 with fail;have h5:=H4.o.setInp 1;obtain⟨w5,bF⟩:=H (w4.setCell ⟨G,2,none⟩ (F 1));have aT:w5.cell? ⟨w.heap.size,1,none⟩=some (.slice ac I.length cc):=by rw[bF];exact(World.cell?_setCell_other _ _ _ _ (by intro h;injection h with h _ _;omega)).trans x1
     rw[show(F ((1:Nat):Int))=F 1 from rfl,←bF]at h5;rw[←bF];have z:=ba.o.trans h5.2;clear bF x0 x1 f4 c4;have x1:=aT;rw[←ao]at h5;have H5:=O h5.1;have aJ:=O z;clear h5 z H4 ba ao q1 q2 q3 aT;exact KE
    ·have ao:ai=2:=by rw[ay,inputsV,if_neg r3]
     have q3:((ag.toNat:Int)==1)=false:=aH d_ r3;have bi:=O ay;have a:ai≤1000:=Y;clear r3 ay;go_wp2_with fail;refine(f.o _ (bt a_.o a9.o)).mono ?_;rintro e w4⟨rfl,aQ⟩;have x0:=IF aQ x0;have x1:=IF aQ x1;have ba:=O (bt a9.o aQ);have H4:=O (H2.o.below aQ);have ad:=Jr ad aQ.size;clear aQ H2 a9;have H5:=O (show VG w4 W1.heap.size G (.slice ak texts.length ct) (.slice ac I.length cc) ai ag (bd I.length) (e_) (e_) ev by rw[ao];exact H4.o);have aJ:=ba;clear H4 ba ao x0;exact KE
   ·have q2:3<(ag.toNat:Int):=Y
    have HE:=O (gE (texts:=texts) (I:=I) (ag:=ag) (by unfold dX;simp[r2]));exact KF
  ·have q1:(ag.toNat:Int)<1:=Y
   have HE:=O (gE (texts:=texts) (I:=I) (ag:=ag) (by unfold dX;simp[r1]));exact KF
 ·rw[if_neg c]at f
  have HE:=O (gE (texts:=texts) (I:=I) (ag:=ag) (by simp[c]));exact KF
structure pm (w:Z) (tv cv:V_) (texts:LL_) (code:LJ_):Prop where
 t:aP.Row w tv texts
 c:bH.Row w cv code
 lt:texts.length≤1000
 lc:code.length≤5000
 m:∀ s∈texts,s.length≤140737488355328
 e:lL w
 g:0<w.heap.size
theorem pm.below {w w':Z}{tv cv:V_}{texts:LL_}{I:LJ_}(h:pm w tv cv texts I)(hB:Bw_ w w'):pm w' tv cv texts I :=
 ⟨h.t.below hB,h.c.below hB,h.lt,h.lc,h.m,h.e.below hB h.g,Jr h.g hB.size⟩
theorem k9 (tv cv:V_)(texts:LL_)(I:LJ_)(ag:U8_)(w:Z)(hA:pm w tv cv texts I):R_ 102 #[.agg #[tv,cv],.int .u8 ag.toNat] w (.tuple #[F ((az texts I ag).1:Int),F ((az texts I ag).2.1:Int)]):=by
 obtain⟨ak,ct,rfl,-,-⟩:=au hA.t;obtain⟨ac,cc,rfl,-,-⟩:=aj hA.c;have HT:=O (fun w' (hB:Bw_ w w')=>om _ _ texts I ag w' (hA.below hB).t (hA.below hB).c hA.lt hA.lc hA.m (hA.below hB).e (hA.below hB).g);obtain⟨W1,aA⟩:=H (w.alloc (.cells #[.slice ak texts.length ct,.slice ac I.length cc] 25));have a8:=ba_ aA;have hx:=bm_ aA;obtain⟨x0,x1⟩:=cl2 hx;have a_:=O a8;obtain⟨T,hT⟩:=H (az texts I ag);rw[←hT]at HT⊢;clear a8 hx hA hT;go_enter func102,ntmps102;go_upto_region 1 with fail;rw[←aA];clear aA;go_wp2_with fail;refine(HT.o _ a_.o).mono ?_;rintro e w2⟨G,bZ,ai,bv,sv,ev,rfl,hv,hb⟩;have a9:=O (bt a_.o hb);clear hb x0 x1 a_ HT;clear hv;go_wp2_with fail;go_ret2;exact⟨rfl,a9.o⟩
theorem EF (tv cv:V_)(texts:LL_)(I:LJ_)(ag:U8_)(w:Z)(hA:pm w tv cv texts I):C_ 183 #[.agg #[tv,cv],.int .u8 ag.toNat] w fun e w'=>(∃ v,e=.returned (.tuple #[v,F ((az texts I ag).2.1:Int)])∧bD.Row w' v (if (az texts I ag).2.1=0 then (az texts I ag).2.2.ends else []))∧Bw_ w w':=by
 obtain⟨ak,ct,rfl,-,-⟩:=au hA.t;obtain⟨ac,cc,rfl,-,-⟩:=aj hA.c;have HT:=O (fun w' (hB:Bw_ w w')=>om _ _ texts I ag w' (hA.below hB).t (hA.below hB).c hA.lt hA.lc hA.m (hA.below hB).e (hA.below hB).g);obtain⟨W1,aA⟩:=H (w.alloc (.cells #[.slice ak texts.length ct,.slice ac I.length cc] 25));have a8:=ba_ aA;have hx:=bm_ aA;obtain⟨x0,x1⟩:=cl2 hx;have a_:=O a8;obtain⟨T,hT⟩:=H (az texts I ag);rw[←hT]at HT⊢;clear a8 hx hA hT;go_enter func183,ntmps183;go_upto_region 1 with fail;rw[←aA];clear aA;go_wp2_with fail;refine(HT.o _ a_.o).mono ?_;rintro e w2⟨G,bZ,ai,bv,sv,ev,rfl,hv,hb⟩;have a9:=O (bt a_.o hb);clear hb x0 x1 a_ HT
 by_cases hz:T.2.1=0
 ·have t1:((T.2.1:Int) != 0)=false:=by rw[bne_eq_false_iff_eq];omega
  have c:=hv.c 7;have HV:=O hv;have HZ:=O hz;clear hv hz;go_wp2_with fail;go_ret2;exact⟨⟨_,rfl,HV.o.oe.row⟩,a9.o⟩
 ·have t1:((T.2.1:Int) != 0)=true:=by rw[bne_iff_ne];omega
  have HZ:=O hz;clear hv hz;go_wp2_with fail;go_ret2;exact⟨⟨_,rfl,(Rec.Own.nil _ 0).row⟩,a9.o⟩

def zK (texts:LL_)(I:LJ_):Nat:=I.length+((texts.take 50).map List.length).sum
def dj (texts:LL_)(I:LJ_):Bool:=decide (40<texts.length)||decide (4000<zK texts I)
theorem rW:∀ (l:LL_) (i:Nat) (h:i<l.length),((l.take (i+1)).map List.length).sum=((l.take i).map List.length).sum+l[i].length
 | x::l,0,_=>by simp
 | x::l,i+1,h=>by
  have:=rW l i yze;simp only[Jw,List.map_cons,List.sum_cons,Jd,this];omega
theorem oM:∀ {l:List Nat} {x:Nat},x∈l→x≤l.sum
 | y::l,x,h=>by
  rw[List.sum_cons];rcases JK.1 h with rfl|h
  ·omega
  ·have:=oM h;omega
theorem BH {texts:LL_}{I:LJ_}(h:dj texts I=false):texts.length≤40∧I.length≤4000∧∀ s∈texts,s.length≤4000:=by
 unfold dj at h;simp only[Bool.or_eq_false_iff,decide_eq_false_iff_not]at h;obtain⟨h1,h2⟩:=h;unfold zK at h2;rw[I5 Y]at h2;refine⟨by omega,by omega,fun s hs=>?_⟩;have:=oM (List.mem_map_of_mem (f:=List.length) hs);omega
theorem KH {T:Prop} (h:T:=by
 clear h0;go_wp2;go_ret;exact⟨by rw[HL.o];rfl,a_.o⟩
):T:=h
theorem Cn (tv cv:V_)(texts:LL_)(I:LJ_)(w:Z)(ht:aP.Row w tv texts)(z:bH.Row w cv I)(hl:texts.length≤140737488355328)(cg:I.length≤140737488355328)(hm:∀ s∈texts,s.length≤140737488355328):R_ 49 #[.agg #[tv,cv]] w (.bool (dj texts I)):=by
 obtain⟨ak,ct,rfl,-,o⟩:=au ht;obtain⟨ac,cc,rfl,-,-⟩:=aj z;have HM:=O hm;obtain⟨W1,aA⟩:=H (w.alloc (.cells #[.slice ak texts.length ct,.slice ac I.length cc] 25));have a8:=ba_ aA;have hx:=bm_ aA;obtain⟨x0,x1⟩:=cl2 hx;have HC:=O o;have a_:=O a8;have E:(I.length:Int)≤140737488355328:=Y;clear a8 hx ht z hm o;go_enter func49,ntmps49;go_upto_region 1 with fail;rw[←aA];clear aA;go_wp2_with fail
 go_loop [3,4] (fun f m=>∃ i n:Nat,f=F n∧m=F i∧i≤texts.length∧i≤50∧n≤(i+1)*140737488355328∧Hid (n=I.length+((texts.take i).map List.length).sum)) (fun _ m=>50-(intOf m).toNat)
 case atStart=>exact⟨0,I.length,rfl,rfl,by omega,by omega,by omega,by simp[Hid]⟩
 case round =>
  obtain⟨i,n,rfl,rfl,hi,ah,hn,HN⟩:=hrel
  by_cases h0:i<texts.length∧i<50
  ·obtain⟨b,aL,rfl,c1⟩:=HC.o i h0.1
   have c1:=IF a_.o c1;have hs:=HM.o texts[i] (Jz h0.1);have a:=O (rW texts i h0.1);have i0:=nn_ i;have i1:(i:Int)<texts.length:=Y;have i2:(i:Int)<50:=Y;have i3:(n:Int)≤14073748835532800:=Y;have i4:=nn_ n;have i5:(texts[i].length:Int)≤140737488355328:=Y;go_wp2
   go_round
   case rel=>exact⟨i+1,n+texts[i].length,by go_num,by go_num,by omega,by omega,by omega,by unfold Hid;rw[a.o,HN.o];omega⟩
   case measure=>simp[intOf];omega
  ·have d:n=zK texts I:=by
    rw[HN.o];unfold zK
    by_cases h:i=50
    ·rw[h]
    ·have:i=texts.length:=Y
     subst this;rw[List.take_length,I5 Y]
   have HF:=O d;clear d;have i3:(n:Int)≤14073748835532800:=Y
   by_cases h1:i<texts.length
   ·have i1:(i:Int)<texts.length:=Y
    have i2:¬(i:Int)<50:=Y;have i4:40<(texts.length:Int):=Y;have HL:=O (show dj texts I=true by unfold dj;rw[decide_eq_true (by omega:40<texts.length)];rfl);exact KH
   ·have i1:¬(i:Int)<texts.length:=Y
    by_cases h2:40<texts.length
    ·have i4:40<(texts.length:Int):=Y
     have HL:=O (show dj texts I=true by unfold dj;rw[decide_eq_true h2];rfl);exact KH
    ·have i4:¬40<(texts.length:Int):=Y
     by_cases h3:4000<n
     ·have i5:4000<(n:Int):=Y
      have HL:=O (show dj texts I=true by unfold dj;rw[←HF.o,decide_eq_true h3];simp);exact KH
     ·have i5:¬4000<(n:Int):=Y
      have HL:=O (show dj texts I=false by unfold dj;rw[←HF.o,decide_eq_false h3,decide_eq_false h2];rfl);exact KH
theorem Bf {w:Z}{v:V_}{l:LI_}(h:bD.Row w v l):∃ a ah,v=.slice a l.length ah∧l.length≤ah∧∀ k (hk:k<l.length),∃ b aL,a=some ⟨b,aL,none⟩∧w.cell? ⟨b,aL+k,none⟩=some (F l[k]):=by
 obtain⟨a,ah,hv,aq,hc⟩:=h.open;refine⟨a,ah,hv,aq,fun k hk=>?_⟩;obtain⟨b,aL,ha,hu⟩:=hc k hk;have:=hu 0 _ rfl;rw[show bD.n=1 from rfl,Nat.mul_one,Nat.add_zero]at this;exact⟨b,aL,ha,this⟩
def wC {α:Type}(R:Rec α)(bZ:Nat)(l:List α):bu Bel :=
 ⟨OA_×Nat,fun x=>.slice x.1 l.length x.2,fun x=>some fun w=>R.Own w bZ (.slice x.1 l.length x.2) l,fun _ _ h _ _ i hB=>by cases h;exact Rec.Own.below i hB⟩
@[go_sem] theorem GY {α:Type} (R:Rec α) (bZ:Nat) (l:List α) (a:OA_) (c:Nat):(wC R bZ l).val (a,c)=.slice a l.length c:=rfl
theorem Rec.Own.baseLe {α:Type}{R:Rec α}{w:Z}{b b':Nat}{v:V_}{l:List α}(h:R.Own w b v l)(hb:b'≤b):R.Own w b' v l:=by
 refine⟨h.1,?_⟩;rcases h.2 with h2|⟨g,ah,aH,hv,hg,hr⟩
 ·exact .inl h2
 ·exact .inr ⟨g,ah,aH,hv,Jc hb hg,hr⟩
theorem Rec.grow_copy {α:Type}(R:Rec α){o:Oper}{a:Act}{w:Z}{G:V_→Z→Prop}(s x:Operand)(t:T_)(ho:o.op=.call { callee:=.builtin .append,args:=#[s,x],argTypes:=#[t,t] })(ht:prog.underlying t=some (.slice R.e))(bZ:Nat)(hs:a.eval s=e_)(y:V_)(D:List α)(hr:R.Row w y D)(hx:a.eval x=y)(d:D.length*R.bytes≤140737488355328)(aB:bZ≤w.heap.size)(h:∀ A C w',R.Own w' bZ (.slice A D.length C) D→Bel w w'→G (.slice A D.length C) w'):dJ prog o a w G:=by
 obtain⟨i,hi,hz,ao,aG⟩:=info_parts R.info;obtain⟨⟨ax,ah,rfl,q,hc⟩,_⟩:=hr;have aw:R.Own w w.heap.size (e_) ([]:List α):=Rec.Own.nil _ _;have ai:D.length≤140737488355328:=by have:=Nat.le_mul_of_pos_right D.length R.bpos;omega
 have aO:∃ v' w',(Builtin.append_ #[t,t] o.type #[e_,.slice ax D.length ah]).run prog w=.ok v' w'∧R.Own w' bZ v' D∧Bel w w':=by
  cases ax with
  | none =>
   obtain⟨h0,rfl⟩:=q rfl;have U:D=[]:=I7 h0;subst U;exact⟨_,w,run_append_owned_none (P:=prog) (w:=w) w.heap.size t o.type R.e i R.n ht hi (e_) 0 [] aw,Rec.Own.nil _ _,Bel.refl _⟩
  | some ad =>
   obtain⟨v',w',h1,h2,h3,h4⟩:=oA (P:=prog) w w.heap.size t o.type R.e i R.z R.n R.bytes ht hi hz ao aG R.zs R.pos (e_) 0 [] aw ad D.length ah (R.cells D) (R.cells_length D) (by
    intro j u hj;obtain⟨b,aL,ha,hu⟩:=hc j u hj
    cases ha
    rw[Addr.add_lit];exact hu) (R.cells_one D) yzb (by rw[I9];exact d) (I6 _)
   rw[I9,JC]at h2;exact⟨v',w',h1,Rec.Own.baseLe h2 aB,(Ja w.heap.size w).grown h3 (I6 _) (fun k hk=>by cases hk)⟩
 obtain⟨v',w',h1,h2,h3⟩:=aO;obtain⟨A,C,rfl⟩:=ay h2;unfold dJ execOp;simp only[ho,resolve,invoke,builtin,Sem.run_bind,Sem.run_pure,Result.andThen_ok,List.map_toArray,List.map_cons,List.map_nil,hs,hx,h1];exact h A C w' h2 h3
structure k7 (w:Z) (tv cv:V_) (texts:LL_) (code:LJ_):Prop where
 t:aP.Row w tv texts
 c:bH.Row w cv code
 lt:texts.length≤140737488355328
 lc:code.length≤140737488355328
 m:∀ s∈texts,s.length≤140737488355328
theorem k7.below {w w':Z}{tv cv:V_}{texts:LL_}{I:LJ_}(h:k7 w tv cv texts I)(hB:Bw_ w w'):k7 w' tv cv texts I:=⟨h.t.below hB,h.c.below hB,h.lt,h.lc,h.m⟩
theorem k7.large {w:Z}{tv cv:V_}{texts:LL_}{I:LJ_}(h:k7 w tv cv texts I):R_ 49 #[.agg #[tv,cv]] w (.bool (dj texts I)):=Cn tv cv texts I w h.t h.c h.lt h.lc h.m
theorem k7.ask {w:Z}{tv cv:V_}{texts:LL_}{I:LJ_}(h:k7 w tv cv texts I)(hl:dj texts I=false)(hE:lL w)(hg:0<w.heap.size):pm w tv cv texts I:=by
 obtain⟨h1,h2,h3⟩:=BH hl;exact⟨h.t,h.c,by omega,by omega,fun s hs=>by have:=h3 s hs;omega,hE,hg⟩
theorem Rec.appendNV {α:Type}{aM:Array Oper}{rest:LO_}{o:Oper}{a:Act}{Q:Exit→Act→Z→Prop}(R:Rec α)(w:Z)(av:o.guard=none)(s x:Operand)(t:T_)(ho:o.op=.call { callee:=.builtin .append,args:=#[s,x],argTypes:=#[t,t] })(ht:prog.underlying t=some (.slice R.e))(bZ:Nat)(v:V_)(xs:List α)(aw:R.Own w bZ v xs)(hs:a.eval s=v)(y:V_)(D:List α)(hr:R.Row w y D)(hx:a.eval x=y)(d:(xs.length+D.length)*R.bytes≤140737488355328)(aB:bZ≤w.heap.size)(h:∀ A C w',R.Own w' bZ (.slice A (xs++D).length C) (xs++D)→Chg (fun k=>v.ownBlock=some k) w w'→wpList prog aM Q rest (a.put o.dst (.slice A (xs++D).length C)) w'):wpList prog aM Q (o::rest) a w:=by
 obtain⟨i,hi,hz,ao,aG⟩:=info_parts R.info;have hn:xs.length+D.length≤(xs.length+D.length)*R.bytes:=Nat.le_mul_of_pos_right _ R.bpos;obtain⟨⟨ax,ah,rfl,q,hc⟩,_⟩:=hr
 cases ax with
 | none =>
  obtain⟨h0,rfl⟩:=q rfl;obtain rfl:D=[]:=I7 h0;refine wpList_append_own_none av s x t ho bZ R.e i R.n ht hi v xs.length (R.cells xs) hs aw hx ?_;obtain⟨A,C,rfl⟩:=ay aw;have:=h A C w (by rw[Jy];exact aw) (Chg.refl _ _);rw[Jy]at this;exact this
 | some ad =>
  refine wpList_append_own _ av s x t ho bZ R.e i R.z R.n R.bytes ht hi hz ao aG R.zs R.pos v xs.length (R.cells xs) hs aw ad D.length ah (R.cells D) hx (R.cells_length D) ?_ (R.cells_one D) yzb d aB ?_
  ·exact L9
  ·intro v' w' h2 h3 _
   have E:R.Own w' bZ v' (xs++D):=by unfold Rec.Own;rw[R.cells_append,Jh];exact h2
   have hB:B_ bZ w w':=(Ja bZ w).grown h3 aB (fun k hk=>(Rec.Own.ltV aw k hk).1);obtain⟨A,C,rfl⟩:=ay E;exact h A C w' E ⟨hB.os,hB.tape,hB.output,hB.size,fun j hj aI=>h3.block j hj (fun e=>aI e.symm)⟩
def iz (b:Vb):q:=if b.did=true then b.want else []
def bY:Rec Vb where
 cell b:=[.int .u8 b.op.toNat,.string (bs b.opn),.string (bs (iz b)),.bool b.did,.int .i64 b.at_]
 e:=215
 n:=5
 bytes:=56
 z:=.agg #[.int .u8 0,.string ByteArray.empty,.string ByteArray.empty,.bool false,.int .i64 0]
 len:=fun _=>rfl
 one:=by intro x u h;simp at h;rcases h with rfl|rfl|rfl|rfl|rfl<;>rfl
 info:=by kernel_rfl
 zs:=rfl
 pos:=by decide
 bpos:=by decide
structure RG (w:Z) (bZ G:Nat) (tv cv:V_) (role:U8_) (s:Vs) (bv sv ev:V_):Prop where
 blk:Blk w G 178 [tv,cv,.int .u8 role.toNat,.string (bs s.kinds),bv,sv,ev,.int .i64 s.deep]
 ob:bY.Own w bZ bv s.blocks
 os:aP.Own w bZ sv s.seen
 oe:bD.Own w bZ ev s.ends
 gb:bZ≤G
 a1:∀ b,bv.ownBlock=some b→b≠G∧sv.ownBlock≠some b∧ev.ownBlock≠some b
 a2:∀ b,sv.ownBlock=some b→b≠G∧ev.ownBlock≠some b
 a3:∀ b,ev.ownBlock=some b→b≠G
section
variable {w w':Z}{bZ G:Nat}{tv cv bv sv ev:V_}{ag:U8_}{s:Vs}
theorem RG.below (h:RG w bZ G tv cv ag s bv sv ev)(hB:Bw_ w w'):RG w' bZ G tv cv ag s bv sv ev :=
 ⟨h.blk.below hB,h.ob.below hB,h.os.below hB,h.oe.below hB,h.gb,h.a1,h.a2,h.a3⟩
theorem RG.cell (h:RG w bZ G tv cv ag s bv sv ev){k:Nat}{v:V_}(hv:[tv,cv,.int .u8 ag.toNat,s_ s.kinds,bv,sv,ev,F s.deep][k]?=some v):w.cell? ⟨G,k,none⟩=some v:=h.blk.cell hv
theorem RG.c (h:RG w bZ G tv cv ag s bv sv ev)(k:Nat){v:V_}(hv:[tv,cv,.int .u8 ag.toNat,.string (bs s.kinds),bv,sv,ev,.int .i64 s.deep][k]?=some v:=by exact rfl):w.cell? ⟨G,k,none⟩=some v:=h.cell (k:=k) hv
theorem RG.free (h:RG w bZ G tv cv ag s bv sv ev){k:Nat}(hk:k<8):w.frozen? ⟨G,k,none⟩=false:=h.blk.free hk
theorem RG.f (h:RG w bZ G tv cv ag s bv sv ev)(k:Nat)(hk:k<8:=by first|decide|simp):w.frozen? ⟨G,k,none⟩=false:=h.free (k:=k) hk
theorem RG.setG (h:RG w bZ G tv cv ag s bv sv ev)(k:Nat)(v:V_){f:q}{J:Nat}(hs:[tv,cv,.int .u8 ag.toNat,s_ s.kinds,bv,sv,ev,F s.deep].set k v=[tv,cv,.int .u8 ag.toNat,s_ f,bv,sv,ev,F J]):RG (w.setCell ⟨G,k,none⟩ v) bZ G tv cv ag { s with kinds:=f,deep:=J } bv sv ev∧B_ bZ w (w.setCell ⟨G,k,none⟩ v):=by
 have hc:Chg (fun x=>x=G) w (w.setCell ⟨G,k,none⟩ v):=Chg.setCell _ _ _ rfl
 have z:∀ {β:Type} (R:Rec β) (x:V_) (l:List β),R.Own w bZ x l→(∀ b,x.ownBlock=some b→b≠G)→R.Own (w.setCell ⟨G,k,none⟩ v) bZ x l:=fun R x l ho hn=>by
  exact Mh
 have hb:=h.blk.set k v;rw[hs]at hb;exact⟨⟨hb,z _ _ _ h.ob (fun b hb=>(h.a1 b hb).1),z _ _ _ h.os (fun b hb=>(h.a2 b hb).1),z _ _ _ h.oe h.a3,h.gb,h.a1,h.a2,h.a3⟩,hc.below (fun x hx=>by have:=h.gb;omega) (Jc h.gb (JA h.blk.lt))⟩
theorem RG.kinds (h:RG w bZ G tv cv ag s bv sv ev)(k:q):RG (w.setCell ⟨G,3,none⟩ (s_ k)) bZ G tv cv ag { s with kinds:=k } bv sv ev∧B_ bZ w (w.setCell ⟨G,3,none⟩ (s_ k)):=h.setG 3 _ rfl
theorem RG.deep (h:RG w bZ G tv cv ag s bv sv ev)(d:Nat):RG (w.setCell ⟨G,7,none⟩ (F d)) bZ G tv cv ag { s with deep:=d } bv sv ev∧B_ bZ w (w.setCell ⟨G,7,none⟩ (F d)):=h.setG 7 _ rfl
end
section
variable {w w' w3:Z}{bZ G:Nat}{tv cv bv sv ev an V:V_}{ag:U8_}{s:Vs}
theorem RG.newB (h:RG w bZ G tv cv ag s bv sv ev){l:List Vb}(hc:Chg (fun k=>bv.ownBlock=some k) w w3)(hg:∀ k,an.ownBlock=some k→bv.ownBlock=some k∨w.heap.size≤k)(ho:bY.Own w3 bZ an l):RG (w3.setCell ⟨G,4,none⟩ an) bZ G tv cv ag { s with blocks:=l } an sv ev∧B_ bZ w (w3.setCell ⟨G,4,none⟩ an):=by
 have hs:Chg (fun k=>k=G) w3 (w3.setCell ⟨G,4,none⟩ an):=Chg.setCell _ _ _ rfl;have aC:=h.blk.lt
 have nb:∀ b,an.ownBlock=some b→b≠G∧sv.ownBlock≠some b∧ev.ownBlock≠some b:=fun b hb=>by
  exact Mz
 have aX:Blk w3 G 178 _:=h.blk.chg hc (fun e=>(h.a1 G e).1 rfl);have o1:=(h.os.chgV hc (fun k hk e=>(h.a1 k e).2.1 hk)).chgV hs (fun k hk=>(h.a2 k hk).1);have t:=(h.oe.chgV hc (fun k hk e=>(h.a1 k e).2.2 hk)).chgV hs (fun k hk=>h.a3 k hk);refine⟨⟨aX.set 4 an,ho.chgV hs (fun k hk=>(nb k hk).1),o1,t,h.gb,nb,h.a2,h.a3⟩,?_⟩;exact(hc.below (fun k hk=>(h.ob.ltV k hk).1) (Jc h.gb (JA aC))).trans (hs.below (fun k hk=>by have:=h.gb;omega) (by have:=hc.size;have:=h.gb;omega))
theorem RG.newS (h:RG w bZ G tv cv ag s bv sv ev){l:LL_}(hc:Chg (fun k=>sv.ownBlock=some k) w w3)(hg:∀ k,V.ownBlock=some k→sv.ownBlock=some k∨w.heap.size≤k)(ho:aP.Own w3 bZ V l):RG (w3.setCell ⟨G,5,none⟩ V) bZ G tv cv ag { s with seen:=l } bv V ev∧B_ bZ w (w3.setCell ⟨G,5,none⟩ V):=by
 have hs:Chg (fun k=>k=G) w3 (w3.setCell ⟨G,5,none⟩ V):=Chg.setCell _ _ _ rfl;have aC:=h.blk.lt
 have nb:∀ b,V.ownBlock=some b→b≠G∧ev.ownBlock≠some b∧bv.ownBlock≠some b:=fun b hb=>by
  exact Mq
 have aX:Blk w3 G 178 _:=h.blk.chg hc (fun e=>(h.a2 G e).1 rfl);have o1:=(h.ob.chgV hc (fun k hk e=>(h.a1 k hk).2.1 e)).chgV hs (fun k hk=>(h.a1 k hk).1);have t:=(h.oe.chgV hc (fun k hk e=>(h.a2 k e).2 hk)).chgV hs (fun k hk=>h.a3 k hk);refine⟨⟨aX.set 5 V,o1,ho.chgV hs (fun k hk=>(nb k hk).1),t,h.gb,fun b hb=>⟨(h.a1 b hb).1,fun e=>(nb b e).2.2 hb,(h.a1 b hb).2.2⟩,fun b hb=>⟨(nb b hb).1,(nb b hb).2.1⟩,h.a3⟩,?_⟩;exact(hc.below (fun k hk=>(h.os.ltV k hk).1) (Jc h.gb (JA aC))).trans (hs.below (fun k hk=>by have:=h.gb;omega) (by have:=hc.size;have:=h.gb;omega))
theorem RG.chgE (h:RG w bZ G tv cv ag s bv sv ev){l:LI_}(hc:Chg (fun k=>ev.ownBlock=some k) w w')(ho:bD.Own w' bZ ev l):RG w' bZ G tv cv ag { s with ends:=l } bv sv ev∧B_ bZ w w' :=
 ⟨⟨h.blk.chg hc (fun e=>h.a3 G e rfl),h.ob.chgV hc (fun k hk e=>(h.a1 k hk).2.2 e),h.os.chgV hc (fun k hk e=>(h.a2 k hk).2 e),ho,h.gb,h.a1,h.a2,h.a3⟩,hc.below (fun k hk=>(h.oe.ltV k hk).1) (Jc h.gb (JA h.blk.lt))⟩
theorem RG.slices (h:RG w bZ G tv cv ag s bv sv ev):(∃ ab cb,bv=.slice ab s.blocks.length cb)∧(∃ a1 c1,sv=.slice a1 s.seen.length c1)∧∃ ae ce,ev=.slice ae s.ends.length ce:=⟨ay h.ob,ay h.os,ay h.oe⟩
end
theorem KL {T:Prop} (h:T:=by
 go_enter func98,ntmps98;go_wp2;go_ret;exact⟨by rw[A.o];rfl,rfl⟩
):T:=h
theorem Bk (r:U8_)(w:Z):C_ 98 #[.int .u8 r.toNat] w fun e w'=>e=.returned (.bool (dX r))∧w'=w:=by
 by_cases h1:1≤r.toNat
 ·have t1:1≤(r.toNat:Int):=Y
  by_cases h2:r.toNat≤3
  ·have t2:(r.toNat:Int)≤3:=Y
   have A:=O (show dX r=true by unfold dX;rw[decide_eq_true h1,decide_eq_true h2];rfl);clear h1 h2;exact KL
  ·have t2:¬(r.toNat:Int)≤3:=Y
   have A:=O (show dX r=false by unfold dX;rw[decide_eq_false h2];simp);clear h1 h2;exact KL
 ·have t1:¬1≤(r.toNat:Int):=Y
  have A:=O (show dX r=false by unfold dX;rw[decide_eq_false h1];simp);clear h1;exact KL
theorem KN {T:Prop} (h:T:=by
 clear h1;go_enter func136,ntmps136;go_wp2;go_ret;exact⟨by rw[A.o];rfl,rfl⟩
):T:=h
theorem kz (r:U8_)(w:Z):C_ 136 #[.int .u8 r.toNat] w fun e w'=>e=.returned (F (inputsV r:Int))∧w'=w:=by
 by_cases h1:r=1
 ·have t1:((r.toNat:Int)==1)=true:=by rw[h1];rfl
  have A:=O (show inputsV r=1 by unfold inputsV;rw[if_pos h1]);exact KN
 ·have t1:((r.toNat:Int)==1)=false:=aH d_ h1
  have A:=O (show inputsV r=2 by unfold inputsV;rw[if_neg h1]);exact KN
theorem KM {T:Prop} (h:T:=by
 clear h1;go_enter func159,ntmps159;go_wp2;go_ret;exact⟨by rw[A.o];rfl,rfl⟩
):T:=h
theorem vH (r:U8_)(w:Z):C_ 159 #[.int .u8 r.toNat] w fun e w'=>e=.returned (s_ (jd r))∧w'=w:=by
 by_cases h1:4≤r.toNat
 ·have t1:¬(r.toNat:Int)<4:=Y
  have A:=O (show jd r=[84] by unfold jd;rw[if_pos h1]);exact KM
 ·have t1:(r.toNat:Int)<4:=Y
  have A:=O (show jd r=[78] by unfold jd;rw[if_neg h1]);exact KM
theorem zk {p a:U8_}(h1:p≠1)(h2:p≠2)(h3:p≠3)(h4:p≠4)(h5:p≠5)(h6:p≠6)(h7:p≠7)(q:p≠8)(h9:p≠9)(c:p≠10)(b:p≠11)(m:p≠12)(g:p≠13)(i:p≠14)(k:p≠15)(N:p≠16)(d:p≠17)(f:p≠18)(ah:p≠19)(B:p≠22)(j:p≠23):b_Z (p,a)=([],[]):=by
 have h:p.toNat=0∨p.toNat=20∨p.toNat=21∨24≤p.toNat:=by
  have e1:p.toNat≠1:=fun e=>h1 (UInt8.toNat_inj.1 e);have e2:p.toNat≠2:=fun e=>h2 (UInt8.toNat_inj.1 e);have e3:p.toNat≠3:=fun e=>h3 (UInt8.toNat_inj.1 e);have e4:p.toNat≠4:=fun e=>h4 (UInt8.toNat_inj.1 e);have e5:p.toNat≠5:=fun e=>h5 (UInt8.toNat_inj.1 e);have e6:p.toNat≠6:=fun e=>h6 (UInt8.toNat_inj.1 e);have e7:p.toNat≠7:=fun e=>h7 (UInt8.toNat_inj.1 e);have e8:p.toNat≠8:=fun e=>q (UInt8.toNat_inj.1 e);have e9:p.toNat≠9:=fun e=>h9 (UInt8.toNat_inj.1 e);have af:p.toNat≠10:=fun e=>c (UInt8.toNat_inj.1 e);have D:p.toNat≠11:=fun e=>b (UInt8.toNat_inj.1 e);have ak:p.toNat≠12:=fun e=>m (UInt8.toNat_inj.1 e);have l:p.toNat≠13:=fun e=>g (UInt8.toNat_inj.1 e);have o:p.toNat≠14:=fun e=>i (UInt8.toNat_inj.1 e);have v:p.toNat≠15:=fun e=>k (UInt8.toNat_inj.1 e);have x:p.toNat≠16:=fun e=>N (UInt8.toNat_inj.1 e);have r:p.toNat≠17:=fun e=>d (UInt8.toNat_inj.1 e);have t:p.toNat≠18:=fun e=>f (UInt8.toNat_inj.1 e);have au:p.toNat≠19:=fun e=>ah (UInt8.toNat_inj.1 e);have aB:p.toNat≠22:=fun e=>B (UInt8.toNat_inj.1 e);have u:p.toNat≠23:=fun e=>j (UInt8.toNat_inj.1 e);omega
 unfold b_Z;rcases h with h|h|h|h
 ·rw[show((p,a):VI).1.toNat=0 from h];rfl
 ·rw[show((p,a):VI).1.toNat=20 from h];rfl
 ·rw[show((p,a):VI).1.toNat=21 from h];rfl
 ·have:ep.getD ((p,a):VI).1.toNat ([],[])=([],[]):=by
   rw[List.getD,List.getElem?_eq_none (by rw[wT];exact h)];rfl
  rw[this];rfl
theorem KI {T:Prop} (h:T:=by
 go_enter func137,ntmps137;go_wp2;go_ret2;exact⟨rfl,hb⟩
):T:=h
theorem KK {T:Prop} (h:T:=by
 go_enter func137,ntmps137;go_wp2_with (go_at_call 159;refine(vH a _).mono ?_;rintro e w1⟨rfl,rfl⟩);go_ret2;exact⟨by first|rfl|(unfold b_Z jd;split<;>rfl),hb⟩
):T:=h
theorem vL (x:VI)(w:Z):R_ 137 #[.agg #[.int .u8 x.1.toNat,.int .u8 x.2.toNat]] w (.tuple #[s_ (b_Z x).1,s_ (b_Z x).2]):=by
 obtain⟨p,a⟩:=x;have hb:=af w (.cells #[.int .u8 p.toNat,.int .u8 a.toNat] 109)
 by_cases h1:p=1
 ·subst h1
  rw[show(((1:U8_).toNat:Nat):Int)=1 from rfl]at hb⊢;exact KI
 by_cases h2:p=2
 ·subst h2
  rw[show(((2:U8_).toNat:Nat):Int)=2 from rfl]at hb⊢;exact KI
 by_cases h3:p=3
 ·subst h3
  rw[show(((3:U8_).toNat:Nat):Int)=3 from rfl]at hb⊢;exact KI
 by_cases h4:p=4
 ·subst h4
  rw[show(((4:U8_).toNat:Nat):Int)=4 from rfl]at hb⊢;exact KI
 by_cases h5:p=5
 ·subst h5
  rw[show(((5:U8_).toNat:Nat):Int)=5 from rfl]at hb⊢;exact KI
 by_cases h6:p=6
 ·subst h6
  rw[show(((6:U8_).toNat:Nat):Int)=6 from rfl]at hb⊢;exact KI
 by_cases h7:p=7
 ·subst h7
  rw[show(((7:U8_).toNat:Nat):Int)=7 from rfl]at hb⊢;exact KI
 by_cases q:p=8
 ·subst q
  rw[show(((8:U8_).toNat:Nat):Int)=8 from rfl]at hb⊢;exact KI
 by_cases h9:p=9
 ·subst h9
  rw[show(((9:U8_).toNat:Nat):Int)=9 from rfl]at hb⊢;exact KI
 by_cases c:p=10
 ·subst c
  rw[show(((10:U8_).toNat:Nat):Int)=10 from rfl]at hb⊢;exact KI
 by_cases b:p=11
 ·subst b
  rw[show(((11:U8_).toNat:Nat):Int)=11 from rfl]at hb⊢;exact KI
 by_cases m:p=12
 ·subst m
  rw[show(((12:U8_).toNat:Nat):Int)=12 from rfl]at hb⊢;exact KI
 by_cases g:p=13
 ·subst g
  rw[show(((13:U8_).toNat:Nat):Int)=13 from rfl]at hb⊢;exact KI
 by_cases i:p=14
 ·subst i
  rw[show(((14:U8_).toNat:Nat):Int)=14 from rfl]at hb⊢;exact KI
 by_cases k:p=15
 ·subst k
  rw[show(((15:U8_).toNat:Nat):Int)=15 from rfl]at hb⊢;exact KI
 by_cases N:p=16
 ·subst N
  rw[show(((16:U8_).toNat:Nat):Int)=16 from rfl]at hb⊢;exact KI
 by_cases d:p=17
 ·subst d
  rw[show(((17:U8_).toNat:Nat):Int)=17 from rfl]at hb⊢;exact KK
 by_cases f:p=18
 ·subst f
  rw[show(((18:U8_).toNat:Nat):Int)=18 from rfl]at hb⊢;exact KK
 by_cases ah:p=19
 ·subst ah
  rw[show(((19:U8_).toNat:Nat):Int)=19 from rfl]at hb⊢;exact KI
 by_cases B:p=22
 ·subst B
  rw[show(((22:U8_).toNat:Nat):Int)=22 from rfl]at hb⊢;exact KI
 by_cases j:p=23
 ·subst j
  rw[show(((23:U8_).toNat:Nat):Int)=23 from rfl]at hb⊢;exact KI
 have q1:((p.toNat:Int)==1)=false:=aH d_ h1;have q2:((p.toNat:Int)==2)=false:=aH d_ h2;have q3:((p.toNat:Int)==3)=false:=aH d_ h3;have q4:((p.toNat:Int)==4)=false:=aH d_ h4;have q5:((p.toNat:Int)==5)=false:=aH d_ h5;have u:((p.toNat:Int)==6)=false:=aH d_ h6;have y:((p.toNat:Int)==7)=false:=aH d_ h7;have t:((p.toNat:Int)==8)=false:=aH d_ q;have A:((p.toNat:Int)==9)=false:=aH d_ h9;have r:((p.toNat:Int)==10)=false:=aH d_ c;have v:((p.toNat:Int)==11)=false:=aH d_ b;have z:((p.toNat:Int)==12)=false:=aH d_ m;have C:((p.toNat:Int)==13)=false:=aH d_ g;have D:((p.toNat:Int)==14)=false:=aH d_ i;have E:((p.toNat:Int)==15)=false:=aH d_ k;have F:((p.toNat:Int)==16)=false:=aH d_ N;have bV:((p.toNat:Int)==17)=false:=aH d_ d;have l:((p.toNat:Int)==18)=false:=aH d_ f;have H:((p.toNat:Int)==19)=false:=aH d_ ah;have o:((p.toNat:Int)==22)=false:=aH d_ B;have I:((p.toNat:Int)==23)=false:=aH d_ j;have HE:=O (show b_Z (p,a)=([],[]) from zk h1 h2 h3 h4 h5 h6 h7 q h9 c b m g i k N d f ah B j);clear h1 h2 h3 h4 h5 h6 h7 q h9 c b m g i k N d f ah B j;go_enter func137,ntmps137;go_wp2;go_ret2;exact⟨by rw[HE.o];rfl,hb⟩
def rbV (b:Vb):V_:=.agg #[.int .u8 b.op.toNat,.string (bs b.opn),.string (bs (iz b)),.bool b.did,.int .i64 b.at_]
def Fd:Vb:=⟨0,[],[],0,false⟩
theorem Dr {w:Z}{a:OA_}{n c:Nat}{l:List Vb}(h:bY.Row w (.slice a n c) l){k:Nat}(hk:k<l.length):∃ b aL,a=some ⟨b,aL,none⟩∧w.cell? ⟨b,aL+k*5,none⟩=some (.int .u8 (l[k].op.toNat:Int))∧w.cell? ⟨b,aL+k*5+1,none⟩=some (s_ l[k].opn) ∧w.cell? ⟨b,aL+k*5+2,none⟩=some (s_ (iz l[k]))∧w.cell? ⟨b,aL+k*5+3,none⟩=some (.bool l[k].did)∧w.cell? ⟨b,aL+k*5+4,none⟩=some (F (l[k].at_:Int)):=by
 obtain⟨a',ah,hv,aq,hc⟩:=Rec.Row.open h;injection hv with e1 e2 e3
 subst e1;obtain⟨b,aL,ha,hu⟩:=hc k hk;exact⟨b,aL,ha,hu 0 _ rfl,hu 1 _ rfl,hu 2 _ rfl,hu 3 _ rfl,hu 4 _ rfl⟩
theorem zV {w:Z}{b:Nat}{v0 v1 v2 v3 m:V_}(h0:w.cell? ⟨b,0,none⟩=some v0)(h1:w.cell? ⟨b,1,none⟩=some v1)(h2:w.cell? ⟨b,2,none⟩=some v2)(h3:w.cell? ⟨b,3,none⟩=some v3)(h4:w.cell? ⟨b,4,none⟩=some m):(loadVar 215 ⟨b,0,none⟩).run prog w=.ok (.agg #[v0,v1,v2,v3,m]) w:=by
 go_simp
theorem iO {P:Program}{fn:Func}{p u:Tmp}{ty:T_}{aE:AV_}{w:Z}{v:V_}{b:Nat}(hr:fn.results=#[.cell p ty,.tmp u])(hp:aE.getD p undef=p_ b)(hl:(loadVar ty ⟨b,0,none⟩).run P w=.ok v w):(results fn aE).run P w=.ok (.tuple #[v,aE.getD u undef]) w:=by
 simp only[Array.getD_eq_getD_getElem?]at hp⊢;simp[results,hr,Sem.run_bind,Result.andThen,hp,asAddr,hl]
theorem Chg.set1R {w:Z}{b k:Nat}{v:V_}:Chg (fun x=>x=b) w (w.setCell ⟨b,k,none⟩ v):=Chg.setCell _ _ _ rfl
theorem vD {w:Z}{b:Nat}{t:T_}{a0 a1 a2 a3 a4:V_}(hx:Blk w b t [a0,a1,a2,a3,a4])(v0 v1 v2 v3 m:V_):Blk (((((w.setCell ⟨b,0,none⟩ v0).setCell ⟨b,1,none⟩ v1).setCell ⟨b,2,none⟩ v2).setCell ⟨b,3,none⟩ v3).setCell ⟨b,4,none⟩ m) b t [v0,v1,v2,v3,m] ∧Chg (fun x=>x=b) w (((((w.setCell ⟨b,0,none⟩ v0).setCell ⟨b,1,none⟩ v1).setCell ⟨b,2,none⟩ v2).setCell ⟨b,3,none⟩ v3).setCell ⟨b,4,none⟩ m) :=
 ⟨((((hx.set 0 v0).set 1 v1).set 2 v2).set 3 v3).set 4 m,(((Chg.set1R.trans Chg.set1R).trans Chg.set1R).trans Chg.set1R).trans Chg.set1R⟩
section
variable {w:Z}{bZ G:Nat}{tv cv bv sv ev:V_}{ag:U8_}{s:Vs}
theorem si (h:RG w bZ G tv cv ag s bv sv ev)(hl:s.blocks.length≤1000):R_ 135 #[p_ G] w (.tuple #[rbV (s.blocks.getLast?.getD Fd),.bool (s.blocks.getLast?.isSome)]):=by
 obtain⟨⟨ab,cb,rfl⟩,_,_⟩:=h.slices;obtain⟨W1,aA⟩:=H (w.alloc (.cells #[.int .u8 0,.string ⟨#[]⟩,.string ⟨#[]⟩,.bool false,F 0] 215));have a8:=ba_ aA;have hx:=bm_ aA;have h1:=h.below a8;have c4:=h1.c 4;have HX:=O hx;have a_:=O a8;rcases Nat.eq_zero_or_pos s.blocks.length with h0|h0
 ·have aa:s.blocks=[]:=I7 h0
  have t1:((s.blocks.length:Int)==0)=true:=by rw[beq_iff_eq];omega
  have f0:=hx.free (k:=0) d_;have f1:=hx.free (k:=1) d_;have f2:=hx.free (k:=2) d_;have f3:=hx.free (k:=3) d_;have f4:=hx.free (k:=4) d_;obtain⟨x0,x1,x2,x3,x4⟩:=cl5 hx;have o:=O aa;clear h h1 h0 aa hx a8;go_enter func135,ntmps135;go_upto_region 1 with fail;rw[←aA];clear aA;go_wp2_with fail;obtain⟨hy,hc⟩:=vD HX.o (.int .u8 0) (.string ⟨#[]⟩) (.string ⟨#[]⟩) (.bool false) (F 0);refine bodyPost_ret (iO rfl rfl (zV (hy.c 0) (hy.c 1) (hy.c 2) (hy.c 3) (hy.c 4))) rfl ?_;exact⟨by rw[o.o];rfl,a_.o.trans (hc.below (fun x (hx:x=w.heap.size)=>by omega) a_.o.size)⟩
 ·obtain⟨m,hm⟩:∃ m,s.blocks.length=m+1:=⟨s.blocks.length-1,by omega⟩
  obtain⟨g,rfl⟩:=h.ob.at0 h0;have t1:((s.blocks.length:Int)==0)=false:=by rw[beq_eq_false_iff_ne];omega
  have az:(s.blocks.length:Int)-1=(m:Int):=Y;have N:(m:Int)<s.blocks.length:=Y;have ay:=nn_ m;have t:(s.blocks.length:Int)≤1000:=Y;obtain⟨b',aL,ha,e0,e1,e2,e3,e4⟩:=Dr h1.ob.row (k:=m) Y;injection ha with ha
  injection ha with av aF _
  subst av aF;rw[I9]at e0 e1 e2 e3 e4
  have am:s.blocks.getLast?=some (s.blocks[m]' Y):=by
   rw[List.getLast?_eq_getElem?,show s.blocks.length-1=m by omega];exact List.getElem?_eq_getElem _
  obtain⟨ap,hq⟩:=H (s.blocks[m]' Y);rw[←hq]at e0 e1 e2 e3 e4 am;have ce:=O am;have HM:=O hm;have f0:=hx.free (k:=0) d_;have f1:=hx.free (k:=1) d_;have f2:=hx.free (k:=2) d_;have f3:=hx.free (k:=3) d_;have f4:=hx.free (k:=4) d_;obtain⟨x0,x1,x2,x3,x4⟩:=cl5 hx;clear h h1 h0 hx a8 am hm hq;go_enter func135,ntmps135;go_upto_region 1 with fail;rw[←aA];clear aA;go_upto_region 3 with fail;go_region;obtain⟨hy,hc⟩:=vD HX.o (.int .u8 ap.op.toNat) (s_ ap.opn) (s_ (iz ap)) (.bool ap.did) (F ap.at_);obtain⟨W2,ae⟩:=H ((((((W1.setCell ⟨w.heap.size,0,none⟩ (.int .u8 ap.op.toNat)).setCell ⟨w.heap.size,1,none⟩ (s_ ap.opn)).setCell ⟨w.heap.size,2,none⟩ (s_ (iz ap))).setCell ⟨w.heap.size,3,none⟩ (.bool ap.did)).setCell ⟨w.heap.size,4,none⟩ (F ap.at_)));rw[←ae]at hy hc⊢;have hz:=hy.below (b_drew W2);have a9:=O ((a_.o.trans (hc.below (fun x (hx:x=w.heap.size)=>by omega) a_.o.size)).trans (Below.mono (b_drew W2) (Jc a_.o.size hc.size)));have HZ:=O hz;clear ae hy hc hz;go_wp2_with fail;have hz:=HZ.o;refine bodyPost_ret (iO rfl rfl (zV (hz.c 0) (hz.c 1) (hz.c 2) (hz.c 3) (hz.c 4))) rfl ?_;exact⟨by rw[ce.o];rfl,a9.o⟩
end
def qD (l:List Vb):Vb:=l.getLast?.getD Fd
theorem un (l:List Vb):dM l.getLast?=(!l.getLast?.isSome||((qD l).op != 19||(qD l).did)):=by
 unfold qD dM
 cases l.getLast?<;>rfl
theorem AT (l:List Vb):l.getLast?.isSome=!decide (l=[]):=by
 cases l with
 | nil=>rfl
 | cons x l=>rw[List.getLast?_cons];simp
section
variable {w:Z}{bZ G:Nat}{tv cv bv sv ev:V_}{ag:U8_}{s:Vs}
theorem KO {T:Prop} (h:T:=by
 clear HT;go_wp2_with fail;go_ret;exact⟨by rw[HV.o];rfl,aW.o⟩
):T:=h
theorem KP {T:Prop} (h:T:=by
 go_wp2_with fail;go_ret;exact⟨by rw[HV.o];rfl,bt aW.o (II _ _)⟩
):T:=h
theorem KQ {T:Prop} (h:T:=by
 have HV:=O (show t=132 by rw[HT.o];unfold thereV;simp[ac,HW]);exact KO
):T:=h
theorem KU {T:Prop} (h:T:=by
 clear HT;go_upto_region 7 with fail;go_quiet (exact Calls.quiet_of_same (kz ag _));exact KP
):T:=h
theorem yq (x:VI)(nt ct:Nat)(ak:OA_)(h:RG w bZ G (.slice ak nt ct) cv ag s bv sv ev)(hl:s.blocks.length≤1000)(a4:nt≤1000):R_ 99 #[p_ G,.agg #[.int .u8 x.1.toNat,.int .u8 x.2.toNat]] w (F (thereV nt (inputsV ag) ag s.blocks x:Int)):=by
 obtain⟨p,a⟩:=x;obtain⟨⟨ab,cb,rfl⟩,_,_⟩:=h.slices;obtain⟨W1,aA⟩:=H (w.alloc (.cells #[.int .u8 p.toNat,.int .u8 a.toNat] 109));have a8:=ba_ aA;have hx:=bm_ aA;obtain⟨a_,HX,HH,H1,aP⟩:=zH5 a8 hx h (h.below a8) (fun w' (hB:Bw_ w w')=>si (h.below hB) hl);have a1:(a.toNat:Int)<256:=by have:=a.toNat_lt;omega
 have a0:0≤(a.toNat:Int):=Y;have n1:(nt:Int)≤1000:=Y;have aw:IntKind.i64.wrap (a.toNat:Int)=(a.toNat:Int):=by simp[IntKind.wrap,IntKind.bits,IntKind.signed];omega
 have l1:(s.blocks.length:Int)≤1000:=Y;obtain⟨ap,hq⟩:=H (qD s.blocks);obtain⟨aY,L⟩:=H (s.blocks.getLast?.isSome);have b:=O (un s.blocks);have aU:=O (AT s.blocks);rw[←hq,←L]at b;rw[←L]at aU;obtain⟨t,ht⟩:=H (thereV nt (inputsV ag) ag s.blocks (p,a));rw[←ht];have HT:=O ht;have a7:=O (show rbV (s.blocks.getLast?.getD Fd)=.agg #[.int .u8 ap.op.toNat,s_ ap.opn,s_ (iz ap),.bool ap.did,F ap.at_] by rw[hq];rfl);have bh:=O L;clear h a8 hx ht hq L;go_enter func99,ntmps99;go_upto_region 1 with fail;rw[←aA];clear aA;go_upto_region 2 with(go_at_call 135;refine(aP.o _ a_.o).mono ?_;rintro e w2⟨rfl,ax⟩;rw[a7.o,←bh.o];have a9:=O (bt a_.o ax);have aR:=O (HX.o.below ax);clear ax);obtain⟨W3,aB⟩:=H (w2.alloc (.cells #[.int .u8 ap.op.toNat,s_ ap.opn,s_ (iz ap),.bool ap.did,F ap.at_] 215));have U:=ba_ aB;have hy:=bm_ aB;rw[←aB];have aX:=bt a9.o U;have h3:=HH.o.below aX;have g0:=h3.c 0;have g2:=h3.c 2;have g4:=h3.c 4;have aj:=aR.o.below U;obtain⟨x0,x1⟩:=cl2 aj;obtain⟨C,hC⟩:=H w2.heap.size;rw[←hC]at hy⊢;have y0:=hy.c 0;have y3:=hy.c 3;have aW:=O aX;clear aB hy U aX h3 aj a9 aR hC
 by_cases h1:p=1
 ·have u1:((p.toNat:Int)==1)=true:=by rw[h1];rfl
  by_cases hc:nt≤a.toNat
  ·have tt:(nt:Int)≤a.toNat:=Y
   have HV:=O (show t=3 by rw[HT.o];unfold thereV;simp[h1,hc]);clear HT;go_upto_region 4 with fail;go_quiet (fail);exact KP
  ·have tt:¬(nt:Int)≤a.toNat:=Y
   have HV:=O (show t=0 by rw[HT.o];unfold thereV;simp[h1,hc]);clear HT;go_upto_region 4 with fail;go_quiet (fail);exact KP
 by_cases h3:p=3
 ·have u1:((p.toNat:Int)==1)=false:=aH d_ h1
  have u3:((p.toNat:Int)==3)=true:=by rw[h3];rfl
  by_cases hc:inputsV ag≤a.toNat
  ·have tt:(inputsV ag:Int)≤(a.toNat:Int):=Y
   have HV:=O (show t=3 by rw[HT.o];unfold thereV;simp[h3,hc]);exact KU
  ·have tt:¬(inputsV ag:Int)≤(a.toNat:Int):=Y
   have HV:=O (show t=0 by rw[HT.o];unfold thereV;simp[h3,hc]);exact KU
 by_cases d:p=17
 ·have u1:((p.toNat:Int)==1)=false:=aH d_ h1
  have u3:((p.toNat:Int)==3)=false:=aH d_ h3;have u17:((p.toNat:Int)==17)=true:=by rw[d];rfl
  by_cases hc:8≤a.toNat
  ·have tt:8≤(a.toNat:Int):=Y
   have HV:=O (show t=3 by rw[HT.o];unfold thereV;simp[d,hc]);exact KO
  ·have tt:¬8≤(a.toNat:Int):=Y
   have HV:=O (show t=0 by rw[HT.o];unfold thereV;simp[d,hc]);exact KO
 by_cases f:p=18
 ·have u1:((p.toNat:Int)==1)=false:=aH d_ h1
  have u3:((p.toNat:Int)==3)=false:=aH d_ h3;have u17:((p.toNat:Int)==17)=false:=aH d_ d;have u18:((p.toNat:Int)==18)=true:=by rw[f];rfl
  by_cases hc:8≤a.toNat
  ·have tt:8≤(a.toNat:Int):=Y
   have HV:=O (show t=3 by rw[HT.o];unfold thereV;simp[f,hc]);exact KO
  ·have tt:¬8≤(a.toNat:Int):=Y
   have HV:=O (show t=0 by rw[HT.o];unfold thereV;simp[f,hc]);exact KO
 by_cases j:p=23
 ·have u1:((p.toNat:Int)==1)=false:=aH d_ h1
  have u3:((p.toNat:Int)==3)=false:=aH d_ h3;have u17:((p.toNat:Int)==17)=false:=aH d_ d;have u18:((p.toNat:Int)==18)=false:=aH d_ f;have u23:((p.toNat:Int)==23)=true:=by rw[j];rfl
  by_cases hc:ag=1
  ·have tt:((ag.toNat:Int) != 1)=false:=by rw[hc];rfl
   have HV:=O (show t=0 by rw[HT.o];unfold thereV;simp[j,hc]);exact KO
  ·have tt:((ag.toNat:Int) != 1)=true:=by rw[bne,show((ag.toNat:Int)==1)=false from aH d_ hc];rfl
   have HV:=O (show t=133 by rw[HT.o];unfold thereV;simp[j,hc]);exact KO
 by_cases ac:p=20
 ·have u1:((p.toNat:Int)==1)=false:=aH d_ h1
  have u3:((p.toNat:Int)==3)=false:=aH d_ h3;have u17:((p.toNat:Int)==17)=false:=aH d_ d;have u18:((p.toNat:Int)==18)=false:=aH d_ f;have u23:((p.toNat:Int)==23)=false:=aH d_ j;have u20:((p.toNat:Int)==20)=true:=by rw[ac];rfl
  by_cases hi:aY=true
  ·subst hi
   have HE:=b.o
   by_cases hc:ap.op=19
   ·have tt:((ap.op.toNat:Int) != 19)=false:=by rw[hc];rfl
    by_cases hd:ap.did=true
    ·have HW:dM s.blocks.getLast?=true:=by rw[HE,hd];simp
     rw[hd]at y3;exact KQ
    ·have hd:ap.did=false:=by simpa using hd
     have HW:dM s.blocks.getLast?=false:=by rw[HE,hd,hc];rfl
     rw[hd]at y3;have HV:=O (show t=0 by rw[HT.o];unfold thereV;simp[ac,HW]);exact KO
   ·have tt:((ap.op.toNat:Int) != 19)=true:=by rw[bne,show((ap.op.toNat:Int)==19)=false from aH d_ hc];rfl
    have HW:dM s.blocks.getLast?=true:=by rw[HE];simp[hc]
    exact KQ
  ·have hi:aY=false:=by simpa using hi
   subst hi;have HW:dM s.blocks.getLast?=true:=by rw[b.o];rfl
   exact KQ
 by_cases D:p=21
 ·have u1:((p.toNat:Int)==1)=false:=aH d_ h1
  have u3:((p.toNat:Int)==3)=false:=aH d_ h3;have u17:((p.toNat:Int)==17)=false:=aH d_ d;have u18:((p.toNat:Int)==18)=false:=aH d_ f;have u23:((p.toNat:Int)==23)=false:=aH d_ j;have u20:((p.toNat:Int)==20)=false:=aH d_ ac;have u21:((p.toNat:Int)==21)=true:=by rw[D];rfl
  by_cases hi:s.blocks=[]
  ·have HI:aY=false:=by rw[aU.o,decide_eq_true hi];rfl
   subst HI;have HV:=O (show t=132 by rw[HT.o];unfold thereV;simp[D,hi]);exact KO
  ·have HI:aY=true:=by rw[aU.o,decide_eq_false hi];rfl
   subst HI;have HV:=O (show t=0 by rw[HT.o];unfold thereV;simp[D,hi]);exact KO
 by_cases ah:p=19
 ·have u1:((p.toNat:Int)==1)=false:=aH d_ h1
  have u3:((p.toNat:Int)==3)=false:=aH d_ h3;have u17:((p.toNat:Int)==17)=false:=aH d_ d;have u18:((p.toNat:Int)==18)=false:=aH d_ f;have u23:((p.toNat:Int)==23)=false:=aH d_ j;have u20:((p.toNat:Int)==20)=false:=aH d_ ac;have u21:((p.toNat:Int)==21)=false:=aH d_ D;have u19:((p.toNat:Int)==19)=true:=by rw[ah];rfl
  by_cases hc:8≤s.blocks.length
  ·have tt:8≤(s.blocks.length:Int):=Y
   have HV:=O (show t=132 by rw[HT.o];unfold thereV;simp[ah,hc]);exact KO
  ·have tt:¬8≤(s.blocks.length:Int):=Y
   have HV:=O (show t=0 by rw[HT.o];unfold thereV;simp[ah,hc]);exact KO
 by_cases B:p=22
 ·have u1:((p.toNat:Int)==1)=false:=aH d_ h1
  have u3:((p.toNat:Int)==3)=false:=aH d_ h3;have u17:((p.toNat:Int)==17)=false:=aH d_ d;have u18:((p.toNat:Int)==18)=false:=aH d_ f;have u23:((p.toNat:Int)==23)=false:=aH d_ j;have u20:((p.toNat:Int)==20)=false:=aH d_ ac;have u21:((p.toNat:Int)==21)=false:=aH d_ D;have u19:((p.toNat:Int)==19)=false:=aH d_ ah;have u22:((p.toNat:Int)==22)=true:=by rw[B];rfl
  by_cases hc:8≤s.blocks.length
  ·have tt:8≤(s.blocks.length:Int):=Y
   have HV:=O (show t=132 by rw[HT.o];unfold thereV;simp[B,hc]);exact KO
  ·have tt:¬8≤(s.blocks.length:Int):=Y
   have HV:=O (show t=0 by rw[HT.o];unfold thereV;simp[B,hc]);exact KO
 have u1:((p.toNat:Int)==1)=false:=aH d_ h1;have u3:((p.toNat:Int)==3)=false:=aH d_ h3;have u17:((p.toNat:Int)==17)=false:=aH d_ d;have u18:((p.toNat:Int)==18)=false:=aH d_ f;have u23:((p.toNat:Int)==23)=false:=aH d_ j;have u20:((p.toNat:Int)==20)=false:=aH d_ ac;have u21:((p.toNat:Int)==21)=false:=aH d_ D;have u19:((p.toNat:Int)==19)=false:=aH d_ ah;have u22:((p.toNat:Int)==22)=false:=aH d_ B;have HV:=O (show t=0 by rw[HT.o];unfold thereV;simp[h1,h3,d,f,j,ac,D,ah,B]);clear HT;go_wp2_with fail;go_ret;exact⟨by rw[HV.o];rfl,aW.o⟩
end
theorem Fo:∀ k,k<24→(50∈(ep.getD k ([],[])).2→(ep.getD k ([],[])).1.length=2):=d_
theorem FA (x:VI)(hx:x.1.toNat<24)(h:50∈(b_Z x).2):(b_Z x).1.length=2:=by
 have hl:∀ s:q,(fl s (jd x.2)).length=s.length:=fun s=>by
  unfold fl
  split
  ·rename_i h;rw[h];rcases regV_two x.2 with e|e<;>rw[e]<;>rfl
  ·rfl
 unfold b_Z at h⊢;rw[hl];rcases replV_mem h with h|⟨_,h⟩
 ·exact Fo _ hx h
 ·exact M1
theorem AM {k:q}{x:VI}(h:k.length<(b_Z x).1.length):aK k x=(130,k):=by unfold aK;rw[if_pos h]
theorem AL {k:q}{x:VI}(h:¬k.length<(b_Z x).1.length)(hf:pi (b_Z x).1 (k.drop (k.length-(b_Z x).1.length))=false):aK k x=(131,k):=by unfold aK;rw[if_neg h,if_pos hf]
theorem AK {k:q}{x:VI}(h:¬k.length<(b_Z x).1.length)(hf:pi (b_Z x).1 (k.drop (k.length-(b_Z x).1.length))=true){r:q}(hr:r=k.take (k.length-(b_Z x).1.length)++bS (k.drop (k.length-(b_Z x).1.length)) (b_Z x).2)(hm:(x.1=22∧16≤r.length)∨16<r.length):aK k x=(130,k):=by
 unfold aK;rw[if_neg h,if_neg (by rw[hf];decide),←hr,if_pos hm]
theorem AJ {k:q}{x:VI}(h:¬k.length<(b_Z x).1.length)(hf:pi (b_Z x).1 (k.drop (k.length-(b_Z x).1.length))=true){r:q}(hr:r=k.take (k.length-(b_Z x).1.length)++bS (k.drop (k.length-(b_Z x).1.length)) (b_Z x).2)(hm:¬((x.1=22∧16≤r.length)∨16<r.length)):aK k x=(0,r):=by
 unfold aK;rw[if_neg h,if_neg (by rw[hf];decide),←hr,if_neg hm]
section
variable {w:Z}{bZ G:Nat}{tv cv bv sv ev:V_}{ag:U8_}{s:Vs}
theorem KV {T:Prop} (h:T:=by
 go_upto_region 8 with fail;go_quiet (fail);go_wp2_with fail;go_roundw
 case rel=>exact⟨i+1,by go_num,by omega,HN.o,bt g.o (II _ _)⟩
 case measure=>simp[intOf];omega
):T:=h
theorem KW {T:Prop} (h:T:=by
 clear B hm;go_wp2_with fail;go_ret;have hk:=bu.o.kinds r;exact⟨by rw[HV.o];rfl,(fun _=>by rw[HV.o];exact hk.1),(a7.o.mono E).trans hk.2⟩
):T:=h
theorem KX {T:Prop} (h:T:=by
 clear B hm;go_wp2_with fail;go_ret;exact⟨by rw[HV.o];rfl,(fun e=>by rw[HV.o]at e;cases e),a7.o.mono E⟩
):T:=h
theorem vF (x:VI)(ab:x.1.toNat<24)(h:RG w bZ G tv cv ag s bv sv ev)(hl:s.kinds.length≤1000):C_ 100 #[p_ G,.agg #[.int .u8 x.1.toNat,.int .u8 x.2.toNat]] w fun e w'=>e=.returned (F ((aK s.kinds x).1:Int))∧((aK s.kinds x).1=0→RG w' bZ G tv cv ag { s with kinds:=(aK s.kinds x).2 } bv sv ev)∧B_ bZ w w':=by
 obtain⟨F1,F2,F3,F4,F5,F6⟩:=sV x ab;have F7:=FA x ab;obtain⟨J,VA,P,I,N⟩:=zH5 (vL x) (@AM s.kinds x) (@AL s.kinds x) (@AK s.kinds x) (@AJ s.kinds x);obtain⟨t,ht⟩:=H ((b_Z x).1);obtain⟨a,aV⟩:=H ((b_Z x).2);obtain⟨k,hk⟩:=H s.kinds;rw[←ht]at J VA P I N F1 F3 F4 F5 F7;rw[←aV]at J I N F2 F3 F4 F6 F7;rw[←hk]at VA P I N hl⊢;have HK:=O hk;obtain⟨W1,aA⟩:=H (w.alloc (.cells #[.int .u8 x.1.toNat,.int .u8 x.2.toNat] 109));have a8:=ba_ aA;have hx:=bm_ aA;obtain⟨x0,x1⟩:=cl2 hx;obtain⟨HX,a_,HH⟩:=zH3 hx a8 h;have E:=Jc h.gb (JA h.blk.lt);have k1:(k.length:Int)≤1000:=Y;have t1:(t.length:Int)≤3:=Y;have g1:(a.length:Int)≤2:=Y;obtain⟨bm,ak,al⟩:=zH3 F2 F3 F7;clear h a8 hx ht aV hk F1 F2 F3 F4 F7;go_enter func100,ntmps100;go_upto_region 1 with fail;rw[←aA];clear aA;go_upto_region 2 with(go_at_call 137;refine(J.o _).mono ?_;rintro e w2⟨rfl,ax⟩;have a9:=O (bt a_.o ax);have L:=O ax;clear ax);have h2:=HH.o.below a9.o;have g3:=h2.c 3;rw[←HK.o]at g3;have H2:=O h2;clear h2 x0 x1
 by_cases hA:k.length<t.length
 ·have tt:(k.length:Int)<t.length:=Y
  have HV:=O (VA.o hA);go_wp2_with fail;go_ret;exact⟨by rw[HV.o];rfl,(fun e=>by rw[HV.o]at e;cases e),a9.o.mono E⟩
 ·have tt:¬(k.length:Int)<t.length:=Y
  obtain⟨n,hn⟩:=H (k.length-t.length);have bL:(k.length:Int)-(t.length:Int)=(n:Int):=Y;have c9:(n:Int)≤k.length:=Y;have a6:=nn_ n;have P:=O (P.o hA);have I:=O (@(I.o hA));have N:=O (@(N.o hA));rw[←hn]at P I N;have ai:(k.drop n).length=t.length:=by rw[JG];omega
  clear hA hn VA;go_upto_region 4 with fail;go_quiet (fail);obtain⟨w3,d⟩:∃ W,W=w2.drewN nq:=⟨_,rfl⟩
  rw[←d];have X:Bw_ w2 w3:=by rw[d];exact II _ _
  have aW:=O (bt a9.o X);have av:=O (bt L.o X);clear d X nq g3;obtain⟨b,y⟩:=H (k.drop n);obtain⟨Q,aa⟩:=H (k.take n);have am:Q.length≤1000:=by rw[aa,JH];omega
  rw[←y]at ai P I N;rw[←aa]at I N;obtain⟨A,bO,cD⟩:=zH3 y aa ai;have tl:(b.length:Int)=(t.length:Int):=Y;have ap:=O aW.o.size;clear y aa ai;go_wp2_with fail;rw[←A.o,←bO.o]
  go_loopw [9] (fun v wr=>∃ i:Nat,v=F i∧i≤t.length∧Hid (∀ j (hj:j<t.length) (af:j<b.length),j<i→t[j]=63∨t[j]=b[j])∧Hid (Bw_ W1 wr)) (fun v _=>t.length-(intOf v).toNat)
  case atStart=>exact⟨0,rfl,Jl _,fun j _ _ h=>absurd h Y,av.o⟩
  case round =>
   obtain⟨i,rfl,hi,o,g⟩:=hrel
   by_cases h0:i<t.length
   ·have U:i<b.length:=by rw[cD.o];exact h0
    have ar:=nn_ i;have a5:(i:Int)<t.length:=Y;have K:(i:Int)<b.length:=Y
    by_cases M:t[i]=63
    ·have e1:((t[i].toNat:Int) != 63)=false:=by rw[M];rfl
     have HN:=O (show ∀ j (hj:j<t.length) (af:j<b.length),j<i+1→t[j]=63∨t[j]=b[j] from fun j hj af aC=>by
      by_cases e:j=i
      ·subst e;exact .inl M
      ·exact o.o j hj af Y)
     clear M o;exact KV
    ·have e1:((t[i].toNat:Int) != 63)=true:=by rw[bne,show((t[i].toNat:Int)==63)=false from aH d_ M];rfl
     by_cases hq:t[i]=b[i]
     ·have e2:((t[i].toNat:Int) != (b[i].toNat:Int))=false:=by rw[hq];simp
      have HN:=O (show ∀ j (hj:j<t.length) (af:j<b.length),j<i+1→t[j]=63∨t[j]=b[j] from fun j hj af aC=>by
       by_cases e:j=i
       ·subst e;exact .inr hq
       ·exact o.o j hj af Y)
      clear M hq o;exact KV
     ·have e2:((t[i].toNat:Int) != (b[i].toNat:Int))=true:=by rw[bne_iff_ne];intro e;exact hq (UInt8.toNat_inj.1 Y)
      have HV:=O (P.o (by
       cases b9:pi t b with
       | false=>rfl
       | true =>
        rcases(fitV_iff t b (by rw[cD.o];exact I6 _)).1 b9 i h0 U with e|e
        ·exact absurd e M
        ·exact absurd e hq))
      clear M hq o;go_upto_region 8 with fail;go_quiet (fail);go_wp2_with fail;go_ret;exact⟨by rw[HV.o];rfl,(fun e=>by rw[HV.o]at e;cases e),(bt (bt a_.o g.o) (II _ _)).mono E⟩
   ·obtain rfl:i=t.length:=Y
    have C:pi t b=true:=(fitV_iff t b (by rw[cD.o];exact I6 _)).2 (fun j hj af=>o.o j hj af hj);have HC:=O (I.o C rfl);have HD:=O (N.o C rfl);have e0:¬(t.length:Int)<t.length:=Y;clear C o h0 P I N;go_wp2_with fail
    go_loop [7,10] (fun vr m=>∃ (i:Nat) (r:q),vr=s_ r∧m=F i∧i≤a.length∧r.length≤1000+3*i∧Hid (r=Q++bS b (a.take i))) (fun _ m=>a.length-(intOf m).toNat)
    case atStart=>exact⟨0,Q,rfl,rfl,Jl _,by omega,by unfold Hid;simp[bS]⟩
    case round =>
     obtain⟨i,r,rfl,rfl,hi,ad,c⟩:=hrel
     by_cases h0:i<a.length
     ·have ar:=nn_ i
      have a5:(i:Int)<a.length:=Y;have HS:=O (gJ (b:=b) h0);have u:=Jz h0;have bF:(r.length:Int)≤1006:=Y;have aj:(b.length:Int)≤3:=Y
      by_cases ac:a[i]=49
      ·have e1:((a[i].toNat:Int)==49)=true:=by rw[ac];rfl
       have ae:1≤b.length:=by rw[cD.o];exact ak.o (ac▸u)
       have au:1≤(b.length:Int):=Y;have HQ:=O (show Q++bS b (a.take (i+1))=r++b.take 1 by rw[HS.o,if_pos ac,←Jg,c.o]);have aC:(b.take 1).length=1:=by rw[JH];omega
       clear ac u;go_wp2_with fail
       go_round
       case rel=>exact⟨i+1,r++b.take 1,rfl,by go_num,by omega,by rw[Jh,aC];omega,HQ.o.symm⟩
       case measure=>simp[intOf];omega
      ·have e1:((a[i].toNat:Int)==49)=false:=aH d_ ac
       by_cases ah:a[i]=50
       ·have e2:((a[i].toNat:Int)==50)=true:=by rw[ah];rfl
        have ae:b.length=2:=by rw[cD.o];exact al.o (ah▸u)
        have au:(b.length:Int)=2:=Y;have z:(b.tail.take 1).length=1:=by rw[JH,List.length_tail];omega
        have HQ:=O (show Q++bS b (a.take (i+1))=r++b.tail.take 1 by rw[HS.o,if_neg ac,if_pos ah,←Jg,←c.o,List.drop_one]);clear ac ah u;go_wp2_with fail
        go_round
        case rel=>exact⟨i+1,r++b.tail.take 1,rfl,by go_num,by omega,by rw[Jh,z];omega,HQ.o.symm⟩
        case measure=>simp[intOf];omega
       ·have e2:((a[i].toNat:Int)==50)=false:=aH d_ ah
        have HQ:=O (show Q++bS b (a.take (i+1))=r++[a[i]] by rw[HS.o,if_neg ac,if_neg ah,←Jg,←c.o]);have ao:(0:Int)≤(i:Int)+1:=Y;have aG:(i:Int)+1≤(a.length:Int):=Y;have aw:(i:Int)≤(i:Int)+1:=Y;clear ac ah u;have l:(a.drop i).take 1=[a[i]]:=by rw[JP h0];rfl
        have bC:=O l;clear l;go_wp2_with fail;rw[bC.o];refine⟨⟨i+1,r++[a[i]],rfl,by go_num,by omega,by rw[Jh,JJ];omega,HQ.o.symm⟩,by simp[intOf];omega⟩
     ·obtain rfl:i=a.length:=Y
      have S:=c.o;rw[List.take_length]at S;rw[←S]at HC HD;have aZ:=bt a_.o g.o;have bD:=HH.o.below aZ;have f3:=bD.free (k:=3) d_;have c3:=bD.c 3;have D:=HX.o.below g.o;have x0:=D.c 0;have r6:(r.length:Int)≤1006:=Y;have e9:¬(a.length:Int)<a.length:=Y;have bu:=O bD;have a7:=O aZ;clear S h0 c D bD aZ
      by_cases B:x.1=22
      ·have u22:((x.1.toNat:Int)==22)=true:=by rw[B];rfl
       by_cases hm:16≤r.length
       ·have az:(16:Int)<(r.length:Int)+1:=Y
        have HV:=O (HC.o (.inl ⟨B,hm⟩));exact KX
       ·have az:¬(16:Int)<(r.length:Int)+1:=Y
        have HV:=O (HD.o (by rintro (h|h)<;>omega));exact KW
      ·have u22:((x.1.toNat:Int)==22)=false:=aH d_ B
       by_cases hm:16<r.length
       ·have az:16<(r.length:Int):=Y
        have HV:=O (HC.o (.inr hm));exact KX
       ·have az:¬16<(r.length:Int):=Y
        have HV:=O (HD.o (by rintro (h|h);exact B h.1;exact hm h));exact KW
end
section
variable {α:Type}
def fd (R:Rec α)(bZ:Nat)(xs:List α)(p:α)(w w':Z):Prop :=
 B_ bZ w w'∧(∀ v,R.Own w bZ v xs→R.Own w' bZ v xs)∧(∀ v,R.Own w bZ v (xs++[p])→R.Own w' bZ v (xs++[p])) ∧
  ∀ b:Nat,w.heap[b]?=some (.cells (R.cell p).toArray R.e (0,0))→w'.heap[b]?=some (.cells (R.cell p).toArray R.e (0,0))
variable {R:Rec α}{bZ:Nat}{xs:List α}{p:α}
theorem fd.refl (w:Z):fd R bZ xs p w w:=⟨Ja _ _,fun _ h=>h,fun _ h=>h,fun _ h=>h⟩
theorem gl1_ {ap T':Prop}{P:Program}{aM:Array Oper}{C:Z→Prop}{R:Z→Z→Prop}{am:Nat→Option (bu R)}{Q:aD→Act→Prop}{k:Nat}{o:Oper}{rest:LO_}{S:aD}{a:Act}{v:V_}(c:ap)(k':T')(hF:am k=some (.exact R v):=by rfl)(hw:Region.wanted o (yielded aM a.tmps)=true:=by kernel_rfl)(h1:∀ (w':Z) (G:V_→Z→Prop),ap→C w'→S.at aM o w'→(∀ bc,R w' bc→G v bc)→dJ P o a w' G:=by intro w' G c hB hS hG;have c':=IF hB c;go_simp;exact hG _ (fd.refl _))(h2:Hid T'→∀ (K:Act→Prop),(∀ a,wpG P aM C R am Q (k+1) rest S a→K a)→K (a.put o.dst v):=by intro k K hK;go_simp;refine hK _ ?_;(repeat(first|(refine wpG_skip (by kernel_rfl) (fun K hK=>?_);go_big_quiet_skip;refine wpQuiet_nil (hK _ ?_);clear hK K)|(refine wpG_quiet (by rfl) (by rfl) (fun K hK=>?_);go_big_quiet_want;go_big_quiet_op;go_big_quiet_on;refine wpQuiet_nil (hK _ ?_);clear hK K)|(refine wpG_nilOk rfl rfl rfl (by kernel_rfl) (fun K hK=>?_);go_simp;refine hK _ ?_;clear hK K)));exact k.o):wpG P aM C R am Q k (o::rest) S a:=gE_ (fun w' G x y z=>h1 w' G c x y z) (h2 k') hF hw
theorem IP {w w':Z}(hb:bZ≤w.heap.size)(h:Bel w w'):fd R bZ xs p w w' :=
 ⟨Below.mono h hb,fun _ ho=>cX ho h,fun _ ho=>cX ho h,fun b hh=>(h.block b (Array.getElem?_eq_some_iff.1 hh).1).trans hh⟩
def kM (R:Rec α)(bZ:Nat)(xs:List α)(p:α):bu (fd R bZ xs p) :=
 ⟨OA_×Nat,fun x=>.slice x.1 xs.length x.2,fun x=>some fun w=>R.Own w bZ (.slice x.1 xs.length x.2) xs,fun _ _ h _ _ i hB=>by cases h;exact hB.2.1 _ i⟩
@[go_sem] theorem G1 (a:OA_) (c:Nat):(kM R bZ xs p).val (a,c)=.slice a xs.length c:=rfl
def kL (R:Rec α)(bZ:Nat)(xs:List α)(p:α):bu (fd R bZ xs p) :=
 ⟨OA_×Nat,fun x=>.slice x.1 (xs.length+1) x.2,fun x=>some fun w=>R.Own w bZ (.slice x.1 (xs.length+1) x.2) (xs++[p]),fun _ _ h _ _ i hB=>by cases h;exact hB.2.2.1 _ i⟩
@[go_sem] theorem G0 (a:OA_) (c:Nat):(kL R bZ xs p).val (a,c)=.slice a (xs.length+1) c:=rfl
def jr (R:Rec α)(bZ:Nat)(xs:List α)(p:α):bu (fd R bZ xs p) :=
 ⟨Nat,fun b=>.slice (some ⟨b,0,none⟩) 1 1,fun b=>some fun w=>w.heap[b]?=some (.cells (R.cell p).toArray R.e (0,0)),fun _ _ h _ _ i hB=>by cases h;exact hB.2.2.2 _ i⟩
@[go_sem] theorem G2 (b:Nat):(jr R bZ xs p).val b=.slice (some ⟨b,0,none⟩) 1 1:=rfl
theorem Bt {w w':Z}{v:V_}{l:List α}(h:R.Own w bZ v l)(h4:∀ k,k<w.heap.size→w'.heap[k]?=w.heap[k]?):R.Own w' bZ v l:=DI h h4
theorem Rec.grow_app1 (R:Rec α){o:Oper}{a:Act}{w:Z}{G:V_→Z→Prop}(s x:Operand)(t:T_)(ho:o.op=.call { callee:=.builtin .append,args:=#[s,x],argTypes:=#[t,t] })(ht:prog.underlying t=some (.slice R.e))(bZ:Nat)(v:V_)(xs:List α)(p:α)(aw:R.Own w bZ v xs)(hs:a.eval s=v)(b:Nat)(hx:a.eval x=.slice (some ⟨b,0,none⟩) 1 1)(hb:w.heap[b]?=some (.cells (R.cell p).toArray R.e (0,0)))(d:(xs.length+1)*R.bytes≤140737488355328)(aB:bZ≤w.heap.size)(h:∀ A C w',R.Own w' bZ (.slice A (xs.length+1) C) (xs++[p])→fd R bZ xs p w w'→G (.slice A (xs.length+1) C) w'):dJ prog o a w G:=by
 obtain⟨i,hi,hz,ao,aG⟩:=info_parts R.info;have aq:xs.length+1≤140737488355328:=by have:=Nat.le_mul_of_pos_right (xs.length+1) R.bpos;omega
 obtain⟨v',w',h1,h2,h3,h4⟩:=oA (P:=prog) w bZ t o.type R.e i R.z R.n R.bytes ht hi hz ao aG R.zs R.pos v xs.length (R.cells xs) aw ⟨b,0,none⟩ 1 1 (R.cell p) (by rw[Nat.one_mul];exact R.len p) (by
  intro j u hj;rw[Addr.add_lit,I9];simp[World.cell?,hb,hj]) (R.one p) yzb d aB
 have E:R.Own w' bZ v' (xs++[p]):=by
  unfold Rec.Own;rw[R.cells_append,Jh,Rec.cells,Rec.cells,Jy];exact h2
 have z:∀ (l:List α),(l=xs∨l=xs++[p])→∀ u,R.Own w bZ u l→R.Own w' bZ u l:=by
  intro l hl u hu;rcases h4 with h4|⟨g,aK,aH,q,rfl,hg,y,a6,I,D⟩
  ·exact Bt hu h4
  ·refine⟨hu.1,?_⟩
   rcases hu.2 with h5|⟨g2,c2,r,rfl,aY,c,c9,N,ar,aa⟩
   ·exact .inl h5
   ·by_cases H:g2=g
    ·subst H
     rw[hg]at c;obtain rfl:aH=r:=by simp only[Option.some.injEq,Obj.cells.injEq]at c;exact c.1
     refine .inr ⟨g2,c2,q,rfl,aY,y,c9,N,by rw[a6];exact ar,?_⟩;rcases hl with rfl|rfl
     ·have h6:q.toList.take (l.length*R.n)=(q.toList.take ((l.length+1)*R.n)).take (l.length*R.n):=by
       rw[List.take_take,Nat.min_eq_left (JO _ Y)]
      rw[h6,I,←R.cells_length l];exact List.take_left
     ·rw[Jh,JJ,I,R.cells_append,Rec.cells,Rec.cells,Jy]
    ·exact .inr ⟨g2,c2,r,rfl,aY,by rw[D g2 H];exact c,c9,N,ar,aa⟩
 have hrel:fd R bZ xs p w w':=by
  refine⟨(Ja bZ w).grown h3 aB (fun k hk=>(Rec.Own.ltV aw k hk).1),z xs (.inl rfl),z _ (.inr rfl),?_⟩;intro b' m;rcases h4 with h4|⟨g,aK,aH,q,rfl,hg,y,a6,I,D⟩
  ·rw[h4 b' (Array.getElem?_eq_some_iff.1 m).1];exact m
  ·by_cases H:b'=g
   ·subst H
    rw[hg]at m;obtain rfl:aH=(R.cell p).toArray:=by simp only[Option.some.injEq,Obj.cells.injEq]at m;exact m.1
    rw[y];have be:=congrArg List.length I;have bx:q.toList.length=R.n:=by rw[show q.toList.length=q.size from Array.length_toList,a6,List.size_toArray,R.len]
    rw[JH,Jh,R.cells_length,R.len,bx]at be;have hp:=R.pos
    have B:xs.length*R.n=0:=by
     have:=Nat.min_le_right ((xs.length+1)*R.n) R.n;omega
    have bN:xs.length=0:=by
     rcases Nat.mul_eq_zero.1 B with e|e
     ·exact e
     ·omega
    obtain rfl:xs=[]:=I7 bN;rw[Rec.cells,JC,JI,I9,Nat.one_mul,I5 (by rw[bx];exact I6 _)]at I;rw[←I,Array.toArray_toList]
   ·rw[D b' H];exact m
 obtain⟨A,C,rfl⟩:=ay h2;unfold dJ execOp;simp only[ho,resolve,invoke,builtin,Sem.run_bind,Sem.run_pure,Result.andThen_ok,List.map_toArray,List.map_cons,List.map_nil,hs,hx,h1];exact h A C w' E hrel
theorem kF {w':Z}{G:V_→Z→Prop}{cs:AV_}(hG:∀ x bc,fd R bZ xs p w' bc→(∀ φ,(jr R bZ xs p).fact x=some φ→φ bc)→G ((jr R bZ xs p).val x) bc)(aR:cs=(R.cell p).toArray)(hb:bZ≤w'.heap.size):G (.slice (some ⟨w'.heap.size,0,none⟩) 1 1) (w'.alloc (.cells cs R.e)):=by
 subst aR;exact hG w'.heap.size _ (IP hb (af w' _)) (fun φ h=>by cases h;exact heap_alloc_last w' _)
theorem gF {id:Nat}{Q:Exit→Act→Z→Prop}{a:Act}{w:Z}{l:LO_}(R:Rec α)(xs:List α)(p:α)(n:Nat)(L:List (Nat×bu (fd R w.heap.size xs p)))(hm:prog.follows .mixedOrders=true)(hB:jI l.toArray n=true)(h:wpG prog l.toArray (Bel w) (fd R w.heap.size xs p) (gw L) (fun S a'=>∀ w',Bel w w'→S.all w'→wpList prog l.toArray Q (l.drop n) a' w') 0 (l.take n) aD.none a):(Code.region id l.toArray true).wp prog Q a w :=
 gM (gw L) n hm hB (fun _ _ h k=>h.trans k.1) (b_drew w) h
end
theorem eQ {P:Program}{aM:Array Oper}{C:Z→Prop}{R:Z→Z→Prop}{am:Nat→Option (bu R)}{Q:aD→Act→Prop}{k:Nat}{S:aD}{a:Act}(h:Q S a):wpG P aM C R am Q k [] S a:=by unfold wpG;exact h
section
variable {w:Z}{bZ G:Nat}{tv cv bv sv ev:V_}{ag:U8_}{s:Vs}
theorem RG.freshB {w3:Z}{o:Nat}{an:V_}{l:List Vb}(h:RG w bZ G tv cv ag s bv sv ev)(hB:Bw_ w w3)(aa:w.heap.size≤o)(ho:bY.Own w3 o an l):RG (w3.setCell ⟨G,4,none⟩ an) bZ G tv cv ag { s with blocks:=l } an sv ev∧B_ bZ w (w3.setCell ⟨G,4,none⟩ an):=by
 have E:=Jc h.gb (JA h.blk.lt);refine h.newB (l:=l) ⟨hB.os,hB.tape,hB.output,hB.size,fun j hj _=>hB.block j hj⟩ (fun k hk=>.inr (Jc aa (Rec.Own.ltV ho k hk).1)) (ho.baseLe (Jc E aa))
theorem Dw (b:Vb)(h:RG w bZ G tv cv ag s bv sv ev)(hl:s.blocks.length≤1000)(h0:0<s.blocks.length):C_ 138 #[p_ G,rbV b] w fun e w'=>(∃ v,e=.returned v)∧(∃ an,RG w' bZ G tv cv ag { s with blocks:=s.blocks.dropLast++[b] } an sv ev)∧Chg (fun x=>x=G) w w':=by
 obtain⟨⟨ab,cb,rfl⟩,_,_⟩:=h.slices;obtain⟨m,hm⟩:∃ m,s.blocks.length=m+1:=⟨s.blocks.length-1,by omega⟩
 obtain⟨g,rfl⟩:=h.ob.at0 h0;have az:(s.blocks.length:Int)-1=(m:Int):=Y;have N:(m:Int)<s.blocks.length:=Y;have ay:=nn_ m;have t:(s.blocks.length:Int)≤1000:=Y;have hd:s.blocks.dropLast=s.blocks.take m:=by rw[List.dropLast_eq_take];congr 1;omega
 have HD:=O hd;have aO:=h.ob.shortRun 176 underlying176 yzg m Y;obtain⟨W1,aA⟩:=H (w.alloc (.cells #[.int .u8 b.op.toNat,s_ b.opn,s_ (iz b),.bool b.did,F b.at_] 215));have a8:=ba_ aA;have hx:=bm_ aA;have h1:=h.below a8;have c4:=h1.c 4;obtain⟨HX,a_,H1,HH⟩:=zH4 hx a8 h1 h;obtain⟨xs,i⟩:=H (s.blocks.take m);have aH:xs.length=m:=by rw[i,JH];omega
 have j:=O i;have a5:=O (show bY.Own W1 bZ (.slice (some ⟨g,0,none⟩) m cb) xs from by rw[i];exact h1.ob.short m Y);have f:=O aH;have av:m≤1000:=Y;clear h h1 h0 hm hd a8 hx i aH;unfold rbV;go_enter func138,ntmps138;go_upto_region 1 with fail;rw[←aA];clear aA;refine rk_ [(3,.exact _ (.slice (some ⟨g,0,none⟩) s.blocks.length cb)),(7,.exact _ (.slice (some ⟨g,0,none⟩) s.blocks.length cb)),(11,wC bY W1.heap.size xs)] ?_;refine cG ?_;refine gl_ c4 ?_;refine gl_ c4 ?_;refine gk_ (wC bY W1.heap.size xs) (fun w' G hB hS hG=>?_) (fun x K hK=>?_)
 ·refine bY.grow_copy _ _ 176 rfl underlying176 W1.heap.size rfl _ xs (show bY.Row w' (.slice (some ⟨g,0,none⟩) m cb) xs from(a5.o.below hB).row) rfl (by show xs.length*56≤_;rw[f.o];omega) hB.size (fun A C bc ho hb=>hG (A,C) bc hb (fun φ h=>by cases h;exact ho))
 obtain⟨ad,c⟩:=x;refine cO ?_;clear hK K;refine eQ ?_;intro w5 aN aF;have HO:=O (show bY.Own w5 W1.heap.size (.slice ad xs.length c) xs from mn aF);have aT:=HX.o.below aN;obtain⟨x0,x1,x2,x3,x4⟩:=cl5 aT;have aJ:=O aN;have au:=O (bt a_.o aN);have a6:W1.heap.size≤w5.heap.size:=aN.size;clear aN aF aT c4;rw[f.o]at HO⊢;go_wp2_with (at_builtin;go_must (refine bY.append1V _ b rfl _ _ 176 rfl underlying176 W1.heap.size _ xs (HO.o.below (af _ _)) rfl _ rfl (Rec.Row.new (R:=bY) w5 [b] _).1 (by show(xs.length+1)*56≤_;rw[f.o];omega) (Jc a6 (af _ _).size) ?_);go_must (intro g3 gc w6 M aI _;have aV:Bw_ w w6:=(by have e1:B_ W1.heap.size w5 (w5.alloc (.cells (bY.cells [b]).toArray 215)):=(af _ _).mono a6;have e2:=aI.below (B:=W1.heap.size) (fun k hk=>(Rec.Own.ltV HO.o k hk).1) (Jc a6 (af _ _).size);exact au.o.trans ((e1.trans e2).mono a_.o.size));have h6:=HH.o.below aV;have c4:=h6.c 4;have f4:=h6.free (k:=4) d_;have HN:=O (HH.o.freshB aV a_.o.size M);have cd:=O ((IG (X:=fun x=>x=G) aV).trans (Chg.set1R (k:=4) (v:=.slice (some ⟨g3,0,none⟩) (xs.length+1) gc)));clear h6 aV M aI));refine bodyPost_end (results_none rfl _ _ _) rfl ?_;rw[HD.o,←j.o];exact⟨⟨_,rfl⟩,⟨_,HN.o.1⟩,cd.o⟩
end
theorem Rec.Own.freeR {α:Type}{R:Rec α}{w:Z}{bZ g n c:Nat}{l:List α}(h:R.Own w bZ (.slice (some ⟨g,0,none⟩) n c) l){k:Nat}(hk:k<l.length*R.n):(∃ v,w.cell? ⟨g,k,none⟩=some v)∧w.frozen? ⟨g,k,none⟩=false:=by
 obtain⟨_,h2⟩:=h;rcases h2 with ⟨hv,_⟩|⟨D,ah,aH,hv,hb,hh,r1,r2,r3,b⟩
 ·cases hv
 ·obtain⟨rfl,rfl,rfl⟩:g=D∧n=l.length∧c=ah:=by simpa using hv
  have aC:k<aH.size:=by
   rw[r3];exact Jr hk (JO _ r1)
  exact⟨⟨aH[k],by simp[World.cell?,hh,aC]⟩,by simp[World.frozen?,hh]⟩
section
variable {w:Z}{bZ G:Nat}{tv cv bv sv ev:V_}{ag:U8_}{s:Vs}{n:Nat}
theorem Li {T:Prop} (h:T:=by
 have:=H3.o.oe.setCell (k:=ap.at_) be (y:=(i:Int)) (j:=0) (by decide) (u:=.int .i64 i) rfl;rw[show ap.at_*bD.n+0=ap.at_ from by show ap.at_*1+0=ap.at_;omega,←bw]at this;exact this
):T:=h
theorem Le {T:Prop} (h:T:=by
 rw[hd]at y3;clear hd M
 by_cases hw:s.kinds=ap.want
 ·have tt:(s.kinds != ap.want)=false:=by rw[hw];simp
  have bk:(s.kinds==ap.want)=true:=by rw[hw];simp
  have HV:=O (show turnsV i (p,a) s=(0,{ s with ends:=s.ends.set ap.at_ (i:Int),blocks:=s.blocks.dropLast }) by unfold turnsV;rw[q];simp[D,hw]);obtain⟨m,hm⟩:∃ m,s.blocks.length=m+1:=⟨s.blocks.length-1,by omega⟩
  have aL:s.blocks.dropLast=s.blocks.take m:=by rw[List.dropLast_eq_take];congr 1;omega
  have HD:=O aL;have az:(s.blocks.length:Int)-1=(m:Int):=by omega
  have N:(m:Int)<s.blocks.length:=by omega
  have ay:=nn_ m;obtain⟨gb,rfl⟩:=H3.o.ob.at0 aa;have aO:=H3.o.ob.shortRun 176 underlying176 (by intro wx;kernel_rfl) m (by omega);obtain⟨ge,rfl⟩:=H3.o.oe.at0 (by omega);have aJ:=HH.o.oe.ltV ge rfl;have al:=fun e=>HH.o.a3 ge rfl e;obtain⟨⟨v0,e0⟩,ef⟩:=H3.o.oe.freeR (k:=ap.at_) (by show ap.at_<s.ends.length*1;omega);have c5:=H3.o.c 6;have y4:=a'.o.c 4;have q0:0≤(ap.at_:Int):=by omega
  have q1:(ap.at_:Int)<s.ends.length:=by omega
  have q2:(s.ends.length:Int)≤256:=by omega
  have W:m≤s.blocks.length:=by omega
  clear q X D a0 aL hw hm;go_upto_region 18 with fail;go_region;obtain⟨W4,bw⟩:=H (W3.setCell ⟨ge,ap.at_,none⟩ (.int .i64 i));have ar:Chg (fun k=>k=ge) W3 W4:=by rw[bw];exact Chg.setCell _ _ _ rfl
  have aV:bD.Own W4 bZ (.slice (some ⟨ge,0,none⟩) s.ends.length ce) (s.ends.set ap.at_ (i:Int)):=by
   exact Li
  have h4:=H3.o.chgE (l:=s.ends.set ap.at_ (i:Int)) (ar.mono (fun k (hk:k=ge)=>by rw[hk];rfl)) aV;rw[←bw];have af:B_ bZ W3 W4.drew:=h4.2.trans ((b_drew W4).mono (Jc (Jc E bH) ar.size));have H4:=O (h4.1.below (b_drew W4));have aC:=O ((a'.o.chg ar (by show ¬(C=ge);omega)).below (b_drew W4));have ba:=O ((aW.o.mono E).trans af);clear bw ar aV h4 af e0 c5 ef;obtain⟨W5,aE⟩:=H W4.drew;rw[←aE]at H4 aC ba;rw[←aE];clear aE x0 y1 y2 y3 y4 c3;have c4:=H4.o.c 4;have f4:=H4.o.free (k:=4) (by decide);go_upto_region 19 with fail;go_region;have h9:=H4.o.newB (an:=.slice (some ⟨gb,0,none⟩) m cb) (l:=s.blocks.take m) (Chg.refl _ _) (fun k hk=>by cases hk;exact .inl rfl) (H4.o.ob.short m W);obtain⟨W9,bf⟩:=H (W5.setCell ⟨G,4,none⟩ (.slice (some ⟨gb,0,none⟩) m cb));rw[←bf]at h9⊢;have H9:=O (h9.1.below (b_drew W9));have bG:=O ((ba.o.trans h9.2).trans ((b_drew W9).mono (Jc h9.1.gb (JA h9.1.blk.lt))));clear h9 bf c4 f4;go_wp2_with fail;go_ret;exact⟨by rw[HV.o];rfl,(fun _=>⟨_,by rw[HV.o,HD.o];exact H9.o⟩),bG.o⟩
 ·have tt:(s.kinds != ap.want)=true:=by simpa using hw
  have bk:(s.kinds==ap.want)=false:=by simpa using hw
  have HV:=O (show turnsV i (p,a) s=(132,s) by unfold turnsV;rw[q];simp[D,hw]);clear q X D a0 hw;go_wp2_with fail;go_ret;exact⟨by rw[HV.o];rfl,(fun e=>by rw[HV.o]at e;cases e),aW.o.mono E⟩
):T:=h
theorem Lf {T:Prop} (h:T:=by
 have aw:bY.Own w' W3.heap.size (.slice ad s.blocks.length c) s.blocks:=at1 hS (by kernel_rfl);have aZ:w'.heap[bb]?=some (.cells (bY.cell nb).toArray bY.e (0,0)):=at0 hS (by kernel_rfl);exact bY.grow_app1 _ _ 176 rfl underlying176 W3.heap.size _ s.blocks nb aw rfl bb rfl aZ (by show(s.blocks.length+1)*56≤_;omega) hB.size (fun A C bc ho hr=>hG (A,C) bc hr (fun φ h=>by cases h;exact ho))
):T:=h
theorem Lg {T:Prop} (h:T:=by
 refine bY.grow_copy _ _ 176 rfl underlying176 W3.heap.size rfl _ s.blocks (a5.o.below hB).row rfl (by show s.blocks.length*56≤_;omega) hB.size (fun A C bc ho hb=>hG (A,C) bc (IP hB.size hb) (fun φ h=>by cases h;exact ho))
):T:=h
theorem Lh {T:Prop} (h:T:=by
 rw[HQ.o];unfold qD
 cases hb:s.blocks.getLast? with
 | none=>exact absurd (List.getLast?_eq_none_iff.1 hb) a0
 | some b=>rfl
):T:=h
theorem Bo (i:Nat)(x:VI)(h:RG w bZ G tv cv ag s bv sv ev)(hI:lK n s)(hi:i≤1000)(bg:∀ b∈s.blocks,b.did=false→b.want=b.opn)(aI:x.1=20∨x.1=21→s.blocks≠[]):C_ 101 #[p_ G,F i,.agg #[.int .u8 x.1.toNat,.int .u8 x.2.toNat]] w fun e w'=>e=.returned (F ((turnsV i x s).1:Int))∧((turnsV i x s).1=0→∃ an,RG w' bZ G tv cv ag (turnsV i x s).2 an sv ev)∧B_ bZ w w':=by
 obtain⟨p,a⟩:=x;have E:=Jc h.gb (JA h.blk.lt);have bz:=h.blk.lt;have hl:s.blocks.length≤1000:=Jc hI.bl d_;have bq:=hI.kl;have bj:=hI.bs;have bp:=hI.el;have bo:=hI.bl;obtain⟨⟨ab,cb,rfl⟩,_,⟨ae,ce,rfl⟩⟩:=h.slices;obtain⟨W1,aA⟩:=H (w.alloc (.cells #[.int .u8 p.toNat,.int .u8 a.toNat] 109));have a8:=ba_ aA;have hx:=bm_ aA;obtain⟨a_,HX,HH,aP⟩:=zH4 a8 hx h (fun w' (hB:Bw_ w w')=>si (h.below hB) hl);have i0:=nn_ i;have l1:(s.blocks.length:Int)≤8:=Y;have bK:(s.kinds.length:Int)≤16:=Y;obtain⟨ap,hq⟩:=H (qD s.blocks);obtain⟨aY,L⟩:=H (s.blocks.getLast?.isSome);have bh:=O L;have HQ:=O hq;have a7:=O (show rbV (s.blocks.getLast?.getD Fd)=.agg #[.int .u8 ap.op.toNat,s_ ap.opn,s_ (iz ap),.bool ap.did,F ap.at_] by rw[hq];rfl);obtain⟨bi,a1,cp⟩:=zH3 bg aI bj;clear h a8 hx hq L bg aI bj hI;go_enter func101,ntmps101;go_upto_region 1 with fail;rw[←aA];clear aA;go_upto_region 2 with(go_at_call 135;refine(aP.o _ a_.o).mono ?_;rintro e w2⟨rfl,ax⟩;rw[a7.o,←bh.o];have a9:=O (bt a_.o ax);have aR:=O (HX.o.below ax);clear ax);obtain⟨W3,aB⟩:=H (w2.alloc (.cells #[.int .u8 ap.op.toNat,s_ ap.opn,s_ (iz ap),.bool ap.did,F ap.at_] 215));have U:=ba_ aB;have hy:=bm_ aB;rw[←aB];have aX:=bt a9.o U;have h3:=HH.o.below aX;have aj:=aR.o.below U;have x0:=aj.c 0;obtain⟨C,hC⟩:=H w2.heap.size;have br:w.heap.size≤C:=by rw[hC];exact a9.o.size
 have bB:C≠w.heap.size:=by
  have:=aG (aR.o.c 0);have h':w.heap.size<w2.heap.size:=this;omega
 rw[←hC]at hy⊢;obtain⟨a',a4,H3,aW⟩:=zH4 hy aj h3 aX;have bH:w.heap.size≤W3.heap.size:=aX.size;clear aB hy U aX h3 aj a9 aR hC
 by_cases ah:p=19
 ·have u19:((p.toNat:Int)==19)=true:=by rw[ah];rfl
  have HV:=O (show turnsV i (p,a) s=(0,{ s with blocks:=s.blocks++[⟨19,s.kinds,s.kinds,i,false⟩] }) by unfold turnsV;simp[ah]);have c3:=H3.o.c 3;have c4:=H3.o.c 4;obtain⟨nb,cc⟩:∃ nb:Vb,nb=⟨p,s.kinds,s.kinds,i,false⟩:=⟨_,rfl⟩
  have a2:=O cc;have hc:(bY.cell nb)=[.int .u8 p.toNat,s_ s.kinds,.string ⟨#[]⟩,.bool false,F i]:=by rw[cc];rfl
  obtain⟨HC,a5,HP⟩:=zH3 hc H3.o.ob ah;clear cc hc ah;go_upto_region 5 with fail;refine gF bY s.blocks nb 18 [(4,.exact _ (.slice ab s.blocks.length cb)),(5,kM bY W3.heap.size s.blocks nb),(7,.exact _ (.int .u8 p.toNat)),(11,.exact _ (s_ s.kinds)),(14,jr bY W3.heap.size s.blocks nb),(15,kL bY W3.heap.size s.blocks nb)] q_ q_ ?_;simp only[Jw,JE,Ju,JF];refine cG ?_;refine gl1_ c4 ?_;refine gk_ (kM bY W3.heap.size s.blocks nb) (fun w' G hB hS hG=>?_) (fun x K hK=>?_)
  ·exact Lg
  obtain⟨ad,c⟩:=x;refine cO ?_;clear hK K;refine gl1_ x0 ?_;refine gl1_ c3 ?_;refine gk_ (jr bY W3.heap.size s.blocks nb) (fun w' G hB hS hG=>?_) (fun (bb:Nat) K hK=>?_)
  ·go_simp;exact kF hG (by rw[HC.o]) hB.size
  refine cO ?_;clear hK K;refine gk_ (kL bY W3.heap.size s.blocks nb) (fun w' G hB hS hG=>?_) (fun y K hK=>?_)
  ·exact Lf
  obtain⟨aQ,c2⟩:=y;refine cO ?_;clear hK K;refine eQ ?_;intro w5 aN aF;have t:bY.Own w5 W3.heap.size (.slice aQ (s.blocks.length+1) c2) (s.blocks++[nb]):=mn aF;have h5:=H3.o.below aN;have c4:=h5.c 4;have f4:=h5.free (k:=4) d_;have J:=H3.o.freshB aN (I6 _) t;obtain⟨W7,ao⟩:=H (w5.setCell ⟨G,4,none⟩ (.slice aQ (s.blocks.length+1) c2));have ai:Chg (fun x=>x=G) w5 W7:=by rw[ao];exact Chg.set1R
  have aT:=a4.o.below aN;have a3:=aT.chg ai (by show ¬(w.heap.size=G);omega);have x0:=a3.c 0;rw[←ao]at J;have H7:=O J.1;have c3:=J.1.c 3;have f3:=J.1.free (k:=3) d_;have aK:=O ((aW.o.mono E).trans (J.2.mono (I6 _)));have b0:=O ao;clear aN aF t h5 J ai aT a3 ao;go_upto_region 6 with fail;rw[←b0.o];clear c4 f4;go_wp2_with fail;go_ret;exact⟨by rw[HV.o];rfl,(fun _=>⟨_,by rw[HV.o];have:=H7.o;rw[a2.o,HP.o]at this;exact this⟩),aK.o⟩
 by_cases B:p=22
 ·have u19:((p.toNat:Int)==19)=false:=aH d_ ah
  have u22:((p.toNat:Int)==22)=true:=by rw[B];rfl
  have HV:=O (show turnsV i (p,a) s=(0,{ s with blocks:=s.blocks++[⟨22,s.kinds,s.kinds,i,false⟩],kinds:=s.kinds++[84] }) by unfold turnsV;simp[B]);have c3:=H3.o.c 3;have c4:=H3.o.c 4;obtain⟨nb,cc⟩:∃ nb:Vb,nb=⟨p,s.kinds,s.kinds,i,false⟩:=⟨_,rfl⟩
  have a2:=O cc;have hc:(bY.cell nb)=[.int .u8 p.toNat,s_ s.kinds,.string ⟨#[]⟩,.bool false,F i]:=by rw[cc];rfl
  obtain⟨HC,a5,HP⟩:=zH3 hc H3.o.ob B;clear cc hc B;go_upto_region 5 with fail;refine gF bY s.blocks nb 18 [(4,.exact _ (.slice ab s.blocks.length cb)),(5,kM bY W3.heap.size s.blocks nb),(7,.exact _ (.int .u8 p.toNat)),(11,.exact _ (s_ s.kinds)),(14,jr bY W3.heap.size s.blocks nb),(15,kL bY W3.heap.size s.blocks nb)] q_ q_ ?_;simp only[Jw,JE,Ju,JF];refine cG ?_;refine gl1_ c4 ?_;refine gk_ (kM bY W3.heap.size s.blocks nb) (fun w' G hB hS hG=>?_) (fun x K hK=>?_)
  ·exact Lg
  obtain⟨ad,c⟩:=x;refine cO ?_;clear hK K;refine gl1_ x0 ?_;refine gl1_ c3 ?_;refine gk_ (jr bY W3.heap.size s.blocks nb) (fun w' G hB hS hG=>?_) (fun (bb:Nat) K hK=>?_)
  ·go_simp;exact kF hG (by rw[HC.o]) hB.size
  refine cO ?_;clear hK K;refine gk_ (kL bY W3.heap.size s.blocks nb) (fun w' G hB hS hG=>?_) (fun y K hK=>?_)
  ·exact Lf
  obtain⟨aQ,c2⟩:=y;refine cO ?_;clear hK K;refine eQ ?_;intro w5 aN aF;have t:bY.Own w5 W3.heap.size (.slice aQ (s.blocks.length+1) c2) (s.blocks++[nb]):=mn aF;have h5:=H3.o.below aN;have c4:=h5.c 4;have f4:=h5.free (k:=4) d_;have J:=H3.o.freshB aN (I6 _) t;obtain⟨W7,ao⟩:=H (w5.setCell ⟨G,4,none⟩ (.slice aQ (s.blocks.length+1) c2));have ai:Chg (fun x=>x=G) w5 W7:=by rw[ao];exact Chg.set1R
  have aT:=a4.o.below aN;have a3:=aT.chg ai (by show ¬(w.heap.size=G);omega);have x0:=a3.c 0;rw[←ao]at J;have H7:=O J.1;have c3:=J.1.c 3;have f3:=J.1.free (k:=3) d_;have aK:=O ((aW.o.mono E).trans (J.2.mono (I6 _)));have b0:=O ao;clear aN aF t h5 J ai aT a3 ao;go_upto_region 6 with fail;rw[←b0.o];clear c4 f4;go_wp2_with fail;go_ret;have h9:=H7.o.kinds (s.kinds++[84]);exact⟨by rw[HV.o];rfl,(fun _=>⟨_,by rw[HV.o];have:=h9.1;rw[a2.o,HP.o]at this;exact this⟩),aK.o.trans h9.2⟩
 by_cases ac:p=20
 ·have u19:((p.toNat:Int)==19)=false:=aH d_ ah
  have u22:((p.toNat:Int)==22)=false:=aH d_ B;have u20:((p.toNat:Int)==20)=true:=by rw[ac];rfl
  have a0:=a1.o (.inl ac)
  have q:s.blocks.getLast?=some ap:=by
   exact Lh
  have X:ap∈s.blocks:=List.mem_of_getLast? q;have be:=(cp.o ap X).1;have aa:0<s.blocks.length:=List.length_pos_of_mem X;obtain⟨nb,cc⟩:∃ nb:Vb,nb={ ap with want:=s.kinds,at_:=i,did:=true }:=⟨_,rfl⟩
  have HV:=O (show turnsV i (p,a) s=(0,{ s with ends:=s.ends.set ap.at_ (i:Int),blocks:=s.blocks.dropLast++[nb],kinds:=ap.opn }) by unfold turnsV;rw[q,cc];simp[ac]);have a2:=O (show rbV nb=.agg #[.int .u8 ap.op.toNat,s_ ap.opn,s_ s.kinds,.bool true,F i] by rw[cc];rfl);obtain⟨ge,rfl⟩:=H3.o.oe.at0 Y;have aJ:=HH.o.oe.ltV ge rfl;have al:=fun e=>HH.o.a3 ge rfl e;obtain⟨⟨v0,e0⟩,ef⟩:=H3.o.oe.freeR (k:=ap.at_) (by show ap.at_<s.ends.length*1;omega);have c5:=H3.o.c 6;have y4:=a'.o.c 4;have q0:0≤(ap.at_:Int):=Y;have q1:(ap.at_:Int)<s.ends.length:=Y;have q2:(s.ends.length:Int)≤256:=Y;clear cc q X ac a0;go_upto_region 9 with fail;go_region;obtain⟨W4,bw⟩:=H (W3.setCell ⟨ge,ap.at_,none⟩ (F i));have ar:Chg (fun k=>k=ge) W3 W4:=by rw[bw];exact Chg.setCell _ _ _ rfl
  have aV:bD.Own W4 bZ (.slice (some ⟨ge,0,none⟩) s.ends.length ce) (s.ends.set ap.at_ (i:Int)):=by
   exact Li
  have h4:=H3.o.chgE (l:=s.ends.set ap.at_ (i:Int)) (ar.mono (fun k (hk:k=ge)=>by rw[hk];rfl)) aV;rw[←bw];have af:B_ bZ W3 W4.drew:=h4.2.trans ((b_drew W4).mono (Jc (Jc E bH) ar.size));have H4:=O (h4.1.below (b_drew W4));have aC:=O ((a'.o.chg ar (by show ¬(C=ge);omega)).below (b_drew W4));have ba:=O ((aW.o.mono E).trans af);clear bw ar aV h4 af e0 c5 ef;obtain⟨W5,aE⟩:=H W4.drew;rw[←aE]at H4 aC ba;rw[←aE];clear aE x0 y4;have c3:=H4.o.c 3;obtain⟨y0,y1⟩:=cl2 aC.o;go_upto_region 10 with fail;refine aU 11 [(2,.exact _ (.int .u8 ap.op.toNat)),(4,.exact _ (s_ ap.opn)),(8,.exact _ (s_ s.kinds))] q_ q_ ?_;simp only[Jw,JE,Ju,JF];refine cG ?_;refine gl_ y0 ?_;refine gl_ y1 ?_;refine gl_ c3 ?_;refine eQ ?_;intro w6 bx bd;have h6:=H4.o.below bx;have a6:=O (Dw nb h6 hl aa);rw[a2.o]at a6;have bl:=O (aC.o.below bx);have bn:=O (ba.o.trans (bx.mono (Jc E ba.o.size)));clear bx bd h6 c3 y0 y1;go_upto_region 11 with(go_at_call 138;refine a6.o.mono ?_;rintro e w7⟨⟨vv,rfl⟩,⟨bC,h7⟩,ai⟩;have H7:=O h7;have bm:=O (bl.o.chg ai (show ¬(C=G) by omega));have bA:=O ai;clear h7 ai);have y1:=bm.o.c 1;have c3:=H7.o.c 3;have f3:=H7.o.free (k:=3) d_;have au:bZ≤w6.heap.size:=Jc E bn.o.size;go_wp2_with fail;go_ret;have h9:=H7.o.kinds ap.opn;exact⟨by rw[HV.o];rfl,(fun _=>⟨_,by rw[HV.o];exact h9.1⟩),(bn.o.trans (bA.o.below (fun x (hx:x=G)=>by have:=H7.o.gb;omega) au)).trans h9.2⟩
 by_cases D:p=21
 ·have u19:((p.toNat:Int)==19)=false:=aH d_ ah
  have u22:((p.toNat:Int)==22)=false:=aH d_ B;have u20:((p.toNat:Int)==20)=false:=aH d_ ac;have u21:((p.toNat:Int)==21)=true:=by rw[D];rfl
  have a0:=a1.o (.inr D)
  have q:s.blocks.getLast?=some ap:=by
   exact Lh
  have X:ap∈s.blocks:=List.mem_of_getLast? q;have be:=(cp.o ap X).1;have aa:0<s.blocks.length:=List.length_pos_of_mem X;have y1:=a'.o.c 1;have y2:=a'.o.c 2;have y3:=a'.o.c 3;have c3:=H3.o.c 3
  by_cases hd:ap.did=true
  ·have M:iz ap=ap.want:=by unfold iz;rw[if_pos hd]
   rw[M]at y2;exact Le
  ·have hd:ap.did=false:=by simpa using hd
   have M:ap.opn=ap.want:=(bi.o ap X hd).symm;rw[M]at y1;exact Le
 have u19:((p.toNat:Int)==19)=false:=aH d_ ah;have u22:((p.toNat:Int)==22)=false:=aH d_ B;have u20:((p.toNat:Int)==20)=false:=aH d_ ac;have u21:((p.toNat:Int)==21)=false:=aH d_ D;have HV:=O (show turnsV i (p,a) s=(0,s) by unfold turnsV;simp[ah,B,ac,D]);clear ah B ac D;go_wp2_with fail;go_ret;exact⟨by rw[HV.o];rfl,(fun _=>⟨_,by rw[HV.o];exact H3.o⟩),aW.o.mono E⟩
end
theorem BC {texts:LL_}{I:LJ_}(h:16<texts.length):dH texts I=false:=by unfold dH;rw[decide_eq_false Y];simp
theorem BD {texts:LL_}{I:LJ_}(h:256<I.length):dH texts I=false:=by unfold dH;rw[decide_eq_false (show ¬I.length≤256 by omega)];simp
theorem BB {texts:LL_}{I:LJ_}(k:Nat)(h:k<texts.length)(h1:64<texts[k].length):dH texts I=false:=by
 have:texts.all (fun s=>decide (s.length≤64))=false:=lH k h (decide_eq_false Y);unfold dH;rw[this];simp
theorem DP {texts:LL_}{I:LJ_}(k:Nat)(h:k<I.length)(h1:bw I[k]=false):dH texts I=false:=by
 have:I.all bw=false:=lH k h h1;unfold dH;rw[this];simp
theorem Fg {texts:LL_}{I:LJ_}(h1:texts.length≤16)(h2:I.length≤256)(h3:∀ k (h:k<texts.length),texts[k].length≤64)(h4:∀ k (h:k<I.length),bw I[k]=true):dH texts I=true:=by
 have e3:texts.all (fun s=>decide (s.length≤64))=true:=nB (fun k h=>decide_eq_true (h3 k h));have e4:I.all bw=true:=nB h4;unfold dH;rw[e3,e4,decide_eq_true h1,decide_eq_true h2];rfl
theorem Lj {T:Prop} (h:T:=by
 go_enter func97,ntmps97;go_upto_region 1 with fail;rw[←aA];clear aA;go_wp2_with fail;go_ret;exact⟨by rw[HV.o];rfl,a_.o⟩
):T:=h
theorem yp (tv cv:V_)(texts:LL_)(I:LJ_)(w:Z)(ht:aP.Row w tv texts)(hc:bH.Row w cv I)(aC:texts.length≤140737488355328)(cg:I.length≤140737488355328)(hm:∀ s∈texts,s.length≤140737488355328):R_ 97 #[.agg #[tv,cv]] w (.bool (dH texts I)):=by
 obtain⟨ak,ct,rfl,-,o⟩:=au ht;obtain⟨ac,cc,rfl,-,bm⟩:=aj hc;obtain⟨HM,x,bz⟩:=zH3 hm o bm;obtain⟨W1,aA⟩:=H (w.alloc (.cells #[.slice ak texts.length ct,.slice ac I.length cc] 25));have a8:=ba_ aA;have hx:=bm_ aA;obtain⟨x0,x1⟩:=cl2 hx;have a_:=O a8;have HX:=O hx;obtain⟨mv,c⟩:=H (dH texts I);have a:=O c;have r:(texts.length:Int)≤140737488355328:=Y;have E:(I.length:Int)≤140737488355328:=Y;rw[←c];clear ht hc o bm hm a8 hx c
 by_cases N:16<texts.length
 ·have t1:16<(texts.length:Int):=Y
  have HV:=O (a.o.trans (BC N));clear N;exact Lj
 ·have t1:¬16<(texts.length:Int):=Y
  by_cases u:256<I.length
  ·have t2:256<(I.length:Int):=Y
   have HV:=O (a.o.trans (BD u));clear N u;exact Lj
  ·have t2:¬256<(I.length:Int):=Y
   have f:=Fg (texts:=texts) (I:=I) Y Y;have br:=O f;clear f;go_enter func97,ntmps97;go_upto_region 1 with fail;rw[←aA];clear aA;go_wp2_with fail
   go_loop [3] (fun v=>∃ i:Nat,v=F i∧i≤texts.length∧Hid (∀ k (h:k<texts.length),k<i→texts[k].length≤64)) (fun v=>texts.length-(intOf v).toNat)
   case atStart=>exact⟨0,rfl,Jl _,fun k _ h=>absurd h Y⟩
   case round =>
    obtain⟨i,rfl,hi,d⟩:=hrel
    by_cases h0:i<texts.length
    ·obtain⟨b,aL,rfl,d0⟩:=x.o i h0
     have d0:=IF a_.o d0;have j:=nn_ i;have l:(i:Int)<texts.length:=Y;have bj:=HM.o texts[i] (Jz h0)
     by_cases M:64<texts[i].length
     ·have t3:(64:Int)<(texts[i].length:Int):=Y
      have HV:=O (a.o.trans (BB i h0 M));clear M;go_wp2_with fail;go_ret;exact⟨by rw[HV.o];rfl,a_.o⟩
     ·have t3:¬(64:Int)<(texts[i].length:Int):=Y
      have HN:=O (show ∀ k (h:k<texts.length),k<i+1→texts[k].length≤64 from fun k h hk=>by
       by_cases e:k=i
       ·subst e;omega
       ·exact d.o k h Y)
      clear M d;go_wp2_with fail
      go_round
      case rel=>exact⟨i+1,by go_num,by omega,HN.o⟩
      case measure=>simp[intOf];omega
    ·obtain rfl:i=texts.length:=Y
     have e0:¬(texts.length:Int)<texts.length:=Y;clear h0;go_wp2_with fail
     go_loopw [4] (fun v wr=>∃ i:Nat,v=F i∧i≤I.length∧Hid (∀ k (h:k<I.length),k<i→bw I[k]=true)∧Hid (Bw_ W1 wr)) (fun v _=>I.length-(intOf v).toNat)
     case atStart=>exact⟨0,rfl,Jl _,fun k _ h=>absurd h Y,Ja _ _⟩
     case round =>
      obtain⟨i,rfl,hi,cK,g⟩:=hrel;have x1:=(HX.o.below g.o).c 1
      by_cases h0:i<I.length
      ·obtain⟨b,aL,rfl,d0,d1⟩:=bz.o i h0
       have d0:=IF (bt a_.o g.o) d0;have d1:=IF (bt a_.o g.o) d1;have j:=nn_ i;have l:(i:Int)<I.length:=Y;have bi:=O (DA I[i] wr);obtain⟨ap,hq⟩:=H (bw I[i]);rw[←hq]at bi;have HQ:=O hq;clear hq
       cases ap with
       | false =>
        have HV:=O (a.o.trans (DP i h0 HQ.o.symm));go_wp2_with fail;refine mB_ bi.o g fun w2 a9=>?_;go_wp2_with fail;go_ret;exact⟨by rw[HV.o];rfl,bt a_.o a9.o⟩
       | true =>
        have HN:=O (show ∀ k (h:k<I.length),k<i+1→bw I[k]=true from fun k h hk=>by
         by_cases e:k=i
         ·subst e;exact HQ.o.symm
         ·exact cK.o k h Y)
        go_wp2_with fail;refine mB_ bi.o g fun w2 a9=>?_;go_wp2_with fail;go_roundw
        case rel=>exact⟨i+1,by go_num,by omega,HN.o,a9.o⟩
        case measure=>simp[intOf];omega
      ·obtain rfl:i=I.length:=Y
       have e1:¬(I.length:Int)<I.length:=Y;have HV:=O (a.o.trans (br.o (fun k h=>d.o k h h) (fun k h=>cK.o k h h)));clear h0;go_wp2_with fail;go_ret;exact⟨by rw[HV.o];rfl,bt a_.o g.o⟩
def WD (s:Vs):Prop:=∀ b∈s.blocks,b.did=false→b.want=b.opn
theorem WD.one {nt ai:Nat}{ag:U8_}{i n:Nat}{x:VI}{s:Vs}(h:WD s)(hI:lK n s)(h0:(cq nt ai ag i x s).1=0):WD (cq nt ai ag i x s).2:=by
 obtain⟨hs,-,-⟩:=ln hI.kl h0;intro b hb hd;rcases hs with ⟨_,k,_,bo,_⟩|⟨_,r,c,hl,bo,_⟩|⟨_,r,c,hl,_,bo,_⟩|⟨_,bo,_⟩<;>rw[bo]at hb
 ·rcases Jt.1 hb with hb|hb
  ·exact h b hb hd
  ·rw[Jp]at hb;subst hb;rfl
 ·rcases Jt.1 hb with hb|hb
  ·exact h b (by rw[hl];exact Jt.2 (.inl hb)) hd
  ·rw[Jp]at hb;subst hb;cases hd
 ·exact h b (by rw[hl];exact Jt.2 (.inl hb)) hd
 ·exact h b hb hd
section
variable {w w3:Z}{bZ G:Nat}{tv cv bv sv ev:V_}{ag:U8_}{s:Vs}
theorem RG.start (w:Z)(tv cv:V_)(ag:U8_)(bZ:Nat)(hb:bZ≤w.heap.size):RG (w.alloc (.cells #[tv,cv,.int .u8 ag.toNat,.string ⟨#[]⟩,e_,e_,e_,F 0] 178)) bZ w.heap.size tv cv ag ⟨[],[],[],[],0⟩ (e_) (e_) (e_) :=
 ⟨Blk.new w ([tv,cv,.int .u8 ag.toNat,.string ⟨#[]⟩,e_,e_,e_,F 0]:LV_) _,Rec.Own.nil _ _,Rec.Own.nil _ _,Rec.Own.nil _ _,hb,(fun b hb=>by cases hb),(fun b hb=>by cases hb),(fun b hb=>by cases hb)⟩
theorem RG.freshE {o:Nat}{a:V_}{l:LI_}(h:RG w bZ G tv cv ag s bv sv ev)(hB:Bw_ w w3)(aa:w.heap.size≤o)(ho:bD.Own w3 o a l):RG (w3.setCell ⟨G,6,none⟩ a) bZ G tv cv ag { s with ends:=l } bv sv a∧B_ bZ w (w3.setCell ⟨G,6,none⟩ a):=by
 have E:=Jc h.gb (JA h.blk.lt);have aC:=h.blk.lt;have h3:=h.below hB;have hs:Chg (fun k=>k=G) w3 (w3.setCell ⟨G,6,none⟩ a):=Chg.setCell _ _ _ rfl;have nb:∀ b,a.ownBlock=some b→w.heap.size≤b:=fun b hb=>Jc aa (Rec.Own.ltV ho b hb).1;refine⟨⟨h3.blk.set 6 a,h3.ob.chgV hs (fun k hk=>(h.a1 k hk).1),h3.os.chgV hs (fun k hk=>(h.a2 k hk).1),(ho.chgV hs (fun k hk=>by have:=nb k hk;omega)).baseLe (Jc E aa),h.gb,?_,?_,?_⟩,?_⟩
 ·intro b hb
  refine⟨(h.a1 b hb).1,(h.a1 b hb).2.1,fun e=>?_⟩;have:=nb b e;have:=(h.ob.ltV b hb).2;omega
 ·intro b hb
  refine⟨(h.a2 b hb).1,fun e=>?_⟩;have:=nb b e;have:=(h.os.ltV b hb).2;omega
 ·intro b hb
  have:=nb b hb;omega
 ·exact(hB.mono E).trans (hs.below (fun k hk=>by have:=h.gb;omega) (Jc E hB.size))
theorem lK.mid {n:Nat}{x:VI}(h:lK n s):lK (n+1) { s with seen:=s.seen++[s.kinds],kinds:=(aK s.kinds x).2 } :=
 ⟨h.bl,(kq (x:=x) h.kl).1,h.bs,h.el,by show(s.seen++[s.kinds]).length≤n+1;have:=h.sl;simp;omega,h.dl⟩
end
def GoR (w':Z)(tv cv:V_)(ag:U8_)(T:Nat×Nat×Vs)(e:Ending):Prop :=
 ∃ G bZ bv sv ev,e=.returned (.tuple #[p_ G,.int .i64 T.1,.int .i64 T.2.1])∧(T.2.1=0→RG w' bZ G tv cv ag T.2.2 bv sv ev)
theorem Lk {T:Prop} (h:T:=by
 go_wp2_with fail;go_ret3;exact⟨⟨G,0,.slice none 0 0,.slice none 0 0,.slice none 0 0,by rw[HE.o];rfl,(fun e=>by rw[HE.o]at e;cases e)⟩,bt a_.o HB.o⟩
):T:=h
theorem Ll {T:Prop} (h:T:=by
 have HE:=O (HT.o.trans (gp br.o (r:=(I.length,0,s)) (by rw[ah.o,HO.o]) rfl));clear hr hb hk D;go_wp2_with fail;go_ret3;exact⟨⟨G,_,_,_,_,by rw[HE.o];rfl,(fun _=>by rw[HE.o];exact HV.o)⟩,bt a_.o HB.o⟩
):T:=h
theorem Lm {T:Prop} (h:T:=by
 go_ret3;exact⟨⟨G,0,.slice none 0 0,.slice none 0 0,.slice none 0 0,by rw[HE.o];rfl,(fun e=>by rw[HE.o]at e;cases e)⟩,bt a_.o aW.o⟩
):T:=h
theorem Ln {T:Prop} (h:T:=by
 have v1:0<(s.blocks.length:Int):=by omega
 have HO:=O (show overV ag s=132 by unfold overV;rw[if_pos hb]);have HE:=O (HT.o.trans (bX br.o (r:=(I.length,132,s)) (by rw[ah.o,HO.o]) (fun e=>by cases e)));clear hr hb;exact Lk
):T:=h
theorem Lp {T:Prop} (h:T:=by
 have HE:=O (HT.o.trans (bX br.o (r:=(I.length,130,s)) (by rw[ah.o,HO.o]) (fun e=>by cases e)));clear hr hb hk;exact Lk
):T:=h
theorem mJ (tv cv:V_)(texts:LL_)(I:LJ_)(ag:U8_)(w:Z)(ht:aP.Row w tv texts)(hc:bH.Row w cv I)(aC:texts.length≤1000)(cg:I.length≤5000)(hm:∀ s∈texts,s.length≤140737488355328):C_ 71 #[.agg #[tv,cv],.int .u8 ag.toNat] w fun e w'=>GoR w' tv cv ag (az texts I ag) e∧Bw_ w w':=by
 have bN:=O (fun w' (hB:Bw_ w w')=>yp tv cv texts I w' (ht.below hB) (hc.below hB) Y Y hm);obtain⟨ak,ct,rfl,-,-⟩:=au ht;obtain⟨ac,cc,rfl,-,X⟩:=aj hc;have cK:=O X;clear ht hc X hm;obtain⟨W1,aA⟩:=H (w.alloc (.cells #[.slice ak texts.length ct,.slice ac I.length cc] 25));have a8:=ba_ aA;have hx:=bm_ aA;obtain⟨W2,ae⟩:=H (W1.alloc (.cells #[.slice ak texts.length ct,.slice ac I.length cc,.int .u8 ag.toNat,.string ⟨#[]⟩,e_,e_,e_,F 0] 178));obtain⟨G,hG⟩:=H W1.heap.size;have bI:RG W2 W1.heap.size G (.slice ak texts.length ct) (.slice ac I.length cc) ag ⟨[],[],[],[],0⟩ (e_) (e_) (e_):=by rw[ae,hG];exact RG.start W1 _ _ ag _ (I6 _)
 have aY:=ba_ ae;have HX:=O hx;obtain⟨x0,x1⟩:=cl2 hx;obtain⟨a_,a9,H2⟩:=zH3 a8 aY bI;have bA:w.heap.size<G:=by rw[hG];exact aG x0
 have bJ:=tX I.length Y;obtain⟨E0,av⟩:=H ((bD.cells (List.replicate I.length 0)).toArray);rw[←av]at bJ;have a0:=O av;clear av;clear a8 aY bI hx;obtain⟨T,hT⟩:=H (az texts I ag);rw[←hT];have HT:=O hT;have a7:=O (Bk ag);clear hT;go_enter func71,ntmps71;go_upto_region 1 with fail;rw[←aA];clear aA;go_upto_region 2 with fail;rw[←ae,←hG];have cI:=O hG;clear ae hG;have x0:=IF a9.o x0;have x1:=IF a9.o x1
 by_cases c:dH texts I=true
 ·rw[c]at bN
  by_cases ad:dX ag=true
  ·rw[ad]at a7
   have br:=O (show(dH texts I&&dX ag)=true by rw[c,ad];rfl);obtain⟨N,u,bg⟩:=D2 c;have bo:=O bg;clear c ad bg;go_upto_region 4 with(first|(go_at_call 97;refine(bN.o _ (bt a_.o a9.o)).mono ?_;rintro e w3⟨rfl,al⟩;obtain⟨H3,a4,aW⟩:=zH3 (H2.o.below al) ((HX.o.below a9.o).below al) (bt a9.o al);clear al)|(go_at_call 98;refine(a7.o _).mono ?_;rintro e w4⟨rfl,rfl⟩));have bQ:=H3.o.below (af w4 (.cells E0 3));have c6:=bQ.c 6;have f6:=bQ.free (k:=6) d_;have x1:=a4.o.c 1;have x4:=(a4.o.below (af w4 (.cells E0 3))).c 1;have bF:=H3.o.freshE (af w4 (.cells E0 3)) (I6 _) (by have:=qx w4 I.length w4.heap.size Y (I6 _);rw[←a0.o]at this;exact this);have bE:Chg (fun x=>x=G) w4 ((w4.alloc (.cells E0 3)).setCell ⟨G,6,none⟩ (.slice (some ⟨w4.heap.size,0,none⟩) I.length I.length)):=(Chg.alloc _ _ _).trans Chg.set1R;have aT:=a4.o.chg bE (by show ¬(w.heap.size=G);omega);go_upto_region 5 with fail;obtain⟨w5,aE⟩:=H ((w4.alloc (.cells E0 3)).setCell ⟨G,6,none⟩ (.slice (some ⟨w4.heap.size,0,none⟩) I.length I.length));obtain⟨ev,aV⟩:∃ ev:V_,ev=.slice (some ⟨w4.heap.size,0,none⟩) I.length I.length:=⟨_,rfl⟩
   rw[←aE]at bF aT⊢;rw[←aV]at bF;obtain⟨H5,aJ,a'⟩:=zH3 bF.1 (aW.o.trans bF.2) aT;clear bQ c6 f6 x0 x1 x4 bF bE aT aE aV bJ H3 a4 aW H2 a9 bN a7;go_wp2_with fail
   go_loopw [8] (fun t wr=>∃ (i:Nat) (s:Vs) (bv sv:V_),t=F i∧i≤I.length∧Hid (fF texts.length (inputsV ag) ag i (I.drop i) s=fF texts.length (inputsV ag) ag 0 I (bd I.length))∧Hid (RG wr W1.heap.size G (.slice ak texts.length ct) (.slice ac I.length cc) ag s bv sv ev)∧Hid (lK i s)∧Hid (WD s)∧Hid (s.ends.length=I.length)∧Hid (Bw_ W1 wr)) (fun t _=>I.length-(intOf t).toNat)
   case atStart=>exact⟨0,bd _,_,_,rfl,Jl _,rfl,H5.o,nF _ u,(fun b hb=>by simp[bd]at hb),by simp[bd,Hid],aJ.o⟩
   case round =>
    obtain⟨i,s,bv,sv,rfl,hi,HR,HV,y,bi,aO,HB⟩:=hrel;have x1:=(HX.o.below HB.o).c 1
    by_cases h0:i<I.length
    ·obtain⟨⟨ab,cb,bn⟩,⟨a3,cs,z⟩,_⟩:=HV.o.slices
     subst bn z;obtain⟨b,aL,rfl,d0,d1⟩:=cK.o i h0;have ar:=nn_ i;have a5:(i:Int)<I.length:=Y;obtain⟨HP,aB,bC,j⟩:=zH4 (bo.o i h0) d0 d1 (JP h0);have bp:=HV.o.below (b_drew wr);have bB:W1.heap.size≤wr.drew.heap.size:=Jc HB.o.size (b_drew wr).size;have aS:(s.seen.length+1)*16≤140737488355328:=by have:=y.o.sl;omega
     have aw:=bp.os;have bz:G<wr.heap.size:=HV.o.blk.lt;have c5:=HV.o.c 5;have c3:=HV.o.c 3;have bb:=O bp;clear bp d0 d1;go_upto_region 8 with fail
     go_cut [] (fun wx=>∃ V,Hid (RG wx W1.heap.size G (.slice ak texts.length ct) (.slice (some ⟨b,aL,none⟩) I.length cc) ag { s with seen:=s.seen++[s.kinds] } (.slice ab s.blocks.length cb) V ev)∧Hid (Bw_ W1 wx))
     case first =>
      go_region_law (refine aP.step_append1V wr.drew s.kinds rfl _ _ 22 rfl underlying22 W1.heap.size (.slice a3 s.seen.length cs) s.seen rfl aw _ rfl _ rfl _ rfl aS bB ?_;intro g gc w3 M aI A;have a6:=bb.o.newS (V:=.slice (some ⟨g,0,none⟩) (s.seen.length+1) gc) aI (fun k hk=>by cases hk;exact A) M;have aX:Blk w3 G 178 _:=bb.o.blk.chg aI (fun e=>(bb.o.a2 G e).1 rfl);have f5:=aX.free (k:=5) i_;have bx:=aX.c 5;have HN:=O a6;clear a6 aX M aI A)
      all_goals
       go_wp2_with fail
       go_meet
       case rel=>exact⟨_,HN.o.1,((HB.o.trans ((b_drew wr).mono HB.o.size))).trans HN.o.2⟩
     case rest =>
      obtain⟨V,HG,bw⟩:=hcut;clear c5 c3 aw bB aS;have aZ:=bt a_.o bw.o;have e0:=IF aZ aB.o;have e1:=IF aZ bC.o;have x1:=(HX.o.below bw.o).c 1;have bj:=y.o.bl;obtain⟨ap,hq⟩:=H (thereV texts.length (inputsV ag) ag s.blocks I[i]);have ay:=O (yq I[i] texts.length ct ak HG.o (by show s.blocks.length≤1000;omega) Y);rw[show thereV texts.length (inputsV ag) ag ({ s with seen:=s.seen++[s.kinds] }:Vs).blocks I[i]=ap from hq.symm]at ay;have HQ:=O hq;clear hq aZ;go_wp2_with fail;refine ay.o.mono ?_;rintro e w2⟨rfl,ax⟩;have e0:=IF ax e0;have e1:=IF ax e1;have x1:=IF ax x1;have H2:=O (HG.o.below ax);have a9:=O (bt bw.o ax);clear ax ay
      by_cases l:ap=0
      ·have q1:((ap:Int)==0)=true:=by rw[l];rfl
       have L:=O (show thereV texts.length (inputsV ag) ag s.blocks I[i]=0 by rw[←HQ.o,l]);clear l;obtain⟨x,hx⟩:=H (aK s.kinds I[i]);have ao:=O (vF I[i] HP.o H2.o (by show s.kinds.length≤1000;have:=y.o.kl;omega));rw[show aK ({ s with seen:=s.seen++[s.kinds] }:Vs).kinds I[i]=x from hx.symm]at ao;have aR:=O hx;clear hx;go_wp2_with fail;refine ao.o.mono ?_;rintro e w3⟨rfl,W,al⟩;have aW:=O (a9.o.trans al);have aZ:=a_.o.trans (aW.o.mono a_.o.size);have e0:=IF aZ aB.o;have e1:=IF aZ bC.o;have x1:=(HX.o.below aW.o).c 1;have H3:=O W;clear W al aZ ao
       by_cases B:x.1=0
       ·have q2:((x.1:Int)==0)=true:=by rw[B];rfl
        have a1:=O (show(aK s.kinds I[i]).1=0 by rw[←aR.o,B]);have d:=O (iZ L.o);have bh:=O (y.o.mid (x:=I[i]));rw[←aR.o]at bh;obtain⟨r,hr⟩:=H (turnsV i I[i] { s with seen:=s.seen++[s.kinds],kinds:=x.2 });have a2:=O (Bo i I[i] (H3.o B) bh.o Y bi.o d.o.1);rw[←hr]at a2
        have q:=O (show cq texts.length (inputsV ag) ag i I[i] s=(r.1,{ r.2 with deep:=max s.deep r.2.kinds.length }) by
         unfold cq;rw[L.o,a1.o,←aR.o,←hr]
         rfl)
        have cm:=O (show r.2.deep=s.deep by rw[hr,n9]);have cQ:r.2.kinds.length≤17:=by rw[hr];exact mz (fun b hb=>(y.o.bs b hb).2) (by show x.2.length≤16;exact bh.o.kl)
        clear hr B;go_wp2_with fail;refine a2.o.mono ?_;rintro e w4⟨rfl,U,aQ⟩;have ba:=O (aW.o.trans aQ);clear aQ a2 e0 e1 x1
        by_cases aa:r.1=0
        ·have q3:((r.1:Int) != 0)=false:=by rw[aa];rfl
         obtain⟨bG,U⟩:=U aa;have c7:=U.c 7;have c3:=U.c 3;have H4:=O U;have E:=O (lK.one (nt:=texts.length) (ai:=inputsV ag) (ag:=ag) (x:=I[i]) y.o (by rw[aO.o];exact h0) (by rw[q.o];exact aa));have bk:=O (bi.o.one (nt:=texts.length) (ai:=inputsV ag) (ag:=ag) (i:=i) (x:=I[i]) y.o (by rw[q.o];exact aa));rw[q.o]at E bk;have ah:=O (show fF texts.length (inputsV ag) ag (i+1) (I.drop (i+1)) { r.2 with deep:=max s.deep r.2.kinds.length }=fF texts.length (inputsV ag) ag 0 I (bd I.length) by rw[←HR.o,j.o,pp (by rw[q.o];exact aa),q.o]);have d1:(s.deep:Int)≤16:=by have:=y.o.dl;omega
         have d2:(r.2.kinds.length:Int)≤17:=Y;rw[cm.o]at c7;clear U aa cQ HR j;go_upto_region 16 with fail;refine aU 13 [(4,.exact _ (F s.deep)),(8,.exact _ (s_ r.2.kinds))] q_ q_ ?_;simp only[Jw,JE,Ju,JF];refine cG ?_
         repeat(refine gE_ (fun w' G hB hS hG=>?_) (fun K hK=>?_);(have v0:=IF hB c7;have v1:=IF hB c3;go_simp;exact hG _ (Bel.refl _));refine cO ?_;clear hK K)
         refine eQ ?_;intro w5 aN aF;have h5:=H4.o.below aN;have f7:=h5.free (k:=7) d_;have bm:=h5.c 7;have be:=h5.deep (max s.deep r.2.kinds.length);have bf:=O be;have aJ:=O (ba.o.trans (aN.mono ba.o.size));clear h5 be aN aF c7 c3;rw[show(max (s.deep:Int) (r.2.kinds.length:Int))=((max s.deep r.2.kinds.length:Nat):Int) by omega];go_wp2_with fail;go_roundw
         case rel=>exact⟨i+1,_,_,_,by go_num,by omega,ah.o,bf.o.1,E.o.1,bk.o,E.o.2.trans aO.o,aJ.o.trans bf.o.2⟩
         case measure=>simp[intOf];omega
        ·have q3:((r.1:Int) != 0)=true:=by rw[bne_iff_ne];omega
         have HE:=O (HT.o.trans (bX br.o (r:=(i,r.1,{ r.2 with deep:=max s.deep r.2.kinds.length })) (by rw[←HR.o,j.o,jk (by rw[q.o];exact aa),q.o]) aa));have bO:=O aa;clear aa U cQ HR j;go_wp2_with fail;go_ret3;exact⟨⟨G,0,e_,e_,e_,by rw[HE.o];rfl,(fun e=>by rw[HE.o]at e;exact absurd e bO.o)⟩,a_.o.trans (ba.o.mono a_.o.size)⟩
       ·have q2:((x.1:Int)==0)=false:=by rw[beq_eq_false_iff_ne];omega
        have q3:((x.1:Int) != 0)=true:=by rw[bne_iff_ne];omega
        have q:=O (show cq texts.length (inputsV ag) ag i I[i] s=(x.1,{ s with seen:=s.seen++[s.kinds] }) by unfold cq;rw[L.o,←aR.o,if_neg i_,if_pos B]);have HE:=O (HT.o.trans (bX br.o (r:=(i,x.1,{ s with seen:=s.seen++[s.kinds] })) (by rw[←HR.o,j.o,jk (by rw[q.o];exact B),q.o]) B));have bO:=O B;clear B HR j;go_wp2_with fail;go_ret3;exact⟨⟨G,0,e_,e_,e_,by rw[HE.o];rfl,(fun e=>by rw[HE.o]at e;exact absurd e bO.o)⟩,a_.o.trans (aW.o.mono a_.o.size)⟩
      ·have q1:((ap:Int)==0)=false:=by rw[beq_eq_false_iff_ne];omega
       have q3:((ap:Int) != 0)=true:=by rw[bne_iff_ne];omega
       have q:=O (show cq texts.length (inputsV ag) ag i I[i] s=(ap,{ s with seen:=s.seen++[s.kinds] }) by unfold cq;rw[←HQ.o,if_pos l]);have HE:=O (HT.o.trans (bX br.o (r:=(i,ap,{ s with seen:=s.seen++[s.kinds] })) (by rw[←HR.o,j.o,jk (by rw[q.o];exact l),q.o]) l));have bO:=O l;clear l HR j;go_wp2_with fail;go_ret3;exact⟨⟨G,0,e_,e_,e_,by rw[HE.o];rfl,(fun e=>by rw[HE.o]at e;exact absurd e bO.o)⟩,a_.o.trans (a9.o.mono a_.o.size)⟩
    ·obtain rfl:i=I.length:=Y
     have ah:=O (show fF texts.length (inputsV ag) ag 0 I (bd I.length)=(I.length,overV ag s,s) by rw[←HR.o,List.drop_length,mD]);obtain⟨⟨ab,cb,bn⟩,_,_⟩:=HV.o.slices;subst bn;have c4:=HV.o.c 4;have c3:=HV.o.c 3;have bK:(s.kinds.length:Int)≤16:=by have:=y.o.kl;omega
     have b8:(s.blocks.length:Int)≤8:=by have:=y.o.bl;omega
     have n0:¬(I.length:Int)<I.length:=Y;clear h0 HR
     by_cases hr:ag=1
     ·have u1:((ag.toNat:Int)==1)=true:=by rw[hr];rfl
      by_cases hb:0<s.blocks.length
      ·exact Ln
      ·have v1:¬0<(s.blocks.length:Int):=Y
       by_cases hk:s.kinds.length=0
       ·have v2:((s.kinds.length:Int) != 0)=false:=by rw[hk];rfl
        have D:s.kinds=[]:=I7 hk;have HO:=O (show overV ag s=0 by unfold overV gB;rw[if_neg hb,if_pos hr,D];simp);exact Ll
       ·have v2:((s.kinds.length:Int) != 0)=true:=by rw[bne_iff_ne];omega
        have HO:=O (show overV ag s=130 by unfold overV gB;rw[if_neg hb,if_pos hr,if_pos yzB]);exact Lp
     ·have u1:((ag.toNat:Int)==1)=false:=aH d_ hr
      by_cases hb:0<s.blocks.length
      ·exact Ln
      ·have v1:¬0<(s.blocks.length:Int):=Y
       by_cases hk:s.kinds.length=1
       ·have v2:((s.kinds.length:Int) != 1)=false:=by rw[hk];rfl
        by_cases D:s.kinds=[84]
        ·have v3:(s.kinds != [84])=false:=by rw[D];rfl
         have m:(s.kinds==[84])=true:=by rw[D];rfl
         have HO:=O (show overV ag s=0 by unfold overV gB;rw[if_neg hb,if_neg hr,if_neg (by rw[hk];decide),if_neg (by rw[D];simp)]);exact Ll
        ·have v3:(s.kinds != [84])=true:=by simpa using D
         have m:(s.kinds==[84])=false:=by simpa using D
         have HO:=O (show overV ag s=131 by unfold overV gB;rw[if_neg hb,if_neg hr,if_neg (by rw[hk];decide),if_pos D]);have HE:=O (HT.o.trans (bX br.o (r:=(I.length,131,s)) (by rw[ah.o,HO.o]) (fun e=>by cases e)));clear hr hb hk D;exact Lk
       ·have v2:((s.kinds.length:Int) != 1)=true:=by rw[bne_iff_ne];omega
        have HO:=O (show overV ag s=130 by unfold overV gB;rw[if_neg hb,if_neg hr,if_pos yzB]);exact Lp
  ·have HE:=O (HT.o.trans (gE (texts:=texts) (I:=I) (ag:=ag) (by simp[ad])))
   have bq:dX ag=false:=by simpa using ad
   rw[bq]at a7;clear c ad bq;go_wp2_with (first|(go_at_call 97;refine mB_ (bN.o _ (bt a_.o a9.o)) a9 fun w3 aW=>?_)|(go_at_call 98;refine(a7.o _).mono ?_;rintro e w4⟨rfl,rfl⟩));exact Lm
 ·have HE:=O (HT.o.trans (gE (texts:=texts) (I:=I) (ag:=ag) (by simp[c])))
  have bl:dH texts I=false:=by simpa using c
  rw[bl]at bN;clear c bl;go_wp2_with (go_at_call 97;refine mB_ (bN.o _ (bt a_.o a9.o)) a9 fun w3 aW=>?_);exact Lm