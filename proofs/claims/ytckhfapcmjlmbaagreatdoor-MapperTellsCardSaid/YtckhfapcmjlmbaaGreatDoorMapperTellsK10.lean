/- Lemmas for MapperTells: walks, plain laws. -/
import Derived.BigRegion
import Derived.Test.YtckhfapcmjlmbaaGreatDoorMapperTellsK9
set_option linter.unusedSimpArgs false
set_option linter.unusedVariables false
set_option maxRecDepth 100000
set_option maxHeartbeats 16000000
namespace Go.Proofs.YtckhfapcmjlmbaaGreatDoor
open Go.RowKit Oct
section
attribute [local irreducible] wpG
theorem ag {w:World}{v:Value}{l:List VI}(h:bp.Row w v l):∃ a cap,v=.slice a l.length cap∧l.length≤cap∧∀ k (hk:k<l.length),∃ b off,a=some ⟨b,off,none⟩∧w.cell? ⟨b,off+k*2,none⟩=some (.int .u8 (l[k].1.toNat:Int))∧w.cell? ⟨b,off+k*2+1,none⟩=some (.int .u8 (l[k].2.toNat:Int)):=by
 obtain⟨a,cap,hv,hle,hc⟩:=h.open;refine⟨a,cap,hv,hle,fun k hk=>?_⟩;obtain⟨b,off,ha,hu⟩:=hc k hk;exact⟨b,off,ha,hu 0 _ rfl,hu 1 _ rfl⟩
theorem js {α:Type}{f:α→Bool}{l:List α}(k:Nat)(h:k<l.length)(hk:f l[k]=false):l.all f=false:=by
 rw[List.all_eq_false];exact⟨l[k],DY h,by rw[hk];simp⟩
theorem kS {α:Type}{f:α→Bool}{l:List α}(h:∀ k (hk:k<l.length),f l[k]=true):l.all f=true:=by
 rw[List.all_eq_true];intro t ht;obtain⟨k,hk,rfl⟩:=List.getElem_of_mem ht;exact h k hk
theorem EJ {T:Prop} (h:T:=by
 rw[←hq]at HBD;have HQ:=zH hq;clear hq
 cases q with
 | false =>
  go_wp2_with fail;refine HBD.o.mono ?_;rintro e w1 ⟨rfl,hB1⟩;have HB1:=zH (bt hB.o hB1);clear hB1;go_wp2;go_ret;exact⟨⟨_,rfl,by rw[js i h0 HQ.o.symm];simp⟩,HB1.o⟩
 | true =>
  go_wp2_with fail;refine HBD.o.mono ?_;rintro e w1 ⟨rfl,hB1⟩;have HB1:=zH (bt hB.o hB1);clear hB1;go_wp2;go_roundw
  case rel =>
   refine⟨i+1,by omega,by go_num,?_,HB1.o⟩;intro j hj hji
   by_cases e:j=i
   ·subst e;exact HQ.o.symm
   ·exact hH.o j hj (by omega)
  case measure=>simp[intOf];omega
):T:=h
theorem EN {T:Prop} (h:T:=by
 obtain rfl:i=l.length:=by omega
 go_wp2;go_ret;exact⟨⟨_,rfl,by rw[HF.o];rfl⟩,hB.o⟩
):T:=h
theorem uh (v:Value)(l:LL_)(w:World)(hr:aK.Row w v l)(hl:l.length≤140737488355328)(hm:∀ s∈l,s.length≤140737488355328):Calls Tryz.prog 161 #[v,.func (.func 208) #[] #[]] w fun e w'=>(∃ i:Int,e=.returned (.int .i64 i)∧decide (0≤i)=!l.all eN)∧Bw_ w w':=by
 obtain⟨a,cap,rfl,_,hc⟩:=an hr;have HC:=zH hc;have HM:=zH hm;clear hc hr hm;go_enter Tryz.func161,Tryz.ntmps161;go_wp2
 go_loopw [8] (fun t wr=>∃ i:Nat,i≤l.length∧t=.int .i64 (i:Int)∧Hid (∀ j (hj:j<l.length),j<i→eN l[j]=true)∧Hid (Below w.heap.size w wr)) (fun t _=>l.length-(intOf t).toNat)
 case atStart=>exact⟨0,by omega,rfl,fun j _ h=>absurd h (by omega),DF _ _⟩
 case round =>
  obtain⟨i,hi,rfl,hH,hB⟩:=hrel
  by_cases h0:i<l.length
  ·obtain⟨b,off,rfl,c0⟩:=HC.o i h0
   have e0:=C8 hB.o c0;clear c0;have kk0:=nn_ i;have kk1:(i:Int)<(l.length:Int):=by omega
   have hml:=HM.o l[i] (DY h0);have HBD:=zH (zj l[i] wr hml);clear hml;obtain⟨q,hq⟩:=ex_ (eN l[i]);exact EJ
  ·have HF:=zH (kS (f:=eN) fun k hk=>hH.o k hk (by omega))
   exact EN
theorem EL {T:Prop} (h:T:=by
 clear hi;go_wp2;go_ret;exact⟨by rw[←HQ.o];simp[hi'],HB1.o⟩
):T:=h
theorem oz (v:Value)(l:LL_)(w:World)(hr:aK.Row w v l)(hl:l.length≤140737488355328)(hm:∀ s∈l,s.length≤140737488355328):Calls Tryz.prog 116 #[v,.func (.func 208) #[] #[]] w fun e w'=>e=.returned (.bool (!l.all eN))∧Bw_ w w':=by
 have hix:=uh v l w hr hl hm;obtain⟨a,cap,rfl,_,_⟩:=an hr;have HIX:=zH hix;clear hix hr hm;go_enter Tryz.func116,Tryz.ntmps116;go_wp2_with fail;refine HIX.o.mono ?_;rintro e w1 ⟨⟨i,rfl,hi⟩,hB1⟩;have HB1:=zH hB1;clear hB1;obtain⟨q,hq⟩:=ex_ (!l.all eN);rw[←hq]at hi;have HQ:=zH hq;clear hq
 cases q with
 | false =>
  have hi':¬(0:Int)≤i:=of_decide_eq_false hi;exact EL
 | true =>
  have hi':(0:Int)≤i:=of_decide_eq_true hi;exact EL
theorem qf (v:Value)(l:List VI)(w:World)(hr:bp.Row w v l)(hl:l.length≤140737488355328):Calls Tryz.prog 228 #[v,.func (.func 209) #[] #[]] w fun e w'=>(∃ i:Int,e=.returned (.int .i64 i)∧decide (0≤i)=!l.all aZ)∧Bw_ w w':=by
 obtain⟨a,cap,rfl,_,hc⟩:=ag hr;have HC:=zH hc;clear hc hr;go_enter Tryz.func228,Tryz.ntmps228;go_wp2
 go_loopw [8] (fun t wr=>∃ i:Nat,i≤l.length∧t=.int .i64 (i:Int)∧Hid (∀ j (hj:j<l.length),j<i→aZ l[j]=true)∧Hid (Below w.heap.size w wr)) (fun t _=>l.length-(intOf t).toNat)
 case atStart=>exact⟨0,by omega,rfl,fun j _ h=>absurd h (by omega),DF _ _⟩
 case round =>
  obtain⟨i,hi,rfl,hH,hB⟩:=hrel
  by_cases h0:i<l.length
  ·obtain⟨b,off,rfl,c0,c1⟩:=HC.o i h0
   have e0:=C8 hB.o c0;have e1:=C8 hB.o c1;clear c0 c1;have kk0:=nn_ i;have kk1:(i:Int)<(l.length:Int):=by omega
   have HBD:=zH (uy l[i] wr);obtain⟨q,hq⟩:=ex_ (aZ l[i]);exact EJ
  ·have HF:=zH (kS (f:=aZ) fun k hk=>hH.o k hk (by omega))
   exact EN
theorem me (v:Value)(l:List VI)(w:World)(hr:bp.Row w v l)(hl:l.length≤140737488355328):Calls Tryz.prog 211 #[v,.func (.func 209) #[] #[]] w fun e w'=>e=.returned (.bool (!l.all aZ))∧Bw_ w w':=by
 have hix:=qf v l w hr hl;obtain⟨a,cap,rfl,_,_⟩:=ag hr;have HIX:=zH hix;clear hix hr;go_enter Tryz.func211,Tryz.ntmps211;go_wp2_with fail;refine HIX.o.mono ?_;rintro e w1 ⟨⟨i,rfl,hi⟩,hB1⟩;have HB1:=zH hB1;clear hB1;obtain⟨q,hq⟩:=ex_ (!l.all aZ);rw[←hq]at hi;have HQ:=zH hq;clear hq
 cases q with
 | false =>
  have hi':¬(0:Int)≤i:=of_decide_eq_false hi;exact EL
 | true =>
  have hi':(0:Int)≤i:=of_decide_eq_true hi;exact EL
theorem zb (texts:LL_)(code:List VI):cK texts code=(decide (texts.length≤16)&&decide (code.length≤256)&&texts.all eN&&code.all aZ):=rfl
theorem EK {T:Prop} (h:T:=by
 go_enter Tryz.func174,Tryz.ntmps174;go_upto_region 1 with fail;rw[←hW1];clear hW1;go_wp2_with fail;refine(HT.o _ HB1.o).mono ?_;rintro e w2 ⟨rfl,hB2⟩;have HB2:=zH (bt HB1.o hB2);have y0:=C8 hB2 x0;have y1:=C8 hB2 x1;clear hB2 x0 x1;go_wp2_with fail;refine(HCC.o _ HB2.o).mono ?_;rintro e w3 ⟨rfl,hB3⟩;have HB3:=zH (bt HB2.o hB3);clear hB3 y0 y1;go_wp2_with fail;go_ret;exact⟨by rw[HE.o];rfl,HB3.o⟩
):T:=h
theorem EM {T:Prop} (h:T:=by
 go_enter Tryz.func174,Tryz.ntmps174;exact GM
):T:=h
theorem nX (tv cv:Value)(texts:LL_)(code:List VI)(w:World)(ht:aK.Row w tv texts)(hc:bp.Row w cv code)(hlt:texts.length≤140737488355328)(hlc:code.length≤140737488355328)(hm:∀ s∈texts,s.length≤140737488355328):Calls Tryz.prog 174 #[.agg #[tv,cv]] w fun e w'=>e=.returned (.int .i64 (if cK texts code=true then 0 else 2))∧Bw_ w w':=by
 have HT:=zH (fun w' (hB:Below w.heap.size w w')=>oz tv texts w' (ht.below hB) hlt hm);have HCC:=zH (fun w' (hB:Below w.heap.size w w')=>me cv code w' (hc.below hB) hlc);obtain⟨at_,ct,rfl,_,_⟩:=an ht;obtain⟨ac,cc,rfl,_,_⟩:=ag hc;obtain⟨qt,hqt⟩:∃ q,q=texts.all eN:=⟨_,rfl⟩
 obtain⟨qc,hqc⟩:∃ q,q=code.all aZ:=⟨_,rfl⟩
 have hM:=zb texts code;rw[←hqt,←hqc]at hM;rw[←hqt]at HT;rw[←hqc]at HCC;obtain⟨r,hr⟩:∃ r:Int,r=if cK texts code=true then 0 else 2:=⟨_,rfl⟩
 rw[←hr];rw[hM]at hr;have HM:=zH hr;clear hr hM hqt hqc ht hc hm;obtain⟨W1,hW1⟩:=ex_ (w.alloc (.cells #[.slice at_ texts.length ct,.slice ac code.length cc] 25));have hb1:=ba_ hW1;have hx:=bm_ hW1;obtain⟨x0,x1⟩:=cl2 hx;have HB1:=zH hb1;clear hx hb1
 by_cases h1:texts.length≤16
 ·have q1:¬(16:Int)<(texts.length:Int):=by omega
  by_cases h2:code.length≤256
  ·have q2:¬(256:Int)<(code.length:Int):=by omega
   cases qt with
   | false =>
    have HE:=zH (show r=2 by rw[HM.o];simp);go_enter Tryz.func174,Tryz.ntmps174;go_upto_region 1 with fail;rw[←hW1];clear hW1;go_wp2_with fail;refine(HT.o _ HB1.o).mono ?_;rintro e w2 ⟨rfl,hB2⟩;have HB2:=zH (bt HB1.o hB2);have y0:=C8 hB2 x0;have y1:=C8 hB2 x1;clear hB2 x0 x1;go_wp2_with fail;go_ret;exact⟨by rw[HE.o];rfl,HB2.o⟩
   | true =>
    cases qc with
    | false =>
     have HE:=zH (show r=2 by rw[HM.o];simp);exact EK
    | true =>
     have HE:=zH (show r=0 by rw[HM.o];simp[h1,h2]);exact EK
  ·have q2:(256:Int)<(code.length:Int):=by omega
   have HE:=zH (show r=2 by rw[HM.o];simp[h2]);exact EM
 ·have q1:(16:Int)<(texts.length:Int):=by omega
  have HE:=zH (show r=2 by rw[HM.o];simp[h1]);exact EM
theorem jo_ {w:World}{t1 c1 t2 c2 t3 c3:Value}{l1 l3 l5:LL_}{l2 l4 l6:List VI}(h1:aK.Row w t1 l1)(h2:bp.Row w c1 l2)(h3:aK.Row w t2 l3)(h4:bp.Row w c2 l4)(h5:aK.Row w t3 l5)(h6:bp.Row w c3 l6):∃ ta tc ca cc ta2 tc2 ca2 cc2 ta3 tc3 ca3 cc3,t1=.slice ta l1.length tc∧c1=.slice ca l2.length cc∧t2=.slice ta2 l3.length tc2∧c2=.slice ca2 l4.length cc2∧t3=.slice ta3 l5.length tc3∧c3=.slice ca3 l6.length cc3:=by
 obtain⟨a1,b1,e1,-,-⟩:=an h1;obtain⟨a2,b2,e2,-,-⟩:=ag h2;obtain⟨a3,b3,e3,-,-⟩:=an h3;obtain⟨a4,b4,e4,-,-⟩:=ag h4;obtain⟨a5,b5,e5,-,-⟩:=an h5;obtain⟨a6,b6,e6,-,-⟩:=ag h6;exact⟨a1,b1,a2,b2,a3,b3,a4,b4,a5,b5,a6,b6,e1,e2,e3,e4,e5,e6⟩
end
section
attribute [local irreducible] wpG
theorem ix (n:Nat):bf.cells (List.replicate n 0)=List.replicate n (.int .i64 0):=by
 induction n with
 | zero=>rfl
 | succ n ih=>rw[List.replicate_succ,List.replicate_succ,←ih];rfl
theorem p7 (n:Nat)(hn:n≤1000000)(w:World):(Instr.makeSlice 98 (.int .i64 (n:Int)) (.int .i64 (n:Int))).run Tryz.prog w=.ok (.slice (some ⟨w.heap.size,0,none⟩) n n) (w.alloc (.cells (bf.cells (List.replicate n 0)).toArray 3)):=by
 have h:=kE (P:=Tryz.prog) 98 3 (.int .i64 0) 8 Tryz.underlying98 (by kernel_rfl) rfl n (by omega) (by omega) w;rw[h,ix]
theorem bo (w:World)(o:Obj):(w.alloc o).heap.size=w.heap.size+1:=Array.size_push ..
theorem ns (w:World)(n bZ:Nat)(hn:n≤1000000)(hb:bZ≤w.heap.size):bf.Own (w.alloc (.cells (bf.cells (List.replicate n 0)).toArray 3)) bZ (.slice (some ⟨w.heap.size,0,none⟩) n n) (List.replicate n 0):=by
 have h1:(List.replicate n (0:Int)).length=n:=D9 ..;have h2:bf.cells (List.replicate n 0)=List.replicate n (.int .i64 0):=ix n;have h3:(1000000:Nat)≤maxLen:=by decide
 have h4:n≤maxLen:=by omega
 show(w.alloc (.cells (bf.cells (List.replicate n 0)).toArray 3)).ownsRow bZ bf.e bf.n (.slice (some ⟨w.heap.size,0,none⟩) n n) (List.replicate n (0:Int)).length (bf.cells (List.replicate n 0));rw[h1,h2];refine⟨by rw[D9];show n=n*1;omega,.inr ⟨w.heap.size,n,(List.replicate n (.int .i64 0)).toArray,rfl,hb,?_,DC _,h4,?_,?_⟩⟩
 ·show(w.heap.push _)[w.heap.size]?=_
  rw[Array.getElem?_push_size]
  rfl
 ·rw[List.size_toArray,D9];show n=n*1;omega
 ·show(List.replicate n (Value.int .i64 0)).take (n*1)=_
  rw[Nat.mul_one,DB (by rw[D9];exact DC _)]
section
variable {w:World}{bZ G:Nat}{tv cv bv sv ev:Value}{ip:Nat}{role:UInt8}{s:Vs}
theorem VG.setInp (h:VG w bZ G tv cv ip role s bv sv ev)(n:Nat):VG (w.setCell ⟨G,2,none⟩ (.int .i64 (n:Int))) bZ G tv cv n role s bv sv ev∧Below bZ w (w.setCell ⟨G,2,none⟩ (.int .i64 (n:Int))):=by
 have hc:Chg (fun x=>x=G) w (w.setCell ⟨G,2,none⟩ (.int .i64 (n:Int))):=Chg.setCell _ _ _ rfl
 have key:∀ {β:Type} (R:Rec β) (x:Value) (l:List β),R.Own w bZ x l→(∀ b,x.ownBlock=some b→b≠G)→R.Own (w.setCell ⟨G,2,none⟩ (.int .i64 (n:Int))) bZ x l:=fun R x l ho hn=>by
  exact Gl
 have hb:=h.blk.set 2 (.int .i64 (n:Int));exact⟨⟨hb,key _ _ _ h.ob (fun b hb=>(h.a1 b hb).1),key _ _ _ h.os (fun b hb=>(h.a2 b hb).1),key _ _ _ h.oe h.a3,h.gb,h.a1,h.a2,h.a3⟩,hc.below (fun x hx=>by have:=h.gb;omega) (DG h.gb (DA h.blk.lt))⟩
end
theorem yj (w:World)(tv cv:Value)(n bZ:Nat)(role:UInt8)(hn:n≤1000000)(hb:bZ≤w.heap.size)(w1 w2:World)(h1:w1=w.alloc (.cells (bf.cells (List.replicate n 0)).toArray 3))(h2:w2=w1.alloc (.cells #[tv,cv,.int .i64 2,.int .u8 (role.toNat:Int),.string ⟨#[]⟩,.slice none 0 0,.slice none 0 0,.slice (some ⟨w.heap.size,0,none⟩) n n,.int .i64 0] 281)):VG w2 bZ (w.heap.size+1) tv cv 2 role (aS n) (.slice none 0 0) (.slice none 0 0) (.slice (some ⟨w.heap.size,0,none⟩) n n):=by
 have hs:w1.heap.size=w.heap.size+1:=by rw[h1,bo]
 refine⟨?_,Rec.Own.nil _ _,Rec.Own.nil _ _,?_,by omega,?_,?_,?_⟩
 ·rw[←hs,h2]
  exact Blk.new w1 ([tv,cv,.int .i64 2,.int .u8 (role.toNat:Int),.string ⟨#[]⟩,.slice none 0 0,.slice none 0 0,.slice (some ⟨w.heap.size,0,none⟩) n n,.int .i64 0]:List Value) _
 ·have ho:=ns w n bZ hn hb
  rw[←h1]at ho;rw[h2];exact ho.below (af _ _)
 ·intro b hb;cases hb
 ·intro b hb;cases hb
 ·intro b hb
  injection hb with hb
  show b≠_;have:w.heap.size=b:=hb;omega
def ThR (w w':World)(tv cv:Value)(role:UInt8)(T:Nat×Nat×Vs)(e:Ending):Prop :=
 ∃ G bZ inp bv sv ev,e=.returned (.tuple #[.pointer (some ⟨G,0,none⟩),.int .i64 (T.1:Int),.int .i64 (T.2.1:Int)])∧VG w' bZ G tv cv inp role T.2.2 bv sv ev∧Below w.heap.size w w'
theorem fa {texts:LL_}{code:List VI}{role:UInt8}(h:(cK texts code&&cY role)=false):aq texts code role=(0,2,aS code.length):=by unfold aq;rw[if_neg (by rw[h];simp)]
theorem bE {texts:LL_}{code:List VI}{role:UInt8}(h:(cK texts code&&cY role)=true){r:Nat×Nat×Vs}(hr:ep texts.length (inputsV role) role 0 code (aS code.length)=r)(h0:r.2.1≠0):aq texts code role=r:=by unfold aq;rw[if_pos h,if_neg (by rw[hr];exact h0),hr]
theorem eS {texts:LL_}{code:List VI}{role:UInt8}(h:(cK texts code&&cY role)=true){r:Nat×Nat×Vs}(hr:ep texts.length (inputsV role) role 0 code (aS code.length)=r)(h0:r.2.1=0):aq texts code role=(0,0,r.2.2):=by unfold aq;rw[if_pos h,if_pos (by rw[hr];exact h0),hr]
theorem kV (n:Nat)(hn:n≤256):jx 0 (aS n):=⟨by simp[aS],by simp[aS],fun b hb=>by simp[aS]at hb,by simp[aS];exact hn,by simp[aS],by simp[aS]⟩
theorem zr {texts:LL_}{code:List VI}(h:cK texts code=true):texts.length≤16∧code.length≤256∧∀ k (hk:k<code.length),code[k].1.toNat<24:=by
 unfold cK at h;simp only[DS,decide_eq_true_eq,List.all_eq_true]at h;obtain⟨⟨⟨h1,h2⟩,h3⟩,h4⟩:=h;refine⟨h1,h2,fun k hk=>?_⟩;have:=h4 _ (DY hk);unfold aZ at this;simp only[DS,decide_eq_true_eq]at this;omega
theorem EO {T:Prop} (h:T:=by
 go_wp2_with fail
 go_loopw [4,39] (fun v4 t wr=>∃ (i:Nat) (s:Vs) (bv sv:Value),v4=.pointer (some ⟨G,0,none⟩)∧t=.int .i64 (i:Int)∧i≤code.length∧Hid (ep texts.length inp role i (code.drop i) s=ep texts.length inp role 0 code (aS code.length))∧Hid (VG wr W1.heap.size G (.slice at_ texts.length ct) (.slice ac code.length cc) inp role s bv sv ev)∧Hid (jx i s)∧Hid (s.ends.length=code.length)∧Hid (Below W1.heap.size W1 wr)) (fun _ t _=>code.length-(intOf t).toNat)
 case atStart=>exact⟨0,aS _,_,_,rfl,rfl,D6 _,rfl,H5.o,kV _ h256,by simp[aS,Hid],HB5.o⟩
 case round =>
  obtain⟨i,s,bv,sv,rfl,rfl,hi,HR,HV,HIV,HEL,HB⟩:=hrel
  by_cases h0:i<code.length
  ·obtain⟨b,off,rfl,d0,d1⟩:=HCI.o i h0
   have hBw:=bt HB1.o HB.o;have e0:=C8 hBw d0;have e1:=C8 hBw d1;have HBW:=zH hBw;have kk0:=nn_ i;have kk1:(i:Int)<(code.length:Int):=by omega
   have HP:=zH (HNI.o i h0);clear d0 d1 hBw;have HA:=zH (af wr (.cells #[.int .u8 (code[i].1.toNat:Int),.int .u8 (code[i].2.toNat:Int)] 127));have HDR:=zH (Dw h0);go_wp2_with fail;refine(uT (HV.o.below HA.o) (HEF.o _ (bt HBW.o HA.o)) HG1.o code[i].1 code[i].2 i HP.o HIV.o (by omega) (by omega) (by first|omega|exact hinp2) (by omega)).mono ?_;rintro e w6 ⟨rfl,⟨bv',sv',hv6⟩,hB6⟩;have HB6:=zH ((bt HB.o HA.o).trans hB6);have HONE:=zH (fun (hz0:(bI texts.length inp role i code[i] s).1=0)=>jx.one (nt:=texts.length) (inp:=inp) (role:=role) (x:=code[i]) HIV.o (by rw[HEL.o];exact h0) hz0);obtain⟨r,hr⟩:=ex_ (bI texts.length inp role i (code[i].1,code[i].2) s);rw[←hr]at hv6⊢;rw[show bI texts.length inp role i code[i] s=r from hr.symm]at HONE;have HRR:=zH (show bI texts.length inp role i code[i] s=r from hr.symm);have H6:=zH hv6;clear hr hv6 hB6 HA
   by_cases hz:r.1=0
   ·have t1:((r.1:Int) != 0)=false:=by rw[bne_eq_false_iff_eq];omega
    obtain⟨hi1,hi2⟩:=HONE.o hz;have HI1:=zH hi1;have HE1:=zH (hi2.trans HEL.o);have HR1:=zH (show ep texts.length inp role (i+1) (code.drop (i+1)) r.2=ep texts.length inp role 0 code (aS code.length) by rw[←HR.o,HDR.o,mj (by rw[HRR.o];exact hz),HRR.o]);clear hz hi1 hi2 HONE HRR HR HDR;go_wp2_with fail;go_roundw
    case rel=>exact⟨i+1,r.2,bv',sv',rfl,by go_num,by omega,HR1.o,H6.o,HI1.o,HE1.o,HB6.o⟩
    case measure=>simp[intOf];omega
   ·have t1:((r.1:Int) != 0)=true:=by rw[bne_iff_ne];omega
    have HE:=zH (bE HOK.o (r:=(i,r.1,r.2)) (by rw[←HIN.o,←HR.o,HDR.o,gK (by rw[HRR.o];exact hz),HRR.o]) hz);clear hz HONE HRR HR HDR;go_wp2_with fail;go_ret3;exact⟨G,_,_,_,_,_,by rw[HE.o];rfl,by rw[HE.o];exact H6.o,bt HB1.o HB6.o⟩
  ·obtain rfl:i=code.length:=by omega
   have HR1:=zH (show ep texts.length inp role 0 code (aS code.length)=(code.length,overV role s,s) by rw[←HR.o,List.drop_length,kf]);have HOV:=zH (rI HV.o (by have:=HIV.o.bl;omega) (by have:=HIV.o.kl;omega));have x1:=C8 HB.o HX1.o;obtain⟨o,ho⟩:=ex_ (overV role s);rw[←ho]at HR1 HOV;clear ho HR;go_wp2_with fail;refine HOV.o.mono ?_;rintro e w6 ⟨rfl,rfl⟩
   by_cases hz:o=0
   ·have t1:((o:Int) != 0)=false:=by rw[bne_eq_false_iff_eq];omega
    have HE:=zH (eS HOK.o (r:=(code.length,o,s)) (by rw[←HIN.o,HR1.o]) hz);clear hz;go_wp2_with fail;go_ret3;exact⟨G,_,_,_,_,_,by rw[HE.o];rfl,by rw[HE.o];exact HV.o,bt HB1.o HB.o⟩
   ·have t1:((o:Int) != 0)=true:=by rw[bne_iff_ne];omega
    have HE:=zH (bE HOK.o (r:=(code.length,o,s)) (by rw[←HIN.o,HR1.o]) hz);clear hz;go_wp2_with fail;go_region;go_wp2_with fail;go_ret3;exact⟨G,_,_,_,_,_,by rw[HE.o];rfl,by rw[HE.o];exact HV.o.below (b_drew _),bt HB1.o (bt HB.o (b_drew _))⟩
):T:=h
theorem EP {T:Prop} (h:T:=by
 go_wp2_with fail;refine(HCK.o _ (bt HB1.o HB2.o)).mono ?_;rintro e w4 ⟨rfl,hB4⟩;have x0:=C8 hB4 x0;have x1:=C8 hB4 x1;have HB4:=zH (bt HB2.o hB4);have H4:=zH (H2.o.below hB4);have hgw:=Dv hgw hB4.size;clear hB4 H2 HB2;go_wp2_with fail;go_ret3;exact⟨G,_,_,_,_,_,by rw[HE.o];rfl,by rw[HE.o];exact H4.o,bt HB1.o HB4.o⟩
):T:=h
theorem ls (tv cv:Value)(texts:LL_)(code:List VI)(role:UInt8)(w:World)(ht:aK.Row w tv texts)(hc:bp.Row w cv code)(hlt:texts.length≤1000)(hlc:code.length≤5000)(hm:∀ s∈texts,s.length≤140737488355328)(hE:jy w)(hg:1<w.heap.size):Calls Tryz.prog 150 #[.agg #[tv,cv],.int .u8 (role.toNat:Int)] w fun e w'=>ThR w w' tv cv role (aq texts code role) e:=by
 have HCK:=zH (fun w' (hB:Below w.heap.size w w')=>nX tv cv texts code w' (ht.below hB) (hc.below hB) (by omega) (by omega) hm);have HEF:=zH (fun w' (hB:Below w.heap.size w w')=>hE.below hB hg);have HG:=zH hg;obtain⟨at_,ct,rfl,-,-⟩:=an ht;obtain⟨ac,cc,rfl,-,hci⟩:=ag hc;have HCI:=zH hci;clear ht hc hci hm hE hg;obtain⟨W1,hW1⟩:=ex_ (w.alloc (.cells #[.slice at_ texts.length ct,.slice ac code.length cc] 25));have hb1:=ba_ hW1;have hs1:W1.heap.size=w.heap.size+1:=by rw[hW1,bo]
 have hx:=bm_ hW1;obtain⟨x0,x1⟩:=cl2 hx;have HB1:=zH hb1;have HX1:=zH x1;have HS1:=zH hs1;have HG1:=zH (show 1<W1.heap.size by have:=HG.o;omega);have hl1:w.heap.size<W1.heap.size:=by omega
 have hmk:=p7 code.length (by omega);obtain⟨E0,hE0⟩:=ex_ ((bf.cells (List.replicate code.length 0)).toArray);rw[←hE0]at hmk;have HE0:=zH hE0;clear hb1 hE0 hs1 hx;go_enter Tryz.func150,Tryz.ntmps150;go_upto_region 1 with fail;rw[←hW1];clear hW1;go_region;clear hmk;go_simp;obtain⟨w2,hw2⟩:=ex_ (((W1.alloc (.cells E0 3)).alloc (.cells #[.slice at_ texts.length ct,.slice ac code.length cc,.int .i64 2,.int .u8 (role.toNat:Int),.string ⟨#[]⟩,.slice none 0 0,.slice none 0 0,.slice (some ⟨W1.heap.size,0,none⟩) code.length code.length,.int .i64 0] 281)).drew)
 have hv2:VG w2 W1.heap.size (W1.heap.size+1) (.slice at_ texts.length ct) (.slice ac code.length cc) 2 role (aS code.length) (.slice none 0 0) (.slice none 0 0) (.slice (some ⟨W1.heap.size,0,none⟩) code.length code.length):=by
  have h:=yj W1 (.slice at_ texts.length ct) (.slice ac code.length cc) code.length W1.heap.size role (by omega) (DC _) _ _ rfl rfl;rw[←HE0.o]at h;rw[hw2];exact h.below (b_drew _)
 have hb2:Below W1.heap.size W1 w2:=by rw[hw2];exact bt (af _ _) (bt (af _ _) (b_drew _))
 rw[←hw2];clear hw2 HE0;have x0:=C8 hb2 x0;have x1:=C8 hb2 x1;have HB2:=zH hb2;have hgw:=hv2.blk.lt;obtain⟨G,hG⟩:=ex_ (W1.heap.size+1);rw[←hG]at hv2 hgw⊢;have hG1:w.heap.size<G:=by omega
 have H2:=zH hv2;have HX0:=zH x0;obtain⟨ev,hev⟩:∃ ev:Value,ev=.slice (some ⟨W1.heap.size,0,none⟩) code.length code.length:=⟨_,rfl⟩
 rw[←hev]at H2;have x1b:=HX1.o;clear hv2 hb2 HS1 hl1 hG hev x1b
 by_cases hmv:cK texts code=true
 ·rw[if_pos hmv]at HCK
  obtain⟨h16,h256,hni⟩:=zr hmv;have HNI:=zH hni;clear hni
  by_cases r1:1≤role.toNat
  ·have q1:¬(role.toNat:Int)<1:=by omega
   by_cases r2:role.toNat≤3
   ·have q2:¬(3:Int)<(role.toNat:Int):=by omega
    have HOK:=zH (show(cK texts code&&cY role)=true by unfold cY;simp[hmv,r1,r2]);clear hmv r1 r2;obtain⟨inp,hinp⟩:=ex_ (inputsV role)
    by_cases r3:role=1
    ·have hi1:inp=1:=by rw[hinp,inputsV,if_pos r3]
     have q3:((role.toNat:Int)==1)=true:=by rw[r3];rfl
     have HIN:=zH hinp;have hinp2:inp≤1000:=by omega
     clear r3 hinp;go_wp2_with fail;refine(HCK.o _ (bt HB1.o HB2.o)).mono ?_;rintro e w4 ⟨rfl,hB4⟩;have x0:=C8 hB4 x0;have x1:=C8 hB4 x1;have HB4:=zH (bt HB2.o hB4);have H4:=zH (H2.o.below hB4);have hgw:=Dv hgw hB4.size;clear hB4 H2 HB2;have f4:=H4.o.free (k:=2) (by omega);have c4:=H4.o.cell (k:=2) rfl;go_upto_region 6 with fail;have h5:=H4.o.setInp 1;obtain⟨w5,hw5⟩:=ex_ (w4.setCell ⟨G,2,none⟩ (.int .i64 1));have hx5:w5.cell? ⟨w.heap.size,1,none⟩=some (.slice ac code.length cc):=by rw[hw5];exact(World.cell?_setCell_other _ _ _ _ (by intro h;injection h with h _ _;omega)).trans x1
     rw[show(Value.int .i64 ((1:Nat):Int))=.int .i64 1 from rfl,←hw5]at h5;rw[←hw5];have hb5:=HB4.o.trans h5.2;clear hw5 x0 x1 f4 c4;have x1:=hx5;rw[←hi1]at h5;have H5:=zH h5.1;have HB5:=zH hb5;clear h5 hb5 H4 HB4 hi1 q1 q2 q3 hx5;exact EO
    ·have hi1:inp=2:=by rw[hinp,inputsV,if_neg r3]
     have q3:((role.toNat:Int)==1)=false:=aC (by decide) r3;have HIN:=zH hinp;have hinp2:inp≤1000:=by omega
     clear r3 hinp;go_wp2_with fail;refine(HCK.o _ (bt HB1.o HB2.o)).mono ?_;rintro e w4 ⟨rfl,hB4⟩;have x0:=C8 hB4 x0;have x1:=C8 hB4 x1;have HB4:=zH (bt HB2.o hB4);have H4:=zH (H2.o.below hB4);have hgw:=Dv hgw hB4.size;clear hB4 H2 HB2;have H5:=zH (show VG w4 W1.heap.size G (.slice at_ texts.length ct) (.slice ac code.length cc) inp role (aS code.length) (.slice none 0 0) (.slice none 0 0) ev by rw[hi1];exact H4.o);have HB5:=HB4;clear H4 HB4 hi1 x0;exact EO
   ·have q2:(3:Int)<(role.toNat:Int):=by omega
    have HE:=zH (fa (texts:=texts) (code:=code) (role:=role) (by unfold cY;simp[r2]));exact EP
  ·have q1:(role.toNat:Int)<1:=by omega
   have HE:=zH (fa (texts:=texts) (code:=code) (role:=role) (by unfold cY;simp[r1]));exact EP
 ·rw[if_neg hmv]at HCK
  have HE:=zH (fa (texts:=texts) (code:=code) (role:=role) (by simp[hmv]));exact EP
end
section
attribute [local irreducible] wpG
structure mh (w:World) (tv cv:Value) (texts:LL_) (code:List VI):Prop where
 t:aK.Row w tv texts
 c:bp.Row w cv code
 lt:texts.length≤1000
 lc:code.length≤5000
 m:∀ s∈texts,s.length≤140737488355328
 e:jy w
 g:1<w.heap.size
theorem mh.below {w w':World}{tv cv:Value}{texts:LL_}{code:List VI}(h:mh w tv cv texts code)(hB:Below w.heap.size w w'):mh w' tv cv texts code :=
 ⟨h.t.below hB,h.c.below hB,h.lt,h.lc,h.m,h.e.below hB h.g,Dv h.g hB.size⟩
theorem jf (tv cv:Value)(texts:LL_)(code:List VI)(role:UInt8)(w:World)(hA:mh w tv cv texts code):Calls Tryz.prog 105 #[.agg #[tv,cv],.int .u8 (role.toNat:Int)] w fun e w'=>e=.returned (.tuple #[.int .i64 ((aq texts code role).1:Int),.int .i64 ((aq texts code role).2.1:Int)])∧Bw_ w w':=by
 obtain⟨at_,ct,rfl,-,-⟩:=an hA.t;obtain⟨ac,cc,rfl,-,-⟩:=ag hA.c;have HT:=zH (fun w' (hB:Below w.heap.size w w')=>ls _ _ texts code role w' (hA.below hB).t (hA.below hB).c hA.lt hA.lc hA.m (hA.below hB).e (hA.below hB).g);obtain⟨W1,hW1⟩:=ex_ (w.alloc (.cells #[.slice at_ texts.length ct,.slice ac code.length cc] 25));have hb1:=ba_ hW1;have hx:=bm_ hW1;obtain⟨x0,x1⟩:=cl2 hx;have HB1:=zH hb1;obtain⟨T,hT⟩:=ex_ (aq texts code role);rw[←hT]at HT⊢;clear hb1 hx hA hT;go_enter Tryz.func105,Tryz.ntmps105;go_upto_region 1 with fail;rw[←hW1];clear hW1;go_wp2_with fail;refine(HT.o _ HB1.o).mono ?_;rintro e w2 ⟨G,bZ,inp,bv,sv,ev,rfl,hv,hb⟩;have HB2:=zH (bt HB1.o hb);clear hb x0 x1 HB1 HT;clear hv;go_wp2_with fail;go_ret2;exact⟨rfl,HB2.o⟩
theorem zU (tv cv:Value)(texts:LL_)(code:List VI)(role:UInt8)(w:World)(hA:mh w tv cv texts code):Calls Tryz.prog 221 #[.agg #[tv,cv],.int .u8 (role.toNat:Int)] w fun e w'=>(∃ v,e=.returned (.tuple #[v,.int .i64 ((aq texts code role).2.1:Int)])∧bf.Row w' v (if (aq texts code role).2.1=0 then (aq texts code role).2.2.ends else []))∧Bw_ w w':=by
 obtain⟨at_,ct,rfl,-,-⟩:=an hA.t;obtain⟨ac,cc,rfl,-,-⟩:=ag hA.c;have HT:=zH (fun w' (hB:Below w.heap.size w w')=>ls _ _ texts code role w' (hA.below hB).t (hA.below hB).c hA.lt hA.lc hA.m (hA.below hB).e (hA.below hB).g);obtain⟨W1,hW1⟩:=ex_ (w.alloc (.cells #[.slice at_ texts.length ct,.slice ac code.length cc] 25));have hb1:=ba_ hW1;have hx:=bm_ hW1;obtain⟨x0,x1⟩:=cl2 hx;have HB1:=zH hb1;obtain⟨T,hT⟩:=ex_ (aq texts code role);rw[←hT]at HT⊢;clear hb1 hx hA hT;go_enter Tryz.func221,Tryz.ntmps221;go_upto_region 1 with fail;rw[←hW1];clear hW1;go_wp2_with fail;refine(HT.o _ HB1.o).mono ?_;rintro e w2 ⟨G,bZ,inp,bv,sv,ev,rfl,hv,hb⟩;have HB2:=zH (bt HB1.o hb);clear hb x0 x1 HB1 HT
 by_cases hz:T.2.1=0
 ·have t1:((T.2.1:Int) != 0)=false:=by rw[bne_eq_false_iff_eq];omega
  have c:=hv.cell (k:=7) rfl;have HV:=zH hv;have HZ:=zH hz;clear hv hz;go_wp2_with fail;go_ret2;exact⟨⟨_,rfl,HV.o.oe.row⟩,HB2.o⟩
 ·have t1:((T.2.1:Int) != 0)=true:=by rw[bne_iff_ne];omega
  have HZ:=zH hz;clear hv hz;go_wp2_with fail;go_ret2;exact⟨⟨_,rfl,(Rec.Own.nil _ 0).row⟩,HB2.o⟩

def uO (texts:LL_)(code:List VI):Nat:=code.length+((texts.take 50).map List.length).sum
def cg (texts:LL_)(code:List VI):Bool:=decide (40<texts.length)||decide (4000<uO texts code)
theorem oK:∀ (l:LL_) (i:Nat) (h:i<l.length),((l.take (i+1)).map List.length).sum=((l.take i).map List.length).sum+l[i].length
 | x::l,0,_=>by simp
 | x::l,i+1,h=>by
  have:=oK l i (by simpa using h);simp only[DQ,List.map_cons,List.sum_cons,DH,this];omega
theorem lP:∀ {l:List Nat} {x:Nat},x∈l→x≤l.sum
 | y::l,x,h=>by
  rw[List.sum_cons];rcases List.mem_cons.1 h with rfl|h
  ·omega
  ·have:=lP h;omega
theorem xh {texts:LL_}{code:List VI}(h:cg texts code=false):texts.length≤40∧code.length≤4000∧∀ s∈texts,s.length≤4000:=by
 unfold cg at h;simp only[Bool.or_eq_false_iff,decide_eq_false_iff_not]at h;obtain⟨h1,h2⟩:=h;unfold uO at h2;rw[DB (by omega)]at h2;refine⟨by omega,by omega,fun s hs=>?_⟩;have:=lP (List.mem_map_of_mem (f:=List.length) hs);omega
theorem EQ {T:Prop} (h:T:=by
 clear h0;go_wp2;go_ret;exact⟨by rw[HL.o];rfl,HB1.o⟩
):T:=h
theorem xJ (tv cv:Value)(texts:LL_)(code:List VI)(w:World)(ht:aK.Row w tv texts)(hcr:bp.Row w cv code)(hl:texts.length≤140737488355328)(hlc:code.length≤140737488355328)(hm:∀ s∈texts,s.length≤140737488355328):Calls Tryz.prog 58 #[.agg #[tv,cv]] w fun e w'=>e=.returned (.bool (cg texts code))∧Bw_ w w':=by
 obtain⟨at_,ct,rfl,-,hct⟩:=an ht;obtain⟨ac,cc,rfl,-,-⟩:=ag hcr;have HM:=zH hm;obtain⟨W1,hW1⟩:=ex_ (w.alloc (.cells #[.slice at_ texts.length ct,.slice ac code.length cc] 25));have hb1:=ba_ hW1;have hx:=bm_ hW1;obtain⟨x0,x1⟩:=cl2 hx;have HC:=zH hct;have HB1:=zH hb1;have lc1:(code.length:Int)≤140737488355328:=by omega
 clear hb1 hx ht hcr hm hct;go_enter Tryz.func58,Tryz.ntmps58;go_upto_region 1 with fail;rw[←hW1];clear hW1;go_wp2_with fail
 go_loop [3,4] (fun vn vi=>∃ i n:Nat,vn=.int .i64 (n:Int)∧vi=.int .i64 (i:Int)∧i≤texts.length∧i≤50∧n≤(i+1)*140737488355328∧Hid (n=code.length+((texts.take i).map List.length).sum)) (fun _ vi=>50-(intOf vi).toNat)
 case atStart=>exact⟨0,code.length,rfl,rfl,by omega,by omega,by omega,by simp[Hid]⟩
 case round =>
  obtain⟨i,n,rfl,rfl,hi,h50,hn,HN⟩:=hrel
  by_cases h0:i<texts.length∧i<50
  ·obtain⟨b,off,rfl,c1⟩:=HC.o i h0.1
   have c1:=C8 HB1.o c1;have hs:=HM.o texts[i] (DY h0.1);have HSM:=zH (oK texts i h0.1);have i0:=nn_ i;have i1:(i:Int)<(texts.length:Int):=by omega
   have i2:(i:Int)<50:=by omega
   have i3:(n:Int)≤14073748835532800:=by omega
   have i4:=nn_ n;have i5:(texts[i].length:Int)≤140737488355328:=by omega
   go_wp2
   go_round
   case rel=>exact⟨i+1,n+texts[i].length,by go_num,by go_num,by omega,by omega,by omega,by unfold Hid;rw[HSM.o,HN.o];omega⟩
   case measure=>simp[intOf];omega
  ·have hfin:n=uO texts code:=by
    rw[HN.o];unfold uO
    by_cases h:i=50
    ·rw[h]
    ·have:i=texts.length:=by omega
     subst this;rw[List.take_length,DB (by omega)]
   have HF:=zH hfin;clear hfin;have i3:(n:Int)≤14073748835532800:=by omega
   by_cases h1:i<texts.length
   ·have i1:(i:Int)<(texts.length:Int):=by omega
    have i2:¬(i:Int)<50:=by omega
    have i4:(40:Int)<(texts.length:Int):=by omega
    have HL:=zH (show cg texts code=true by unfold cg;rw[decide_eq_true (by omega:40<texts.length)];rfl);exact EQ
   ·have i1:¬(i:Int)<(texts.length:Int):=by omega
    by_cases h2:40<texts.length
    ·have i4:(40:Int)<(texts.length:Int):=by omega
     have HL:=zH (show cg texts code=true by unfold cg;rw[decide_eq_true h2];rfl);exact EQ
    ·have i4:¬(40:Int)<(texts.length:Int):=by omega
     by_cases h3:4000<n
     ·have i5:(4000:Int)<(n:Int):=by omega
      have HL:=zH (show cg texts code=true by unfold cg;rw[←HF.o,decide_eq_true h3];simp);exact EQ
     ·have i5:¬(4000:Int)<(n:Int):=by omega
      have HL:=zH (show cg texts code=false by unfold cg;rw[←HF.o,decide_eq_false h3,decide_eq_false h2];rfl);exact EQ
theorem wA {w:World}{v:Value}{l:List Int}(h:bf.Row w v l):∃ a cap,v=.slice a l.length cap∧l.length≤cap∧∀ k (hk:k<l.length),∃ b off,a=some ⟨b,off,none⟩∧w.cell? ⟨b,off+k,none⟩=some (.int .i64 l[k]):=by
 obtain⟨a,cap,hv,hle,hc⟩:=h.open;refine⟨a,cap,hv,hle,fun k hk=>?_⟩;obtain⟨b,off,ha,hu⟩:=hc k hk;have:=hu 0 _ rfl;rw[show bf.n=1 from rfl,Nat.mul_one,Nat.add_zero]at this;exact⟨b,off,ha,this⟩
def rY {α:Type}(R:Rec α)(bZ:Nat)(l:List α):bn Bel :=
 ⟨Option Addr×Nat,fun x=>.slice x.1 l.length x.2,fun x=>some fun w=>R.Own w bZ (.slice x.1 l.length x.2) l,fun _ _ h _ _ hφ hB=>by cases h;exact Rec.Own.below hφ hB⟩
@[go_sem] theorem B8 {α:Type} (R:Rec α) (bZ:Nat) (l:List α) (a:Option Addr) (c:Nat):(rY R bZ l).val (a,c)=.slice a l.length c:=rfl
theorem Rec.Own.baseLe {α:Type}{R:Rec α}{w:World}{b b':Nat}{v:Value}{l:List α}(h:R.Own w b v l)(hb:b'≤b):R.Own w b' v l:=by
 refine⟨h.1,?_⟩;rcases h.2 with h2|⟨g,cap,cur,hv,hg,hr⟩
 ·exact .inl h2
 ·exact .inr ⟨g,cap,cur,hv,DG hb hg,hr⟩
theorem Rec.grow_copy {α:Type}(R:Rec α){o:Oper}{a:Act}{w:World}{G:Value→World→Prop}(s x:Operand)(t:TypeId)(ho:o.op=.call { callee:=.builtin .append,args:=#[s,x],argTypes:=#[t,t] })(ht:Tryz.prog.underlying t=some (.slice R.e))(bZ:Nat)(hs:a.eval s=.slice none 0 0)(vx:Value)(ys:List α)(hr:R.Row w vx ys)(hx:a.eval x=vx)(hbytes:ys.length*R.bytes≤140737488355328)(hbase:bZ≤w.heap.size)(h:∀ A C w',R.Own w' bZ (.slice A ys.length C) ys→Bel w w'→G (.slice A ys.length C) w'):dc Tryz.prog o a w G:=by
 obtain⟨i,hi,hz,hi1,hi2⟩:=info_parts R.info;obtain⟨⟨ax,cap,rfl,hnone,hc⟩,_⟩:=hr;have hown:R.Own w w.heap.size (.slice none 0 0) ([]:List α):=Rec.Own.nil _ _;have hlen:ys.length≤140737488355328:=by have:=Nat.le_mul_of_pos_right ys.length R.bpos;omega
 have hrun:∃ v' w',(Builtin.append_ #[t,t] o.type #[.slice none 0 0,.slice ax ys.length cap]).run Tryz.prog w=.ok v' w'∧R.Own w' bZ v' ys∧Bel w w':=by
  cases ax with
  | none =>
   obtain⟨h0,rfl⟩:=hnone rfl;have h0':ys=[]:=DD h0;subst h0';exact⟨_,w,run_append_owned_none (P:=Tryz.prog) (w:=w) w.heap.size t o.type R.e i R.n ht hi (.slice none 0 0) 0 [] hown,Rec.Own.nil _ _,Bel.refl _⟩
  | some ad =>
   obtain⟨v',w',h1,h2,h3,h4⟩:=lD (P:=Tryz.prog) w w.heap.size t o.type R.e i R.z R.n R.bytes ht hi hz hi1 hi2 R.zs R.pos (.slice none 0 0) 0 [] hown ad ys.length cap (R.cells ys) (R.cells_length ys) (by
    intro j u hj;obtain⟨b,off,ha,hu⟩:=hc j u hj
    cases ha
    rw[Addr.add_lit];exact hu) (R.cells_one ys) (by unfold maxLen;omega) (by rw[DE];exact hbytes) (DC _)
   rw[DE,D5]at h2;exact⟨v',w',h1,Rec.Own.baseLe h2 hbase,(DF w.heap.size w).grown h3 (DC _) (fun k hk=>by cases hk)⟩
 obtain⟨v',w',h1,h2,h3⟩:=hrun;obtain⟨A,C,rfl⟩:=ap h2;unfold dc execOp;simp only[ho,resolve,invoke,builtin,Sem.run_bind,Sem.run_pure,Result.andThen_ok,List.map_toArray,List.map_cons,List.map_nil,hs,hx,h1];exact h A C w' h2 h3
structure je (w:World) (tv cv:Value) (texts:LL_) (code:List VI):Prop where
 t:aK.Row w tv texts
 c:bp.Row w cv code
 lt:texts.length≤140737488355328
 lc:code.length≤140737488355328
 m:∀ s∈texts,s.length≤140737488355328
theorem je.below {w w':World}{tv cv:Value}{texts:LL_}{code:List VI}(h:je w tv cv texts code)(hB:Below w.heap.size w w'):je w' tv cv texts code:=⟨h.t.below hB,h.c.below hB,h.lt,h.lc,h.m⟩
theorem je.large {w:World}{tv cv:Value}{texts:LL_}{code:List VI}(h:je w tv cv texts code):Calls Tryz.prog 58 #[.agg #[tv,cv]] w fun e w'=>e=.returned (.bool (cg texts code))∧Below w.heap.size w w':=xJ tv cv texts code w h.t h.c h.lt h.lc h.m
theorem je.ask {w:World}{tv cv:Value}{texts:LL_}{code:List VI}(h:je w tv cv texts code)(hl:cg texts code=false)(hE:jy w)(hg:1<w.heap.size):mh w tv cv texts code:=by
 obtain⟨h1,h2,h3⟩:=xh hl;exact⟨h.t,h.c,by omega,by omega,fun s hs=>by have:=h3 s hs;omega,hE,hg⟩
theorem Rec.appendNV {α:Type}{ops:Array Oper}{rest:List Oper}{o:Oper}{a:Act}{Q:Exit→Act→World→Prop}(R:Rec α)(w:World)(hgd:o.guard=none)(s x:Operand)(t:TypeId)(ho:o.op=.call { callee:=.builtin .append,args:=#[s,x],argTypes:=#[t,t] })(ht:Tryz.prog.underlying t=some (.slice R.e))(bZ:Nat)(v:Value)(xs:List α)(hown:R.Own w bZ v xs)(hs:a.eval s=v)(vx:Value)(ys:List α)(hr:R.Row w vx ys)(hx:a.eval x=vx)(hbytes:(xs.length+ys.length)*R.bytes≤140737488355328)(hbase:bZ≤w.heap.size)(h:∀ A C w',R.Own w' bZ (.slice A (xs++ys).length C) (xs++ys)→Chg (fun k=>v.ownBlock=some k) w w'→wpList Tryz.prog ops Q rest (a.put o.dst (.slice A (xs++ys).length C)) w'):wpList Tryz.prog ops Q (o::rest) a w:=by
 obtain⟨i,hi,hz,hi1,hi2⟩:=info_parts R.info;have hn:xs.length+ys.length≤(xs.length+ys.length)*R.bytes:=Nat.le_mul_of_pos_right _ R.bpos;obtain⟨⟨ax,cap,rfl,hnone,hc⟩,_⟩:=hr
 cases ax with
 | none =>
  obtain⟨h0,rfl⟩:=hnone rfl;obtain rfl:ys=[]:=DD h0;refine wpList_append_own_none hgd s x t ho bZ R.e i R.n ht hi v xs.length (R.cells xs) hs hown hx ?_;obtain⟨A,C,rfl⟩:=ap hown;have:=h A C w (by rw[DR];exact hown) (Chg.refl _ _);rw[DR]at this;exact this
 | some ad =>
  refine wpList_append_own _ hgd s x t ho bZ R.e i R.z R.n R.bytes ht hi hz hi1 hi2 R.zs R.pos v xs.length (R.cells xs) hs hown ad ys.length cap (R.cells ys) hx (R.cells_length ys) ?_ (R.cells_one ys) (by unfold maxLen;omega) hbytes hbase ?_
  ·exact Gn
  ·intro v' w' h2 h3 _
   have h2':R.Own w' bZ v' (xs++ys):=by unfold Rec.Own;rw[R.cells_append,DL];exact h2
   have hB:Below bZ w w':=(DF bZ w).grown h3 hbase (fun k hk=>(Rec.Own.ltV hown k hk).1);obtain⟨A,C,rfl⟩:=ap h2';exact h A C w' h2' ⟨hB.os,hB.tape,hB.output,hB.size,fun j hj hne=>h3.block j hj (fun e=>hne e.symm)⟩
end
section
attribute [local irreducible] wpG
def fS (b:Vb):LU_:=if b.did=true then b.want else []
def bF:Rec Vb where
 cell b:=[.int .u8 (b.op.toNat:Int),.string (bs b.opn),.string (bs (fS b)),.bool b.did,.int .i64 (b.at_:Int)]
 e:=263
 n:=5
 bytes:=56
 z:=.agg #[.int .u8 0,.string ByteArray.empty,.string ByteArray.empty,.bool false,.int .i64 0]
 len:=fun _=>rfl
 one:=by intro x u h;simp at h;rcases h with rfl|rfl|rfl|rfl|rfl<;>rfl
 info:=by kernel_rfl
 zs:=rfl
 pos:=by decide
 bpos:=by decide
structure RG (w:World) (bZ G:Nat) (tv cv:Value) (role:UInt8) (s:Vs) (bv sv ev:Value):Prop where
 blk:Blk w G 217 [tv,cv,.int .u8 (role.toNat:Int),.string (bs s.kinds),bv,sv,ev,.int .i64 (s.deep:Int)]
 ob:bF.Own w bZ bv s.blocks
 os:aK.Own w bZ sv s.seen
 oe:bf.Own w bZ ev s.ends
 gb:bZ≤G
 a1:∀ b,bv.ownBlock=some b→b≠G∧sv.ownBlock≠some b∧ev.ownBlock≠some b
 a2:∀ b,sv.ownBlock=some b→b≠G∧ev.ownBlock≠some b
 a3:∀ b,ev.ownBlock=some b→b≠G
section
variable {w w':World}{bZ G:Nat}{tv cv bv sv ev:Value}{role:UInt8}{s:Vs}
theorem RG.below (h:RG w bZ G tv cv role s bv sv ev)(hB:Below w.heap.size w w'):RG w' bZ G tv cv role s bv sv ev :=
 ⟨h.blk.below hB,h.ob.below hB,h.os.below hB,h.oe.below hB,h.gb,h.a1,h.a2,h.a3⟩
theorem RG.cell (h:RG w bZ G tv cv role s bv sv ev){k:Nat}{v:Value}(hv:[tv,cv,.int .u8 (role.toNat:Int),.string (bs s.kinds),bv,sv,ev,.int .i64 (s.deep:Int)][k]?=some v):w.cell? ⟨G,k,none⟩=some v:=h.blk.cell hv
theorem RG.free (h:RG w bZ G tv cv role s bv sv ev){k:Nat}(hk:k<8):w.frozen? ⟨G,k,none⟩=false:=h.blk.free hk
theorem RG.setG (h:RG w bZ G tv cv role s bv sv ev)(k:Nat)(v:Value){kinds:LU_}{deep:Nat}(hs:[tv,cv,.int .u8 (role.toNat:Int),.string (bs s.kinds),bv,sv,ev,.int .i64 (s.deep:Int)].set k v=[tv,cv,.int .u8 (role.toNat:Int),.string (bs kinds),bv,sv,ev,.int .i64 (deep:Int)]):RG (w.setCell ⟨G,k,none⟩ v) bZ G tv cv role { s with kinds:=kinds,deep:=deep } bv sv ev∧Below bZ w (w.setCell ⟨G,k,none⟩ v):=by
 have hc:Chg (fun x=>x=G) w (w.setCell ⟨G,k,none⟩ v):=Chg.setCell _ _ _ rfl
 have key:∀ {β:Type} (R:Rec β) (x:Value) (l:List β),R.Own w bZ x l→(∀ b,x.ownBlock=some b→b≠G)→R.Own (w.setCell ⟨G,k,none⟩ v) bZ x l:=fun R x l ho hn=>by
  exact Gl
 have hb:=h.blk.set k v;rw[hs]at hb;exact⟨⟨hb,key _ _ _ h.ob (fun b hb=>(h.a1 b hb).1),key _ _ _ h.os (fun b hb=>(h.a2 b hb).1),key _ _ _ h.oe h.a3,h.gb,h.a1,h.a2,h.a3⟩,hc.below (fun x hx=>by have:=h.gb;omega) (DG h.gb (DA h.blk.lt))⟩
theorem RG.kinds (h:RG w bZ G tv cv role s bv sv ev)(k:LU_):RG (w.setCell ⟨G,3,none⟩ (.string (bs k))) bZ G tv cv role { s with kinds:=k } bv sv ev∧Below bZ w (w.setCell ⟨G,3,none⟩ (.string (bs k))):=h.setG 3 _ rfl
theorem RG.deep (h:RG w bZ G tv cv role s bv sv ev)(d:Nat):RG (w.setCell ⟨G,7,none⟩ (.int .i64 (d:Int))) bZ G tv cv role { s with deep:=d } bv sv ev∧Below bZ w (w.setCell ⟨G,7,none⟩ (.int .i64 (d:Int))):=h.setG 7 _ rfl
end
section
variable {w w' w3:World}{bZ G:Nat}{tv cv bv sv ev bv' sv':Value}{role:UInt8}{s:Vs}
theorem RG.newB (h:RG w bZ G tv cv role s bv sv ev){l:List Vb}(hc:Chg (fun k=>bv.ownBlock=some k) w w3)(hg:∀ k,bv'.ownBlock=some k→bv.ownBlock=some k∨w.heap.size≤k)(ho:bF.Own w3 bZ bv' l):RG (w3.setCell ⟨G,4,none⟩ bv') bZ G tv cv role { s with blocks:=l } bv' sv ev∧Below bZ w (w3.setCell ⟨G,4,none⟩ bv'):=by
 have hs:Chg (fun k=>k=G) w3 (w3.setCell ⟨G,4,none⟩ bv'):=Chg.setCell _ _ _ rfl;have hlt:=h.blk.lt
 have nb:∀ b,bv'.ownBlock=some b→b≠G∧sv.ownBlock≠some b∧ev.ownBlock≠some b:=fun b hb=>by
  exact Gy
 have hb3:Blk w3 G 217 _:=h.blk.chg hc (fun e=>(h.a1 G e).1 rfl);have o1:=(h.os.chgV hc (fun k hk e=>(h.a1 k e).2.1 hk)).chgV hs (fun k hk=>(h.a2 k hk).1);have o2:=(h.oe.chgV hc (fun k hk e=>(h.a1 k e).2.2 hk)).chgV hs (fun k hk=>h.a3 k hk);refine⟨⟨hb3.set 4 bv',ho.chgV hs (fun k hk=>(nb k hk).1),o1,o2,h.gb,nb,h.a2,h.a3⟩,?_⟩;exact(hc.below (fun k hk=>(h.ob.ltV k hk).1) (DG h.gb (DA hlt))).trans (hs.below (fun k hk=>by have:=h.gb;omega) (by have:=hc.size;have:=h.gb;omega))
theorem RG.newS (h:RG w bZ G tv cv role s bv sv ev){l:LL_}(hc:Chg (fun k=>sv.ownBlock=some k) w w3)(hg:∀ k,sv'.ownBlock=some k→sv.ownBlock=some k∨w.heap.size≤k)(ho:aK.Own w3 bZ sv' l):RG (w3.setCell ⟨G,5,none⟩ sv') bZ G tv cv role { s with seen:=l } bv sv' ev∧Below bZ w (w3.setCell ⟨G,5,none⟩ sv'):=by
 have hs:Chg (fun k=>k=G) w3 (w3.setCell ⟨G,5,none⟩ sv'):=Chg.setCell _ _ _ rfl;have hlt:=h.blk.lt
 have nb:∀ b,sv'.ownBlock=some b→b≠G∧ev.ownBlock≠some b∧bv.ownBlock≠some b:=fun b hb=>by
  exact Gu
 have hb3:Blk w3 G 217 _:=h.blk.chg hc (fun e=>(h.a2 G e).1 rfl);have o1:=(h.ob.chgV hc (fun k hk e=>(h.a1 k hk).2.1 e)).chgV hs (fun k hk=>(h.a1 k hk).1);have o2:=(h.oe.chgV hc (fun k hk e=>(h.a2 k e).2 hk)).chgV hs (fun k hk=>h.a3 k hk);refine⟨⟨hb3.set 5 sv',o1,ho.chgV hs (fun k hk=>(nb k hk).1),o2,h.gb,fun b hb=>⟨(h.a1 b hb).1,fun e=>(nb b e).2.2 hb,(h.a1 b hb).2.2⟩,fun b hb=>⟨(nb b hb).1,(nb b hb).2.1⟩,h.a3⟩,?_⟩;exact(hc.below (fun k hk=>(h.os.ltV k hk).1) (DG h.gb (DA hlt))).trans (hs.below (fun k hk=>by have:=h.gb;omega) (by have:=hc.size;have:=h.gb;omega))
theorem RG.chgE (h:RG w bZ G tv cv role s bv sv ev){l:List Int}(hc:Chg (fun k=>ev.ownBlock=some k) w w')(ho:bf.Own w' bZ ev l):RG w' bZ G tv cv role { s with ends:=l } bv sv ev∧Below bZ w w' :=
 ⟨⟨h.blk.chg hc (fun e=>h.a3 G e rfl),h.ob.chgV hc (fun k hk e=>(h.a1 k hk).2.2 e),h.os.chgV hc (fun k hk e=>(h.a2 k hk).2 e),ho,h.gb,h.a1,h.a2,h.a3⟩,hc.below (fun k hk=>(h.oe.ltV k hk).1) (DG h.gb (DA h.blk.lt))⟩
theorem RG.slices (h:RG w bZ G tv cv role s bv sv ev):(∃ ab cb,bv=.slice ab s.blocks.length cb)∧(∃ a1 c1,sv=.slice a1 s.seen.length c1)∧∃ ae ce,ev=.slice ae s.ends.length ce:=⟨ap h.ob,ap h.os,ap h.oe⟩
end
theorem ET {T:Prop} (h:T:=by
 go_enter Tryz.func136,Tryz.ntmps136;go_wp2;go_ret;exact⟨by rw[H.o];rfl,rfl⟩
):T:=h
theorem wI (r:UInt8)(w:World):Calls Tryz.prog 136 #[.int .u8 (r.toNat:Int)] w fun e w'=>e=.returned (.bool (cY r))∧w'=w:=by
 by_cases h1:1≤r.toNat
 ·have t1:(1:Int)≤(r.toNat:Int):=by omega
  by_cases h2:r.toNat≤3
  ·have t2:(r.toNat:Int)≤3:=by omega
   have H:=zH (show cY r=true by unfold cY;rw[decide_eq_true h1,decide_eq_true h2];rfl);clear h1 h2;exact ET
  ·have t2:¬(r.toNat:Int)≤3:=by omega
   have H:=zH (show cY r=false by unfold cY;rw[decide_eq_false h2];simp);clear h1 h2;exact ET
 ·have t1:¬(1:Int)≤(r.toNat:Int):=by omega
  have H:=zH (show cY r=false by unfold cY;rw[decide_eq_false h1];simp);clear h1;exact ET
theorem EV {T:Prop} (h:T:=by
 clear h1;go_enter Tryz.func184,Tryz.ntmps184;go_wp2;go_ret;exact⟨by rw[H.o];rfl,rfl⟩
):T:=h
theorem iM (r:UInt8)(w:World):Calls Tryz.prog 184 #[.int .u8 (r.toNat:Int)] w fun e w'=>e=.returned (.int .i64 (inputsV r:Int))∧w'=w:=by
 by_cases h1:r=1
 ·have t1:((r.toNat:Int)==1)=true:=by rw[h1];rfl
  have H:=zH (show inputsV r=1 by unfold inputsV;rw[if_pos h1]);exact EV
 ·have t1:((r.toNat:Int)==1)=false:=aC (by decide) h1
  have H:=zH (show inputsV r=2 by unfold inputsV;rw[if_neg h1]);exact EV
theorem EU {T:Prop} (h:T:=by
 clear h1;go_enter Tryz.func213,Tryz.ntmps213;go_wp2;go_ret;exact⟨by rw[H.o];rfl,rfl⟩
):T:=h
theorem ru (r:UInt8)(w:World):Calls Tryz.prog 213 #[.int .u8 (r.toNat:Int)] w fun e w'=>e=.returned (.string (bs (gC r)))∧w'=w:=by
 by_cases h1:4≤r.toNat
 ·have t1:¬(r.toNat:Int)<4:=by omega
  have H:=zH (show gC r=[84] by unfold gC;rw[if_pos h1]);exact EU
 ·have t1:(r.toNat:Int)<4:=by omega
  have H:=zH (show gC r=[78] by unfold gC;rw[if_neg h1]);exact EU
theorem ut {p a:UInt8}(h1:p≠1)(h2:p≠2)(h3:p≠3)(h4:p≠4)(h5:p≠5)(h6:p≠6)(h7:p≠7)(h8:p≠8)(h9:p≠9)(h10:p≠10)(h11:p≠11)(h12:p≠12)(h13:p≠13)(h14:p≠14)(h15:p≠15)(h16:p≠16)(h17:p≠17)(h18:p≠18)(h19:p≠19)(h22:p≠22)(h23:p≠23):bG (p,a)=([],[]):=by
 have h:p.toNat=0∨p.toNat=20∨p.toNat=21∨24≤p.toNat:=by
  have e1:p.toNat≠1:=fun e=>h1 (UInt8.toNat_inj.1 e);have e2:p.toNat≠2:=fun e=>h2 (UInt8.toNat_inj.1 e);have e3:p.toNat≠3:=fun e=>h3 (UInt8.toNat_inj.1 e);have e4:p.toNat≠4:=fun e=>h4 (UInt8.toNat_inj.1 e);have e5:p.toNat≠5:=fun e=>h5 (UInt8.toNat_inj.1 e);have e6:p.toNat≠6:=fun e=>h6 (UInt8.toNat_inj.1 e);have e7:p.toNat≠7:=fun e=>h7 (UInt8.toNat_inj.1 e);have e8:p.toNat≠8:=fun e=>h8 (UInt8.toNat_inj.1 e);have e9:p.toNat≠9:=fun e=>h9 (UInt8.toNat_inj.1 e);have e10:p.toNat≠10:=fun e=>h10 (UInt8.toNat_inj.1 e);have e11:p.toNat≠11:=fun e=>h11 (UInt8.toNat_inj.1 e);have e12:p.toNat≠12:=fun e=>h12 (UInt8.toNat_inj.1 e);have e13:p.toNat≠13:=fun e=>h13 (UInt8.toNat_inj.1 e);have e14:p.toNat≠14:=fun e=>h14 (UInt8.toNat_inj.1 e);have e15:p.toNat≠15:=fun e=>h15 (UInt8.toNat_inj.1 e);have e16:p.toNat≠16:=fun e=>h16 (UInt8.toNat_inj.1 e);have e17:p.toNat≠17:=fun e=>h17 (UInt8.toNat_inj.1 e);have e18:p.toNat≠18:=fun e=>h18 (UInt8.toNat_inj.1 e);have e19:p.toNat≠19:=fun e=>h19 (UInt8.toNat_inj.1 e);have e22:p.toNat≠22:=fun e=>h22 (UInt8.toNat_inj.1 e);have e23:p.toNat≠23:=fun e=>h23 (UInt8.toNat_inj.1 e);omega
 unfold bG;rcases h with h|h|h|h
 ·rw[show((p,a):VI).1.toNat=0 from h];rfl
 ·rw[show((p,a):VI).1.toNat=20 from h];rfl
 ·rw[show((p,a):VI).1.toNat=21 from h];rfl
 ·have:dj.getD ((p,a):VI).1.toNat ([],[])=([],[]):=by
   rw[List.getD,List.getElem?_eq_none (by rw[sr];exact h)];rfl
  rw[this];rfl
theorem ER {T:Prop} (h:T:=by
 go_enter Tryz.func185,Tryz.ntmps185;go_wp2;go_ret2;exact⟨rfl,hb⟩
):T:=h
theorem ES {T:Prop} (h:T:=by
 go_enter Tryz.func185,Tryz.ntmps185;go_wp2_with (go_at_call 213;refine(ru a _).mono ?_;rintro e w1 ⟨rfl,rfl⟩);go_ret2;exact⟨by first|rfl|(unfold bG gC;split<;>rfl),hb⟩
):T:=h
theorem rA (x:VI)(w:World):Calls Tryz.prog 185 #[.agg #[.int .u8 (x.1.toNat:Int),.int .u8 (x.2.toNat:Int)]] w fun e w'=>e=.returned (.tuple #[.string (bs (bG x).1),.string (bs (bG x).2)])∧Bw_ w w':=by
 obtain⟨p,a⟩:=x;have hb:=af w (.cells #[.int .u8 (p.toNat:Int),.int .u8 (a.toNat:Int)] 127)
 by_cases h1:p=1
 ·subst h1
  rw[show(((1:UInt8).toNat:Nat):Int)=1 from rfl]at hb⊢;exact ER
 by_cases h2:p=2
 ·subst h2
  rw[show(((2:UInt8).toNat:Nat):Int)=2 from rfl]at hb⊢;exact ER
 by_cases h3:p=3
 ·subst h3
  rw[show(((3:UInt8).toNat:Nat):Int)=3 from rfl]at hb⊢;exact ER
 by_cases h4:p=4
 ·subst h4
  rw[show(((4:UInt8).toNat:Nat):Int)=4 from rfl]at hb⊢;exact ER
 by_cases h5:p=5
 ·subst h5
  rw[show(((5:UInt8).toNat:Nat):Int)=5 from rfl]at hb⊢;exact ER
 by_cases h6:p=6
 ·subst h6
  rw[show(((6:UInt8).toNat:Nat):Int)=6 from rfl]at hb⊢;exact ER
 by_cases h7:p=7
 ·subst h7
  rw[show(((7:UInt8).toNat:Nat):Int)=7 from rfl]at hb⊢;exact ER
 by_cases h8:p=8
 ·subst h8
  rw[show(((8:UInt8).toNat:Nat):Int)=8 from rfl]at hb⊢;exact ER
 by_cases h9:p=9
 ·subst h9
  rw[show(((9:UInt8).toNat:Nat):Int)=9 from rfl]at hb⊢;exact ER
 by_cases h10:p=10
 ·subst h10
  rw[show(((10:UInt8).toNat:Nat):Int)=10 from rfl]at hb⊢;exact ER
 by_cases h11:p=11
 ·subst h11
  rw[show(((11:UInt8).toNat:Nat):Int)=11 from rfl]at hb⊢;exact ER
 by_cases h12:p=12
 ·subst h12
  rw[show(((12:UInt8).toNat:Nat):Int)=12 from rfl]at hb⊢;exact ER
 by_cases h13:p=13
 ·subst h13
  rw[show(((13:UInt8).toNat:Nat):Int)=13 from rfl]at hb⊢;exact ER
 by_cases h14:p=14
 ·subst h14
  rw[show(((14:UInt8).toNat:Nat):Int)=14 from rfl]at hb⊢;exact ER
 by_cases h15:p=15
 ·subst h15
  rw[show(((15:UInt8).toNat:Nat):Int)=15 from rfl]at hb⊢;exact ER
 by_cases h16:p=16
 ·subst h16
  rw[show(((16:UInt8).toNat:Nat):Int)=16 from rfl]at hb⊢;exact ER
 by_cases h17:p=17
 ·subst h17
  rw[show(((17:UInt8).toNat:Nat):Int)=17 from rfl]at hb⊢;exact ES
 by_cases h18:p=18
 ·subst h18
  rw[show(((18:UInt8).toNat:Nat):Int)=18 from rfl]at hb⊢;exact ES
 by_cases h19:p=19
 ·subst h19
  rw[show(((19:UInt8).toNat:Nat):Int)=19 from rfl]at hb⊢;exact ER
 by_cases h22:p=22
 ·subst h22
  rw[show(((22:UInt8).toNat:Nat):Int)=22 from rfl]at hb⊢;exact ER
 by_cases h23:p=23
 ·subst h23
  rw[show(((23:UInt8).toNat:Nat):Int)=23 from rfl]at hb⊢;exact ER
 have q1:((p.toNat:Int)==1)=false:=aC (by decide) h1;have q2:((p.toNat:Int)==2)=false:=aC (by decide) h2;have q3:((p.toNat:Int)==3)=false:=aC (by decide) h3;have q4:((p.toNat:Int)==4)=false:=aC (by decide) h4;have q5:((p.toNat:Int)==5)=false:=aC (by decide) h5;have q6:((p.toNat:Int)==6)=false:=aC (by decide) h6;have q7:((p.toNat:Int)==7)=false:=aC (by decide) h7;have q8:((p.toNat:Int)==8)=false:=aC (by decide) h8;have q9:((p.toNat:Int)==9)=false:=aC (by decide) h9;have q10:((p.toNat:Int)==10)=false:=aC (by decide) h10;have q11:((p.toNat:Int)==11)=false:=aC (by decide) h11;have q12:((p.toNat:Int)==12)=false:=aC (by decide) h12;have q13:((p.toNat:Int)==13)=false:=aC (by decide) h13;have q14:((p.toNat:Int)==14)=false:=aC (by decide) h14;have q15:((p.toNat:Int)==15)=false:=aC (by decide) h15;have q16:((p.toNat:Int)==16)=false:=aC (by decide) h16;have q17:((p.toNat:Int)==17)=false:=aC (by decide) h17;have q18:((p.toNat:Int)==18)=false:=aC (by decide) h18;have q19:((p.toNat:Int)==19)=false:=aC (by decide) h19;have q22:((p.toNat:Int)==22)=false:=aC (by decide) h22;have q23:((p.toNat:Int)==23)=false:=aC (by decide) h23;have HE:=zH (show bG (p,a)=([],[]) from ut h1 h2 h3 h4 h5 h6 h7 h8 h9 h10 h11 h12 h13 h14 h15 h16 h17 h18 h19 h22 h23);clear h1 h2 h3 h4 h5 h6 h7 h8 h9 h10 h11 h12 h13 h14 h15 h16 h17 h18 h19 h22 h23;go_enter Tryz.func185,Tryz.ntmps185;go_wp2;go_ret2;exact⟨by rw[HE.o];rfl,hb⟩
def rbV (b:Vb):Value:=.agg #[.int .u8 (b.op.toNat:Int),.string (bs b.opn),.string (bs (fS b)),.bool b.did,.int .i64 (b.at_:Int)]
def Au:Vb:=⟨0,[],[],0,false⟩
theorem yB {w:World}{a:Option Addr}{n c:Nat}{l:List Vb}(h:bF.Row w (.slice a n c) l){k:Nat}(hk:k<l.length):∃ b off,a=some ⟨b,off,none⟩∧w.cell? ⟨b,off+k*5,none⟩=some (.int .u8 (l[k].op.toNat:Int))∧w.cell? ⟨b,off+k*5+1,none⟩=some (.string (bs l[k].opn)) ∧w.cell? ⟨b,off+k*5+2,none⟩=some (.string (bs (fS l[k])))∧w.cell? ⟨b,off+k*5+3,none⟩=some (.bool l[k].did)∧w.cell? ⟨b,off+k*5+4,none⟩=some (.int .i64 (l[k].at_:Int)):=by
 obtain⟨a',cap,hv,hle,hc⟩:=Rec.Row.open h;injection hv with e1 e2 e3
 subst e1;obtain⟨b,off,ha,hu⟩:=hc k hk;exact⟨b,off,ha,hu 0 _ rfl,hu 1 _ rfl,hu 2 _ rfl,hu 3 _ rfl,hu 4 _ rfl⟩
theorem uV {w:World}{b:Nat}{v0 v1 v2 v3 v4:Value}(h0:w.cell? ⟨b,0,none⟩=some v0)(h1:w.cell? ⟨b,1,none⟩=some v1)(h2:w.cell? ⟨b,2,none⟩=some v2)(h3:w.cell? ⟨b,3,none⟩=some v3)(h4:w.cell? ⟨b,4,none⟩=some v4):(loadVar 263 ⟨b,0,none⟩).run Tryz.prog w=.ok (.agg #[v0,v1,v2,v3,v4]) w:=by
 go_simp
theorem gn {P:Program}{fn:Func}{p u:Tmp}{ty:TypeId}{tmps:Array Value}{w:World}{v:Value}{b:Nat}(hr:fn.results=#[.cell p ty,.tmp u])(hp:tmps.getD p undef=.pointer (some ⟨b,0,none⟩))(hl:(loadVar ty ⟨b,0,none⟩).run P w=.ok v w):(results fn tmps).run P w=.ok (.tuple #[v,tmps.getD u undef]) w:=by
 simp only[Array.getD_eq_getD_getElem?]at hp⊢;simp[results,hr,Sem.run_bind,Result.andThen,hp,asAddr,hl]
theorem Chg.set1R {w:World}{b k:Nat}{v:Value}:Chg (fun x=>x=b) w (w.setCell ⟨b,k,none⟩ v):=Chg.setCell _ _ _ rfl
theorem rn {w:World}{b:Nat}{t:TypeId}{a0 a1 a2 a3 a4:Value}(hx:Blk w b t [a0,a1,a2,a3,a4])(v0 v1 v2 v3 v4:Value):Blk (((((w.setCell ⟨b,0,none⟩ v0).setCell ⟨b,1,none⟩ v1).setCell ⟨b,2,none⟩ v2).setCell ⟨b,3,none⟩ v3).setCell ⟨b,4,none⟩ v4) b t [v0,v1,v2,v3,v4] ∧Chg (fun x=>x=b) w (((((w.setCell ⟨b,0,none⟩ v0).setCell ⟨b,1,none⟩ v1).setCell ⟨b,2,none⟩ v2).setCell ⟨b,3,none⟩ v3).setCell ⟨b,4,none⟩ v4) :=
 ⟨((((hx.set 0 v0).set 1 v1).set 2 v2).set 3 v3).set 4 v4,(((Chg.set1R.trans Chg.set1R).trans Chg.set1R).trans Chg.set1R).trans Chg.set1R⟩
section
variable {w:World}{bZ G:Nat}{tv cv bv sv ev:Value}{role:UInt8}{s:Vs}
theorem oY (h:RG w bZ G tv cv role s bv sv ev)(hl:s.blocks.length≤1000):Calls Tryz.prog 183 #[.pointer (some ⟨G,0,none⟩)] w fun e w'=>e=.returned (.tuple #[rbV (s.blocks.getLast?.getD Au),.bool (s.blocks.getLast?.isSome)])∧Bw_ w w':=by
 obtain⟨⟨ab,cb,rfl⟩,_,_⟩:=h.slices;obtain⟨W1,hW1⟩:=ex_ (w.alloc (.cells #[.int .u8 0,.string ⟨#[]⟩,.string ⟨#[]⟩,.bool false,.int .i64 0] 263));have hb1:=ba_ hW1;have hx:=bm_ hW1;have h1:=h.below hb1;have c4:=h1.cell (k:=4) rfl;have HX:=zH hx;have HB1:=zH hb1;rcases Nat.eq_zero_or_pos s.blocks.length with h0|h0
 ·have hb0:s.blocks=[]:=DD h0
  have t1:((s.blocks.length:Int)==0)=true:=by rw[beq_iff_eq];omega
  have f0:=hx.free (k:=0) (by decide);have f1:=hx.free (k:=1) (by decide);have f2:=hx.free (k:=2) (by decide);have f3:=hx.free (k:=3) (by decide);have f4:=hx.free (k:=4) (by decide);obtain⟨x0,x1,x2,x3,x4⟩:=cl5 hx;have HB0:=zH hb0;clear h h1 h0 hb0 hx hb1;go_enter Tryz.func183,Tryz.ntmps183;go_upto_region 1 with fail;rw[←hW1];clear hW1;go_wp2_with fail;obtain⟨hy,hc⟩:=rn HX.o (.int .u8 0) (.string ⟨#[]⟩) (.string ⟨#[]⟩) (.bool false) (.int .i64 0);refine bodyPost_ret (gn rfl rfl (uV (hy.cell (k:=0) rfl) (hy.cell (k:=1) rfl) (hy.cell (k:=2) rfl) (hy.cell (k:=3) rfl) (hy.cell (k:=4) rfl))) rfl ?_;exact⟨by rw[HB0.o];rfl,HB1.o.trans (hc.below (fun x (hx:x=w.heap.size)=>by omega) HB1.o.size)⟩
 ·obtain⟨m,hm⟩:∃ m,s.blocks.length=m+1:=⟨s.blocks.length-1,by omega⟩
  obtain⟨g,rfl⟩:=h.ob.at0 h0;have t1:((s.blocks.length:Int)==0)=false:=by rw[beq_eq_false_iff_ne];omega
  have hm1:(s.blocks.length:Int)-1=(m:Int):=by omega
  have hm2:(m:Int)<(s.blocks.length:Int):=by omega
  have hm3:=nn_ m;have hm4:(s.blocks.length:Int)≤1000:=by omega
  obtain⟨b',off,ha,e0,e1,e2,e3,e4⟩:=yB h1.ob.row (k:=m) (by omega);injection ha with ha
  injection ha with ha1 ha2 _
  subst ha1 ha2;rw[DE]at e0 e1 e2 e3 e4
  have hgl:s.blocks.getLast?=some (s.blocks[m]'(by omega)):=by
   rw[List.getLast?_eq_getElem?,show s.blocks.length-1=m by omega];exact List.getElem?_eq_getElem _
  obtain⟨q,hq⟩:=ex_ (s.blocks[m]'(by omega));rw[←hq]at e0 e1 e2 e3 e4 hgl;have HGL:=zH hgl;have HM:=zH hm;have f0:=hx.free (k:=0) (by decide);have f1:=hx.free (k:=1) (by decide);have f2:=hx.free (k:=2) (by decide);have f3:=hx.free (k:=3) (by decide);have f4:=hx.free (k:=4) (by decide);obtain⟨x0,x1,x2,x3,x4⟩:=cl5 hx;clear h h1 h0 hx hb1 hgl hm hq;go_enter Tryz.func183,Tryz.ntmps183;go_upto_region 1 with fail;rw[←hW1];clear hW1;go_upto_region 3 with fail;go_region;obtain⟨hy,hc⟩:=rn HX.o (.int .u8 (q.op.toNat:Int)) (.string (bs q.opn)) (.string (bs (fS q))) (.bool q.did) (.int .i64 (q.at_:Int));obtain⟨W2,hW2⟩:=ex_ ((((((W1.setCell ⟨w.heap.size,0,none⟩ (.int .u8 (q.op.toNat:Int))).setCell ⟨w.heap.size,1,none⟩ (.string (bs q.opn))).setCell ⟨w.heap.size,2,none⟩ (.string (bs (fS q)))).setCell ⟨w.heap.size,3,none⟩ (.bool q.did)).setCell ⟨w.heap.size,4,none⟩ (.int .i64 (q.at_:Int))));rw[←hW2]at hy hc⊢;have hz:=hy.below (b_drew W2);have HB2:=zH ((HB1.o.trans (hc.below (fun x (hx:x=w.heap.size)=>by omega) HB1.o.size)).trans (Below.mono (b_drew W2) (DG HB1.o.size hc.size)));have HZ:=zH hz;clear hW2 hy hc hz;go_wp2_with fail;have hz:=HZ.o;refine bodyPost_ret (gn rfl rfl (uV (hz.cell (k:=0) rfl) (hz.cell (k:=1) rfl) (hz.cell (k:=2) rfl) (hz.cell (k:=3) rfl) (hz.cell (k:=4) rfl))) rfl ?_;exact⟨by rw[HGL.o];rfl,HB2.o⟩
end
end
section
attribute [local irreducible] wpG
def nx (l:List Vb):Vb:=l.getLast?.getD Au
theorem ql (l:List Vb):cQ l.getLast?=(!l.getLast?.isSome||((nx l).op != 19||(nx l).did)):=by
 unfold nx cQ
 cases l.getLast?<;>rfl
theorem vX (l:List Vb):l.getLast?.isSome=!decide (l=[]):=by
 cases l with
 | nil=>rfl
 | cons x l=>rw[List.getLast?_cons];simp
section
variable {w:World}{bZ G:Nat}{tv cv bv sv ev:Value}{role:UInt8}{s:Vs}
theorem EW {T:Prop} (h:T:=by
 clear HT;go_wp2_with fail;go_ret;exact⟨by rw[HV.o];rfl,HB3.o⟩
):T:=h
theorem EX {T:Prop} (h:T:=by
 go_wp2_with fail;go_ret;exact⟨by rw[HV.o];rfl,bt HB3.o (C9 _ _)⟩
):T:=h
theorem EY {T:Prop} (h:T:=by
 have HV:=zH (show t=132 by rw[HT.o];unfold thereV;simp[h20,HW]);exact EW
):T:=h
theorem EZ {T:Prop} (h:T:=by
 clear HT;go_upto_region 7 with fail;go_quiet (exact Calls.quiet_of_same (iM role _));exact EX
):T:=h
theorem tO (x:VI)(nt ct:Nat)(at_:Option Addr)(h:RG w bZ G (.slice at_ nt ct) cv role s bv sv ev)(hl:s.blocks.length≤1000)(hnt:nt≤1000):Calls Tryz.prog 137 #[.pointer (some ⟨G,0,none⟩),.agg #[.int .u8 (x.1.toNat:Int),.int .u8 (x.2.toNat:Int)]] w fun e w'=>e=.returned (.int .i64 (thereV nt (inputsV role) role s.blocks x:Int))∧Bw_ w w':=by
 obtain⟨p,a⟩:=x;obtain⟨⟨ab,cb,rfl⟩,_,_⟩:=h.slices;obtain⟨W1,hW1⟩:=ex_ (w.alloc (.cells #[.int .u8 (p.toNat:Int),.int .u8 (a.toNat:Int)] 127));have hb1:=ba_ hW1;have hx:=bm_ hW1;have HB1:=zH hb1;have HX:=zH hx;have HH:=zH h;have H1:=zH (h.below hb1);have HLST:=zH (fun w' (hB:Below w.heap.size w w')=>oY (h.below hB) hl);have a1:(a.toNat:Int)<256:=by have:=a.toNat_lt;omega
 have a0:(0:Int)≤(a.toNat:Int):=by omega
 have n1:(nt:Int)≤1000:=by omega
 have aw:IntKind.i64.wrap (a.toNat:Int)=(a.toNat:Int):=by simp[IntKind.wrap,IntKind.bits,IntKind.signed];omega
 have l1:(s.blocks.length:Int)≤1000:=by omega
 obtain⟨q,hq⟩:=ex_ (nx s.blocks);obtain⟨is_,his⟩:=ex_ (s.blocks.getLast?.isSome);have HEB:=zH (ql s.blocks);have HSL:=zH (vX s.blocks);rw[←hq,←his]at HEB;rw[←his]at HSL;obtain⟨t,ht⟩:=ex_ (thereV nt (inputsV role) role s.blocks (p,a));rw[←ht];have HT:=zH ht;have HLQ:=zH (show rbV (s.blocks.getLast?.getD Au)=.agg #[.int .u8 (q.op.toNat:Int),.string (bs q.opn),.string (bs (fS q)),.bool q.did,.int .i64 (q.at_:Int)] by rw[hq];rfl);have HIS:=zH his;clear h hb1 hx ht hq his;go_enter Tryz.func137,Tryz.ntmps137;go_upto_region 1 with fail;rw[←hW1];clear hW1;go_upto_region 2 with(go_at_call 183;refine(HLST.o _ HB1.o).mono ?_;rintro e w2 ⟨rfl,hB2⟩;rw[HLQ.o,←HIS.o];have HB2:=zH (bt HB1.o hB2);have HX2:=zH (HX.o.below hB2);clear hB2);obtain⟨W3,hW3⟩:=ex_ (w2.alloc (.cells #[.int .u8 (q.op.toNat:Int),.string (bs q.opn),.string (bs (fS q)),.bool q.did,.int .i64 (q.at_:Int)] 263));have hb23:=ba_ hW3;have hy:=bm_ hW3;rw[←hW3];have hb3:=bt HB2.o hb23;have h3:=HH.o.below hb3;have g0:=h3.cell (k:=0) rfl;have g2:=h3.cell (k:=2) rfl;have g4:=h3.cell (k:=4) rfl;have hx3:=HX2.o.below hb23;obtain⟨x0,x1⟩:=cl2 hx3;obtain⟨C,hC⟩:=ex_ w2.heap.size;rw[←hC]at hy⊢;have y0:=hy.cell (k:=0) rfl;have y3:=hy.cell (k:=3) rfl;have HB3:=zH hb3;clear hW3 hy hb23 hb3 h3 hx3 HB2 HX2 hC
 by_cases h1:p=1
 ·have u1:((p.toNat:Int)==1)=true:=by rw[h1];rfl
  by_cases hc:nt≤a.toNat
  ·have tt:(nt:Int)≤(a.toNat:Int):=by omega
   have HV:=zH (show t=3 by rw[HT.o];unfold thereV;simp[h1,hc]);clear HT;go_upto_region 4 with fail;go_quiet (fail);exact EX
  ·have tt:¬(nt:Int)≤(a.toNat:Int):=by omega
   have HV:=zH (show t=0 by rw[HT.o];unfold thereV;simp[h1,hc]);clear HT;go_upto_region 4 with fail;go_quiet (fail);exact EX
 by_cases h3:p=3
 ·have u1:((p.toNat:Int)==1)=false:=aC (by decide) h1
  have u3:((p.toNat:Int)==3)=true:=by rw[h3];rfl
  by_cases hc:inputsV role≤a.toNat
  ·have tt:(inputsV role:Int)≤(a.toNat:Int):=by omega
   have HV:=zH (show t=3 by rw[HT.o];unfold thereV;simp[h3,hc]);exact EZ
  ·have tt:¬(inputsV role:Int)≤(a.toNat:Int):=by omega
   have HV:=zH (show t=0 by rw[HT.o];unfold thereV;simp[h3,hc]);exact EZ
 by_cases h17:p=17
 ·have u1:((p.toNat:Int)==1)=false:=aC (by decide) h1
  have u3:((p.toNat:Int)==3)=false:=aC (by decide) h3;have u17:((p.toNat:Int)==17)=true:=by rw[h17];rfl
  by_cases hc:8≤a.toNat
  ·have tt:(8:Int)≤(a.toNat:Int):=by omega
   have HV:=zH (show t=3 by rw[HT.o];unfold thereV;simp[h17,hc]);exact EW
  ·have tt:¬(8:Int)≤(a.toNat:Int):=by omega
   have HV:=zH (show t=0 by rw[HT.o];unfold thereV;simp[h17,hc]);exact EW
 by_cases h18:p=18
 ·have u1:((p.toNat:Int)==1)=false:=aC (by decide) h1
  have u3:((p.toNat:Int)==3)=false:=aC (by decide) h3;have u17:((p.toNat:Int)==17)=false:=aC (by decide) h17;have u18:((p.toNat:Int)==18)=true:=by rw[h18];rfl
  by_cases hc:8≤a.toNat
  ·have tt:(8:Int)≤(a.toNat:Int):=by omega
   have HV:=zH (show t=3 by rw[HT.o];unfold thereV;simp[h18,hc]);exact EW
  ·have tt:¬(8:Int)≤(a.toNat:Int):=by omega
   have HV:=zH (show t=0 by rw[HT.o];unfold thereV;simp[h18,hc]);exact EW
 by_cases h23:p=23
 ·have u1:((p.toNat:Int)==1)=false:=aC (by decide) h1
  have u3:((p.toNat:Int)==3)=false:=aC (by decide) h3;have u17:((p.toNat:Int)==17)=false:=aC (by decide) h17;have u18:((p.toNat:Int)==18)=false:=aC (by decide) h18;have u23:((p.toNat:Int)==23)=true:=by rw[h23];rfl
  by_cases hc:role=1
  ·have tt:((role.toNat:Int) != 1)=false:=by rw[hc];rfl
   have HV:=zH (show t=0 by rw[HT.o];unfold thereV;simp[h23,hc]);exact EW
  ·have tt:((role.toNat:Int) != 1)=true:=by rw[bne,show((role.toNat:Int)==1)=false from aC (by decide) hc];rfl
   have HV:=zH (show t=133 by rw[HT.o];unfold thereV;simp[h23,hc]);exact EW
 by_cases h20:p=20
 ·have u1:((p.toNat:Int)==1)=false:=aC (by decide) h1
  have u3:((p.toNat:Int)==3)=false:=aC (by decide) h3;have u17:((p.toNat:Int)==17)=false:=aC (by decide) h17;have u18:((p.toNat:Int)==18)=false:=aC (by decide) h18;have u23:((p.toNat:Int)==23)=false:=aC (by decide) h23;have u20:((p.toNat:Int)==20)=true:=by rw[h20];rfl
  by_cases hi:is_=true
  ·subst hi
   have HE:=HEB.o
   by_cases hc:q.op=19
   ·have tt:((q.op.toNat:Int) != 19)=false:=by rw[hc];rfl
    by_cases hd:q.did=true
    ·have HW:cQ s.blocks.getLast?=true:=by rw[HE,hd];simp
     rw[hd]at y3;exact EY
    ·have hd:q.did=false:=by simpa using hd
     have HW:cQ s.blocks.getLast?=false:=by rw[HE,hd,hc];rfl
     rw[hd]at y3;have HV:=zH (show t=0 by rw[HT.o];unfold thereV;simp[h20,HW]);exact EW
   ·have tt:((q.op.toNat:Int) != 19)=true:=by rw[bne,show((q.op.toNat:Int)==19)=false from aC (by decide) hc];rfl
    have HW:cQ s.blocks.getLast?=true:=by rw[HE];simp[hc]
    exact EY
  ·have hi:is_=false:=by simpa using hi
   subst hi;have HW:cQ s.blocks.getLast?=true:=by rw[HEB.o];rfl
   exact EY
 by_cases h21:p=21
 ·have u1:((p.toNat:Int)==1)=false:=aC (by decide) h1
  have u3:((p.toNat:Int)==3)=false:=aC (by decide) h3;have u17:((p.toNat:Int)==17)=false:=aC (by decide) h17;have u18:((p.toNat:Int)==18)=false:=aC (by decide) h18;have u23:((p.toNat:Int)==23)=false:=aC (by decide) h23;have u20:((p.toNat:Int)==20)=false:=aC (by decide) h20;have u21:((p.toNat:Int)==21)=true:=by rw[h21];rfl
  by_cases hi:s.blocks=[]
  ·have HI:is_=false:=by rw[HSL.o,decide_eq_true hi];rfl
   subst HI;have HV:=zH (show t=132 by rw[HT.o];unfold thereV;simp[h21,hi]);exact EW
  ·have HI:is_=true:=by rw[HSL.o,decide_eq_false hi];rfl
   subst HI;have HV:=zH (show t=0 by rw[HT.o];unfold thereV;simp[h21,hi]);exact EW
 by_cases h19:p=19
 ·have u1:((p.toNat:Int)==1)=false:=aC (by decide) h1
  have u3:((p.toNat:Int)==3)=false:=aC (by decide) h3;have u17:((p.toNat:Int)==17)=false:=aC (by decide) h17;have u18:((p.toNat:Int)==18)=false:=aC (by decide) h18;have u23:((p.toNat:Int)==23)=false:=aC (by decide) h23;have u20:((p.toNat:Int)==20)=false:=aC (by decide) h20;have u21:((p.toNat:Int)==21)=false:=aC (by decide) h21;have u19:((p.toNat:Int)==19)=true:=by rw[h19];rfl
  by_cases hc:8≤s.blocks.length
  ·have tt:(8:Int)≤(s.blocks.length:Int):=by omega
   have HV:=zH (show t=132 by rw[HT.o];unfold thereV;simp[h19,hc]);exact EW
  ·have tt:¬(8:Int)≤(s.blocks.length:Int):=by omega
   have HV:=zH (show t=0 by rw[HT.o];unfold thereV;simp[h19,hc]);exact EW
 by_cases h22:p=22
 ·have u1:((p.toNat:Int)==1)=false:=aC (by decide) h1
  have u3:((p.toNat:Int)==3)=false:=aC (by decide) h3;have u17:((p.toNat:Int)==17)=false:=aC (by decide) h17;have u18:((p.toNat:Int)==18)=false:=aC (by decide) h18;have u23:((p.toNat:Int)==23)=false:=aC (by decide) h23;have u20:((p.toNat:Int)==20)=false:=aC (by decide) h20;have u21:((p.toNat:Int)==21)=false:=aC (by decide) h21;have u19:((p.toNat:Int)==19)=false:=aC (by decide) h19;have u22:((p.toNat:Int)==22)=true:=by rw[h22];rfl
  by_cases hc:8≤s.blocks.length
  ·have tt:(8:Int)≤(s.blocks.length:Int):=by omega
   have HV:=zH (show t=132 by rw[HT.o];unfold thereV;simp[h22,hc]);exact EW
  ·have tt:¬(8:Int)≤(s.blocks.length:Int):=by omega
   have HV:=zH (show t=0 by rw[HT.o];unfold thereV;simp[h22,hc]);exact EW
 have u1:((p.toNat:Int)==1)=false:=aC (by decide) h1;have u3:((p.toNat:Int)==3)=false:=aC (by decide) h3;have u17:((p.toNat:Int)==17)=false:=aC (by decide) h17;have u18:((p.toNat:Int)==18)=false:=aC (by decide) h18;have u23:((p.toNat:Int)==23)=false:=aC (by decide) h23;have u20:((p.toNat:Int)==20)=false:=aC (by decide) h20;have u21:((p.toNat:Int)==21)=false:=aC (by decide) h21;have u19:((p.toNat:Int)==19)=false:=aC (by decide) h19;have u22:((p.toNat:Int)==22)=false:=aC (by decide) h22;have HV:=zH (show t=0 by rw[HT.o];unfold thereV;simp[h1,h3,h17,h18,h23,h20,h21,h19,h22]);clear HT;go_wp2_with fail;go_ret;exact⟨by rw[HV.o];rfl,HB3.o⟩
end
end
