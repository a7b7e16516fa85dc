/- Lemmas for MapperTells: walks, plain laws. -/
import Derived.Test.YtckhfapcmjlmbaaGreatDoorMapperTellsK3
set_option linter.unusedSimpArgs false
set_option linter.unusedVariables false
set_option maxRecDepth 100000
set_option maxHeartbeats 16000000
namespace Go.Proofs.YtckhfapcmjlmbaaGreatDoor
open Go.RowKit Oct
section
attribute [local go_sem] Oper.semAt_some
theorem AH:(Tryz.prog.info? 29).map (fun i=>(i.zero,i.size,i.bytes))=some (some (.slice none 0 0),1,24):=by kernel_rfl
def cH (B:Nat)(U:World)(cells:List Value)(gs:List (List PR)):Prop:=cells.length=gs.length ∧
 ∀ k (hk:k<gs.length),∃ A C,cells[k]?=some (.slice A gs[k].length C)∧RP U (.slice A gs[k].length C) gs[k]∧∀ ad,A=some ad→ad.block<B
theorem pU {X:Nat→Prop}{w w':World}{a:Option Addr}{n c:Nat}{l:List PR}(h:RP w (.slice a n c) l)(hc:Chg X w w')(hX:∀ ad,a=some ad→¬X ad.block):RP w' (.slice a n c) l:=by
 by_cases hl:l.length=0
 ·exact GC
 ·refine h.move fun ad had=>?_
  obtain⟨a',cap',hv,_,hcc⟩:=h.open;injection hv with e1 _ _
  subst e1;obtain⟨b,off,hab,hu,_⟩:=hcc 0 (by omega);rw[had]at hab
  cases hab
  exact hc.block b (aD hu) (hX _ had)
theorem cH.chg {B:Nat}{X:Nat→Prop}{U U':World}{cells:List Value}{gs:List (List PR)}(h:cH B U cells gs)(hc:Chg X U U')(hX:∀ k,X k→B≤k):cH B U' cells gs :=
 ⟨h.1,fun k hk=>by
  obtain⟨A,C,h1,h2,h3⟩:=h.2 k hk;exact⟨A,C,h1,pU h2 hc fun ad had hx=>by have:=h3 ad had;have:=hX _ hx;omega,h3⟩⟩
theorem cH.snoc {B:Nat}{U:World}{cells:List Value}{gs:List (List PR)}{x:List PR}{A:Option Addr}{C:Nat}(h:cH B U cells gs)(hx:RP U (.slice A x.length C) x)(hA:∀ ad,A=some ad→ad.block<B):cH B U (cells++[.slice A x.length C]) (gs++[x]):=by
 refine⟨by simp[h.1],fun k hk=>?_⟩
 by_cases hk2:k<gs.length
 ·obtain⟨A',C',h1,h2,h3⟩:=h.2 k hk2
  refine⟨A',C',?_,?_,h3⟩
  ·rw[List.getElem?_append_left (by rw[h.1];exact hk2),Ee hk2];exact h1
  ·rw[Ee hk2];exact h2
 ·obtain rfl:k=gs.length:=by simp at hk;omega
  refine⟨A,C,?_,?_,hA⟩
  ·rw[List.getElem?_append_right (by rw[h.1];exact DC _)];simp[h.1]
  ·simpa using hx
theorem cH.rr {B bZ:Nat}{U:World}{v:Value}{cells:List Value}{gs:List (List PR)}(hown:U.ownsRow bZ 29 1 v gs.length cells)(h:cH B U cells gs):RR U v gs:=by
 obtain⟨a,cap,hv,hn,hc⟩:=Dd hown;subst hv
 have hle:gs.length≤cap:=by
  rcases hown.2 with ⟨hv,h0⟩|⟨g,cap',cur,hv,_,_,hcc,_⟩
  ·omega
  ·injection hv with _ _ e3;omega
 refine⟨a,cap,rfl,hle,hn,fun k hk=>?_⟩;obtain⟨A,C,h1,h2,_⟩:=h.2 k hk;obtain⟨b,off,ha,hu⟩:=hc k _ h1;exact⟨b,off,_,ha,hu,h2⟩
def uJ (B s:Nat)(w:World)(pre:List (List PR))(U:World):Prop:=∃ cells,iu s (s+3) 32 29 1 U pre.length cells∧cH B U cells pre∧Chg (fun k=>k=B∨s≤k) w U
theorem uJ.chg {B s:Nat}{w U U':World}{pre:List (List PR)}(hBs:B<s)(h:uJ B s w pre U)(hc:Chg (fun k=>k=B∨k=s+1∨k=s+1+1) U U'):uJ B s w pre U':=by
 obtain⟨cells,h1,h2,h3⟩:=h;exact⟨cells,h1.chg hc (fun k hk=>by omega),h2.chg hc (fun k hk=>by omega),h3.trans (hc.mono fun k hk=>by omega)⟩
theorem ElP.chg {B s:Nat}{x:List PR}{vs:Array Value}{U U':World}(hBs:B<s)(h:ElP (fun k=>k<B) x vs U)(hc:Chg (fun k=>k=s+1∨k=s+1+1) U U'):ElP (fun k=>k<B) x vs U':=by
 obtain⟨A,C,h1,h2,h3⟩:=h;exact⟨A,C,h1,pU h2 hc (fun ad had hx=>by have:=h3 ad had;omega),h3⟩
theorem uJ.step {B s g cap:Nat}{w U W:World}{pre:List (List PR)}{x:List PR}{v:Value}{cells:List Value}{A:Option Addr}{C:Nat}(hBs:B<s)(hbox:U.heap[s]?=some (.cells #[v] 32 (0,0)))(hrows:cH B U cells pre)(hw:Chg (fun k=>k=B∨s≤k) w U)(hx:RP U (.slice A x.length C) x)(hA:∀ ad,A=some ad→ad.block<B)(hB:Below (s+3) U W)(hown:W.ownsRow (s+3) 29 1 (.slice (some ⟨g,0,none⟩) (pre.length+1) cap) (pre.length+1) (cells++[.slice A x.length C])):Chg (fun k=>¬(k≤B∨k=s+1∨k=s+1+1)) U (W.setCell ⟨s,0,none⟩ (.slice (some ⟨g,0,none⟩) (pre.length+1) cap))∧uJ B s w (pre++[x]) (W.setCell ⟨s,0,none⟩ (.slice (some ⟨g,0,none⟩) (pre.length+1) cap)):=by
 obtain⟨h1,h2⟩:=iu.stored (by omega) hbox hB hown;refine⟨h2.mono fun k hk=>by omega,_,by simpa using h1,(hrows.snoc hx hA).chg h2 fun k hk=>by omega,hw.trans (h2.mono fun k hk=>by omega)⟩
theorem oC (B:Nat)(r:List PR)(A0:Option Addr)(C0:Nat)(w:World)(hB:w.heap[B]?=some (.cells #[.slice A0 r.length C0] 29 (0,0)))(hr:RP w (.slice A0 r.length C0) r)(hblk:∀ ad,A0=some ad→ad.block<B)(hl:r.length≤4398046511104):Calls Tryz.prog 214 #[.slice none 0 0,.func (.func 215) #[] #[.pointer (some ⟨B,0,none⟩)]] w fun e w'=>∃ v cells,e=.returned v∧w'.ownsRow (w.heap.size+3) 29 1 v (grp r).length cells∧cH B w' cells (grp r)∧Chg (fun k=>k=B) w w':=by
 have hgl:=cL r.length r (DC _);have hBlt:=(Array.getElem?_eq_some_iff.1 hB).1;refine cE Tryz.func214 rfl ?_;simp only[Tryz.ntmps214,List.size_toArray,Du,Eb,Nat.reduceAdd,Nat.reduceSub,Array.replicate_succ,Array.replicate_zero,List.push_toArray,List.append_toArray,D5,Dx];go_wp2;obtain⟨W1,hW1⟩:=ex_ (w.alloc (.cells #[.slice none 0 0] 32));have hs1:W1.heap.size=w.heap.size+1:=by rw[hW1];simp
 have hbx:W1.heap[w.heap.size]?=some (.cells #[.slice none 0 0] 32 (0,0)):=by rw[hW1];exact World.alloc_heap_new w _
 have hc1:∀ X,Chg X w W1:=fun X=>by rw[hW1];exact Chg.alloc X w _
 rw[←hW1];clear hW1;have hB1:=(hc1 (fun _=>False)).at hB (fun h=>h);have hr1:=pU hr (hc1 (fun _=>False)) (fun _ _ h=>h)
 refine qy (D:=w.heap.size+1) hs1 (gf:=215) (lb:=#[.pointer (some ⟨B,0,none⟩)]) rfl (enters_of Tryz.func215 (by kernel_rfl) rfl)
  (X:=fun k=>k=B) (Y:=fun k=>k≤B) (El:=ElP fun k=>k<B) (out:=grp r) (fun k hk=>by omega) (fun k hk=>by omega)
  (fun W hW=>si 2 B r A0 C0 W ((hW.block B (by omega)).trans hB1) (pU (X:=fun _=>False) hr1 (Da (hW.mono (by omega))) (fun _ _ h=>h)) hblk hl)
  (fun x vs U h=>by obtain⟨A,C,rfl,_⟩:=h;rfl) (fun x vs U U' h hc=>h.chg hBlt hc)
  (uJ B w.heap.size w) (fun _ _ _=>False) (fun pre U U' h hc=>h.chg hBlt hc) (fun _ _ _ _ h _=>h.elim)
  ⟨[],⟨_,hbx,World.ownsRow_nil _ _ _ _⟩,⟨rfl,fun k hk=>by simp at hk⟩,hc1 _⟩ ?round ?done ?stop
 case round =>
  rintro l pre x vs U _ _ ⟨A,C,rfl,_,_⟩ hpre;have hlen:=hpre.length_le;rw[DL]at hlen;have hby:(pre.length+1)*24≤140737488355328:=by simp at hlen;omega
  gi_wp2;refine⟨DF _ _,?_⟩;rintro U2 h2 ⟨cells,⟨v,hbox,hown⟩,hrows,hchg⟩ ⟨A',C',hv',hx,hA⟩ hc2;have hv2:Value.slice A x.length C=.slice A' x.length C':=by simpa using hv'
  injection hv2 with e1 _ e3
  subst e1 e3;obtain⟨av,cv,rfl⟩:=ap hown;have c:=cell_of_one hbox;have f:=free_of_one hbox;clear hv' hlen hpre hc2;gi_wp2_with (gi_at_builtin;refine pB U2 [_] 29 rfl _ _ 32 rfl (w.heap.size+3) (.slice none 0 0) 1 24 Tryz.underlying32 AH rfl (by decide) _ _ _ rfl hown _ rfl rfl (by simp[Value.oneCell']) hby (by decide) h2 ?_;intro g cap W3 hown3 hB3;have c3:=cell_of_one ((hB3.block w.heap.size (by omega)).trans hbox);have f3:=free_of_one ((hB3.block w.heap.size (by omega)).trans hbox));exact uJ.step hBlt hbox hrows hchg hx hA hB3 hown3
 case done =>
  rintro W h2 ⟨cells,⟨v,hbox,hown⟩,hrows,hchg⟩ hK;obtain⟨av,cv,rfl⟩:=ap hown;have c:=cell_of_one hbox;go_wp2;have hp:∀ X:Nat→Prop,X (w.heap.size+1)→Chg X W (W.putObj (w.heap.size+1) (.deferred none)):=fun X hx=>Chg.putObj _ _ _ hx;refine fD (D:=w.heap.size+1) rfl hK (results_tmp rfl _ _ _) ⟨_,cells,rfl,?_,?_,?_⟩
  ·exact cV hown (hp (fun k=>k=w.heap.size+1) rfl) fun k hk=>by omega
  ·exact hrows.chg (hp (fun k=>k=w.heap.size+1) rfl) fun k hk=>by omega
  ·have hc:=hchg.trans (hp _ (.inr (by omega)))
   exact⟨hc.os,hc.tape,hc.output,hc.size,fun k hk hn=>hc.block k hk (by omega)⟩
 case stop=>exact fun _ _ _ _ _ h _=>h.elim
theorem xp (a:Option Addr)(n c:Nat)(w:World):Calls Tryz.prog 188 #[.slice a n c] w fun e w'=>e=.returned (.func (.func 215) #[] #[.pointer (some ⟨w.heap.size,0,none⟩)])∧w'=w.alloc (.cells #[.slice a n c] 29):=by
 go_enter Tryz.func188,Tryz.ntmps188;go_wp2;go_ret;exact⟨rfl,rfl⟩
theorem sR (B:Nat)(r:List PR)(A0:Option Addr)(C0:Nat)(w:World)(hB:w.heap[B]?=some (.cells #[.slice A0 r.length C0] 29 (0,0)))(hr:RP w (.slice A0 r.length C0) r)(hblk:∀ ad,A0=some ad→ad.block<B)(hl:r.length≤4398046511104):Calls Tryz.prog 187 #[.func (.func 215) #[] #[.pointer (some ⟨B,0,none⟩)]] w fun e w'=>∃ a n c cells,e=.returned (.slice a n c)∧w'.ownsRow (w.heap.size+3) 29 1 (.slice a n c) (grp r).length cells∧cH B w' cells (grp r)∧Chg (fun k=>k=B) w w':=by
 have H:=zH (oC B r A0 C0 w hB hr hblk hl);clear hB hr hblk hl;go_enter Tryz.func187,Tryz.ntmps187;go_wp2_with fail;refine H.o.mono ?_;rintro e w1 ⟨v,cells,rfl,hown,hrows,hc⟩;obtain⟨a,c,rfl⟩:=ap hown;have HO:=zH hown;clear hown;go_wp2_with fail;go_ret;exact⟨_,_,_,cells,rfl,HO,hrows,hc⟩
theorem bt' {w1 w2 w3:World}(h:Below w1.heap.size w1 w2)(hc:Chg (fun k=>k=w1.heap.size) w2 w3)(hs:w2.heap.size=w1.heap.size+1):Below w1.heap.size w1 w3 :=
 h.trans (hc.below (fun k hk=>by omega) (by omega))
theorem uI (v:Value)(r:List PR)(w:World)(hr:RP w v r)(hl:r.length*32≤140737488355328):Calls Tryz.prog 141 #[v] w fun e w'=>∃ v' bZ cells,e=.returned v'∧w'.ownsRow bZ 29 1 v' (grp (srt r)).length cells∧cH bZ w' cells (grp (srt r))∧w.heap.size≤bZ∧Bw_ w w':=by
 obtain⟨a,cap,rfl,_,_⟩:=hr.open;have hsl:=bK r;obtain⟨L,hL⟩:=ex_ (srt r);have hLl:L.length≤4398046511104:=by rw[hL];omega
 clear hsl;have hS:=sN _ _ r w (DC _) hr hl;rw[←hL]at hS⊢;have HS:=zH hS;have HL:=zH hL;clear hS hL;go_enter Tryz.func141,Tryz.ntmps141;go_wp2_with fail;refine HS.o.mono ?_;rintro e w1 ⟨v1,rfl,hown,hB1⟩;obtain⟨a1,c1,rfl⟩:=ap hown;have hrow:=hown.reads
 have hlt:∀ ad,a1=some ad→ad.block<w1.heap.size:=by
  intro ad had;rcases hown.2 with ⟨hv,_⟩|⟨g,cap',cur,hv,_,hh,_⟩
  ·injection hv with e1 _ _;rw[e1]at had;cases had
  ·injection hv with e1 _ _
   rw[e1]at had
   cases had
   exact(Array.getElem?_eq_some_iff.1 hh).1
 have HR:=zH hrow;have HLT:=zH hlt;clear hown hrow hlt;go_wp2_with fail;refine(xp a1 L.length c1 w1).mono ?_;rintro e w2 ⟨rfl,hw2⟩;have hb2:w2.heap[w1.heap.size]?=some (.cells #[.slice a1 L.length c1] 29 (0,0)):=by rw[hw2];exact World.alloc_heap_new w1 _
 have hB2:Below w1.heap.size w1 w2:=by rw[hw2];exact af w1 _
 have hs2:w2.heap.size=w1.heap.size+1:=by rw[hw2];simp
 have HC:=zH (sR w1.heap.size L a1 c1 w2 hb2 (HR.o.below hB2) HLT.o hLl);have HS2:=zH hs2;clear hw2 hb2 hs2;go_wp2_with fail;refine HC.o.mono ?_;rintro e w3 ⟨a3,n3,c3,cells,rfl,hown3,hrows,hc3⟩;have HO:=zH hown3;clear hown3;go_wp2_with fail;go_ret;refine⟨_,w1.heap.size,cells,rfl,dF HO.o (by have:=HS2.o;omega),hrows,hB1.size,bt hB1 (bt' hB2 hc3 HS2.o)⟩
theorem BD (x:List PR)(h:0<x.length):x[0].1=hk1 x:=by
 cases x with
 | nil=>simp at h
 | cons p l=>rfl
end
section
def tx:List PR→LL_
 | []=>[]
 | p::l=>p.1::p.2::tx l
theorem kU (a b:List PR):tx (a++b)=tx a++tx b:=by
 induction a with
 | nil=>rfl
 | cons x a ih=>simp[tx,ih]
theorem pJ (l:List PR)(k:Nat)(h:k<l.length):tx (l.take (k+1))=tx (l.take k)++[l[k].1,l[k].2]:=by
 rw[Dz h,kU];rfl
theorem em (l:List PR)(k:Nat)(h:k<l.length):texts (tx (l.take (k+1)))=texts (tx (l.take k))++(num l[k].1.length 2++l[k].1)++(num l[k].2.length 2++l[k].2):=by
 rw[pJ l k h,g6];simp[texts]
theorem jF (l:List PR)(k:Nat):(texts (tx (l.take k))).length≤(texts (tx l)).length:=by
 have h:=congrArg (fun r=>(texts (tx r)).length) (List.take_append_drop k l);simp only[kU,g6,DL]at h;omega
theorem lu (l:List PR)(k:Nat)(h:k<l.length):l[k].1.length+l[k].2.length≤(texts (tx l)).length:=by
 have:=jF l (k+1);rw[em l k h]at this;simp at this;omega
theorem nG (a b:LL_):dP (a++b)=(dP a&&dP b):=by simp[dP]
theorem lS (l:List PR)(k:Nat)(h:k<l.length)(h':dP (tx (l.take k))=true)(h1:l[k].1.length≤65535)(h2:l[k].2.length≤65535):dP (tx (l.take (k+1)))=true:=by
 rw[pJ l k h,nG,h'];simp[dP,h1,h2]
theorem jS (l:List PR)(k:Nat)(h:k<l.length)(h2:¬(l[k].1.length≤65535∧l[k].2.length≤65535)):dP (tx l)=false:=by
 have e:tx l=tx (l.take k)++([l[k].1,l[k].2]++tx (l.drop (k+1))):=by
  rw[←DK,←pJ l k h,←kU,List.take_append_drop]
 rw[e,nG,nG]
 have:dP [l[k].1,l[k].2]=false:=by
  cases hf:dP [l[k].1,l[k].2]
  ·rfl
  ·simp[dP]at hf;exact absurd hf h2
 rw[this];simp
def iB (l:List PR):LU_×Int :=
 if l.length≤65535 then if dP (tx l) then if aW l then (num l.length 2++texts (tx l),0) else ([],2) else ([],5) else ([],5)
theorem oZ (l:List PR)(h:¬l.length≤65535):iB l=([],5):=if_neg h
theorem kw (l:List PR)(h:l.length≤65535)(h':dP (tx l)=false):iB l=([],5):=by rw[iB,if_pos h,h'];rfl
theorem mQ (l:List PR)(h:l.length≤65535)(h':dP (tx l)=true)(h2:aW l=false):iB l=([],2):=by rw[iB,if_pos h,h',h2];rfl
theorem uS (l:List PR)(h:l.length≤65535)(h':dP (tx l)=true)(h2:aW l=true):iB l=(num l.length 2++texts (tx l),0):=by rw[iB,if_pos h,h',h2];rfl
theorem Ga {T:Prop} (h:T:=by
 have HS:=zH hst;clear hst;go_wp2_with fail;refine(lH _ l _ (HR.o.below hB) (by omega)).mono ?_;rw[HS.o];rintro e w2 ⟨rfl,hB2⟩;go_wp2;go_ret2;exact⟨by rw[hp.o];rfl,bt hB hB2⟩
):T:=h
theorem B1 (v:Value)(l:List PR)(w:World)(hr:RP w v l)(hs:(texts (tx l)).length≤1000000000)(hl:l.length≤1000000000):Calls Tryz.prog 47 #[v] w fun e w'=>e=.returned (txV (iB l))∧Bw_ w w':=by
 have HR:=zH hr;obtain⟨a,cap,rfl,_,hc⟩:=hr.open;clear hr
 by_cases h:l.length≤65535
 ·go_enter Tryz.func47,Tryz.ntmps47
  go_wp2_with (go_at_call 89;refine(kB _ _ _ (by omega) (by omega) (by omega) (by omega)).mono ?_;rintro e w1 ⟨rfl,hB1⟩)
  go_loopw [4,5] (fun s i wr=>∃ k:Nat,∃ m:LU_,k≤l.length∧i=.int .i64 k∧s=.string (bs m)∧m.length≤1000000002∧Hid (m=num l.length 2++texts (tx (l.take k))∧dP (tx (l.take k))=true)∧Below w.heap.size w wr) (fun _ i _=>l.length-(intOf i).toNat)
  case atStart=>exact⟨0,_,by omega,rfl,rfl,by simp,⟨by simp[texts,tx],rfl⟩,hB1⟩
  case round =>
   obtain⟨k,m,hk,rfl,rfl,hm2,hH,hB⟩:=hrel
   by_cases h0:k<l.length
   ·obtain⟨b,off,rfl,d1,d2⟩:=hc k h0
    replace d1:=C8 hB d1;replace d2:=C8 hB d2;have hmm:=lu l k h0
    have hm3:m.length+(2+l[k].1.length)+(2+l[k].2.length)≤1000000002:=by
     obtain⟨rfl,_⟩:=hH.o;have:=jF l (k+1);rw[em l k h0]at this;simp at this⊢;omega
    clear hc;have kk:(k:Int)<(l.length:Int):=by omega
    by_cases h1:l[k].1.length≤65535∧l[k].2.length≤65535
    ·have ht1:=zH (fx l[k].1 h1.1)
     have ht2:=zH (fx l[k].2 h1.2);have H1:=zH h1;clear h1;go_wp2_with fail;refine(dZ _ _ (by omega)).mono ?_;rw[ht1.o,cd];rintro e w2 ⟨rfl,hB2⟩;replace d2:=C8 hB2 d2;clear d1;go_wp2_with fail;refine(dZ _ _ (by omega)).mono ?_;rw[ht2.o,cd];rintro e w3 ⟨rfl,hB3⟩;go_wp2;go_roundw
     case rel =>
      obtain⟨rfl,hf⟩:=hH.o;refine⟨k+1,_,by omega,by go_num,rfl,?_,⟨?_,lS l k h0 hf H1.o.1 H1.o.2⟩,bt hB (bt hB2 hB3)⟩
      ·simp at hm3⊢;omega
      ·rw[em l k h0];simp
     case measure=>simp[intOf];omega
    ·have hno:=zH (jS l k h0 h1)
     by_cases h2:l[k].1.length≤65535
     ·have h3:¬l[k].2.length≤65535:=fun h3=>h1 ⟨h2,h3⟩
      have ht1:=zH (fx l[k].1 h2);have ht2:=zH (gl l[k].2 h3);clear h1 h2 h3;go_wp2_with fail;refine(dZ _ _ (by omega)).mono ?_;rw[ht1.o,cd];rintro e w2 ⟨rfl,hB2⟩;replace d2:=C8 hB2 d2;clear d1;go_wp2_with fail;refine(dZ _ _ (by omega)).mono ?_;rw[ht2.o,cd];rintro e w3 ⟨rfl,hB3⟩;go_wp2;go_ret2;exact⟨by rw[kw l h hno.o];rfl,bt hB (bt hB2 hB3)⟩
     ·have ht1:=zH (gl l[k].1 h2)
      obtain⟨x2,e2,ht2⟩:∃ x e,text l[k].2=(x,e):=⟨_,_,rfl⟩
      have HT2:=zH ht2;clear h1 h2 ht2;go_wp2_with fail;refine(dZ _ _ (by omega)).mono ?_;rw[ht1.o,cd];rintro e w2 ⟨rfl,hB2⟩;replace d2:=C8 hB2 d2;clear d1;go_wp2_with fail;refine(dZ _ _ (by omega)).mono ?_;rw[HT2.o,cd];rintro e w3 ⟨rfl,hB3⟩;go_wp2;go_ret2;exact⟨by rw[kw l h hno.o];rfl,bt hB (bt hB2 hB3)⟩
   ·obtain rfl:k=l.length:=by omega
    obtain⟨rfl,hf⟩:=hH.o;rw[List.take_length]at hf⊢;have HF:=zH hf;clear hf hc hH
    cases hst:aW l
    ·have hp:=zH (mQ l h HF.o hst)
     exact Ga
    ·have hp:=zH (uS l h HF.o hst)
     exact Ga
 ·rw[oZ l h,cd]
  go_enter Tryz.func47,Tryz.ntmps47;go_wp2;go_ret2;exact⟨rfl,DF _ _⟩
theorem Cw (n:Nat)(h:n≤65535):l9 n 2=(num n 2,0):=by
 unfold l9;have e:(256:Nat) ^ (2:Int).toNat=65536:=by decide
 rw[if_pos (by simp only[lI,decide_eq_true_eq,e];omega)]
 rfl
theorem Gc {T:Prop} (h:T:=by
 clear h1;go_wp2_with fail;refine(gU _ _ (by omega)).mono ?_;rw[ht.o,cd];rintro e w3 ⟨rfl,hB3⟩;go_wp2;go_ret2;exact⟨by rw[kw l h hno.o];rfl,bt hBt hB3⟩
):T:=h
theorem zQ (v:Value)(l:List PR)(w:World)(hr:RP w v l)(hs:(texts (tx l)).length≤1000000000)(hl:l.length≤1000000000):Calls Tryz.prog 44 #[v] w fun e w'=>e=.returned (txV (iB l))∧Bw_ w w':=by
 have HR:=zH hr;obtain⟨a,cap,rfl,_,hc⟩:=hr.open;clear hr
 by_cases h:l.length≤65535
 ·have hb:=Bld.fresh w
  have HP:=zH (Cw l.length h);go_enter Tryz.func44,Tryz.ntmps44;go_wp2_with fail;refine(pE _ _ _ (by omega) (by omega)).mono ?_;rw[show((2:Int))=((2:Nat):Int) from rfl]at *;rw[HP.o];rintro e w1 ⟨rfl,hB1⟩;have hb1:=Bld.below hb hB1;go_wp2_with fail;refine(cy _ _ _ _ _ hb1 (by simp)).mono ?_;rintro e w2 ⟨rfl,hb2,hB2⟩;have hB0:Below w.heap.size w w2:=(af w _).trans ((hB1.mono (by simp)).trans hB2);rw[D5]at hb2;clear hb hb1 hB1 hB2;go_wp2
  go_loopw [28] (fun i wr=>∃ k:Nat,k≤l.length∧i=.int .i64 k∧Bld w.heap.size w.heap.size (num l.length 2++texts (tx (l.take k))) wr∧Hid (dP (tx (l.take k))=true)∧Below w.heap.size w wr) (fun i _=>l.length-(intOf i).toNat)
  case atStart=>exact⟨0,by omega,rfl,by simpa[texts,tx] using hb2,rfl,hB0⟩
  case round =>
   obtain⟨k,hk,rfl,hb,hH,hB⟩:=hrel;clear hb2 hB0;obtain⟨W0,hW0⟩:∃ W,W=wr:=⟨_,rfl⟩
   subst hW0
   by_cases h0:k<l.length
   ·obtain⟨b,off,rfl,d1,d2⟩:=hc k h0
    replace d1:=C8 hB d1;replace d2:=C8 hB d2;have hmm:=lu l k h0;clear hc;have kk:(k:Int)<(l.length:Int):=by omega
    have hm3:(num l.length 2++texts (tx (l.take k))).length+(2+l[k].1.length)+(2+l[k].2.length)≤1000000002:=by
     have:=jF l (k+1);rw[em l k h0]at this;simp at this⊢;omega
    obtain⟨x1,x2,hBx⟩:=jg W0 (.cells #[.string (bs l[k].1),.string (bs l[k].2)] 70) (.cells #[.string (bs l[k].1),.string (bs l[k].2)] 9);have hbx:=hb.below hBx;go_wp2;have hszB:=hB.size;revert x1 x2 hBx hbx;generalize ((W0.alloc (.cells #[.string (bs l[k].1),.string (bs l[k].2)] 70)).alloc (.cells #[.string (bs l[k].1),.string (bs l[k].2)] 9))=wx;intro x1 x2 hBx hbx
    go_loopw [38] (fun i wy=>∃ j:Nat,j≤2∧i=.int .i64 j∧Bld w.heap.size w.heap.size (num l.length 2++texts (tx (l.take k))++texts ([l[k].1,l[k].2].take j)) wy∧Hid (dP ([l[k].1,l[k].2].take j)=true)∧wy.heap[W0.heap.size+1]?=some (.cells #[.string (bs l[k].1),.string (bs l[k].2)] 9 (0,0))∧Below w.heap.size wx wy) (fun i _=>2-(intOf i).toNat)
    case atStart=>exact⟨0,by omega,rfl,by simpa[texts] using hbx,rfl,x2,DF _ _⟩
    case round =>
     obtain⟨j,hj,rfl,hby,hHy,hxy,hBy⟩:=hrel;have hBt:Below w.heap.size w wr:=hB.trans ((hBx.mono hB.size).trans hBy);have hszW:=hBx.size;have y1:wr.cell? ⟨W0.heap.size+1,0,none⟩=some (.string (bs l[k].1)):=by rw[Lib.cell_of_heap hxy];rfl
     have y2:wr.cell? ⟨W0.heap.size+1,1,none⟩=some (.string (bs l[k].2)):=by rw[Lib.cell_of_heap hxy];rfl
     have hne:W0.heap.size+1≠w.heap.size:=by omega
     match j,hj with
     | 0,_ =>
      by_cases h1:l[k].1.length≤65535
      ·have ht:=zH (fx l[k].1 h1)
       go_wp2_with fail;refine(gU _ _ (by omega)).mono ?_;rw[ht.o,cd];rintro e w3 ⟨rfl,hB3⟩;have hb3:=hby.below hB3;have hx3:=(hB3.block _ (lt_of_block hxy)).trans hxy;go_wp2_with fail;refine(gT _ _ _ _ _ hb3 (by simp[texts]at hm3⊢;omega)).mono ?_;rintro e w4 ⟨rfl,hb4,hB4,hK4⟩;have hx4:=hK4 _ _ _ _ hne (by decide) hx3;go_wp2;go_roundw
       case rel=>exact⟨1,by omega,by go_num,by simpa[texts] using hb4,by simp[Hid,dP,h1],hx4,(hBy.trans (hB3.mono (by have:=hBy.size;have:=hB.size;omega))).trans hB4⟩
       case measure=>simp[intOf]
      ·have ht:=zH (gl l[k].1 h1)
       have hno:=zH (jS l k h0 (fun c=>h1 c.1));exact Gc
     | 1,_ =>
      have hH1:l[k].1.length≤65535:=by have:=hHy.o;simpa[dP] using this
      by_cases h1:l[k].2.length≤65535
      ·have ht:=zH (fx l[k].2 h1)
       go_wp2_with fail;refine(gU _ _ (by omega)).mono ?_;rw[ht.o,cd];rintro e w3 ⟨rfl,hB3⟩;have hb3:=hby.below hB3;have hx3:=(hB3.block _ (lt_of_block hxy)).trans hxy;go_wp2_with fail;refine(gT _ _ _ _ _ hb3 (by simp[texts]at hm3⊢;omega)).mono ?_;rintro e w4 ⟨rfl,hb4,hB4,hK4⟩;have hx4:=hK4 _ _ _ _ hne (by decide) hx3;go_wp2;go_roundw
       case rel=>exact⟨2,by omega,by go_num,by simpa[texts] using hb4,by simp[Hid,dP,hH1,h1],hx4,(hBy.trans (hB3.mono (by have:=hBy.size;have:=hB.size;omega))).trans hB4⟩
       case measure=>simp[intOf]
      ·have ht:=zH (gl l[k].2 h1)
       have hno:=zH (jS l k h0 (fun c=>h1 c.2));exact Gc
     | 2,_ =>
      have hf2:=hHy.o;have hff:l[k].1.length≤65535∧l[k].2.length≤65535:=by simpa[dP] using hf2
      have HFF:=zH hff;clear hf2 hff;go_wp2;go_roundw
      case rel =>
       refine⟨k+1,by omega,by go_num,?_,lS l k h0 hH.o HFF.o.1 HFF.o.2,hBt⟩;rw[em l k h0];simpa[texts] using hby
      case measure=>simp[intOf];omega
   ·obtain rfl:k=l.length:=by omega
    rw[List.take_length]at hb hH;have HF:=zH hH.o;clear hc hH
    cases hst:aW l
    ·have hp:=zH (mQ l h HF.o hst)
     have HS:=zH hst;clear hst;go_wp2_with fail;refine(ju _ l _ (HR.o.below hB) (by omega)).mono ?_;rw[chk,HS.o];rintro e w2 ⟨rfl,hB2⟩;go_wp2;go_ret2;exact⟨by rw[hp.o];rfl,bt hB hB2⟩
    ·have hp:=zH (uS l h HF.o hst)
     have HS:=zH hst;clear hst;go_wp2_with fail;refine(ju _ l _ (HR.o.below hB) (by omega)).mono ?_;rw[chk,HS.o];rintro e w2 ⟨rfl,hB2⟩;have hb2:=hb.below hB2;go_wp2_with fail;refine(gx _ _ _ _ hb2).mono ?_;rintro e w3 ⟨rfl,hB3⟩;go_wp2;go_ret2;exact⟨by rw[hp.o];rfl,(bt hB hB2).trans hB3⟩
 ·rw[oZ l h,cd]
  go_enter Tryz.func44,Tryz.ntmps44;go_wp2;go_ret2;exact⟨rfl,DF _ _⟩
def eI (l:LU_):LU_:=l.drop (aQ l).2.1
def pok (l:LU_):Prop:=(aQ l).2.2=0∧(aQ (eI l)).2.2=0
instance (l:LU_):Decidable (pok l):=by unfold pok;infer_instance
def pnow (l:LU_):PR:=((aQ l).1,(aQ (eI l)).1)
def yV (l:LU_):Nat:=(aQ l).2.1+(aQ (eI l)).2.1
def fm:Nat→LU_→Option (List PR)
 | 0,l=>if l=[] then some [] else none
 | k+1,l=>if pok l then (fm k (l.drop (yV l))).map (pnow l::·) else none
def lk (l:LU_):Option (List PR) :=
 if l.length<2 then none else (fm (val (l.take 2)) (l.drop 2)).bind fun r=>if aW r then some r else none
theorem wD (k:Nat)(l:LU_)(h:pok l):fm (k+1) l=(fm k (l.drop (yV l))).map (pnow l::·):=if_pos h
theorem wE (k:Nat)(l:LU_)(h:¬pok l):fm (k+1) l=none:=if_neg h
theorem Am (l:LU_)(h:pok l):yV l≤l.length:=by
 have h1:=(kq l h.1).1;have h2:=(kq _ h.2).1;unfold yV;unfold eI at h2⊢;rw[D7]at h2;omega
def gW (l0:LU_)(k0 m:Nat)(r:List PR)(l:LU_):Prop:=fm k0 l0=(fm m l).map (r++·)
theorem gW.start (l0:LU_)(k0:Nat):gW l0 k0 k0 [] l0:=by simp[gW]
theorem gW.step {l0:LU_}{k0 m:Nat}{r:List PR}{l:LU_}(h:gW l0 k0 (m+1) r l)(ho:pok l):gW l0 k0 m (r++[pnow l]) (l.drop (yV l)):=by
 unfold gW at h⊢;rw[h,wD m l ho,Option.map_map];congr 1;funext x;simp
theorem gW.no {l0:LU_}{k0 m:Nat}{r:List PR}{l:LU_}(h:gW l0 k0 (m+1) r l)(ho:¬pok l):fm k0 l0=none:=by
 rw[h,wE m l ho];rfl
theorem gW.fin {l0:LU_}{k0:Nat}{r:List PR}{l:LU_}(h:gW l0 k0 0 r l):fm k0 l0=if l=[] then some r else none:=by
 rw[h,fm];split<;>simp
theorem uo (l:LU_)(h:l.length<2):lk l=none:=if_pos h
theorem qi (l:LU_)(h:fm (val (l.take 2)) (l.drop 2)=none):lk l=none:=by
 unfold lk;split
 ·rfl
 ·rw[h];rfl
theorem xq (l:LU_)(h0:¬l.length<2)(r:List PR)(h:fm (val (l.take 2)) (l.drop 2)=some r):lk l=if aW r then some r else none:=by
 rw[lk,if_neg h0,h];rfl
def CR (o:Option (List PR))(bZ:Nat)(e:Ending)(w':World):Prop :=
 match o with
 | some r=>∃ v,e=.returned (.tuple #[v,.int .i64 0])∧OP w' bZ v r
 | none=>e=.returned (.tuple #[.slice none 0 0,.int .i64 7])
theorem AZ (w:World)(b:Nat):Below b w w.drew:=(DF _ _).drew
theorem ml (r:LU_×Nat×Int):rdV r=.tuple #[.string (bs r.1),.int .i64 r.2.1,.int .i64 r.2.2]:=rfl
theorem CF (l:LU_)(h:¬l.length<2):sj (l.take 2)=((val (l.take 2):Int),0):=by
 unfold sj;rw[if_pos (by simp;omega)]
theorem zT (l:LU_)(w:World)(hs:l.length≤140737488355328):Calls Tryz.prog 103 #[.string (bs l)] w fun e w'=>CR (lk l) w.heap.size e w'∧Bw_ w w':=by
 by_cases h:l.length<2
 ·rw[uo l h]
  go_enter Tryz.func103,Tryz.ntmps103;go_wp2;go_ret2;exact⟨rfl,DF _ _⟩
 ·have hv:=uK l
  go_enter Tryz.func103,Tryz.ntmps103;have HG0:=zH (CF l h);go_wp2_with (go_at_call 149;refine(xK _ _ (by simp[maxLen];omega)).mono ?_;rw[it,HG0.o];rintro e w' ⟨rfl,rfl⟩)
  go_loopw [0,2,23] (fun s v i wr=>∃ k m:Nat,∃ r:List PR,∃ t:LU_,k+m=val (l.take 2)∧i=.int .u64 k∧s=.string (bs t)∧t.length≤140737488355328∧r.length=k∧OP wr w.heap.size v r∧Hid (gW (l.drop 2) (val (l.take 2)) m r t)∧Below w.heap.size w wr) (fun _ _ i _=>val (l.take 2)-(intOf i).toNat)
  case atStart=>exact⟨0,val (l.take 2),[],_,by omega,rfl,rfl,by simp;omega,rfl,OP.nil _ _,gW.start _ _,DF _ _⟩
  case round =>
   obtain⟨k,m,r,t,hkm,rfl,rfl,ht,hrk,hown,hH,hB⟩:=hrel;have HK:=zH hkm;have HR:=zH hrk;have hk1:r.length≤65536:=by omega
   by_cases h0:k<val (l.take 2)
   ·clear hkm hrk
    obtain⟨m,rfl⟩:∃ m',m=m'+1:=⟨m-1,by have:=HK.o;omega⟩
    by_cases ho:(aQ t).2.2=0
    ·have hle:=(kq t ho).1
     have hr1:(eI t).length≤140737488355328:=by unfold eI;simp;omega
     go_wp2_with fail;refine(eQ _ _ ht).mono ?_;rw[ml];rintro e w2 ⟨rfl,hB2⟩;go_wp2_with fail;have HO:=zH ho
     by_cases ho2:(aQ (eI t)).2.2=0
     ·have hp:pok t:=⟨ho,ho2⟩
      have hpl:=Am t hp;have HP:=zH hp;clear hp ho;have hown2:=hown.below hB2;refine(eQ (eI t) _ hr1).mono ?_;rw[ml];rintro e w3 ⟨rfl,hB3⟩;have hown3:=hown2.below hB3;have hby:(r.length+1)*32≤140737488355328:=by omega
      have hbase:=(bt hB (bt hB2 hB3)).size;have q0:(aQ t).2.1+(aQ (eI t)).2.1≤t.length:=hpl;have q1:IntKind.i64.wrap (((aQ t).2.1:Int)+((aQ (eI t)).2.1:Int))=((aQ t).2.1:Int)+((aQ (eI t)).2.1:Int):=IntWalk.i64_in _ (by omega);have HL:=zH hpl;clear hpl;have q2:(0:Int)≤((aQ t).2.1:Int)+((aQ (eI t)).2.1:Int):=by omega
      have q3:(((aQ t).2.1:Int)+((aQ (eI t)).2.1:Int)).toNat=(aQ t).2.1+(aQ (eI t)).2.1:=by omega
      have q4:((aQ t).2.1:Int)+((aQ (eI t)).2.1:Int)≤(t.length:Int):=by omega
      have hown3d:=World.ownsRow.drew hown3;have hbased:w.heap.size≤w3.drew.heap.size:=hbase;obtain⟨ao,co,rfl⟩:=ap hown;clear hown hown2 hown3;go_wp2;go_region_law (refine gA w3.drew (pnow t) rfl _ _ 29 rfl Tryz.underlying29 w.heap.size _ r rfl hown3d _ rfl hby hbased ?_;intro g cap w4 hown4 hB4)
      all_goals
       simp only[Ec,DH,DN];go_frame;go_wp2;go_roundw
       case rel=>exact⟨k+1,m,r++[pnow t],_,by have:=HK.o;omega,by go_num,rfl,by simp;omega,by simp[HR.o],hown4,hH.o.step HP.o,(bt hB (bt hB2 hB3)).trans ((AZ w3 _).trans hB4)⟩
       case measure=>simp[intOf];omega
     ·have HO2:=zH (fun hp:pok t=>ho2 hp.2)
      have ho1:((aQ (eI t)).2.2==0)=false:=by simpa using ho2
      have ho3:((aQ (eI t)).2.2 != 0)=true:=by simpa using ho2
      clear ho ho2;refine(eQ (eI t) _ hr1).mono ?_;rw[ml];rintro e w3 ⟨rfl,hB3⟩;go_wp2;go_ret2;rw[qi l (hH.o.no HO2.o)];exact⟨rfl,bt hB (bt hB2 hB3)⟩
    ·have ho1:((aQ t).2.2==0)=false:=by simpa using ho
     have ho2:((aQ t).2.2 != 0)=true:=by simpa using ho
     have HO:=zH (fun hp:pok t=>ho hp.1);clear ho;go_wp2_with fail;refine(eQ _ _ ht).mono ?_;rw[ml];rintro e w2 ⟨rfl,hB2⟩;go_wp2;go_ret2;rw[qi l (hH.o.no HO.o)];exact⟨rfl,bt hB hB2⟩
   ·obtain rfl:m=0:=by omega
    have hF:=hH.o.fin
    by_cases hz:t=[]
    ·subst hz
     rw[if_pos rfl]at hF;have hG:=xq l h r hF;clear hkm hrk hF
     cases hst:aW r
     ·have hG2:lk l=none:=by rw[hG,hst];rfl
      have HG:=zH hG2;have HS:=zH hst;clear hG hG2 hst;go_wp2_with fail;refine(ju _ r _ hown.reads (by omega)).mono ?_;rw[chk,HS.o];rintro e w2 ⟨rfl,hB2⟩;go_wp2;go_ret2;rw[HG.o];exact⟨rfl,bt hB hB2⟩
     ·have hG2:lk l=some r:=by rw[hG,hst];rfl
      have HG:=zH hG2;have HS:=zH hst;clear hG hG2 hst;go_wp2_with fail;refine(ju _ r _ hown.reads (by omega)).mono ?_;rw[chk,HS.o];rintro e w2 ⟨rfl,hB2⟩;have hown2:=hown.below hB2;go_wp2;go_ret2;rw[HG.o];exact⟨⟨_,rfl,hown2⟩,bt hB hB2⟩
    ·rw[if_neg hz]at hF
     have HG:=zH (qi l hF);clear hkm hrk hF;have hz2:t.isEmpty=false:=by simpa using hz
     go_wp2;go_ret2;rw[HG.o];exact⟨rfl,hB⟩
end
