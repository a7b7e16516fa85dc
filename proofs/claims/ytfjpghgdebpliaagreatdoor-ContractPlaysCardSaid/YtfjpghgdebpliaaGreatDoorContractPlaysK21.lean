/- Lemmas. -/
import Derived.Test.YtfjpghgdebpliaaGreatDoorContractPlaysK8
set_option linter.unusedSimpArgs false
set_option linter.unusedVariables false
set_option maxRecDepth 100000
set_option maxHeartbeats 16000000
namespace Go.Proofs.YtfjpghgdebpliaaGreatDoor
open Go.Proofs.Tryz
open Go.RowKit Oct
section
attribute [local go_sem] Oper.semAt_some
theorem Fk:(Tryz.prog.info? 29).map (fun i=>(i.zero,i.size,i.bytes))=some (some (e_),1,24):=q_
def dB (B:Nat)(U:Z)(cells:LV_)(L:LQ_):Prop:=cells.length=L.length ∧
 ∀ k (hk:k<L.length),∃ A C,cells[k]?=some (.slice A L[k].length C)∧RP U (.slice A L[k].length C) L[k]∧∀ ad,A=some ad→ad.block<B
theorem tM {X:Nat→Prop}{w w':Z}{a:OA_}{n c:Nat}{l:LP_}(h:RP w (.slice a n c) l)(hc:Chg X w w')(hX:∀ ad,a=some ad→¬X ad.block):RP w' (.slice a n c) l:=by
 by_cases hl:l.length=0
 ·exact ME
 ·refine h.move fun ad d=>?_
  obtain⟨a',aK,hv,_,bm⟩:=h.open;injection hv with e1 _ _
  subst e1;obtain⟨b,aL,s,hu,_⟩:=bm 0 Y;rw[d]at s
  cases s
  exact hc.block b (aG hu) (hX _ d)
theorem dB.chg {B:Nat}{X:Nat→Prop}{U U':Z}{cells:LV_}{L:LQ_}(h:dB B U cells L)(hc:Chg X U U')(hX:∀ k,X k→B≤k):dB B U' cells L :=
 ⟨h.1,fun k hk=>by
  obtain⟨A,C,h1,h2,h3⟩:=h.2 k hk;exact⟨A,C,h1,tM h2 hc fun ad d hx=>by have:=h3 ad d;have:=hX _ hx;omega,h3⟩⟩
theorem dB.snoc {B:Nat}{U:Z}{cells:LV_}{L:LQ_}{x:LP_}{A:OA_}{C:Nat}(h:dB B U cells L)(hx:RP U (.slice A x.length C) x)(hA:∀ ad,A=some ad→ad.block<B):dB B U (cells++[.slice A x.length C]) (L++[x]):=by
 refine⟨by simp[h.1],fun k hk=>?_⟩
 by_cases z:k<L.length
 ·obtain⟨A',C',h1,h2,h3⟩:=h.2 k z
  refine⟨A',C',?_,?_,h3⟩
  ·rw[List.getElem?_append_left (by rw[h.1];exact z),JD z];exact h1
  ·rw[JD z];exact h2
 ·obtain rfl:k=L.length:=by simp at hk;omega
  refine⟨A,C,?_,?_,hA⟩
  ·rw[List.getElem?_append_right (by rw[h.1];exact I6 _)];simp[h.1]
  ·simpa using hx
theorem dB.rr {B bZ:Nat}{U:Z}{v:V_}{cells:LV_}{L:LQ_}(aw:U.ownsRow bZ 29 1 v L.length cells)(h:dB B U cells L):RR U v L:=by
 obtain⟨a,ah,hv,hn,hc⟩:=IN aw;subst hv
 have aq:L.length≤ah:=by
  rcases aw.2 with ⟨hv,h0⟩|⟨g,aK,aH,hv,_,_,bm,_⟩
  ·omega
  ·injection hv with _ _ e3;omega
 refine⟨a,ah,rfl,aq,hn,fun k hk=>?_⟩;obtain⟨A,C,h1,h2,_⟩:=h.2 k hk;obtain⟨b,aL,ha,hu⟩:=hc k _ h1;exact⟨b,aL,_,ha,hu,h2⟩
def zE (B s:Nat)(w:Z)(aj:LQ_)(U:Z):Prop:=∃ cells,mp s (s+3) 32 29 1 U aj.length cells∧dB B U cells aj∧Chg (fun k=>k=B∨s≤k) w U
theorem zE.chg {B s:Nat}{w U U':Z}{aj:LQ_}(c:B<s)(h:zE B s w aj U)(hc:Chg (fun k=>k=B∨k=s+1∨k=s+1+1) U U'):zE B s w aj U':=by
 obtain⟨cells,h1,h2,h3⟩:=h;exact⟨cells,h1.chg hc (fun k hk=>by omega),h2.chg hc (fun k hk=>by omega),h3.trans (hc.mono fun k hk=>by omega)⟩
theorem ElP.chg {B s:Nat}{x:LP_}{vs:AV_}{U U':Z}(c:B<s)(h:ElP (fun k=>k<B) x vs U)(hc:Chg (fun k=>k=s+1∨k=s+1+1) U U'):ElP (fun k=>k<B) x vs U':=by
 obtain⟨A,C,h1,h2,h3⟩:=h;exact⟨A,C,h1,tM h2 hc (fun ad d hx=>by have:=h3 ad d;omega),h3⟩
theorem zE.step {B s g ah:Nat}{w U W:Z}{aj:LQ_}{x:LP_}{v:V_}{cells:LV_}{A:OA_}{C:Nat}(c:B<s)(a:U.heap[s]?=some (.cells #[v] 32 (0,0)))(b:dB B U cells aj)(hw:Chg (fun k=>k=B∨s≤k) w U)(hx:RP U (.slice A x.length C) x)(hA:∀ ad,A=some ad→ad.block<B)(hB:B_ (s+3) U W)(aw:W.ownsRow (s+3) 29 1 (.slice (some ⟨g,0,none⟩) (aj.length+1) ah) (aj.length+1) (cells++[.slice A x.length C])):Chg (fun k=>¬(k≤B∨k=s+1∨k=s+1+1)) U (W.setCell ⟨s,0,none⟩ (.slice (some ⟨g,0,none⟩) (aj.length+1) ah))∧zE B s w (aj++[x]) (W.setCell ⟨s,0,none⟩ (.slice (some ⟨g,0,none⟩) (aj.length+1) ah)):=by
 obtain⟨h1,h2⟩:=mp.stored Y a hB aw;refine⟨h2.mono fun k hk=>by omega,_,by simpa using h1,(b.snoc hx hA).chg h2 fun k hk=>by omega,hw.trans (h2.mono fun k hk=>by omega)⟩
theorem rN (B:Nat)(r:LP_)(A0:OA_)(L:Nat)(w:Z)(hB:w.heap[B]?=some (.cells #[.slice A0 r.length L] 29 (0,0)))(hr:RP w (.slice A0 r.length L) r)(ab:∀ ad,A0=some ad→ad.block<B)(hl:r.length≤4398046511104):C_ 162 #[e_,.func (.func 163) #[] #[p_ B]] w fun e w'=>∃ v cells,e=.returned v∧w'.ownsRow (w.heap.size+3) 29 1 v (grp r).length cells∧dB B w' cells (grp r)∧Chg (fun k=>k=B) w w':=by
 have am:=dI r.length r (I6 _);have d:=(Array.getElem?_eq_some_iff.1 hB).1;refine dA func162 rfl ?_;simp only[ntmps162,List.size_toArray,Jq,JI,Nat.reduceAdd,Nat.reduceSub,Array.replicate_succ,Array.replicate_zero,List.push_toArray,List.append_toArray,JC,Jk];go_wp2;obtain⟨W1,aA⟩:=H (w.alloc (.cells #[e_] 32));have bp:W1.heap.size=w.heap.size+1:=by rw[aA];simp
 have a3:W1.heap[w.heap.size]?=some (.cells #[e_] 32 (0,0)):=by rw[aA];exact World.alloc_heap_new w _
 have y:∀ X,Chg X w W1:=fun X=>by rw[aA];exact Chg.alloc X w _
 rw[←aA];clear aA;have aF:=(y (fun _=>False)).at hB (fun h=>h);have bF:=tM hr (y (fun _=>False)) (fun _ _ h=>h)
 refine uF (D:=w.heap.size+1) bp (gf:=163) (lb:=#[p_ B]) rfl (enters_of func163 q_ rfl)
  (X:=fun k=>k=B) (aa:=fun k=>k≤B) (El:=ElP fun k=>k<B) (ag:=grp r) (fun k hk=>by omega) (fun k hk=>by omega)
  (fun W hW=>wM 2 B r A0 L W ((hW.block B Y).trans aF) (tM (X:=fun _=>False) bF (IG (hW.mono Y)) (fun _ _ h=>h)) ab hl)
  (fun x vs U h=>by obtain⟨A,C,rfl,_⟩:=h;rfl) (fun x vs U U' h hc=>h.chg d hc)
  (zE B w.heap.size w) (fun _ _ _=>False) (fun aj U U' h hc=>h.chg d hc) (fun _ _ _ _ h _=>h.elim)
  ⟨[],⟨_,a3,World.ownsRow_nil _ _ _ _⟩,⟨rfl,fun k hk=>by simp at hk⟩,y _⟩ ?round ?done ?stop
 case round =>
  rintro l aj x vs U _ _⟨A,C,rfl,_,_⟩ ao;have ai:=ao.length_le;rw[Jh]at ai;have aS:(aj.length+1)*24≤140737488355328:=by simp at ai;omega
  gi_wp2;refine⟨Ja _ _,?_⟩;rintro U2 h2⟨cells,⟨v,a,aw⟩,b,i⟩ ⟨A',C',a2,hx,hA⟩ aZ;have bI:Value.slice A x.length C=.slice A' x.length C':=by simpa using a2
  injection bI with e1 _ e3
  subst e1 e3;obtain⟨av,cv,rfl⟩:=ay aw;have c:=cell_of_one a;have f:=free_of_one a;clear a2 ai ao aZ;gi_wp2_with (gi_at_builtin;refine Ci U2 [_] 29 rfl _ _ 32 rfl (w.heap.size+3) (e_) 1 24 underlying32 Fk rfl d_ _ _ _ rfl aw _ rfl rfl (by simp[Value.oneCell']) aS d_ h2 ?_;intro g ah W3 M al;have c3:=cell_of_one ((al.block w.heap.size Y).trans a);have f3:=free_of_one ((al.block w.heap.size Y).trans a));exact zE.step d a b i hx hA al M
 case done =>
  rintro W h2⟨cells,⟨v,a,aw⟩,b,i⟩ hK;obtain⟨av,cv,rfl⟩:=ay aw;have c:=cell_of_one a;go_wp2;have hp:∀ X:Nat→Prop,X (w.heap.size+1)→Chg X W (W.putObj (w.heap.size+1) (.deferred none)):=fun X hx=>Chg.putObj _ _ _ hx;refine jq (D:=w.heap.size+1) rfl hK (results_tmp rfl _ _ _) ⟨_,cells,rfl,?_,?_,?_⟩
  ·exact eH aw (hp (fun k=>k=w.heap.size+1) rfl) fun k hk=>by omega
  ·exact b.chg (hp (fun k=>k=w.heap.size+1) rfl) fun k hk=>by omega
  ·have hc:=i.trans (hp _ (.inr Y))
   exact⟨hc.os,hc.tape,hc.output,hc.size,fun k hk hn=>hc.block k hk Y⟩
 case stop=>exact fun _ _ _ _ _ h _=>h.elim
theorem BU (a:OA_)(n c:Nat)(w:Z):C_ 141 #[.slice a n c] w fun e w'=>e=.returned (.func (.func 163) #[] #[.pointer (some ⟨w.heap.size,0,none⟩)])∧w'=w.alloc (.cells #[.slice a n c] 29):=by
 go_enter func141,ntmps141;go_wp2;go_ret;exact⟨rfl,rfl⟩
theorem xw (B:Nat)(r:LP_)(A0:OA_)(L:Nat)(w:Z)(hB:w.heap[B]?=some (.cells #[.slice A0 r.length L] 29 (0,0)))(hr:RP w (.slice A0 r.length L) r)(ab:∀ ad,A0=some ad→ad.block<B)(hl:r.length≤4398046511104):C_ 140 #[.func (.func 163) #[] #[p_ B]] w fun e w'=>∃ a n c cells,e=.returned (.slice a n c)∧w'.ownsRow (w.heap.size+3) 29 1 (.slice a n c) (grp r).length cells∧dB B w' cells (grp r)∧Chg (fun k=>k=B) w w':=by
 have A:=O (rN B r A0 L w hB hr ab hl);clear hB hr ab hl;go_enter func140,ntmps140;go_wp2_with fail;refine A.o.mono ?_;rintro e w1⟨v,cells,rfl,aw,b,hc⟩;obtain⟨a,c,rfl⟩:=ay aw;have HO:=O aw;clear aw;go_wp2_with fail;go_ret;exact⟨_,_,_,cells,rfl,HO,b,hc⟩
theorem bt' {w1 w2 w3:Z}(h:Bw_ w1 w2)(hc:Chg (fun k=>k=w1.heap.size) w2 w3)(hs:w2.heap.size=w1.heap.size+1):Bw_ w1 w3 :=
 h.trans (hc.below (fun k hk=>by omega) Y)
theorem zD (v:V_)(r:LP_)(w:Z)(hr:RP w v r)(hl:r.length*32≤140737488355328):C_ 104 #[v] w fun e w'=>∃ v' bZ cells,e=.returned v'∧w'.ownsRow bZ 29 1 v' (grp (srt r)).length cells∧dB bZ w' cells (grp (srt r))∧w.heap.size≤bZ∧Bw_ w w':=by
 obtain⟨a,ah,rfl,_,_⟩:=hr.open;have bj:=cy r;obtain⟨L,hL⟩:=H (srt r);have c:L.length≤4398046511104:=by rw[hL];omega
 clear bj;have hS:=xo _ _ r w (I6 _) hr hl;rw[←hL]at hS⊢;have HS:=O hS;have HL:=O hL;clear hS hL;go_enter func104,ntmps104;go_wp2_with fail;refine HS.o.mono ?_;rintro e w1⟨v1,rfl,aw,aF⟩;obtain⟨a1,c1,rfl⟩:=ay aw;have m:=aw.reads
 have aC:∀ ad,a1=some ad→ad.block<w1.heap.size:=by
  intro ad d;rcases aw.2 with ⟨hv,_⟩|⟨g,aK,aH,hv,_,hh,_⟩
  ·injection hv with e1 _ _;rw[e1]at d;cases d
  ·injection hv with e1 _ _
   rw[e1]at d
   cases d
   exact(Array.getElem?_eq_some_iff.1 hh).1
 have HR:=O m;have V:=O aC;clear aw m aC;go_wp2_with fail;refine(BU a1 L.length c1 w1).mono ?_;rintro e w2⟨rfl,bl⟩;have aY:w2.heap[w1.heap.size]?=some (.cells #[.slice a1 L.length c1] 29 (0,0)):=by rw[bl];exact World.alloc_heap_new w1 _
 have ax:Bw_ w1 w2:=by rw[bl];exact af w1 _
 have ar:w2.heap.size=w1.heap.size+1:=by rw[bl];simp
 have HC:=O (xw w1.heap.size L a1 c1 w2 aY (HR.o.below ax) V.o c);have bA:=O ar;clear bl aY ar;go_wp2_with fail;refine HC.o.mono ?_;rintro e w3⟨a3,n3,c3,cells,rfl,M,b,aI⟩;have HO:=O M;clear M;go_wp2_with fail;go_ret;refine⟨_,w1.heap.size,cells,rfl,fq HO.o (by have:=bA.o;omega),b,aF.size,bt aF (bt' ax aI bA.o)⟩
theorem GL (x:LP_)(h:0<x.length):x[0].1=hk1 x:=by
 cases x with
 | nil=>simp at h
 | cons p l=>rfl
end
def tx:LP_→LL_
 | []=>[]
 | p::l=>p.1::p.2::tx l
theorem nD (a b:LP_):tx (a++b)=tx a++tx b:=by
 induction a with
 | nil=>rfl
 | cons x a H=>simp[tx,H]
theorem tA (l:LP_)(k:Nat)(h:k<l.length):tx (l.take (k+1))=tx (l.take k)++[l[k].1,l[k].2]:=by
 rw[JB h,nD];rfl
theorem fC (l:LP_)(k:Nat)(h:k<l.length):texts (tx (l.take (k+1)))=texts (tx (l.take k))++(num l[k].1.length 2++l[k].1)++(num l[k].2.length 2++l[k].2):=by
 rw[tA l k h,jH];simp[texts]
theorem lV (l:LP_)(k:Nat):(texts (tx (l.take k))).length≤(texts (tx l)).length:=by
 have h:=congrArg (fun r=>(texts (tx r)).length) (List.take_append_drop k l);simp only[nD,jH,Jh]at h;omega
theorem oq (l:LP_)(k:Nat)(h:k<l.length):l[k].1.length+l[k].2.length≤(texts (tx l)).length:=by
 have:=lV l (k+1);rw[fC l k h]at this;simp at this;omega
theorem qN (a b:LL_):eT (a++b)=(eT a&&eT b):=by simp[eT]
theorem oT (l:LP_)(k:Nat)(h:k<l.length)(h':eT (tx (l.take k))=true)(h1:l[k].1.length≤65535)(h2:l[k].2.length≤65535):eT (tx (l.take (k+1)))=true:=by
 rw[tA l k h,qN,h'];simp[eT,h1,h2]
theorem ml (l:LP_)(k:Nat)(h:k<l.length)(h2:¬(l[k].1.length≤65535∧l[k].2.length≤65535)):eT (tx l)=false:=by
 have e:tx l=tx (l.take k)++([l[k].1,l[k].2]++tx (l.drop (k+1))):=by
  rw[←Jg,←tA l k h,←nD,List.take_append_drop]
 rw[e,qN,qN]
 have:eT [l[k].1,l[k].2]=false:=by
  cases hf:eT [l[k].1,l[k].2]
  ·rfl
  ·simp[eT]at hf;exact absurd hf h2
 rw[this];simp
def fb (l:LP_):q×Int :=
 if l.length≤65535 then if eT (tx l) then if bz l then (num l.length 2++texts (tx l),0) else ([],2) else ([],5) else ([],5)
theorem sj (l:LP_)(h:¬l.length≤65535):fb l=([],5):=if_neg h
theorem mK (l:LP_)(h:l.length≤65535)(h':eT (tx l)=false):fb l=([],5):=by rw[fb,if_pos h,h'];rfl
theorem qh (l:LP_)(h:l.length≤65535)(h':eT (tx l)=true)(h2:bz l=false):fb l=([],2):=by rw[fb,if_pos h,h',h2];rfl
theorem zQ (l:LP_)(h:l.length≤65535)(h':eT (tx l)=true)(h2:bz l=true):fb l=(num l.length 2++texts (tx l),0):=by rw[fb,if_pos h,h',h2];rfl
theorem LO {T:Prop} (h:T:=by
 have HS:=O ab;clear ab;go_wp2_with fail;refine(oF _ l _ (HR.o.below hB) (by omega)).mono ?_;rw[HS.o];rintro e w2⟨rfl,ax⟩;go_wp2;go_ret2;exact⟨by rw[hp.o];rfl,bt hB ax⟩
):T:=h
theorem Bl (v:V_)(l:LP_)(w:Z)(hr:RP w v l)(hs:(texts (tx l)).length≤1000000000)(hl:l.length≤1000000000):R_ 38 #[v] w (txV (fb l)):=by
 have HR:=O hr;obtain⟨a,ah,rfl,_,hc⟩:=hr.open;clear hr
 by_cases h:l.length≤65535
 ·go_enter func38,ntmps38
  go_wp2_with (go_at_call 65;refine(mN _ _ _ Y Y Y Y).mono ?_;rintro e w1⟨rfl,aF⟩)
  go_loopw [4,5] (fun s i wr=>∃ k:Nat,∃ m:q,k≤l.length∧i=F k∧s=s_ m∧m.length≤1000000002∧Hid (m=num l.length 2++texts (tx (l.take k))∧eT (tx (l.take k))=true)∧Bw_ w wr) (fun _ i _=>l.length-(intOf i).toNat)
  case atStart=>exact⟨0,_,by omega,rfl,rfl,by simp,⟨by simp[texts,tx],rfl⟩,aF⟩
  case round =>
   obtain⟨k,m,hk,rfl,rfl,N,X,hB⟩:=hrel
   by_cases h0:k<l.length
   ·obtain⟨b,aL,rfl,d1,d2⟩:=hc k h0
    replace d1:=IF hB d1;replace d2:=IF hB d2;have aK:=oq l k h0
    have ay:m.length+(2+l[k].1.length)+(2+l[k].2.length)≤1000000002:=by
     obtain⟨rfl,_⟩:=X.o;have:=lV l (k+1);rw[fC l k h0]at this;simp at this⊢;omega
    clear hc;have kk:(k:Int)<l.length:=Y
    by_cases h1:l[k].1.length≤65535∧l[k].2.length≤65535
    ·have I:=O (gT l[k].1 h1.1)
     have aa:=O (gT l[k].2 h1.2);have H1:=O h1;clear h1;go_wp2_with fail;refine(fo _ _ Y).mono ?_;rw[I.o,di];rintro e w2⟨rfl,ax⟩;replace d2:=IF ax d2;clear d1;go_wp2_with fail;refine(fo _ _ Y).mono ?_;rw[aa.o,di];rintro e w3⟨rfl,al⟩;go_wp2;go_roundw
     case rel =>
      obtain⟨rfl,hf⟩:=X.o;refine⟨k+1,_,by omega,by go_num,rfl,?_,⟨?_,oT l k h0 hf H1.o.1 H1.o.2⟩,bt hB (bt ax al)⟩
      ·simp at ay⊢;omega
      ·rw[fC l k h0];simp
     case measure=>simp[intOf];omega
    ·have a0:=O (ml l k h0 h1)
     by_cases h2:l[k].1.length≤65535
     ·have h3:¬l[k].2.length≤65535:=fun h3=>h1 ⟨h2,h3⟩
      have I:=O (gT l[k].1 h2);have aa:=O (iN l[k].2 h3);clear h1 h2 h3;go_wp2_with fail;refine(fo _ _ Y).mono ?_;rw[I.o,di];rintro e w2⟨rfl,ax⟩;replace d2:=IF ax d2;clear d1;go_wp2_with fail;refine(fo _ _ Y).mono ?_;rw[aa.o,di];rintro e w3⟨rfl,al⟩;go_wp2;go_ret2;exact⟨by rw[mK l h a0.o];rfl,bt hB (bt ax al)⟩
     ·have I:=O (iN l[k].1 h2)
      obtain⟨x2,e2,aa⟩:∃ x e,CP l[k].2=(x,e):=⟨_,_,rfl⟩
      have c:=O aa;clear h1 h2 aa;go_wp2_with fail;refine(fo _ _ Y).mono ?_;rw[I.o,di];rintro e w2⟨rfl,ax⟩;replace d2:=IF ax d2;clear d1;go_wp2_with fail;refine(fo _ _ Y).mono ?_;rw[c.o,di];rintro e w3⟨rfl,al⟩;go_wp2;go_ret2;exact⟨by rw[mK l h a0.o];rfl,bt hB (bt ax al)⟩
   ·obtain rfl:k=l.length:=Y
    obtain⟨rfl,hf⟩:=X.o;rw[List.take_length]at hf⊢;have HF:=O hf;clear hf hc X
    cases ab:bz l
    ·have hp:=O (qh l h HF.o ab)
     exact LO
    ·have hp:=O (zQ l h HF.o ab)
     exact LO
 ·rw[sj l h,di]
  go_enter func38,ntmps38;go_wp2;go_ret2;exact⟨rfl,Ja _ _⟩
theorem Hu (n:Nat)(h:n≤65535):ph n 2=(num n 2,0):=by
 unfold ph;have e:(256:Nat) ^ (2:Int).toNat=65536:=d_;rw[if_pos (by simp only[oG,decide_eq_true_eq,e];omega)]
 rfl
theorem LP {T:Prop} (h:T:=by
 clear h1;go_wp2_with fail;refine(jz _ _ (by omega)).mono ?_;rw[ht.o,di];rintro e w3⟨rfl,al⟩;go_wp2;go_ret2;exact⟨by rw[mK l h a0.o];rfl,bt o al⟩
):T:=h
theorem Ez (v:V_)(l:LP_)(w:Z)(hr:RP w v l)(hs:(texts (tx l)).length≤1000000000)(hl:l.length≤1000000000):R_ 35 #[v] w (txV (fb l)):=by
 have HR:=O hr;obtain⟨a,ah,rfl,_,hc⟩:=hr.open;clear hr
 by_cases h:l.length≤65535
 ·have hb:=Bld.fresh w
  have HP:=O (Hu l.length h);go_enter func35,ntmps35;go_wp2_with fail;refine(s9 _ _ _ Y Y).mono ?_;rw[show((2:Int))=((2:Nat):Int) from rfl]at *;rw[HP.o];rintro e w1⟨rfl,aF⟩;have a8:=Bld.below hb aF;go_wp2_with fail;refine(dt _ _ _ _ _ a8 i_).mono ?_;rintro e w2⟨rfl,aY,ax⟩;have N:Bw_ w w2:=(af w _).trans ((aF.mono i_).trans ax);rw[JC]at aY;clear hb a8 aF ax;go_wp2
  go_loopw [28] (fun i wr=>∃ k:Nat,k≤l.length∧i=F k∧Bld w.heap.size w.heap.size (num l.length 2++texts (tx (l.take k))) wr∧Hid (eT (tx (l.take k))=true)∧Bw_ w wr) (fun i _=>l.length-(intOf i).toNat)
  case atStart=>exact⟨0,by omega,rfl,by simpa[texts,tx] using aY,rfl,N⟩
  case round =>
   obtain⟨k,hk,rfl,hb,X,hB⟩:=hrel;clear aY N;obtain⟨W0,a1⟩:∃ W,W=wr:=⟨_,rfl⟩
   subst a1
   by_cases h0:k<l.length
   ·obtain⟨b,aL,rfl,d1,d2⟩:=hc k h0
    replace d1:=IF hB d1;replace d2:=IF hB d2;have aK:=oq l k h0;clear hc;have kk:(k:Int)<l.length:=Y
    have ay:(num l.length 2++texts (tx (l.take k))).length+(2+l[k].1.length)+(2+l[k].2.length)≤1000000002:=by
     have:=lV l (k+1);rw[fC l k h0]at this;simp at this⊢;omega
    obtain⟨x1,x2,r⟩:=jD W0 (.cells #[s_ l[k].1,s_ l[k].2] 64) (.cells #[s_ l[k].1,s_ l[k].2] 9);have a3:=hb.below r;go_wp2;have x:=hB.size;revert x1 x2 r a3;generalize ((W0.alloc (.cells #[s_ l[k].1,s_ l[k].2] 64)).alloc (.cells #[s_ l[k].1,s_ l[k].2] 9))=wx;intro x1 x2 r a3
    go_loopw [38] (fun i u=>∃ j:Nat,j≤2∧i=F j∧Bld w.heap.size w.heap.size (num l.length 2++texts (tx (l.take k))++texts ([l[k].1,l[k].2].take j)) u∧Hid (eT ([l[k].1,l[k].2].take j)=true)∧u.heap[W0.heap.size+1]?=some (.cells #[s_ l[k].1,s_ l[k].2] 9 (0,0))∧B_ w.heap.size wx u) (fun i _=>2-(intOf i).toNat)
    case atStart=>exact⟨0,by omega,rfl,by simpa[texts] using a3,rfl,x2,Ja _ _⟩
    case round =>
     obtain⟨j,hj,rfl,aS,q,d,f⟩:=hrel;have o:Bw_ w wr:=hB.trans ((r.mono hB.size).trans f);have y:=r.size;have y1:wr.cell? ⟨W0.heap.size+1,0,none⟩=some (s_ l[k].1):=by rw[Lib.cell_of_heap d];rfl
     have y2:wr.cell? ⟨W0.heap.size+1,1,none⟩=some (s_ l[k].2):=by rw[Lib.cell_of_heap d];rfl
     have aI:W0.heap.size+1≠w.heap.size:=Y
     match j,hj with
     | 0,_ =>
      by_cases h1:l[k].1.length≤65535
      ·have ht:=O (gT l[k].1 h1)
       go_wp2_with fail;refine(jz _ _ Y).mono ?_;rw[ht.o,di];rintro e w3⟨rfl,al⟩;have aX:=aS.below al;have aj:=(al.block _ (lt_of_block d)).trans d;go_wp2_with fail;refine(jy _ _ _ _ _ aX (by simp[texts]at ay⊢;omega)).mono ?_;rintro e w4⟨rfl,bC,aQ,m⟩;have ai:=m _ _ _ _ aI d_ aj;go_wp2;go_roundw
       case rel=>exact⟨1,by omega,by go_num,by simpa[texts] using bC,by simp[Hid,eT,h1],ai,(f.trans (al.mono (by have:=f.size;have:=hB.size;omega))).trans aQ⟩
       case measure=>simp[intOf]
      ·have ht:=O (iN l[k].1 h1)
       have a0:=O (ml l k h0 (fun c=>h1 c.1));exact LP
     | 1,_ =>
      have g:l[k].1.length≤65535:=by have:=q.o;simpa[eT] using this
      by_cases h1:l[k].2.length≤65535
      ·have ht:=O (gT l[k].2 h1)
       go_wp2_with fail;refine(jz _ _ Y).mono ?_;rw[ht.o,di];rintro e w3⟨rfl,al⟩;have aX:=aS.below al;have aj:=(al.block _ (lt_of_block d)).trans d;go_wp2_with fail;refine(jy _ _ _ _ _ aX (by simp[texts]at ay⊢;omega)).mono ?_;rintro e w4⟨rfl,bC,aQ,m⟩;have ai:=m _ _ _ _ aI d_ aj;go_wp2;go_roundw
       case rel=>exact⟨2,by omega,by go_num,by simpa[texts] using bC,by simp[Hid,eT,g,h1],ai,(f.trans (al.mono (by have:=f.size;have:=hB.size;omega))).trans aQ⟩
       case measure=>simp[intOf]
      ·have ht:=O (iN l[k].2 h1)
       have a0:=O (ml l k h0 (fun c=>h1 c.2));exact LP
     | 2,_ =>
      have n:=q.o;have s:l[k].1.length≤65535∧l[k].2.length≤65535:=by simpa[eT] using n
      have t:=O s;clear n s;go_wp2;go_roundw
      case rel =>
       refine⟨k+1,by omega,by go_num,?_,oT l k h0 X.o t.o.1 t.o.2,o⟩;rw[fC l k h0];simpa[texts] using aS
      case measure=>simp[intOf];omega
   ·obtain rfl:k=l.length:=Y
    rw[List.take_length]at hb X;have HF:=O X.o;clear hc X
    cases ab:bz l
    ·have hp:=O (qh l h HF.o ab)
     have HS:=O ab;clear ab;go_wp2_with fail;refine(td _ l _ (HR.o.below hB) Y).mono ?_;rw[chk,HS.o];rintro e w2⟨rfl,ax⟩;go_wp2;go_ret2;exact⟨by rw[hp.o];rfl,bt hB ax⟩
    ·have hp:=O (zQ l h HF.o ab)
     have HS:=O ab;clear ab;go_wp2_with fail;refine(td _ l _ (HR.o.below hB) Y).mono ?_;rw[chk,HS.o];rintro e w2⟨rfl,ax⟩;have aY:=hb.below ax;go_wp2_with fail;refine(iY _ _ _ _ aY).mono ?_;rintro e w3⟨rfl,al⟩;go_wp2;go_ret2;exact⟨by rw[hp.o];rfl,(bt hB ax).trans al⟩
 ·rw[sj l h,di]
  go_enter func35,ntmps35;go_wp2;go_ret2;exact⟨rfl,Ja _ _⟩
def Ht (l:q):q:=l.drop (Dt l).2.1
def pok (l:q):Prop:=(Dt l).2.2=0∧(Dt (Ht l)).2.2=0
instance (l:q):Decidable (pok l):=by unfold pok;infer_instance
theorem DE (r:LP_)(h:(fb r).1.length≤(texts (tx r)).length+2→False):False:=by
 apply h;unfold fb
 repeat' split
 all_goals simp
 all_goals omega
