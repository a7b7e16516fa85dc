/- Lemmas. -/
import Derived.Laws.EntriesVeiled
import Derived.Maps.OwnIn
import Derived.Test.YtfjpghgdebpliaaGreatDoorContractPlaysK7
set_option linter.unusedSimpArgs false
set_option linter.unusedVariables false
set_option maxRecDepth 100000
set_option maxHeartbeats 16000000
namespace Go.Proofs.YtfjpghgdebpliaaGreatDoor
open Go.Proofs.Tryz
open Go.RowKit Oct
def eY:Rec Int where
 cell x:=[.int .i64 x]
 e:=3
 n:=1
 bytes:=8
 z:=.int .i64 0
 len:=fun _=>rfl
 one:=by intro x u h;simp at h;subst h;rfl
 info:=by kernel_rfl
 zs:=rfl
 pos:=by decide
 bpos:=by decide
def pY:Rec (q×(OA_×Nat×Nat)) where
 cell s:=[.string (bs s.1),.slice s.2.1 s.2.2.1 s.2.2.2]
 e:=94
 n:=2
 bytes:=40
 z:=.agg #[.string ByteArray.empty,.slice none 0 0]
 len:=fun _=>rfl
 one:=by intro x u h;simp at h;rcases h with rfl|rfl<;>rfl
 info:=by kernel_rfl
 zs:=rfl
 pos:=by decide
 bpos:=by decide
theorem gX {w:Z}{v:V_}{l:LI_}(h:eY.Row w v l):∃ a ah,v=.slice a l.length ah∧l.length≤ah∧∀ k (hk:k<l.length),∃ b aL,a=some ⟨b,aL,none⟩∧w.cell? ⟨b,aL+k,none⟩=some (F l[k]):=by
 obtain⟨a,ah,hv,aq,hc⟩:=h.open;refine⟨a,ah,hv,aq,fun k hk=>?_⟩;obtain⟨b,aL,ha,hu⟩:=hc k hk;have:=hu 0 _ rfl;rw[show eY.n=1 from rfl,Nat.mul_one,Nat.add_zero]at this;exact⟨b,aL,ha,this⟩
section
variable {α:Type}{R:Rec α}
theorem Rec.Row.chg {X:Nat→Prop}{w w':Z}{v:V_}{l:List α}(h:R.Row w v l)(hc:Chg X w w')(hX:∀ b,v.ownBlock=some b→¬X b):R.Row w' v l:=by
 obtain⟨⟨a,ah,rfl,hn,hu⟩,h2⟩:=h;refine⟨⟨a,ah,rfl,hn,fun j u hj=>?_⟩,h2⟩;obtain⟨b,aL,rfl,y⟩:=hu j u hj;exact⟨b,aL,rfl,hc.cell y (hX b rfl)⟩
theorem Mi {T:Prop} (h:T:=by
 obtain⟨h1,h2⟩:=h;refine⟨h1,?_⟩;rcases h2 with h2|⟨g,ah,aH,rfl,hg,hh,r⟩
 ·exact .inl h2
 ·exact .inr ⟨g,ah,aH,rfl,hg,hc.at hh (hX g rfl),r⟩
):T:=h
theorem Rec.Own.chg {X:Nat→Prop}{w w':Z}{bZ:Nat}{v:V_}{l:List α}(h:R.Own w bZ v l)(hc:Chg X w w')(hX:∀ k,v.ownBlock=some k→¬X k):R.Own w' bZ v l:=by
 exact Mi
theorem Rec.Own.lt {w:Z}{bZ:Nat}{v:V_}{l:List α}(h:R.Own w bZ v l):∀ b,v.ownBlock=some b→bZ≤b∧b<w.heap.size:=fun b hb=>World.ownsRow.lt h b hb
theorem Rec.Own.new (w:Z)(x:α):R.Own (w.alloc (.cells (R.cell x).toArray R.e)) w.heap.size (.slice (some ⟨w.heap.size,0,none⟩) 1 1) [x] :=
 ⟨by simp[Rec.cells,R.len],.inr ⟨w.heap.size,1,(R.cell x).toArray,rfl,I6 _,World.alloc_heap_new w _,I6 _,by decide,by simp[R.len],by simp[Rec.cells,R.len,I5]⟩⟩
theorem Rec.Own.empty (w:Z):R.Own (w.alloc (.cells #[] R.e)) w.heap.size (.slice (some ⟨w.heap.size,0,none⟩) 0 0) [] :=
 ⟨by simp[Rec.cells],.inr ⟨w.heap.size,0,#[],rfl,I6 _,World.alloc_heap_new w _,I6 _,by decide,by simp,by simp[Rec.cells]⟩⟩
theorem Mm {T:Prop} (h:T:=by
 unfold Rec.Own;rw[R.cells_append,Jh,Rec.cells,Rec.cells,Jy];exact h2
):T:=h
theorem Rec.append1C {aM:Array Oper}{rest:LO_}{o:Oper}{a:Act}{Q:Exit→Act→Z→Prop}(R:Rec α)(wr:Z)(p:α)(av:o.guard=none)(s x:Operand)(t:T_)(ho:o.op=.call { callee:=.builtin .append,args:=#[s,x],argTypes:=#[t,t] })(ht:prog.underlying t=some (.slice R.e))(bZ:Nat)(v:V_)(xs:List α)(aw:R.Own wr bZ v xs)(hs:a.eval s=v)(c:Nat)(hx:a.eval x=.slice (some ⟨wr.heap.size,0,none⟩) 1 c)(cs:AV_)(aR:cs=(R.cell p).toArray)(e:T_)(he:e=R.e)(d:(xs.length+1)*R.bytes≤140737488355328)(aB:bZ≤wr.heap.size)(h:∀ g ah w',R.Own w' bZ (.slice (some ⟨g,0,none⟩) (xs.length+1) ah) (xs++[p])→Chg (fun k=>v.ownBlock=some k) wr w'→(v.ownBlock=some g∨wr.heap.size≤g) → wpList prog aM Q rest (a.put o.dst (.slice (some ⟨g,0,none⟩) (xs.length+1) ah)) w'):wpList prog aM Q (o::rest) a (wr.alloc (.cells cs e)):=by
 subst aR he;obtain⟨i,hi,hz,ao,aG⟩:=info_parts R.info;have hn:xs.length+1≤(xs.length+1)*R.bytes:=Nat.le_mul_of_pos_right _ R.bpos;refine wpList_append_lies _ av s x t ho bZ R.e i R.z R.n R.bytes ht hi hz ao aG R.zs R.pos v xs.length (R.cells xs) hs (World.ownsRow.alloc aw _) ⟨wr.heap.size,0,none⟩ 1 c (R.cell p) hx (by simpa using R.len p) ?_ (R.one p) d_ yzb d yza _ rfl ?_
 ·intro j u hj
  have:j<(R.cell p).length:=by
   rcases Nat.lt_or_ge j (R.cell p).length with h|h
   ·exact h
   ·simp[List.getElem?_eq_none h]at hj
  exact M7
 ·intro g ah w' h2 h3 h4 h5
  have hB:B_ bZ wr w':=((Ja bZ wr).alloc aB _).grown h3 yza (fun k hk=>(Rec.Own.lt aw k hk).1);refine h g ah w' ?_ ⟨hB.os,hB.tape,hB.output,hB.size,fun j hj aI=>?_⟩ ?_
  ·exact Mm
  ·rw[h3.block j yza (fun e=>aI e.symm)]
   exact Below.heap_alloc _ _ _ hj
  ·rcases h4 with h4|h4
   ·exact .inl h4
   ·exact .inr yzx
end
abbrev Nd:=q×List Int
abbrev LD_:=List Nd
def KR (w:Z)(K:Nat→Prop)(V lv:V_)(x:q×(OA_×Nat×Nat))(y:Nd):Prop :=
 x.1=y.1∧eY.Row w (.slice x.2.1 x.2.2.1 x.2.2.2) y.2∧∀ b,(Value.slice x.2.1 x.2.2.1 x.2.2.2).ownBlock=some b→K b∧b<w.heap.size∧V.ownBlock≠some b∧lv.ownBlock≠some b
structure NL (w:Z) (bZ:Nat) (K:Nat→Prop) (nv lv:V_) (nodes:LD_) (level:LI_):Prop where
 raw:∃ raw,pY.Own w bZ nv raw∧raw.length=nodes.length∧∀ i (h:i<raw.length) (h':i<nodes.length),KR w K nv lv raw[i] nodes[i]
 lev:eY.Own w bZ lv level
 ap:∀ b,nv.ownBlock=some b→lv.ownBlock≠some b
theorem NL.chg {X:Nat→Prop}{w w':Z}{bZ:Nat}{K:Nat→Prop}{V lv:V_}{E:LD_}{ae:LI_}(h:NL w bZ K V lv E ae)(hc:Chg X w w')(hX:∀ k,K k∨V.ownBlock=some k∨lv.ownBlock=some k→k<w.heap.size→¬X k):NL w' bZ K V lv E ae:=by
 obtain⟨⟨aF,h1,h2,h3⟩,h4,h5⟩:=h;refine⟨⟨aF,h1.chg hc (fun k hk=>hX k (.inr (.inl hk)) (h1.lt k hk).2),h2,fun i hi d=>?_⟩,h4.chg hc (fun k hk=>hX k (.inr (.inr hk)) (h4.lt k hk).2),h5⟩;obtain⟨k1,k2,k3⟩:=h3 i hi d;exact⟨k1,k2.chg hc (fun b hb=>hX b (.inl (k3 b hb).1) (k3 b hb).2.1),fun b hb=>⟨(k3 b hb).1,Jr (k3 b hb).2.1 hc.size,(k3 b hb).2.2⟩⟩
theorem NL.below {w w':Z}{bZ:Nat}{K:Nat→Prop}{V lv:V_}{E:LD_}{ae:LI_}(h:NL w bZ K V lv E ae)(hB:Bw_ w w'):NL w' bZ K V lv E ae:=h.chg (X:=fun _=>False) (IG hB) (fun _ _ _ h=>h)
theorem NL.avoid {w:Z}{bZ L:Nat}{K:Nat→Prop}{V lv:V_}{E:LD_}{ae:LI_}(h:NL w bZ K V lv E ae)(hL:L<bZ){hK:¬K L}:∀ k,K k∨V.ownBlock=some k∨lv.ownBlock=some k→k<w.heap.size→¬k=L:=by
 obtain⟨⟨aF,h1,_⟩,h4,_⟩:=h;rintro k (hk|hk|hk) _ rfl
 ·exact hK hk
 ·have:=(h1.lt k hk).1;omega
 ·have:=(h4.lt k hk).1;omega
theorem NL.mono {w:Z}{bZ:Nat}{K K':Nat→Prop}{V lv:V_}{E:LD_}{ae:LI_}(h:NL w bZ K V lv E ae)(hK:∀ k,k<w.heap.size→K k→K' k):NL w bZ K' V lv E ae:=by
 obtain⟨⟨aF,h1,h2,h3⟩,h4,h5⟩:=h;exact⟨⟨aF,h1,h2,fun i hi d=>⟨(h3 i hi d).1,(h3 i hi d).2.1,fun b hb=>⟨hK b ((h3 i hi d).2.2 b hb).2.1 ((h3 i hi d).2.2 b hb).1,((h3 i hi d).2.2 b hb).2⟩⟩⟩,h4,h5⟩
theorem JU {T:Prop} (h:T:=by
 intro b hb hn e;have e2:g=b:=by simpa[Value.ownBlock] using e
 subst e2;rcases hg with hg|hg
 ·exact hn hg
 ·omega
):T:=h
theorem NL.level {w w':Z}{bZ g ah:Nat}{K:Nat→Prop}{V lv:V_}{E:LD_}{ae q:LI_}(h:NL w bZ K V lv E ae)(hc:Chg (fun k=>lv.ownBlock=some k) w w')(hg:lv.ownBlock=some g∨w.heap.size≤g)(ho:eY.Own w' bZ (.slice (some ⟨g,0,none⟩) q.length ah) q):NL w' bZ K V (.slice (some ⟨g,0,none⟩) q.length ah) E q:=by
 obtain⟨⟨aF,h1,h2,h3⟩,h4,h5⟩:=h
 have al:∀ b,b<w.heap.size→lv.ownBlock≠some b→(Value.slice (some ⟨g,0,none⟩) q.length ah).ownBlock≠some b:=by
  exact JU
 refine⟨⟨aF,h1.chg hc (fun k hk=>h5 k hk),h2,fun i hi d=>?_⟩,ho,fun b hb=>al b (h1.lt b hb).2 (h5 b hb)⟩;obtain⟨k1,k2,k3⟩:=h3 i hi d;exact⟨k1,k2.chg hc (fun b hb=>(k3 b hb).2.2.2),fun b hb=>⟨(k3 b hb).1,Jr (k3 b hb).2.1 hc.size,(k3 b hb).2.2.1,al b (k3 b hb).2.1 (k3 b hb).2.2.2⟩⟩
theorem NL.node {w w':Z}{bZ g ah n:Nat}{K:Nat→Prop}{V lv:V_}{E:LD_}{ae:LI_}{aF:List (q×(OA_×Nat×Nat))}{x:q×(OA_×Nat×Nat)}{y:Nd}(h4:eY.Own w bZ lv ae)(h5:∀ b,V.ownBlock=some b→lv.ownBlock≠some b)(h2:aF.length=E.length)(h3:∀ i (h:i<aF.length) (h':i<E.length),KR w K V lv aF[i] E[i])(hx:KR w K V lv x y)(hc:Chg (fun k=>V.ownBlock=some k) w w')(hg:V.ownBlock=some g∨w.heap.size≤g)(ho:pY.Own w' bZ (.slice (some ⟨g,0,none⟩) n ah) (aF++[x])):NL w' bZ K (.slice (some ⟨g,0,none⟩) n ah) lv (E++[y]) ae:=by
 have al:∀ b,b<w.heap.size→V.ownBlock≠some b→(Value.slice (some ⟨g,0,none⟩) n ah).ownBlock≠some b:=by
  exact JU
 have z:∀ x y,KR w K V lv x y→KR w' K (.slice (some ⟨g,0,none⟩) n ah) lv x y:=by
  rintro x y⟨k1,k2,k3⟩;exact⟨k1,k2.chg hc (fun b hb=>(k3 b hb).2.2.1),fun b hb=>⟨(k3 b hb).1,Jr (k3 b hb).2.1 hc.size,al b (k3 b hb).2.1 (k3 b hb).2.2.1,(k3 b hb).2.2.2⟩⟩
 refine⟨⟨aF++[x],ho,by simp[h2],fun i hi d=>?_⟩,h4.chg hc (fun k hk e=>h5 k e hk),fun b hb=>?_⟩
 ·by_cases hl:i<aF.length
  ·rw[JD hl,JD Y]
   exact z _ _ (h3 i hl Y)
  ·have e:i=aF.length:=by simp at hi;omega
   subst e;rw[JL Y,JL Y];simp only[Nat.sub_self,h2,Jm];exact z _ _ hx
 ·have e2:g=b:=by simpa[Value.ownBlock] using hb
  subst e2;intro e;rcases hg with hg|hg
  ·exact h5 g hg e
  ·have:=(h4.lt g e).2;omega
def et (w:Z)(L T:Nat)(lv V:V_)(n0:Int):Prop:=w.heap[L]?=some (.cells #[lv] 92 (0,0))∧w.heap[T]?=some (.cells #[V,.int .i64 n0] 68 (0,0))
theorem et.cells {w:Z}{L T:Nat}{lv V:V_}{n0:Int}(h:et w L T lv V n0):w.cell? ⟨L,0,none⟩=some lv∧w.cell? ⟨T,0,none⟩=some V∧w.cell? ⟨T,1,none⟩=some (F n0)∧w.frozen? ⟨L,0,none⟩=false∧w.frozen? ⟨T,0,none⟩=false∧w.frozen? ⟨T,1,none⟩=false:=by
 obtain⟨h1,h2⟩:=h;refine⟨cell_of_one h1,?_,?_,free_of_one h1,?_,?_⟩<;>simp[World.cell?,World.frozen?,h2]
theorem I0 {w:Z}{L T:Nat}{lv V u:V_}{n0:Int}(h:et w L T lv V n0)(hn:L≠T):et (w.setCell ⟨L,0,none⟩ u) L T u V n0 :=
 ⟨one_setCell (v:=lv) h.1,(Below.heap_setCell _ _ _ _ (Ne.symm hn)).trans h.2⟩
theorem et.setT {w:Z}{L T:Nat}{lv V u:V_}{n0:Int}(h:et w L T lv V n0)(hn:L≠T):et (w.setCell ⟨T,0,none⟩ u) L T lv u n0:=by
 refine⟨(Below.heap_setCell _ _ _ _ hn).trans h.1,?_⟩;have aC:=(Array.getElem?_eq_some_iff.1 h.2)
 simp[World.setCell,Array.getElem?_modify,h.2]
theorem et.chg {X:Nat→Prop}{w w':Z}{L T:Nat}{lv V:V_}{n0:Int}(h:et w L T lv V n0)(hc:Chg X w w')(hL:¬X L)(hT:¬X T):et w' L T lv V n0:=⟨hc.at h.1 hL,hc.at h.2 hT⟩
theorem NL.slice {w:Z}{bZ:Nat}{K:Nat→Prop}{V lv:V_}{E:LD_}{ae:LI_}(h:NL w bZ K V lv E ae):∃ an cn al cl,V=.slice an E.length cn∧lv=.slice al ae.length cl:=by
 obtain⟨aF,h1,h2,_⟩:=h.raw;obtain⟨an,cn,e1⟩:=ay h1;obtain⟨al,cl,e2⟩:=ay h.lev;exact⟨an,cn,al,cl,by rw[←h2];exact e1,e2⟩
theorem li (w:Z)(a:Addr)(u:V_):(w.setCell a u).heap.size=w.heap.size:=by simp[World.setCell]
theorem byN {n:Nat}(h:n≤100000):(n+1)*40≤140737488355328:=Y
theorem byI {n:Nat}(h:n≤100000):(n+1)*8≤140737488355328:=Y
theorem zP (K:Nat→Prop)(s:q)(ak:OA_)(nk ck:Nat)(o:LI_)(L T bZ:Nat)(n0:Int)(E:LD_)(ae:LI_)(V lv:V_)(w:Z)(hb:et w L T lv V n0)(c:L≠T)(hL:L<bZ)(hT:T<bZ)(f:¬K L)(r:¬K T)(hn:NL w bZ K V lv E ae)(hk:eY.Row w (.slice ak nk ck) o)(cU:∀ b,(Value.slice ak nk ck).ownBlock=some b→K b∧b<w.heap.size∧V.ownBlock≠some b∧lv.ownBlock≠some b)(be:E.length≤100000)(a0:ae.length≤100000)(aB:bZ≤w.heap.size):C_ 79 #[s_ s,.slice ak nk ck,p_ L,p_ T] w fun e w'=>(∃ v,e=.returned v)∧∃ a ao,et w' L T ao a n0∧NL w' bZ K a ao (E++[(s,o)]) (ae++[(E.length:Int)]) ∧(V.ownBlock=a.ownBlock∨∀ b,a.ownBlock=some b→w.heap.size≤b)∧(lv.ownBlock=ao.ownBlock∨∀ b,ao.ownBlock=some b→w.heap.size≤b) ∧Chg (fun k=>k=L∨k=T∨lv.ownBlock=some k∨V.ownBlock=some k) w w':=by
 obtain⟨an,cn,al,cl,rfl,rfl⟩:=hn.slice;obtain⟨c1,c2,c3,f1,f2,f3⟩:=hb.cells;obtain⟨bN,HN,HK,aA⟩:=zH4 hb hn hk cU;clear hb hn hk cU;go_enter func79,ntmps79
 go_wp2_with (first
  | (at_builtin;(refine eY.append1C w (E.length:Int) rfl _ _ 92 rfl underlying92 bZ _ ae HN.o.lev rfl _ rfl _ rfl _ rfl (byI a0) aB ?_);intro g ac w3 M aI A;have h3:=HN.o.level aI A (by rw[Jh];exact M);have aX:=bN.o.chg aI (fun e=>by have:=(HN.o.lev.lt _ e).1;omega) (fun e=>by have:=(HN.o.lev.lt _ e).1;omega);have h4:=h3.chg (Chg.setCell (X:=fun k=>k=L) w3 ⟨L,0,none⟩ (.slice (some ⟨g,0,none⟩) (ae.length+1) ac) rfl) (h3.avoid (hK:=f) hL);have bC:=I0 (u:=.slice (some ⟨g,0,none⟩) (ae.length+1) ac) aX c;rw[Jh]at h4;have a6:w.heap.size≤(w3.setCell ⟨L,0,none⟩ (.slice (some ⟨g,0,none⟩) (ae.length+1) ac)).heap.size:=Jc aI.size (Chg.setCell (X:=fun k=>k=L) w3 ⟨L,0,none⟩ (.slice (some ⟨g,0,none⟩) (ae.length+1) ac) rfl).size;obtain⟨H4,ba,av,a2⟩:=zH4 h4 bC aI A;obtain⟨d1,d2,d3,g1,g2,g3⟩:=aX.cells;obtain⟨aF,r1,r2,r3⟩:=h4.raw;obtain⟨ah,N,aj,aL⟩:=zH4 r1 r2 r3 a6;clear h3 h4 aX bC aI A M r1 r2 r3 a6)
  | (at_builtin;go_must (refine pY.append1C (w3.setCell ⟨L,0,none⟩ (.slice (some ⟨g,0,none⟩) (ae.length+1) ac)) (s,ak,nk,ck) rfl _ _ 66 rfl underlying66 bZ _ aF ah.o rfl 1 (by rw[li];rfl) _ rfl _ rfl (by rw[N.o];exact byN be) (Jc aB aL.o) ?_);intro g5 m w5 d bE l;rw[N.o]at d⊢;obtain⟨i,bP,j⟩:=zH3 d bE l;have z:=ba.o.chg bE (fun e=>by have:=(Rec.Own.lt ah.o _ e).1;omega) (fun e=>by have:=(Rec.Own.lt ah.o _ e).1;omega);have aJ:=O z;obtain⟨_,_,_,_,i2,_⟩:=z.cells;clear d bE l z))
 go_end0;obtain⟨W4,bw⟩:=H (w3.setCell ⟨L,0,none⟩ (.slice (some ⟨g,0,none⟩) (ae.length+1) ac));have p:Chg (fun k=>k=L) w3 W4:=by rw[bw];exact Chg.setCell w3 _ _ rfl
 rw[←bw]at H4 ba bP j aj aL;have ar:Chg (fun k=>k=L∨(Value.slice al ae.length cl).ownBlock=some k) w W4:=(av.o.mono fun k hk=>.inr hk).trans (p.mono fun k hk=>.inl hk)
 have cX:∀ b,b<w.heap.size→(Value.slice al ae.length cl).ownBlock≠some b→(Value.slice (some ⟨g,0,none⟩) (ae.length+1) ac).ownBlock≠some b:=by
  intro b hb hn e;have e2:g=b:=by simpa[Value.ownBlock] using e
  subst e2;rcases a2.o with hg|hg
  ·exact hn hg
  ·omega
 have cQ:KR W4 K (.slice an E.length cn) (.slice (some ⟨g,0,none⟩) (ae.length+1) ac) (s,ak,nk,ck) (s,o):=by
  refine⟨rfl,HK.o.chg ar (fun b hb=>?_),fun b hb=>?_⟩
  ·obtain⟨k1,k2,k3,k4⟩:=aA.o b hb
   rintro (e|e)
   ·exact f (by rw[←e];exact k1)
   ·exact k4 e
  ·obtain⟨k1,k2,k3,k4⟩:=aA.o b hb
   exact⟨k1,Jr k2 aL.o,k3,cX b k2 k4⟩
 have h5:=NL.node (lv:=.slice (some ⟨g,0,none⟩) (ae.length+1) ac) H4.o.lev H4.o.ap N.o aj.o cQ bP.o j.o i.o;have h6:=h5.chg (Chg.setCell (X:=fun k=>k=T) w5 ⟨T,0,none⟩ (.slice (some ⟨g5,0,none⟩) (E.length+1) m) rfl) (h5.avoid (hK:=r) hT);refine⟨⟨_,rfl⟩,_,_,aJ.o.setT c,h6,?_,?_,?_⟩
 ·rcases j.o with h|h
  ·exact .inl h
  ·refine .inr fun b hb=>?_
   have e2:g5=b:=by simpa[Value.ownBlock] using hb
   have:=aL.o;omega
 ·rcases a2.o with h|h
  ·exact .inl h
  ·refine .inr fun b hb=>?_
   have e2:g=b:=by simpa[Value.ownBlock] using hb
   omega
 ·refine(ar.mono fun k hk=>?_).trans ((bP.o.mono fun k hk=>?_).trans (Chg.setCell w5 _ _ (.inr (.inl rfl))))
  ·rcases hk with h|h
   ·exact .inl h
   ·exact .inr (.inr (.inl h))
  ·exact .inr (.inr (.inr hk))
theorem tQ {w:Z}{n c:Nat}{l:LI_}(h:eY.Row w (.slice none n c) l):l=[]∧n=0:=by
 obtain⟨⟨a,ah,hv,hn,_⟩,_⟩:=h;injection hv with e1 e2 e3
 subst e1;have:=(hn rfl).1;exact⟨I7 this,by omega⟩
theorem zF (v:V_)(l:LI_)(w:Z)(hr:eY.Row w v l)(hl:l.length≤100000):C_ 82 #[v] w fun e w'=>∃ v',e=.returned v'∧eY.Own w' w.heap.size v' l∧Bw_ w w':=by
 obtain⟨aa,a,ah,rfl,aq⟩:=id hr
 cases a with
 | none =>
  obtain⟨j,_⟩:=tQ hr;subst j;go_enter func82,ntmps82;have ap:=fun w:Z=>Lib.run_eql_slice_nil w 92 3 none 0 ah 0 0 underlying92;go_wp2;go_ret;exact⟨_,rfl,Rec.Own.nil _ _,Ja _ _⟩
 | some ad =>
  have ap:=fun w:Z=>Lib.run_eql_slice_nil w 92 3 (some ad) l.length ah 0 0 underlying92;have A:=O hr;clear hr aa;go_enter func82,ntmps82;go_wp2_with (at_builtin;refine eY.append _ rfl _ _ _ rfl underlying92 w.heap.size _ [] (Rec.Own.empty w) rfl _ l (A.o.below (af _ _)) rfl (by simp[eY];omega) i_ ?_;intro v' w1 aH aF);go_ret;exact⟨_,rfl,aH,(af w _).trans aF⟩
def nodeT:q:=[110,111,100,101]
def gI (b:LL_):q:=cU (row (nodeT::b)).1
theorem mZ (b:LL_):(gI b).length=32:=dw _
theorem lX:∀ l:LL_,aP.cells l=fD l
 | []=>rfl
 | x::l=>by rw[Rec.cells,lX l];rfl
theorem pX {w:Z}{v:V_}{l:LL_}(h:aP.Row w v l):aO w v l.length (fD l):=by rw[←lX];exact h.1
theorem pH:∀ l:LL_,(∀ s∈l,s.length≤32)→(texts l).length≤l.length*34
 | [],_=>by simp[texts]
 | x::l,h=>by
  have:=pH l (fun s hs=>h s (by simp[hs]));have:=h x i_;simp only[texts,Jh,aZ,Jq];omega
theorem Gx (r:LL_):(row r).1.length≤(texts r).length+2:=by
 unfold row
 split
 ·split<;>simp<;>omega
 ·simp
theorem By {b:LL_}(h:∀ s∈b,s.length≤32):∀ s∈nodeT::b,s.length≤32:=by
 intro s hs;rcases JK.1 hs with rfl|hs
 ·decide
 ·exact h s hs
theorem qF {b:LL_}(h:∀ s∈b,s.length≤32)(hl:b.length≤100000):(texts (nodeT::b)).length≤10000000∧(row (nodeT::b)).1.length≤10000000:=by
 have h1:=pH _ (By h);have h2:=Gx (nodeT::b);simp only[Jq]at h1;omega
theorem CK (r:q×Int):txV r=.tuple #[s_ r.1,F r.2]:=rfl
theorem DZ (v:V_)(b:LL_)(w:Z)(hr:aP.Row w v b)(hl:b.length≤100000)(hm:∀ s∈b,s.length≤32):R_ 81 #[v] w (s_ (gI b)):=by
 obtain⟨a,ah,rfl,_⟩:=hr.2;obtain⟨q,s2⟩:=qF hm hl;obtain⟨A,S1,S2⟩:=zH3 hr q s2;clear hr hm q s2;go_enter func81,ntmps81;go_wp2_with (at_builtin;refine aP.append _ rfl _ _ _ rfl underlying22 w.heap.size _ [nodeT] (Rec.Own.new w nodeT) rfl _ b (A.o.below (af _ _)) rfl (by simp[aP];omega) i_ ?_;intro v' w1 aH aF;obtain⟨a1,c1,rfl⟩:=ay aH;have HO:=O aH;have a_:=O aF;clear aH aF);refine(uw _ (nodeT::b) _ (pX HO.o.row) (by have:=S1.o;omega) yza).mono ?_;rw[CK];rintro e w2⟨rfl,ax⟩;have a9:=O ax;clear ax;go_wp2_with fail;refine(uv _ _ (by have:=S2.o;omega)).mono ?_;rintro e w3⟨rfl,al⟩;have aW:=O al;clear al;go_wp2_with fail;go_ret;exact⟨rfl,bt ((af w _).trans a_.o) (bt a9.o aW.o)⟩
theorem EZ (v:V_)(b:LL_)(w:Z)(hr:aP.Row w v b)(hl:b.length≤100000)(hm:∀ s∈b,s.length≤32):R_ 109 #[v] w (s_ (gI b)):=by
 obtain⟨a,ah,rfl,_⟩:=hr.2;obtain⟨q,s2⟩:=qF hm hl;obtain⟨A,S1,S2⟩:=zH3 hr q s2;clear hr hm q s2;go_enter func109,ntmps109;go_wp2_with (at_builtin;refine aP.append _ rfl _ _ _ rfl underlying22 w.heap.size _ [nodeT] (Rec.Own.new w nodeT) rfl _ b (A.o.below (af _ _)) rfl (by simp[aP];omega) i_ ?_;intro v' w1 aH aF;obtain⟨a1,c1,rfl⟩:=ay aH;have HO:=O aH;have a_:=O aF;clear aH aF);refine(ky _ (nodeT::b) _ (pX HO.o.row) (by have:=S1.o;omega) yza).mono ?_;rw[CK];rintro e w2⟨rfl,ax⟩;have a9:=O ax;clear ax;go_wp2_with fail;refine(qb _ _ (by have:=S2.o;omega)).mono ?_;rintro e w3⟨rfl,al⟩;have aW:=O al;clear al;go_wp2_with fail;go_ret;exact⟨rfl,bt ((af w _).trans a_.o) (bt a9.o aW.o)⟩
theorem DC (v n:Int)(h:n<1∨8<n):ph v n=([],2):=by
 have:oG v n=false:=by unfold oG;simp;omega
 simp[ph,this]
theorem FY (n:Nat):(2:Int) ^ (8*n)=((256 ^ n:Nat):Int):=by rw[Int.pow_mul];simp
theorem yt (v n:Int)(h:1≤n)(h':n≤8)(h3:v.toNat<256 ^ n.toNat):ph v n=(num v.toNat n.toNat,0):=by
 have:oG v n=true:=by unfold oG;simp;omega
 simp[ph,this]
theorem E3 (v n:Int)(h3:¬v.toNat<256 ^ n.toNat):ph v n=([],2):=by
 have:oG v n=false:=by unfold oG;simp;omega
 simp[ph,this]
theorem E1 (v n:Int)(h:1≤n)(h':n≤8)(h0:0≤v)(h3:(v / 2 ^ (8*n).toNat != 0)=false):ph v n=(num v.toNat n.toNat,0):=by
 refine yt v n h h' ?_;obtain⟨n,rfl⟩:=Int.eq_ofNat_of_zero_le (show 0≤n by omega);obtain⟨v,rfl⟩:=Int.eq_ofNat_of_zero_le h0;have e:(8*(n:Int)).toNat=8*n:=Y;rw[e,FY,bne_eq_false_iff_eq]at h3
 norm_cast at h3
 exact(Nat.div_eq_zero_iff_lt (Nat.pow_pos d_)).1 h3
theorem DD (v n:Int)(h:1≤n)(h0:0≤v)(h3:(v / 2 ^ (8*n).toNat != 0)=true):ph v n=([],2):=by
 refine E3 v n ?_;obtain⟨n,rfl⟩:=Int.eq_ofNat_of_zero_le (show 0≤n by omega);obtain⟨v,rfl⟩:=Int.eq_ofNat_of_zero_le h0;have e:(8*(n:Int)).toNat=8*n:=Y;rw[e,FY,bne_iff_ne]at h3;intro h5;apply h3
 norm_cast
 exact Nat.div_eq_of_lt h5
theorem LC {T:Prop} (h:T:=by
 go_enter func56,ntmps56;go_wp2_with (go_at_call 61;refine(lF _ _ _ (by omega) (by omega) h3 h4).mono ?_;rintro e w'⟨rfl,hB⟩);go_ret2;exact⟨rfl,hB⟩
):T:=h
theorem s9 (v n:Int)(w:Z)(h3:0≤v)(h4:v<18446744073709551616):R_ 56 #[.int .u64 v,F n] w (.tuple #[s_ (ph v n).1,F (ph v n).2]):=by
 by_cases hn:n<1∨8<n
 ·go_enter func56,ntmps56
  have hp:=Hid.o (DC v n hn);rw[DC v n hn];rcases hn with hn|hn
  all_goals
   go_wp2;go_ret2;exact⟨rfl,Ja _ _⟩
 ·by_cases q:n=8
  ·subst q
   rw[yt v 8 Y Y yza];exact LC
  ·have aa:1≤n:=Y
   have a:n≤7:=Y
   cases hv:(v / 2 ^ (8*n).toNat != 0)
   ·rw[E1 v n aa Y h3 hv]
    exact LC
   ·rw[DD v n aa h3 hv]
    go_enter func56,ntmps56;go_wp2;go_ret2;exact⟨rfl,Ja _ _⟩

theorem yK {a b:LL_}(k:Nat)(h:k<a.length)(h':k<b.length)(aI:a[k]≠b[k]):a≠b:=by
 rintro rfl;exact aI rfl
theorem yL {a b:LL_}(hl:a.length=b.length)(h:∀ k (h:k<a.length) (h':k<b.length),a[k]=b[k]):a=b :=
 List.ext_getElem hl h
theorem Ey (va vb:V_)(a b:LL_)(w:Z)(ha:aO w va a.length (fD a))(hb:aO w vb b.length (fD b))(g:a.length≤140737488355328)(cw:b.length≤140737488355328):R_ 48 #[va,vb] w (.bool (decide (a=b))):=by
 obtain⟨z,ca,rfl,_,cu⟩:=ha;obtain⟨ab,cb,rfl,_,r⟩:=hb
 by_cases hl:a.length=b.length
 ·have hL:=O hl
  have t1:((a.length:Int) != (b.length:Int))=false:=by rw[bne_eq_false_iff_eq];omega
  clear hl;go_enter func48,ntmps48;go_wp2
  go_loopw [5] (fun i wr=>∃ k:Nat,k≤a.length∧i=F k∧Hid (∀ j (h:j<a.length) (h':j<b.length),j<k→a[j]=b[j])∧Bw_ w wr) (fun i _=>a.length-(intOf i).toNat)
  case atStart=>exact⟨0,by omega,rfl,by intro j _ _ h;omega,Ja _ _⟩
  case round =>
   obtain⟨k,hk,rfl,X,hB⟩:=hrel
   by_cases h0:k<a.length
   ·have f:k<b.length:=by have:=hL.o;omega
    obtain⟨b1,o1,rfl,y⟩:=cu k _ (lf a k h0);obtain⟨b2,t,rfl,aZ⟩:=r k _ (lf b k f);have l:=IF hB y;have m:=IF hB aZ;have a5:(k:Int)<a.length:=Y;have K:(k:Int)<b.length:=Y;clear cu r
    by_cases he:a[k]=b[k]
    ·have af:(a[k]==b[k])=true:=by simpa using he
     have HE:=O he;clear he;go_wp2;go_quiet (fail);go_wp2;go_roundw
     case rel =>
      refine⟨k+1,by omega,by go_num,?_,bt hB (II _ _)⟩;intro j h h' hj
      by_cases a3:j=k
      ·subst a3;exact HE.o
      ·exact X.o j h h' Y
     case measure=>simp[intOf];omega
    ·have af:(a[k]==b[k])=false:=by simpa using he
     have HE:=O he;clear he;go_wp2;go_quiet (fail);go_wp2;go_ret;exact⟨by rw[decide_eq_false (yK k h0 f HE.o)];rfl,bt hB (II _ _)⟩
   ·obtain rfl:k=a.length:=Y
    go_wp2;go_ret;exact⟨by rw[decide_eq_true (yL hL.o (fun j h h'=>X.o j h h' h))];rfl,hB⟩
 ·have t1:((a.length:Int) != (b.length:Int))=true:=by rw[bne_iff_ne];omega
  go_enter func48,ntmps48;go_wp2;go_ret;exact⟨by rw[decide_eq_false (fun e=>hl (by rw[e]))];rfl,Ja _ _⟩
section
variable {am:Fence}{n:Nat}{P:Program}{α:Type}
theorem uG {g:Operand}{ps:Array Tmp}{assign body:Code}{Q:Exit→Act→Z→Prop}{a:Act}{w:Z}(ad:am.round=none)(h1:1≤n){gf:Nat}{lb:AV_}(hg:a.eval g=.func (.func gf) #[] lb)(au:am.fn gf)(eg:∀ az w,(callFunc gf az).run P w=.ok (.enter gf az) w){Xr G:Z→Z→Prop}{Fin:Z→Prop}{El:α→AV_→Z→Prop}{ag:List α}(hX:∀ U U',Xr U U'→eX w.heap.size U U')(hY:∀ a b c d,Chg (fun k=>k=w.heap.size∨k=w.heap.size+1) a b→G b c→Chg (fun k=>k=w.heap.size∨k=w.heap.size+1) c d→G a d)(Y:∀ U U',Fin U→Chg (fun k=>k=w.heap.size∨k=w.heap.size+1) U U'→Fin U')(B:∀ W,w.heap.size+2≤W.heap.size→(∀ o,W.cell? ⟨w.heap.size,o,none⟩=none)→(∀ o,W.cell? ⟨w.heap.size+1,o,none⟩=none)→Bw_ w W→tb am (n-1) P gf lb Xr G Fin El ag W)(aK:∀ x vs U,El x vs U→vs.size=ps.size)(L:∀ x vs U U',El x vs U→Chg (fun k=>k=w.heap.size∨k=w.heap.size+1) U U'→El x vs U')(I:List α→Z→Prop)(j:Code→List α→Z→Prop)(aa:∀ aj U U',I aj U→Xr U U'→I aj U')(hI:∀ aj U U',I aj U→Chg (fun k=>k=w.heap.size∨k=w.heap.size+1) U U'→I aj U')(N:∀ c aj U U',j c aj U→Xr U U'→j c aj U')(H:∀ c aj U U',j c aj U→Chg (fun k=>k=w.heap.size∨k=w.heap.size+1) U U'→j c aj U')(h0:I [] w)(r:∀ (l:Nat) (aj:List α) (x:α) (vs:AV_) (U:Z),I aj U→El x vs U→aj++[x] <+: ag → assign.wpIn (am.inRound l) (n-1-1) P (Exit.then (fun a' M=>Bw_ U M∧∀ U2,w.heap.size+2≤U2.heap.size→I aj U2→El x vs U2→Chg (fun k=>k=w.heap.size∨k=w.heap.size+1) M U2 → body.wpIn (am.inRound l) (n-1-1) P (ll w.heap.size G I j (aj++[x]) U2) a' U2) (fun _ _ _=>False)) { tmps:=(ps.zip vs).foldl (fun t (p,v)=>t.setIfInBounds p v) a.tmps,defers:=[] } U)(u:∀ W,w.heap.size+2≤W.heap.size→I ag W→Fin W→W.heap[w.heap.size]?=some (.deferred (some []))→Q .normal { a with defers:={ target:=.collected w.heap.size,args:=#[] }::a.defers } W)(s:∀ c aj W,w.heap.size+2≤W.heap.size→aj <+: ag→j c aj W→W.heap[w.heap.size]?=some (.deferred (some []))→c.wpIn am n P Q { a with defers:={ target:=.collected w.heap.size,args:=#[] }::a.defers } W):(Code.rangeFunc g ps assign body).wpIn am n P Q a w:=by
 refine wpIn_rangeFunc fun fn af=>?_;rw[ad];obtain⟨rec,i⟩:∃ rec:LoopState→Option Code→Loop,rec=fun st pe=>{ state:=st,pending:=pe,fn,tmps:=a.tmps,params:=ps,assign,body,defers:=w.heap.size }:=⟨_,rfl⟩
 obtain⟨W1,aA⟩:∃ W1,(w.alloc (.deferred (some []))).alloc (.loop (rec .ready none))=W1:=⟨_,rfl⟩
 obtain⟨ah,bd,a8⟩:=jD w (.deferred (some [])) (.loop (rec .ready none));rw[aA]at ah bd a8;have ar:w.heap.size+2≤W1.heap.size:=by have:=(Array.getElem?_eq_some_iff.1 bd).1;omega
 refine⟨w.heap.size+1,[{ target:=.collected w.heap.size,args:=#[] }],W1,{ target:=.fn (.func gf) lb,args:=#[.func (.yield (w.heap.size+1)) #[] #[]] },W1,gf,
  #[.func (.yield (w.heap.size+1)) #[] #[]]++lb,W1,?_,?_,?_,?_,fun _=>h1,?_⟩
 ·exact M4
 ·simp only[resolve,hg]
  simp[go_sem]
 ·exact MQ
 ·simp[invoke,go_sem,eg]
 have J:∀ {U U':Z} {o F:Obj},Xr U U'→U.heap[w.heap.size+1]?=some o→U.heap[w.heap.size]?=some F→U'.heap[w.heap.size+1]?=some o∧U'.heap[w.heap.size]?=some F :=
  fun hc h h'=>⟨(hX _ _ hc).at (.inr rfl) h,(hX _ _ hc).at (.inl rfl) h'⟩
 refine(B W1 ar (fun o=>by simp[World.cell?,ah]) (fun o=>by simp[World.cell?,bd]) a8 (w.heap.size+1)
  (fun aj U=>I aj U∧U.heap[w.heap.size+1]?=some (.loop (rec .ready none))∧U.heap[w.heap.size]?=some (.deferred (some [])))
  (fun aj U=>∃ c,j c aj U∧U.heap[w.heap.size+1]?=some (.loop (rec .done (some c)))∧U.heap[w.heap.size]?=some (.deferred (some [])))
  (fun aj U U' hs hc=>⟨aa _ _ _ hs.1 hc,J hc hs.2.1 hs.2.2⟩)
  (fun aj U U' ⟨c,hs,hl,hk⟩ hc=>⟨c,N _ _ _ _ hs hc,J hc hl hk⟩)
  ?_ ⟨hI _ _ _ h0 (IG a8),bd,ah⟩).mono ?_
 ·exact L5
 ·exact L7
theorem Ar {g:Operand}{ps:Array Tmp}{assign body:Code}{Q:Exit→Act→Z→Prop}{a:Act}{w:Z}{D:Nat}(hD:w.heap.size=D){gf:Nat}{lb:AV_}(hg:a.eval g=.func (.func gf) #[] lb)(eg:∀ az w,(callFunc gf az).run P w=.ok (.enter gf az) w){Xr G:Z→Z→Prop}{Fin:Z→Prop}{El:α→AV_→Z→Prop}{ag:List α}(hX:∀ U U',Xr U U'→eX D U U')(hY:∀ a b c d,Chg (fun k=>k=D∨k=D+1) a b→G b c→Chg (fun k=>k=D∨k=D+1) c d→G a d)(Y:∀ U U',Fin U→Chg (fun k=>k=D∨k=D+1) U U'→Fin U')(B:∀ W,D+2≤W.heap.size→(∀ o,W.cell? ⟨D,o,none⟩=none)→(∀ o,W.cell? ⟨D+1,o,none⟩=none)→B_ D w W→tb Fence.wide 2 P gf lb Xr G Fin El ag W)(aK:∀ x vs U,El x vs U→vs.size=ps.size)(L:∀ x vs U U',El x vs U→Chg (fun k=>k=D∨k=D+1) U U'→El x vs U')(I:List α→Z→Prop)(j:Code→List α→Z→Prop)(aa:∀ aj U U',I aj U→Xr U U'→I aj U')(hI:∀ aj U U',I aj U→Chg (fun k=>k=D∨k=D+1) U U'→I aj U')(N:∀ c aj U U',j c aj U→Xr U U'→j c aj U')(H:∀ c aj U U',j c aj U→Chg (fun k=>k=D∨k=D+1) U U'→j c aj U')(h0:I [] w)(r:∀ (l:Nat) (aj:List α) (x:α) (vs:AV_) (U:Z),I aj U→El x vs U→aj++[x] <+: ag → assign.wpIn (Fence.wide.inRound l) 1 P (Exit.then (fun a' M=>Bw_ U M∧∀ U2,D+2≤U2.heap.size→I aj U2→El x vs U2→Chg (fun k=>k=D∨k=D+1) M U2 → body.wpIn (Fence.wide.inRound l) 1 P (ll D G I j (aj++[x]) U2) a' U2) (fun _ _ _=>False)) { tmps:=(ps.zip vs).foldl (fun t (p,v)=>t.setIfInBounds p v) a.tmps,defers:=[] } U)(u:∀ W,D+2≤W.heap.size→I ag W→Fin W→W.heap[D]?=some (.deferred (some []))→Q .normal { a with defers:={ target:=.collected D,args:=#[] }::a.defers } W)(s:∀ c aj W,D+2≤W.heap.size→aj <+: ag→j c aj W→W.heap[D]?=some (.deferred (some []))→c.wp P Q { a with defers:={ target:=.collected D,args:=#[] }::a.defers } W):(Code.rangeFunc g ps assign body).wp P Q a w:=by
 subst hD;exact(wpIn_wide (n:=3)).1 (uG rfl d_ hg trivial eg hX hY Y B aK L I j aa hI N H h0 r u fun c aj W h1 h2 h3 h4=>wpIn_wide.2 (s c aj W h1 h2 h3 h4))
end
def yM (s:q):Nat:=(s.getD 31 0).toNat
def mark (s:q):Bool:=yM s%4==3
def eW (l:LL_)(f k:Nat):Bool:=(mark (l.getD k [])&&decide (2≤k+1-f))||decide (8≤k+1-f)||decide (k+1=l.length)
def dF (l:LL_):Nat→Nat→Nat→LN_
 | 0,_,_=>[]
 | n+1,f,k=>if k<l.length then (if eW l f k then (f,k+1)::dF l n (k+1) (k+1) else dF l n f (k+1)) else []
def cE (l:LL_):LN_:=dF l l.length 0 0
theorem eG {l:LL_}{f k:Nat}(h:k<l.length)(hc:eW l f k=true):dF l (l.length-k) f k=(f,k+1)::dF l (l.length-(k+1)) (k+1) (k+1):=by
 obtain⟨n,hn⟩:∃ n,l.length-k=n+1:=⟨l.length-k-1,by omega⟩
 rw[hn,dF,if_pos h,if_pos hc,show l.length-(k+1)=n by omega]
theorem lh {l:LL_}{f k:Nat}(h:k<l.length)(hc:eW l f k=false):dF l (l.length-k) f k=dF l (l.length-(k+1)) f (k+1):=by
 obtain⟨n,hn⟩:∃ n,l.length-k=n+1:=⟨l.length-k-1,by omega⟩
 rw[hn,dF,if_pos h,if_neg (by rw[hc];simp),show l.length-(k+1)=n by omega]
theorem pO {l:LL_}{f:Nat}:dF l (l.length-l.length) f l.length=[]:=by rw[Nat.sub_self,dF]
theorem nG (l:LL_):∀ n f k,(dF l n f k).length≤n
 | 0,_,_=>by simp[dF]
 | n+1,f,k=>by
  rw[dF]
  split
  ·split
   ·have:=nG l n (k+1) (k+1);simp;omega
   ·have:=nG l n f (k+1);omega
  ·simp
theorem LL {T:Prop} (h:T:=by
 go_wp2_with (at_builtin;go_must (refine kd.append1 wr (f,k+1) rfl _ _ 188 rfl underlying188 w.heap.size _ S HO.o rfl _ rfl _ (by simp[kd]) _ rfl aS B ?_);intro g ac w3 M al;have bf:=O M;have aW:=O (HB.o.trans al);clear M al c2);refine⟨⟨k+1,k+1,S++[(f,k+1)],_,_,by rw[Jh];rfl,by go_num,by go_num,by omega,by omega,?_,by rw[Jh];exact bf.o,aW.o⟩,by simp[intOf];omega⟩;unfold Hid;rw[Jg,←HS.o,eG h0 c.o]
 rfl
):T:=h
theorem LM {T:Prop} (h:T:=by
 go_wp2;refine⟨⟨f,k+1,S,_,_,rfl,rfl,by go_num,by omega,by omega,?_,HO.o,HB.o⟩,by simp[intOf];omega⟩;unfold Hid;rw[←HS.o,lh h0 c.o]
):T:=h
theorem LN {T:Prop} (h:T:=by
 have q1:((k:Int)==(l.length:Int)-1)=true:=by rw[beq_iff_eq];omega
 have r:=O p1;clear p1;have c:=O (show eW l f k=true by rw[s.o];simp[r.o]);exact LL
):T:=h
theorem MN {T:Prop} (h:T:=by
 unfold mark yM;rw[show x.getD 31 0=x[31] by simp[List.getD,q],Bool.eq_iff_iff,beq_iff_eq,beq_iff_eq];omega
):T:=h
theorem rD (v:V_)(l:LL_)(w:Z)(hr:aP.Row w v l)(hl:l.length≤1000000)(hid:de l=true):C_ 108 #[v] w fun e w'=>(∃ u,e=.returned u∧kd.Own w' w.heap.size u (cE l))∧Bw_ w w':=by
 obtain⟨a,ah,rfl,_,hc⟩:=au hr;have HC:=O hc
 have ar:∀ k (hk:k<l.length),l[k].length=32:=fun k hk=>by
  have:=List.all_eq_true.1 hid l[k] (Jz hk);simpa[kO] using this
 have cu:=O ar;clear hc hr hid ar;go_enter func108,ntmps108;go_wp2
 go_loopw [3,4,5] (fun vo vf vk wr=>∃ f k:Nat,∃ S Av Cv,vo=.slice Av (List.length S) Cv∧vf=F f∧vk=F k∧f≤k∧k≤l.length∧Hid (S++dF l (l.length-k) f k=cE l)∧Hid (kd.Own wr w.heap.size (.slice Av S.length Cv) S)∧Hid (Bw_ w wr)) (fun _ _ k _=>l.length-(intOf k).toNat)
 case atStart=>exact⟨0,0,[],none,0,rfl,rfl,rfl,by omega,by omega,rfl,Rec.Own.nil _ _,Ja _ _⟩
 case round =>
  obtain⟨f,k,S,Av,Cv,rfl,rfl,rfl,C,hk,HS,HO,HB⟩:=hrel
  by_cases h0:k<l.length
  ·obtain⟨b,aL,rfl,c1⟩:=HC.o k h0
   have c2:=IF HB.o c1;have h3:=cu.o k h0;obtain⟨x,hx⟩:=H (l[k]);rw[←hx]at c2 h3;have y:31<(x.length:Int):=Y;have q:31<x.length:=Y;have k0:=nn_ k;have k1:(k:Int)<l.length:=Y;have k2:(l.length:Int)≤1000000:=Y;have k3:(f:Int)≤k:=Y
   have bj:S.length≤l.length:=by
    have h1:=congrArg List.length HS.o;have h2:=nG l l.length 0 0;rw[Jh]at h1;unfold cE at h1;omega
   have aS:(S.length+1)*kd.bytes≤140737488355328:=by show(S.length+1)*16≤_;omega
   have B:=HB.o.size;have hg:l.getD k []=x:=by rw[hx];simp[List.getD,h0]
   have hm:mark x=((x[31].toNat:Int)%4==3):=by
    exact MN
   obtain⟨m,aK⟩:=H (mark x);rw[←aK]at hm;have s:=O (show eW l f k=((m&&decide (2≤k+1-f))||decide (8≤k+1-f)||decide (k+1=l.length)) by unfold eW;rw[hg,←aK]);have HX:=O hx;have e1:=hm.symm;clear c1 hg hx aK hm bj
   cases m with
   | true =>
    by_cases p2:2≤k+1-f
    ·have q2:(2:Int)≤(k:Int)+1-(f:Int):=Y
     have I:=O p2;clear p2;have c:=O (show eW l f k=true by rw[s.o];simp[I.o]);exact LL
    ·have q2:¬(2:Int)≤(k:Int)+1-(f:Int):=Y
     have q3:(k:Int)+1-(f:Int)<2:=Y;have t:¬(8:Int)≤(k:Int)+1-(f:Int):=Y;have A:(k:Int)+1-(f:Int)<8:=Y;have I:=O (show ¬8≤k+1-f by omega);have z:=O p2;clear p2
     by_cases p1:k+1=l.length
     ·exact LN
     ·have q1:((k:Int)==(l.length:Int)-1)=false:=by rw[beq_eq_false_iff_ne];omega
      have r:=O p1;clear p1;have c:=O (show eW l f k=false by rw[s.o];simp[r.o,I.o,z.o]);exact LM
   | false =>
    by_cases o:8≤k+1-f
    ·have t:(8:Int)≤(k:Int)+1-(f:Int):=Y
     have i:=O o;clear o;have c:=O (show eW l f k=true by rw[s.o];simp[i.o]);exact LL
    ·have t:¬(8:Int)≤(k:Int)+1-(f:Int):=Y
     have A:(k:Int)+1-(f:Int)<8:=Y;have i:=O o;clear o
     by_cases p1:k+1=l.length
     ·exact LN
     ·have q1:((k:Int)==(l.length:Int)-1)=false:=by rw[beq_eq_false_iff_ne];omega
      have r:=O p1;clear p1;have c:=O (show eW l f k=false by rw[s.o];simp[r.o,i.o]);exact LM
  ·obtain rfl:k=l.length:=Y
   have d:=HS.o;rw[pO,Jy]at d;have HF:=O d;clear d;go_wp2;go_ret;exact⟨⟨_,rfl,by rw[←HF.o];exact HO.o⟩,HB.o⟩
section
open Oct
def fW:Nat→Nat→LN_→Prop
 | a,b,[]=>a=b
 | a,b,g::L=>g.1=a∧g.1<g.2∧fW g.2 b L
theorem fW.le:∀ {L:LN_} {a b:Nat},fW a b L→a≤b
 | [],a,b,h=>by have:a=b:=h;omega
 | g::L,a,b,⟨h1,h2,h3⟩=>by have:=h3.le;omega
theorem jJ (l:LL_):∀ (n f k:Nat),n=l.length-k→f≤k→k≤l.length→(k=l.length→f=k)→fW f l.length (dF l n f k)
 | 0,f,k,hn,hf,hk,he=>by have:=he Y;show f=l.length;omega
 | n+1,f,k,hn,hf,hk,he=>by
  rw[dF,if_pos Y]
  split
  ·exact⟨rfl,by show f<k+1;omega,jJ l n (k+1) (k+1) Y (I6 _) Y (fun _=>rfl)⟩
  ·rename_i hc
   refine jJ l n f (k+1) Y Y Y (fun e=>?_);exact absurd (by simp[eW,e]) hc
theorem fN (l:LL_):fW 0 l.length (cE l):=jJ l _ 0 0 rfl (I6 _) (Jl _) (fun _=>rfl)
theorem kv (l:LL_):∀ (n f k:Nat),k-f≤7→f≤k→∀ g∈dF l n f k,g.2-g.1≤8∧(2≤g.2-g.1∨g.2=l.length)
 | 0,_,_,_,_,g,h=>absurd h (by simp[dF])
 | n+1,f,k,h7,hf,g,h=>by
  rw[dF]at h
  split at h
  ·split at h
   ·rename_i hc
    rcases JK.1 h with rfl|h
    ·refine⟨by simp;omega,?_⟩
     simp only[eW,Bool.or_eq_true,Jj,decide_eq_true_eq]at hc;simp only;omega
    ·exact kv l n (k+1) (k+1) Y (I6 _) g h
   ·rename_i hc
    refine kv l n f (k+1) ?_ Y g h;simp only[eW,Bool.or_eq_true,Jj,decide_eq_true_eq,not_or]at hc;omega
  ·simp at h
theorem lR (l:LL_):∀ g∈cE l,g.2-g.1≤8∧(2≤g.2-g.1∨g.2=l.length):=kv l _ 0 0 Y (I6 _)
theorem od {n:Nat}:∀ {L:LN_} {a:Nat},fW a n L→(∀ g∈L,2≤g.2-g.1∨g.2=n)→2*L.length≤n-a+1
 | [],_,_,_=>by simp
 | g::L,a,⟨h1,h2,h3⟩,h=>by
  have aq:=h3.le;have hr:=od h3 (fun x hx=>h x yzn);have:=h g i_;simp only[Jq]
  by_cases e:g.2=n
  ·cases L with
   | nil=>simp;omega
   | cons x xs =>
    obtain⟨k1,k2,k3⟩:=h3;have:=k3.le;omega
  ·omega
theorem kU (l:LL_):2*(cE l).length≤l.length+1:=od (fN l) (fun g hg=>(lR l g hg).2)
def aV (E:LD_)(ae:LI_):LL_:=ae.map fun k=>(E.getD k.toNat ([],[])).1
def dO (a4:LL_)(ae:LI_)(x:LD_×LI_)(g:Nat×Nat):LD_×LI_ :=
 if g.2-g.1=1 then (x.1,x.2++[ae.getD g.1 0])
 else (x.1++[(gI ((a4.drop g.1).take (g.2-g.1)),(ae.drop g.1).take (g.2-g.1))],x.2++[(x.1.length:Int)])
def lvl (E:LD_)(ae:LI_):LD_×LI_:=(cE (aV E ae)).foldl (dO (aV E ae) ae) (E,[])
def it:Nat→LD_→LI_→LD_
 | 0,E,_=>E
 | n+1,E,ae=>if 1<ae.length then it n (lvl E ae).1 (lvl E ae).2 else E
def bQ (l:LL_):LD_:=l.map fun s=>(s,[])
def bV (n:Nat):LI_:=(List.range n).map Int.ofNat
def aJ (l:LL_):LD_:=it l.length (bQ l) (bV l.length)
structure OkL (nodes:LD_) (level:LI_):Prop where
 ids:∀ x∈nodes,x.1.length=32
 lev:∀ k∈level,0≤k∧k<(nodes.length:Int)
theorem dy (E:LD_)(ae:LI_):(aV E ae).length=ae.length:=by simp[aV]
theorem OkL.all {E:LD_}{ae:LI_}(h:OkL E ae):de (aV E ae)=true:=by
 refine kY fun k hk=>?_;simp only[aV,Js]at hk;have h1:=h.lev ae[k] (Jz hk);have h2:ae[k].toNat<E.length:=Y;simp only[aV,List.getElem_map,kO,List.getD,List.getElem?_eq_getElem h2,Option.getD_some,beq_iff_eq];exact h.ids _ (Jz h2)
theorem OkL.start (l:LL_)(h:de l=true):OkL (bQ l) (bV l.length):=by
 refine⟨fun x hx=>?_,fun k hk=>?_⟩
 ·simp only[bQ,List.mem_map]at hx
  obtain⟨s,hs,rfl⟩:=hx;have:=List.all_eq_true.1 h s hs;simpa[kO] using this
 ·simp only[bV,List.mem_map,List.mem_range]at hk
  obtain⟨j,hj,rfl⟩:=hk;simp[bQ];omega
structure OkS (nodes:LD_) (level:LI_) (gs:LN_) (a:Nat) (x:LD_×LI_):Prop where
 ids:∀ y∈x.1,y.1.length=32
 lev:∀ k∈x.2,0≤k∧k<(x.1.length:Int)
 len:x.2.length=gs.length
 sum:x.1.length+x.2.length≤nodes.length+a
 ge:nodes.length≤x.1.length
 pre:nodes <+: x.1
theorem CT {E:LD_}{ae:LI_}{a4:LL_}{L:LN_}{x:LD_×LI_}{a b:Nat}(hl:∀ k∈ae,0≤k∧k<(E.length:Int))(h:OkS E ae L a x)(s:a<b)(hb:b≤ae.length):OkS E ae (L++[(a,b)]) b (dO a4 ae x (a,b)):=by
 obtain⟨h1,h2,h3,h4,h5,h6⟩:=h;unfold dO;simp only
 split
 ·refine⟨h1,fun k hk=>?_,by simp[h3],by simp;omega,h5,h6⟩
  rcases Jt.1 hk with hk|hk
  ·exact h2 k hk
  ·have ha:a<ae.length:=Y
   have e:k=ae[a]:=by simpa[List.getD,List.getElem?_eq_getElem ha] using hk
   have:=hl ae[a] (Jz ha);show 0≤k∧k<(x.1.length:Int);omega
 ·refine⟨fun y hy=>?_,fun k hk=>?_,by simp[h3],by simp;omega,by simp;omega,h6.trans (List.prefix_append _ _)⟩
  ·rcases Jt.1 hy with hy|hy
   ·exact h1 y hy
   ·obtain rfl:=Jp.1 hy
    exact mZ _
  ·rcases Jt.1 hk with hk|hk
   ·have:=h2 k hk;simp;omega
   ·obtain rfl:=Jp.1 hk
    simp;omega
theorem fW.split:∀ {aj L:LN_} {a b:Nat},fW a b (aj++L)→∃ c,fW a c aj∧fW c b L
 | [],L,a,b,h=>⟨a,rfl,h⟩
 | g::aj,L,a,b,⟨h1,h2,h3⟩=>by
  obtain⟨c,k1,k2⟩:=h3.split;exact⟨c,⟨h1,h2,k1⟩,k2⟩
theorem qM {E:LD_}{ae:LI_}{a4:LL_}(hl:∀ k∈ae,0≤k∧k<(E.length:Int)):∀ (L:LN_) (a b:Nat) (aj:LN_) (x:LD_×LI_),fW a b L→b≤ae.length→OkS E ae aj a x → OkS E ae (aj++L) b (L.foldl (dO a4 ae) x)
 | [],a,b,aj,x,ht,_,h=>by
  have e:a=b:=ht;subst e;simpa using h
 | g::L,a,b,aj,x,⟨h1,h2,h3⟩,hb,h=>by
  obtain⟨g1,g2⟩:=g;obtain rfl:g1=a:=h1;have:=qM (a4:=a4) hl L g2 b (aj++[(g1,g2)]) (dO a4 ae x (g1,g2)) h3 hb (CT hl h h2 (Jc h3.le hb));simpa using this
theorem OkS.nil {E:LD_}{ae:LI_}(h:OkL E ae):OkS E ae [] 0 (E,[]):=⟨h.ids,fun k hk=>absurd hk i_,rfl,by simp,I6 _,List.prefix_refl _⟩
theorem wO {E:LD_}{ae:LI_}(h:OkL E ae){aj:LN_}{f t:Nat}(hp:aj++[(f,t)] <+: cE (aV E ae)):f<t∧t≤ae.length∧OkS E ae aj f (aj.foldl (dO (aV E ae) ae) (E,[])):=by
 obtain⟨r,hr⟩:=hp;have ht:=fN (aV E ae);rw[←hr,dy,Jg]at ht;obtain⟨c,h1,h2⟩:=ht.split;obtain⟨k1,k2,k3⟩:=h2;obtain rfl:f=c:=k1;have:=k3.le;exact⟨k2,this,by simpa using qM (a4:=aV E ae) h.lev aj 0 f [] (E,[]) h1 (by have:f<t:=k2;omega) (OkS.nil h)⟩
theorem yJ {E:LD_}{ae:LI_}(h:OkL E ae):OkS E ae (cE (aV E ae)) ae.length (lvl E ae):=by
 have ht:=fN (aV E ae);rw[dy]at ht;have:=qM (a4:=aV E ae) h.lev (cE (aV E ae)) 0 ae.length [] (E,[]) ht (I6 _) (OkS.nil h);rw[JC]at this;exact this
theorem qy {E:LD_}{ae:LI_}(h:OkL E ae)(h1:1<ae.length):(lvl E ae).2.length<ae.length:=by
 have h2:=(yJ h).len;have h3:=kU (aV E ae);rw[dy]at h3;omega
theorem sz {n:Nat}{E:LD_}{ae:LI_}(h1:1<ae.length)(hn:ae.length≤n):it n E ae=it (n-1) (lvl E ae).1 (lvl E ae).2:=by
 obtain⟨m,rfl⟩:∃ m,n=m+1:=⟨n-1,by omega⟩
 rw[it,if_pos h1];rfl
theorem qz {n:Nat}{E:LD_}{ae:LI_}(h1:¬1<ae.length):it n E ae=E:=by
 cases n with
 | zero=>rfl
 | succ n=>rw[it,if_neg h1]
def fM (E:LD_):LI_:=E.flatMap (·.2)
def pP (d:LN_)(k:Int):Nat×Nat:=d.getD k.toNat (0,0)
def EE (E:LD_)(d:LN_)(i:Nat):Prop :=
 2≤(E.getD i ([],[])).2.length∧(E.getD i ([],[])).2.length≤8∧(∀ k∈(E.getD i ([],[])).2,0≤k∧k<(i:Int)) ∧
 (E.getD i ([],[])).1=gI (aV E (E.getD i ([],[])).2)∧fW (d.getD i (0,0)).1 (d.getD i (0,0)).2 ((E.getD i ([],[])).2.map (pP d))
structure Gd (l:LL_) (nodes:LD_) (sp:LN_) (cover:LI_):Prop where
 splen:sp.length=nodes.length
 ge:l.length≤nodes.length
 leaf:∀ i (h:i<l.length),nodes[i]?=some (l[i],[])∧sp[i]?=some (i,i+1)
 inner:∀ i,l.length≤i→i<nodes.length→EE nodes sp i
 perm:(fM nodes++cover).Perm (bV nodes.length)
 tile:fW 0 l.length (cover.map (pP sp))
 sum:nodes.length+cover.length≤2*l.length
theorem yj {n:Nat}{k:Int}:k∈bV n↔0≤k∧k<(n:Int):=by
 simp only[bV,List.mem_map,List.mem_range];constructor
 ·rintro⟨j,hj,rfl⟩;simp;omega
 ·intro ⟨h1,h2⟩;exact⟨k.toNat,by omega,by simp;omega⟩
theorem Gd.mem {l:LL_}{E:LD_}{d:LN_}{cover:LI_}(h:Gd l E d cover):∀ k∈cover,0≤k∧k<(E.length:Int):=fun k hk =>
 yj.1 (h.perm.subset (by simp[hk]))
theorem fW.append {a b c:Nat}:∀ {x y:LN_},fW a b x→fW b c y→fW a c (x++y)
 | [],y,h,k=>by have e:a=b:=h;subst e;exact k
 | g::x,y,⟨h1,h2,h3⟩,k=>⟨h1,h2,h3.append k⟩
theorem oP:∀ (m n:Nat),fW m (m+n) ((List.range' m n).map fun i=>(i,i+1))
 | m,0=>rfl
 | m,n+1=>⟨rfl,by simp,by have:=oP (m+1) n;rw[show m+1+n=m+(n+1) by omega]at this;exact this⟩
theorem Gd.start (l:LL_):Gd l (bQ l) ((List.range l.length).map fun i=>(i,i+1)) (bV l.length):=by
 refine⟨by simp[bQ],by simp[bQ],fun i h=>⟨by simp[bQ,h],by simp[h]⟩,fun i h1 h2=>by simp[bQ]at h2;omega,?_,?_,by simp[bQ,bV];omega⟩
 ·have:fM (bQ l)=[]:=by simp[fM,bQ]
  rw[this];simp[bQ]
 ·have h:=oP 0 l.length
  rw[I9,←List.range_eq_range']at h
  have e:(bV l.length).map (pP ((List.range l.length).map fun i=>(i,i+1)))=(List.range l.length).map fun i=>(i,i+1):=by
   unfold bV;rw[List.map_map];refine List.map_congr_left fun i hi=>?_;have d:=List.mem_range.1 hi;simp[pP,List.getD,d]
  rw[e];exact h
theorem CZ {d:LN_}{g:Nat×Nat}{k:Int}(h0:0≤k)(h:k<(d.length:Int)):pP (d++[g]) k=pP d k:=by
 unfold pP;rw[List.getD,List.getD,List.getElem?_append_left Y]
theorem sF {E:LD_}{y:Nd}{o:LI_}(h:∀ k∈o,0≤k∧k<(E.length:Int)):aV (E++[y]) o=aV E o:=by
 unfold aV;refine List.map_congr_left fun k hk=>?_;have:=h k hk;rw[List.getD,List.getD,List.getElem?_append_left Y]
theorem gV {d:LN_}{g:Nat×Nat}{o:LI_}(h:∀ k∈o,0≤k∧k<(d.length:Int)):o.map (pP (d++[g]))=o.map (pP d) :=
 List.map_congr_left fun k hk=>CZ (h k hk).1 (h k hk).2
theorem Gd.more {l:LL_}{E:LD_}{d:LN_}{c1 o c2:LI_}(h:Gd l E d (c1++(o++c2)))(h2:2≤o.length)(q:o.length≤8):∃ g,Gd l (E++[(gI (aV E o),o)]) (d++[g]) (c1++((E.length:Int)::c2)):=by
 have hm:=h.mem;have ht:=h.tile;rw[Jf,Jf]at ht;obtain⟨a,t1,t23⟩:=ht.split;obtain⟨b,t2,t3⟩:=t23.split;have hk:∀ k∈o,0≤k∧k<(E.length:Int):=fun k hk=>hm k (by simp[hk]);have bj:=h.splen;have aB:∀ k∈o,0≤k∧k<(d.length:Int):=fun k H=>by rw[bj];exact hk k H
 have s:a<b:=by
  cases o with
  | nil=>simp at h2
  | cons k o =>
   obtain⟨k1,k2,k3⟩:=t2;have:=k3.le;omega
 refine⟨(a,b),by simp[bj],by have:=h.ge;simp;omega,fun i hi=>?_,fun i h1 h3=>?_,?_,?_,?_⟩
 ·obtain⟨k1,k2⟩:=h.leaf i hi
  have:=h.ge;exact⟨by rw[List.getElem?_append_left Y];exact k1,by rw[List.getElem?_append_left Y];exact k2⟩
 ·by_cases hi:i<E.length
  ·obtain⟨k1,k2,k3,k4,k5⟩:=h.inner i h1 hi
   have e1:(E++[(gI (aV E o),o)]).getD i ([],[])=E.getD i ([],[]):=by rw[List.getD,List.getD,List.getElem?_append_left hi]
   have e2:(d++[(a,b)]).getD i (0,0)=d.getD i (0,0):=by rw[List.getD,List.getD,List.getElem?_append_left Y]
   unfold EE;rw[e1,e2,sF (fun k hk=>by have:=k3 k hk;omega),gV (fun k hk=>by have:=k3 k hk;omega)];exact⟨k1,k2,k3,k4,k5⟩
  ·have af:i=E.length:=by simp at h3;omega
   subst af;have e1:(E++[(gI (aV E o),o)]).getD E.length ([],[])=(gI (aV E o),o):=by simp[List.getD]
   have e2:(d++[(a,b)]).getD E.length (0,0)=(a,b):=by rw[←bj];simp[List.getD]
   unfold EE;rw[e1,e2,sF hk,gV aB];exact⟨h2,q,hk,rfl,t2⟩
 ·have hp:=h.perm
  have e:fM (E++[(gI (aV E o),o)])=fM E++o:=by simp[fM]
  rw[e,Jh,show E.length+[(gI (aV E o),o)].length=E.length+1 from rfl,show bV (E.length+1)=bV E.length++[(E.length:Int)] by simp[bV,List.range_succ]]
  have q1:(fM E++o++(c1++((E.length:Int)::c2))).Perm ((E.length:Int)::(fM E++(c1++(o++c2)))):=by
   have a1:(fM E++o++(c1++((E.length:Int)::c2))).Perm ((E.length:Int)::(fM E++o++(c1++c2))):=by
    rw[←Jg,←Jg (fM E++o)];exact List.perm_middle
   refine a1.trans (List.Perm.cons _ ?_);rw[Jg];refine List.Perm.append_left _ ?_;rw[←Jg,←Jg];exact List.Perm.append_right _ List.perm_append_comm
  exact q1.trans ((List.Perm.cons _ hp).trans (List.perm_append_singleton _ _).symm)
 ·have n1:∀ k∈c1,0≤k∧k<(d.length:Int):=fun k H=>by rw[bj];exact hm k (by simp[H])
  have n2:∀ k∈c2,0≤k∧k<(d.length:Int):=fun k H=>by rw[bj];exact hm k (by simp[H])
  rw[Jf,List.map_cons,gV n1,gV n2];have e3:pP (d++[(a,b)]) (E.length:Int)=(a,b):=by rw[←bj];simp[pP,List.getD]
  rw[e3];exact t1.append ⟨rfl,s,t3⟩
 ·have:=h.sum
  simp at this⊢;omega
theorem CU {l:LL_}{c:LD_}{ae:LI_}{x:LD_×LI_}{d:LN_}{a b:Nat}(ao:c <+: x.1)(j:∀ k∈ae,0≤k∧k<(c.length:Int))(h:Gd l x.1 d (x.2++ae.drop a))(s:a<b)(hb:b≤ae.length)(q:b-a≤8):∃ i,Gd l (dO (aV c ae) ae x (a,b)).1 i ((dO (aV c ae) ae x (a,b)).2++ae.drop b):=by
 unfold dO;simp only
 have f:ae.drop a=(ae.drop a).take (b-a)++ae.drop b:=by
  have:=(List.take_append_drop (b-a) (ae.drop a)).symm;rw[Jv,show a+(b-a)=b by omega]at this;exact this
 split
 ·rename_i h1
  refine⟨d,?_⟩;have ha:a<ae.length:=Y;have e:ae.drop a=ae[a]::ae.drop b:=by rw[JP ha,show a+1=b by omega]
  rw[e]at h;simpa[List.getD,ha] using h
 ·rename_i h1
  rw[f]at h;have ai:((ae.drop a).take (b-a)).length=b-a:=by simp;omega
  obtain⟨g,hg⟩:=h.more Y Y;refine⟨d++[g],?_⟩
  have e:aV x.1 ((ae.drop a).take (b-a))=((aV c ae).drop a).take (b-a):=by
   unfold aV;rw[←List.map_drop,←List.map_take];refine List.map_congr_left fun k hk=>?_;have u:=j k (List.mem_of_mem_drop (List.mem_of_mem_take hk));obtain⟨r,hr⟩:=ao;rw[←hr,List.getD,List.getD,List.getElem?_append_left Y]
  rw[←e];simpa using hg
theorem Ae {l:LL_}{c:LD_}{ae:LI_}(j:∀ k∈ae,0≤k∧k<(c.length:Int)):∀ (L:LN_) (a:Nat) (x:LD_×LI_) (d:LN_),fW a ae.length L→(∀ g∈L,g.2-g.1≤8)→c <+: x.1→Gd l x.1 d (x.2++ae.drop a) → ∃ i,Gd l (L.foldl (dO (aV c ae) ae) x).1 i (L.foldl (dO (aV c ae) ae) x).2
 | [],a,x,d,ht,_,_,h=>by
  have e:a=ae.length:=ht;subst e;exact⟨d,by simpa using h⟩
 | g::L,a,x,d,⟨h1,h2,h3⟩,q,ao,h=>by
  obtain⟨g1,g2⟩:=g;obtain rfl:g1=a:=h1;obtain⟨i,h'⟩:=CU ao j h h2 h3.le (q _ i_);refine Ae j L g2 _ i h3 (fun g hg=>q g (by simp[hg])) (ao.trans ?_) h';unfold dO
  split
  ·exact List.prefix_refl _
  ·exact List.prefix_append _ _
theorem GE {l:LL_}{E:LD_}{ae:LI_}{d:LN_}(h:Gd l E d ae):∃ i,Gd l (lvl E ae).1 i (lvl E ae).2:=by
 have ht:=fN (aV E ae);rw[dy]at ht;exact Ae h.mem _ 0 (E,[]) d ht (fun g hg=>(lR _ g hg).1) (List.prefix_refl _) yze
theorem Gd.okl {l:LL_}{E:LD_}{ae:LI_}{d:LN_}(h:Gd l E d ae)(hid:de l=true):OkL E ae:=by
 refine⟨fun x hx=>?_,h.mem⟩;obtain⟨i,hi,rfl⟩:=List.getElem_of_mem hx
 by_cases hl:i<l.length
 ·have h1:=(h.leaf i hl).1
  rw[List.getElem?_eq_getElem hi]at h1;have h2:=Option.some.inj h1;rw[h2];have:=List.all_eq_true.1 hid l[i] (Jz hl);simpa[kO] using this
 ·have h1:=(h.inner i Y hi).2.2.2.1
  have e:E.getD i ([],[])=E[i]:=by simp[List.getD,hi]
  rw[e]at h1;rw[h1];exact mZ _
theorem sA {l:LL_}(hid:de l=true):∀ (n:Nat) (E:LD_) (ae:LI_) (d:LN_),ae.length≤n→Gd l E d ae→∃ i q,q.length≤1∧Gd l (it n E ae) i q
 | 0,E,ae,d,hn,h=>⟨d,ae,by omega,h⟩
 | n+1,E,ae,d,hn,h=>by
  rw[it]
  split
  ·rename_i h1
   obtain⟨i,h'⟩:=GE h;exact sA hid n _ _ i (by have:=qy (h.okl hid) h1;omega) h'
  ·exact⟨d,ae,by omega,h⟩
theorem s4 {l:LL_}(hid:de l=true):∃ d ae,ae.length≤1∧Gd l (aJ l) d ae :=
 sA hid l.length _ _ _ (by rw[show(bV l.length).length=l.length by simp[bV]];exact I6 _) (Gd.start l)
theorem up {l:LL_}(hid:de l=true):l.length≤(aJ l).length∧(aJ l).length≤2*l.length∧(∀ x∈aJ l,x.1.length=32)∧∀ x∈aJ l,x.2.length≤8:=by
 obtain⟨d,ae,_,h⟩:=s4 hid;refine⟨h.ge,by have:=h.sum;omega,(h.okl hid).ids,fun x hx=>?_⟩;obtain⟨i,hi,rfl⟩:=List.getElem_of_mem hx
 by_cases hl:i<l.length
 ·have h1:=(h.leaf i hl).1
  rw[List.getElem?_eq_getElem hi]at h1;rw[Option.some.inj h1];simp
 ·have h1:=(h.inner i Y hi).2.1
  have e:(aJ l).getD i ([],[])=(aJ l)[i]:=by simp[List.getD,hi]
  rwa [e]at h1
end
section
attribute [local go_sem] Oper.semAt_some
def Co (x:Nat×Nat)(vs:AV_)(_:Z):Prop:=vs=#[.agg #[.int .i64 x.1,.int .i64 x.2]]
theorem It (c:U8_):bits .and .u8 (c.toNat:Int) 3=(c.toNat:Int)%4:=by
 have h:∀ y:Nat,y<256→bits .and .u8 (y:Int) 3=(y:Int)%4:=d_;exact h _ c.toNat_lt
theorem LR {T:Prop} (h:T:=by
 go_upto_region 6 with(fail)
 (have g:=eG h0 c.o;have ao:S++[(f,k+1)] <+: cE l:=⟨_,by rw[Jg,←HS.o,g];rfl⟩;have w:=O g;have u:=O ao;obtain⟨fn,tm,aA,aC,hy,an⟩:=HY.o S (f,k+1) #[.agg #[.int .i64 f,.int .i64 ((k:Int)+1)]] wr j.o (by unfold Co;simp) ao;clear g ao;refine(wpIn_wide (n:=n)).1 ?_;gi_wp2;refine⟨fun h=>(by cases h),?_⟩;refine an.mono ?_;rintro e W7 (⟨rfl,aq,ai⟩|⟨rfl,K⟩);(gi_wp2;go_wp2;refine⟨⟨k+1,k+1,S++[(f,k+1)],by go_num,by go_num,by omega,by omega,by(unfold Hid;rw[Jg,←HS.o,w.o];rfl),cc.o.trans ai,aq⟩,by simp[intOf];omega⟩);(gi_wp2;go_wp2;refine bodyPost_ret (results_none rfl _ _ _) rfl ?_;exact⟨⟨_,rfl⟩,.inr ⟨_,u.o,K⟩⟩))
):T:=h
theorem LS {T:Prop} (h:T:=by
 clear p1;go_wp2
 (refine⟨⟨f,k+1,S,rfl,by go_num,by omega,by omega,by(unfold Hid;rw[←HS.o,lh h0 c.o]),cc.o,j.o⟩,by simp[intOf];omega⟩)
):T:=h
theorem LT {T:Prop} (h:T:=by
 have q1:((k:Int)+1==(l.length:Int))=true:=by rw[beq_iff_eq];omega
 have c:=O (show eW l f k=true by rw[s.o];simp[p1]);clear p1;exact LR
):T:=h
theorem rH (n B:Nat)(l:LL_)(aa:Nat→Prop)(v:V_)(W:Z)(hB:W.heap[B]?=some (.cells #[v] 22 (0,0)))(hr:aP.Row W v l)(ab:∀ b,v.ownBlock=some b→aa b)(Q:aa B)(hl:l.length≤1000000)(hid:de l=true):xt Fence.wide n prog 114 #[p_ B] (fun _=>False) aa Co (cE l) W:=by
 intro yl J Jx hJ ag hY aj;refine callsIn_wide.2 ?_;obtain⟨HJ,aE,HY⟩:=zH3 hJ ag hY;obtain⟨a,ah,rfl,_,hc⟩:=au hr;have HC:=O hc;have M:=O ab;have r:=cell_of_one hB;have HB:=O hB
 have ar:∀ k (hk:k<l.length),l[k].length=32:=fun k hk=>by
  have:=List.all_eq_true.1 hid l[k] (Jz hk);simpa[kO] using this
 have cu:=O ar;clear hJ ag hY hB ab hc hr hid ar;go_enter func114,ntmps114;go_wp2
 go_loopw [3,9] (fun vf vk wr=>∃ f k:Nat,∃ S,vf=F f∧vk=F k∧f≤k∧k≤l.length∧Hid (S++dF l (l.length-k) f k=cE l)∧Hid (Chg (fun k=>¬aa k) W wr)∧Hid (J S wr)) (fun _ k _=>l.length-(intOf k).toNat)
 case atStart=>exact⟨0,0,[],rfl,rfl,by omega,by omega,rfl,Chg.refl _ _,aj⟩
 case round =>
  obtain⟨f,k,S,rfl,rfl,C,hk,HS,cc,j⟩:=hrel
  by_cases h0:k<l.length
  ·obtain⟨b,aL,rfl,c1⟩:=HC.o k h0
   have c2:=cc.o.cell c1 (fun hn=>hn (M.o b rfl));have c3:=cc.o.cell r (fun hn=>hn Q);have h3:=cu.o k h0;obtain⟨x,hx⟩:=H (l[k]);rw[←hx]at c2 h3;have y:31<(x.length:Int):=Y;have q:31<x.length:=Y;have k0:=nn_ k;have k1:(k:Int)<l.length:=Y;have k2:(l.length:Int)≤1000000:=Y;have k3:(f:Int)≤k:=Y;have hg:l.getD k []=x:=by rw[hx];simp[List.getD,h0]
   have hm:mark x=((x[31].toNat:Int)%4==3):=by
    exact MN
   obtain⟨m,aK⟩:=H (mark x);rw[←aK]at hm;have s:=O (show eW l f k=((m&&decide (2≤k+1-f))||decide (8≤k+1-f)||decide (k+1=l.length)) by unfold eW;rw[hg,←aK]);have HX:=O hx;have e0:=It x[31];have HM:=O hm;clear c1 hg hx aK hm
   cases m with
   | true =>
    have e1:bits BinOp.and IntKind.u8 (x[31].toNat:Int) 3=3:=by rw[e0];have:=HM.o.symm;rwa [beq_iff_eq]at this
    clear e0
    by_cases p2:2≤k+1-f
    ·have q2:(2:Int)≤(k:Int)+1-(f:Int):=Y
     have I:=O p2;clear p2;have c:=O (show eW l f k=true by rw[s.o];simp[I.o]);exact LR
    ·have q2:¬(2:Int)≤(k:Int)+1-(f:Int):=Y
     have q3:(k:Int)+1-(f:Int)<2:=Y;have t:¬(8:Int)≤(k:Int)+1-(f:Int):=Y;have A:(k:Int)+1-(f:Int)<8:=Y;have I:=O (show ¬8≤k+1-f by omega);have z:=O p2;clear p2
     by_cases p1:k+1=l.length
     ·exact LT
     ·have q1:((k:Int)+1==(l.length:Int))=false:=by rw[beq_eq_false_iff_ne];omega
      have c:=O (show eW l f k=false by rw[s.o];simp[p1,I.o,z.o]);exact LS
   | false =>
    have e1:¬bits BinOp.and IntKind.u8 (x[31].toNat:Int) 3=3:=by rw[e0];have:=HM.o.symm;rwa [beq_eq_false_iff_ne]at this
    have e2:(bits BinOp.and IntKind.u8 (x[31].toNat:Int) 3==3)=false:=by rw[beq_eq_false_iff_ne];exact e1
    clear e0
    by_cases o:8≤k+1-f
    ·have t:(8:Int)≤(k:Int)+1-(f:Int):=Y
     have c:=O (show eW l f k=true by rw[s.o];simp[o]);clear o;exact LR
    ·have t:¬(8:Int)≤(k:Int)+1-(f:Int):=Y
     have A:(k:Int)+1-(f:Int)<8:=Y;have i:=O o;clear o
     by_cases p1:k+1=l.length
     ·exact LT
     ·have q1:((k:Int)+1==(l.length:Int))=false:=by rw[beq_eq_false_iff_ne];omega
      have c:=O (show eW l f k=false by rw[s.o];simp[p1,i.o]);exact LS
  ·obtain rfl:k=l.length:=Y
   have d:=HS.o;rw[pO,Jy]at d;have HF:=O d;clear d;go_wp2;go_end0;exact⟨⟨_,rfl⟩,.inl (by rw[←HF.o];exact j.o)⟩
theorem wN (v:V_)(w:Z)(hv:v.oneCell'=true):C_ 80 #[v] w fun e w'=>e=.returned (.func (.func 114) #[] #[.pointer (some ⟨w.heap.size,0,none⟩)])∧w'=w.alloc (.cells #[v] 22):=by
 cases v<;>simp[Value.oneCell']at hv
 all_goals
  go_enter func80,ntmps80;go_wp2;go_ret;exact⟨rfl,rfl⟩
end
def j8 (w w':Z):Prop:=Chg (fun k=>∀ cs e d,w.heap[k]?≠some (.cells cs e d)) w w'
theorem j8.refl (w:Z):j8 w w:=Chg.refl _ _
theorem j8.trans {a b c:Z}(h:j8 a b)(k:j8 b c):j8 a c :=
 ⟨k.os.trans h.os,k.tape.trans h.tape,k.output.trans h.output,Jc h.size k.size,fun i hi hx=>by
  have e:=h.block i hi hx;rw[←e];exact k.block i (Jr hi h.size) (fun hn=>hx fun cs el d=>by rw[←e];exact hn cs el d)⟩
theorem j8.mark {w:Z}{D:Nat}{o F:Obj}(h:w.heap[D]?=some o)(hn:∀ cs e d,o≠.cells cs e d):j8 w (w.putObj D F) :=
 Chg.putObj _ _ _ (fun cs e d=>by rw[h];intro e2;exact hn cs e d (Option.some.inj e2))
theorem j8.at {w w':Z}(h:j8 w w'){k:Nat}{cs:AV_}{e:T_}{d:Nat×Nat}(hk:w.heap[k]?=some (.cells cs e d)):w'.heap[k]?=some (.cells cs e d) :=
 Chg.at h hk (fun hn=>hn cs e d hk)
theorem j8.cell {w w':Z}(h:j8 w w'){a:Addr}{u:V_}(ha:w.cell? a=some u):w'.cell? a=some u:=by
 refine Chg.cell h ha fun hn=>?_;have hb:=aG ha
 cases ho:w.heap[a.block]? with
 | none=>rw[Array.getElem?_eq_none_iff]at ho;omega
 | some o =>
  cases o with
  | cells cs e d=>exact hn cs e d ho
  | _=>simp[World.cell?,ho]at ha
def fX (B:Nat)(w:Z):List Deferred→Prop
 | []=>True
 | d::ds=>(∃ D,d={ target:=.collected D,args:=#[] }∧B≤D∧w.heap[D]?=some (.deferred (some []))∧∀ m∈ds,m.target≠.collected D)∧fX B w ds
theorem fX.lt {B:Nat}{w:Z}:∀ {ds:List Deferred},fX B w ds→∀ d∈ds,∃ D,d.target=.collected D∧w.heap[D]?=some (.deferred (some []))
 | [],_,d,h=>absurd h i_
 | x::ds,⟨⟨D,h1,_,h2,_⟩,h4⟩,d,h=>by
  rcases JK.1 h with rfl|h
  ·exact⟨D,by rw[h1],h2⟩
  ·exact h4.lt d h
theorem fX.chg {X:Nat→Prop}{B:Nat}{w w':Z}:∀ {ds:List Deferred},fX B w ds→Chg X w w'→(∀ D,w.heap[D]?=some (.deferred (some []))→¬X D)→fX B w' ds
 | [],_,_,_=>trivial
 | _::_,⟨⟨D,h1,hb,h2,h3⟩,h4⟩,hc,hX=>⟨⟨D,h1,hb,hc.at h2 (hX D h2),h3⟩,h4.chg hc hX⟩
theorem fX.other {B:Nat}{w w':Z}{D:Nat}(ho:∀ k,k≠D→w'.heap[k]?=w.heap[k]?):∀ {ds:List Deferred},fX B w ds→(∀ d∈ds,d.target≠.collected D)→fX B w' ds
 | [],_,_=>trivial
 | x::ds,⟨⟨D',h1,hb,h2,h3⟩,h4⟩,hn=>by
  refine⟨⟨D',h1,hb,?_,h3⟩,h4.other ho (fun d hd=>hn d (by simp[hd]))⟩;rw[ho D' (fun e=>hn x i_ (by rw[h1,e]))];exact h2
theorem fX.cons {B:Nat}{w:Z}{ds:List Deferred}{D:Nat}(h:fX B w ds)(hB:B≤D)(hD:w.heap[D]?=some (.deferred (some [])))(hn:∀ d∈ds,d.target≠.collected D):fX B w ({ target:=.collected D,args:=#[] }::ds):=⟨⟨D,rfl,hB,hD,hn⟩,h⟩
section
variable {P:Program}
theorem mX {B:Nat}{fn:Func}{aE:AV_}{R:Ending→Z→Prop}:∀ (ds:List Deferred) (w:Z),fX B w ds→(∀ w',j8 w w'→B_ B w w'→∃ v,(results fn aE).run P w'=.ok v w'∧R (.returned v) w')→LeavesInM Fence.wide 1 P fn aE R ds .returning w
 | [],w,_,h=>by
  obtain⟨v,h1,h2⟩:=h w (j8.refl w) (Ja _ _);exact⟨v,h1,h2⟩
 | d::ds,w,⟨⟨D,h1,hb,h2,h3⟩,h4⟩,h=>by
  have ht:j8 w (w.putObj D (.deferred none)):=j8.mark h2 (fun _ _ _ e=>by cases e);have bo:B_ B w (w.putObj D (.deferred none)):=⟨rfl,rfl,rfl,by simp,fun k hk=>World.putObj_heap_other Y⟩
  refine⟨by simp,.inl ⟨D,_,by rw[h1],run_takeDeferred h2,mX ds _ (h4.other (fun k hk=>World.putObj_heap_other hk) h3) fun w' b m=>h w' (ht.trans b) (bo.trans m)⟩⟩
theorem nL {B:Nat}{fn:Func}{R:Ending→Z→Prop}{a:Act}{w:Z}(hm:fX B w a.defers)(h:∀ w',j8 w w'→B_ B w w'→∃ v,(results fn a.tmps).run P w'=.ok v w'∧R (.returned v) w'):bodyPostM Fence.wide 1 P fn R .ret a w :=
 mX a.defers w hm h
end
theorem aO.tidy {w w':Z}{v:V_}{n:Nat}{xs:LV_}(h:aO w v n xs)(hc:j8 w w'):aO w' v n xs:=by
 obtain⟨a,ah,rfl,hn,hu⟩:=h;exact⟨a,ah,rfl,hn,fun j u hj=>by obtain⟨b,aL,ha,hx⟩:=hu j u hj;exact⟨b,aL,ha,hc.cell hx⟩⟩
section
attribute [local go_sem] Oper.semAt_some
theorem pz {P:Program}{aM:Array Oper}{C:Z→Prop}{R:Z→Z→Prop}{am:Nat→Option (bu R)}{Q:aD→Act→Prop}{k:Nat}{S:aD}{a:Act}(h:Q S a):wpG P aM C R am Q k [] S a:=h
attribute [local irreducible] wpG
def DX {α:Type}(R:Rec α)(bZ:Nat)(l:List α):bu Bel :=
 ⟨OA_×Nat,fun x=>.slice x.1 l.length x.2,fun x=>some fun w=>R.Own w bZ (.slice x.1 l.length x.2) l,fun _ _ h _ _ i hB=>by cases h;exact Rec.Own.below i hB⟩
@[go_sem] theorem GZ {α:Type} (R:Rec α) (bZ:Nat) (l:List α) (a:OA_) (c:Nat):(DX R bZ l).val (a,c)=.slice a l.length c:=rfl
theorem Rec.append1RIn {am:Fence}{kk:Nat}{α:Type}{aM:Array Oper}{rest:LO_}{o:Oper}{a:Act}{Q:Exit→Act→Z→Prop}(R:Rec α)(w:Z)(p:α)(av:o.guard=none)(s x:Operand)(t:T_)(ho:o.op=.call { callee:=.builtin .append,args:=#[s,x],argTypes:=#[t,t] })(ht:prog.underlying t=some (.slice R.e))(bZ:Nat)(v:V_)(xs:List α)(aw:R.Own w bZ v xs)(hs:a.eval s=v)(y:V_)(hx:a.eval x=y)(hr:aO w y 1 (R.cell p))(d:(xs.length+1)*R.bytes≤140737488355328)(aB:bZ≤w.heap.size)(h:∀ g ah w',R.Own w' bZ (.slice (some ⟨g,0,none⟩) (xs.length+1) ah) (xs++[p])→Chg (fun k=>v.ownBlock=some k) w w'→(v.ownBlock=some g∨w.heap.size≤g) → wpListIn am kk prog aM Q rest (a.put o.dst (.slice (some ⟨g,0,none⟩) (xs.length+1) ah)) w'):wpListIn am kk prog aM Q (o::rest) a w:=by
 obtain⟨i,hi,hz,ao,aG⟩:=info_parts R.info;have hn:xs.length+1≤(xs.length+1)*R.bytes:=Nat.le_mul_of_pos_right _ R.bpos;obtain⟨ax,c,rfl,q,hc⟩:=hr
 cases ax with
 | none=>have:=(q rfl).1;omega
 | some ad =>
  refine wpListIn_append_own_at _ av s x t ho bZ R.e i R.z R.n R.bytes ht hi hz ao aG R.zs R.pos v xs.length (R.cells xs) hs aw ad 1 c (R.cell p) hx (by simpa using R.len p) ?_ (R.one p) yzb d aB ?_
  ·exact L9
  ·intro v' w' h2 h3 _ h5
   obtain⟨g,ah,rfl⟩:=ownsRow_succ h2;have hB:B_ bZ w w':=(Ja bZ w).grown h3 aB (fun k hk=>(Rec.Own.lt aw k hk).1);refine h g ah w' ?_ ⟨hB.os,hB.tape,hB.output,hB.size,fun j hj aI=>h3.block j hj (fun e=>aI e.symm)⟩ ?_
   ·exact Mm
   ·have e1:(Value.slice (some ⟨g,0,none⟩) (xs.length+1) ah).ownBlock=some g:=rfl
    rw[e1]at h5;rcases h5 with h4|h4
    ·exact .inl h4.symm
    ·exact .inr (by have:=Option.some.inj h4;omega)
theorem Rec.append1R {α:Type}{aM:Array Oper}{rest:LO_}{o:Oper}{a:Act}{Q:Exit→Act→Z→Prop}(R:Rec α)(w:Z)(p:α)(av:o.guard=none)(s x:Operand)(t:T_)(ho:o.op=.call { callee:=.builtin .append,args:=#[s,x],argTypes:=#[t,t] })(ht:prog.underlying t=some (.slice R.e))(bZ:Nat)(v:V_)(xs:List α)(aw:R.Own w bZ v xs)(hs:a.eval s=v)(y:V_)(hx:a.eval x=y)(hr:aO w y 1 (R.cell p))(d:(xs.length+1)*R.bytes≤140737488355328)(aB:bZ≤w.heap.size)(h:∀ g ah w',R.Own w' bZ (.slice (some ⟨g,0,none⟩) (xs.length+1) ah) (xs++[p])→Chg (fun k=>v.ownBlock=some k) w w'→(v.ownBlock=some g∨w.heap.size≤g) → wpList prog aM Q rest (a.put o.dst (.slice (some ⟨g,0,none⟩) (xs.length+1) ah)) w'):wpList prog aM Q (o::rest) a w:=by
 obtain⟨i,hi,hz,ao,aG⟩:=info_parts R.info;have hn:xs.length+1≤(xs.length+1)*R.bytes:=Nat.le_mul_of_pos_right _ R.bpos;obtain⟨ax,c,rfl,q,hc⟩:=hr
 cases ax with
 | none=>have:=(q rfl).1;omega
 | some ad =>
  refine wpList_append_lies _ av s x t ho bZ R.e i R.z R.n R.bytes ht hi hz ao aG R.zs R.pos v xs.length (R.cells xs) hs aw ad 1 c (R.cell p) hx (by simpa using R.len p) ?_ (R.one p) d_ yzb d aB _ rfl ?_
  ·exact L9
  ·intro g ah w' h2 h3 h4 h5
   have hB:B_ bZ w w':=(Ja bZ w).grown h3 aB (fun k hk=>(Rec.Own.lt aw k hk).1);refine h g ah w' ?_ ⟨hB.os,hB.tape,hB.output,hB.size,fun j hj aI=>h3.block j hj (fun e=>aI e.symm)⟩ ?_
   ·exact Mm
   ·rcases h4 with h4|h4
    ·exact .inl h4
    ·exact .inr Y
def NR (w:Z)(v:V_)(E:LD_):Prop:=∃ aF,pY.Row w v aF∧aF.length=E.length∧∀ i (h:i<aF.length) (h':i<E.length),aF[i].1=E[i].1∧eY.Row w (.slice aF[i].2.1 aF[i].2.2.1 aF[i].2.2.2) E[i].2
theorem NL.nr {w:Z}{bZ:Nat}{K:Nat→Prop}{V lv:V_}{E:LD_}{ae:LI_}(h:NL w bZ K V lv E ae):NR w V E:=by
 obtain⟨⟨aF,h1,h2,h3⟩,_,_⟩:=h;exact⟨aF,h1.row,h2,fun i hi d=>⟨(h3 i hi d).1,(h3 i hi d).2.1⟩⟩
theorem py {w:Z}{v:V_}{E:LD_}(h:NR w v E):∃ a c,v=.slice a E.length c∧E.length≤c∧∀ k (hk:k<E.length),∃ b aL ak nk ck,a=some ⟨b,aL,none⟩∧w.cell? ⟨b,aL+k*2,none⟩=some (s_ E[k].1)∧w.cell? ⟨b,aL+k*2+1,none⟩=some (.slice ak nk ck)∧eY.Row w (.slice ak nk ck) E[k].2:=by
 obtain⟨aF,h1,h2,h3⟩:=h;obtain⟨a,c,rfl,aq,hc⟩:=h1.open;refine⟨a,c,by rw[h2],by omega,fun k hk=>?_⟩;obtain⟨b,aL,ha,hu⟩:=hc k Y;obtain⟨k1,k2⟩:=h3 k Y hk;have u0:=hu 0 _ rfl;have u1:=hu 1 _ rfl;rw[k1]at u0;exact⟨b,aL,_,_,_,ha,u0,u1,k2⟩
theorem qI {E:LD_}{ae:LI_}{j:Nat}(h:j<ae.length):aV E (ae.take (j+1))=aV E (ae.take j)++[(E.getD ae[j].toNat ([],[])).1]:=by
 unfold aV;rw[JB h,Jf];rfl
def NRf (w:Z)(B:Nat)(v:V_)(E:LD_):Prop:=∃ aF,pY.Row w v aF∧aF.length=E.length∧(∀ b,v.ownBlock=some b→B≤b) ∧
 ∀ i (h:i<aF.length) (h':i<E.length),aF[i].1=E[i].1∧eY.Row w (.slice aF[i].2.1 aF[i].2.2.1 aF[i].2.2.2) E[i].2∧∀ b,(Value.slice aF[i].2.1 aF[i].2.2.1 aF[i].2.2.2).ownBlock=some b→B≤b
theorem NRf.nr {w:Z}{B:Nat}{v:V_}{E:LD_}(h:NRf w B v E):NR w v E:=by
 obtain⟨aF,h1,h2,_,h3⟩:=h;exact⟨aF,h1,h2,fun i hi d=>⟨(h3 i hi d).1,(h3 i hi d).2.1⟩⟩
theorem NL.nrf {w:Z}{bZ B:Nat}{V lv:V_}{E:LD_}{ae:LI_}(h:NL w bZ (fun k=>bZ≤k) V lv E ae)(hB:B≤bZ):NRf w B V E:=by
 obtain⟨⟨aF,h1,h2,h3⟩,_,_⟩:=h;exact⟨aF,h1.row,h2,fun b hb=>Jc hB (h1.lt b hb).1,fun i hi d=>⟨(h3 i hi d).1,(h3 i hi d).2.1,fun b hb=>Jc hB ((h3 i hi d).2.2 b hb).1⟩⟩
def xj (w':Z)(B:Nat)(l:LL_)(e:Ending):Prop :=
 if de l∧l.length≤4096 then ∃ v,e=.returned (.tuple #[.agg #[v,.int .i64 l.length],.int .i64 0])∧NRf w' B v (aJ l) else e=.returned (.tuple #[.agg #[.slice none 0 0,.int .i64 0],.int .i64 2])
theorem Al {w':Z}{B:Nat}{l:LL_}(h:¬(de l∧l.length≤4096)):xj w' B l (.returned (.tuple #[.agg #[e_,F 0],F 2])):=by unfold xj;rw[if_neg h]
theorem Es {w':Z}{B:Nat}{l:LL_}{v:V_}(h:de l∧l.length≤4096)(ho:NRf w' B v (aJ l)):xj w' B l (.returned (.tuple #[.agg #[v,F l.length],F 0])):=by unfold xj;rw[if_pos h];exact⟨_,rfl,ho⟩
structure Sit (I T L P bZ:Nat) (fv:V_) (n0:Int) (U:Z) (iv nv lv:V_) (ids:LL_) (nodes:LD_) (level:LI_):Prop where
 bi:U.heap[I]?=some (.cells #[iv] 22 (0,0))
 bp:U.heap[P]?=some (.cells #[fv] 145 (0,0))
 bx:et U L T lv nv n0
 nl:NL U bZ (fun k=>bZ≤k) nv lv nodes level
 ri:aP.Row U iv ids
 ap:∀ b,iv.ownBlock=some b→b<U.heap.size∧b≠I∧b≠T∧b≠L∧b≠P∧nv.ownBlock≠some b∧lv.ownBlock≠some b
theorem Sit.put {I T L P bZ:Nat}{d:V_}{n0:Int}{U U':Z}{iv V lv a ao:V_}{a4:LL_}{E c:LD_}{ae q:LI_}(h:Sit I T L P bZ d n0 U iv V lv a4 E ae)(aI:I≠L∧I≠T∧P≠L∧P≠T∧I<bZ∧P<bZ)(a3:et U' L T ao a n0)(aQ:NL U' bZ (fun k=>bZ≤k) a ao c q)(bB:V.ownBlock=a.ownBlock∨∀ b,a.ownBlock=some b→U.heap.size≤b)(bj:lv.ownBlock=ao.ownBlock∨∀ b,ao.ownBlock=some b→U.heap.size≤b)(hc:Chg (fun k=>k=L∨k=T∨lv.ownBlock=some k∨V.ownBlock=some k) U U'):Sit I T L P bZ d n0 U' iv a ao a4 c q:=by
 obtain⟨h1,h2,h3,h4,h5,h6⟩:=h;obtain⟨n1,n2,n3,n4,H,f⟩:=aI;have hL:∀ k,lv.ownBlock=some k→bZ≤k:=fun k hk=>(h4.lev.lt k hk).1;have hN:∀ k,V.ownBlock=some k→bZ≤k:=fun k hk=>by obtain⟨aF,r1,_⟩:=h4.raw;exact(r1.lt k hk).1
 refine⟨hc.at h1 ?_,hc.at h2 ?_,a3,aQ,h5.chg hc fun b hb=>?_,fun b hb=>?_⟩
 ·rintro (e|e|e|e)
  ·exact n1 e
  ·exact n2 e
  ·have:=hL _ e;omega
  ·have:=hN _ e;omega
 ·rintro (e|e|e|e)
  ·exact n3 e
  ·exact n4 e
  ·have:=hL _ e;omega
  ·have:=hN _ e;omega
 ·obtain⟨k0,k1,k2,k3,k4,k5,g⟩:=h6 b hb
  rintro (e|e|e|e)
  ·exact k3 e
  ·exact k2 e
  ·exact g e
  ·exact k5 e
 ·obtain⟨k0,k1,k2,k3,k4,k5,g⟩:=h6 b hb
  refine⟨Jr k0 hc.size,k1,k2,k3,k4,?_,?_⟩
  ·rcases bB with e|e
   ·rw[←e];exact k5
   ·intro e2;have:=e b e2;omega
  ·rcases bj with e|e
   ·rw[←e];exact g
   ·intro e2;have:=e b e2;omega
theorem Sit.cells {I T L P bZ:Nat}{d:V_}{n0:Int}{U:Z}{iv V lv:V_}{a4:LL_}{E:LD_}{ae:LI_}(h:Sit I T L P bZ d n0 U iv V lv a4 E ae):U.cell? ⟨I,0,none⟩=some iv∧U.cell? ⟨P,0,none⟩=some d∧U.frozen? ⟨I,0,none⟩=false:=⟨cell_of_one h.bi,cell_of_one h.bp,free_of_one h.bi⟩
theorem Ea (w:Z)(o1 t o3 a:Obj):((((w.alloc o1).alloc t).alloc o3).alloc a).heap[w.heap.size]?=some o1∧((((w.alloc o1).alloc t).alloc o3).alloc a).heap[w.heap.size+1]?=some t∧((((w.alloc o1).alloc t).alloc o3).alloc a).heap[w.heap.size+1+1]?=some o3 ∧((((w.alloc o1).alloc t).alloc o3).alloc a).heap[w.heap.size+1+1+1]?=some a∧((((w.alloc o1).alloc t).alloc o3).alloc a).heap.size=w.heap.size+4∧Bw_ w ((((w.alloc o1).alloc t).alloc o3).alloc a):=by
 have e1:(w.alloc o1).heap.size=w.heap.size+1:=by simp
 have e2:((w.alloc o1).alloc t).heap.size=w.heap.size+1+1:=by simp
 have e3:(((w.alloc o1).alloc t).alloc o3).heap.size=w.heap.size+1+1+1:=by simp
 refine⟨?_,?_,?_,?_,by simp,bt (bt (bt (af _ _) (af _ _)) (af _ _)) (af _ _)⟩
 ·rw[Below.heap_alloc _ _ _ Y,Below.heap_alloc _ _ _ Y,Below.heap_alloc _ _ _ Y];exact World.alloc_heap_new w o1
 ·rw[Below.heap_alloc _ _ _ Y,Below.heap_alloc _ _ _ Y,←e1];exact World.alloc_heap_new _ t
 ·rw[Below.heap_alloc _ _ _ Y,←e2];exact World.alloc_heap_new _ o3
 ·rw[←e3];exact World.alloc_heap_new _ a
theorem oE (k:Nat):bV (k+1)=bV k++[(k:Int)]:=by simp[bV,List.range_succ]
theorem oQ {l:LL_}{k:Nat}(h:k<l.length):bQ (l.take (k+1))=bQ (l.take k)++[(l[k],[])]:=by
 unfold bQ;rw[JB h,Jf];rfl
theorem jK {P:Program}{fn:Func}{p u:Tmp}{ty:T_}{aE:AV_}{w:Z}{v:V_}{b:Nat}(hr:fn.results=#[.cell p ty,.tmp u])(hp:aE.getD p undef=p_ b)(hl:(loadVar ty ⟨b,0,none⟩).run P w=.ok v w):(results fn aE).run P w=.ok (.tuple #[v,aE.getD u undef]) w:=by
 simp only[Array.getD_eq_getD_getElem?]at hp⊢;simp[results,hr,Sem.run_bind,Result.andThen,hp,asAddr,hl]
theorem ls {w:Z}{b:Nat}{x y:V_}(h:w.heap[b]?=some (.cells #[x,y] 68 (0,0))):(loadVar 68 ⟨b,0,none⟩).run prog w=.ok (.agg #[x,y]) w :=
 run_loadVar_row (P:=prog) w b 68 68 #[x,y] (0,0) _ h underlying68 rfl q_
theorem et.same {w:Z}{L T:Nat}{lv V:V_}{n0:Int}(h:et w L T lv V n0)(hn:L≠T):et ((w.setCell ⟨T,0,none⟩ V).setCell ⟨T,1,none⟩ (F n0)) L T lv V n0:=by
 have h1:=h.setT (u:=V) hn;refine⟨(Below.heap_setCell _ _ _ _ hn).trans h1.1,?_⟩;have h2:=h1.2;have aC:=(Array.getElem?_eq_some_iff.1 h2)
 generalize w.setCell ⟨T,0,none⟩ V=w' at *;simp[World.setCell,Array.getElem?_modify,h2]
theorem wG (l:LL_):aV (bQ l) (bV l.length)=l:=by
 apply List.ext_getElem
 ·simp[aV,bV]
 ·intro i h1 h2
  simp[aV,bV,bQ,List.getD,h2]
theorem jU (l:LL_):(bQ l).length=l.length:=by simp[bQ]
theorem cZ (k:Nat):(bV k).length=k:=by simp[bV]
theorem NL.cut {w:Z}{bZ:Nat}{K:Nat→Prop}{V lv:V_}{E:LD_}{ae:LI_}(h:NL w bZ K V lv E ae):NL w bZ K V (e_) E []:=by
 obtain⟨⟨aF,h1,h2,h3⟩,h4,h5⟩:=h;exact⟨⟨aF,h1,h2,fun i hi d=>⟨(h3 i hi d).1,(h3 i hi d).2.1,fun b hb=>⟨((h3 i hi d).2.2 b hb).1,((h3 i hi d).2.2 b hb).2.1,((h3 i hi d).2.2 b hb).2.2.1,by simp[Value.ownBlock]⟩⟩⟩,Rec.Own.nil _ _,fun b _=>by simp[Value.ownBlock]⟩
theorem NL.blk {w:Z}{bZ:Nat}{K:Nat→Prop}{V lv:V_}{E:LD_}{ae:LI_}(h:NL w bZ K V lv E ae):(∀ b,V.ownBlock=some b→bZ≤b∧b<w.heap.size)∧(∀ b,lv.ownBlock=some b→bZ≤b∧b<w.heap.size):=by
 obtain⟨⟨aF,h1,_⟩,h4,_⟩:=h;exact⟨h1.lt,h4.lt⟩
theorem NRf.tidy {w w':Z}{B:Nat}{v:V_}{E:LD_}(h:NRf w B v E)(hc:j8 w w'):NRf w' B v E:=by
 obtain⟨aF,h1,h2,h4,h3⟩:=h;exact⟨aF,⟨h1.1.tidy hc,h1.2⟩,h2,h4,fun i hi d=>⟨(h3 i hi d).1,⟨(h3 i hi d).2.1.1.tidy hc,(h3 i hi d).2.1.2⟩,(h3 i hi d).2.2⟩⟩
def RI (L T bZ D:Nat)(n0:Int)(aN:V_)(E:LD_)(ae:LI_)(W0:Z)(aj:LN_)(U:Z):Prop :=
 ∃ V lv,et U L T lv V n0∧NL U bZ (fun k=>bZ≤k∧k≠D∧k≠D+1) V lv (aj.foldl (dO (aV E ae) ae) (E,[])).1 (aj.foldl (dO (aV E ae) ae) (E,[])).2 ∧
  (V.ownBlock=aN.ownBlock∨∀ b,V.ownBlock=some b→D+2≤b)∧(∀ b,lv.ownBlock=some b→D+2≤b)∧Chg (fun k=>k=L∨k=T∨aN.ownBlock=some k∨D≤k) W0 U
theorem RI.chg {L T bZ D:Nat}{n0:Int}{aN:V_}{E:LD_}{ae:LI_}{W0 U U':Z}{aj:LN_}(h:RI L T bZ D n0 aN E ae W0 aj U)(hc:Chg (fun k=>k=D∨k=D+1) U U')(hL:L<D)(hT:T<D)(hn:∀ b,aN.ownBlock=some b→b<D):RI L T bZ D n0 aN E ae W0 aj U':=by
 obtain⟨V,lv,h1,h2,h3,h4,h5⟩:=h;refine⟨V,lv,h1.chg hc Y Y,h2.chg hc (fun k hk _=>?_),h3,h4,h5.trans (hc.mono fun k hk=>by omega)⟩;rcases hk with hk|hk|hk
 ·omega
 ·rcases h3 with h3|h3
  ·rw[h3]at hk;have:=hn k hk;omega
  ·have:=h3 k hk;omega
 ·have:=h4 k hk;omega
theorem RI.fin {L T bZ D:Nat}{n0:Int}{aN V lv a ao:V_}{E:LD_}{ae:LI_}{W0 U W':Z}{aj:LN_}{g:Nat×Nat}{S':LD_×LI_}(bc:∀ b,aN.ownBlock=some b→b<D)(bB:V.ownBlock=aN.ownBlock∨∀ b,V.ownBlock=some b→D+2≤b)(bj:∀ b,lv.ownBlock=some b→D+2≤b)(bK:Chg (fun k=>k=L∨k=T∨aN.ownBlock=some k∨D≤k) W0 U)(a6:D+2≤U.heap.size)(a3:et W' L T ao a n0)(aQ:NL W' bZ (fun k=>bZ≤k∧k≠D∧k≠D+1) a ao S'.1 S'.2)(hS:(aj++[g]).foldl (dO (aV E ae) ae) (E,[])=S')(c:V.ownBlock=a.ownBlock∨∀ b,a.ownBlock=some b→U.heap.size≤b)(d:lv.ownBlock=ao.ownBlock∨∀ b,ao.ownBlock=some b→U.heap.size≤b)(hc:Chg (fun k=>k=L∨k=T∨lv.ownBlock=some k∨V.ownBlock=some k) U W')(hL:L<D)(hT:T<D):Chg (fun k=>¬((k<D∧k≠L∧k≠T∧aN.ownBlock≠some k)∨k=D∨k=D+1)) U W'∧RI L T bZ D n0 aN E ae W0 (aj++[g]) W':=by
 have e:∀ k,V.ownBlock=some k→aN.ownBlock=some k∧k<D∨D+2≤k:=fun k hk=>by
  rcases bB with h|h
  ·rw[h]at hk;exact .inl ⟨hk,bc k hk⟩
  ·exact .inr (h k hk)
 refine⟨hc.mono fun k hk hn=>?_,a,ao,a3,by rw[hS];exact aQ,?_,?_,bK.trans (hc.mono fun k hk=>?_)⟩
 ·rcases hk with h|h|h|h
  ·rcases hn with hn|hn|hn
   ·exact hn.2.1 h
   ·omega
   ·omega
  ·rcases hn with hn|hn|hn
   ·exact hn.2.2.1 h
   ·omega
   ·omega
  ·have:=bj k h;omega
  ·rcases e k h with ⟨h2,h3⟩|h2
   ·rcases hn with hn|hn|hn
    ·exact hn.2.2.2 h2
    ·omega
    ·omega
   ·omega
 ·rcases c with h|h
  ·rw[←h];exact bB
  ·exact .inr fun b hb=>Jc a6 (h b hb)
 ·rcases d with h|h
  ·rw[←h];exact bj
  ·exact fun b hb=>Jc a6 (h b hb)
 ·rcases hk with h|h|h|h
  ·exact .inl h
  ·exact .inr (.inl h)
  ·have:=bj k h;exact .inr (.inr (.inr Y))
  ·rcases e k h with ⟨h2,h3⟩|h2
   ·exact .inr (.inr (.inl h2))
   ·exact .inr (.inr (.inr Y))
theorem Fi {L T bZ g ah:Nat}{K:Nat→Prop}{n0 x:Int}{V lv:V_}{E:LD_}{ae:LI_}{U w' w3:Z}(a3:et U L T lv V n0)(aQ:NL U bZ K V lv E ae)(hB:Bw_ U w')(hc:Chg (fun k=>lv.ownBlock=some k) w' w3)(hg:lv.ownBlock=some g∨w'.heap.size≤g)(ho:eY.Own w3 bZ (.slice (some ⟨g,0,none⟩) (ae.length+1) ah) (ae++[x]))(c:L≠T)(hL:L<bZ)(hT:T<bZ)(f:¬K L):et (w3.setCell ⟨L,0,none⟩ (.slice (some ⟨g,0,none⟩) (ae.length+1) ah)) L T (.slice (some ⟨g,0,none⟩) (ae.length+1) ah) V n0∧NL (w3.setCell ⟨L,0,none⟩ (.slice (some ⟨g,0,none⟩) (ae.length+1) ah)) bZ K V (.slice (some ⟨g,0,none⟩) (ae.length+1) ah) E (ae++[x]) ∧(lv.ownBlock=(Value.slice (some ⟨g,0,none⟩) (ae.length+1) ah).ownBlock∨∀ b,(Value.slice (some ⟨g,0,none⟩) (ae.length+1) ah).ownBlock=some b→U.heap.size≤b) ∧Chg (fun k=>k=L∨k=T∨lv.ownBlock=some k∨V.ownBlock=some k) U (w3.setCell ⟨L,0,none⟩ (.slice (some ⟨g,0,none⟩) (ae.length+1) ah)):=by
 have a8:=aQ.blk.2;have a5:Chg (fun k=>lv.ownBlock=some k) U w3:=(IG hB).trans hc;have h1:=(aQ.below hB).level (q:=ae++[x]) hc hg (by rw[Jh];exact ho);rw[Jh]at h1;have h2:=h1.chg (Chg.setCell (X:=fun k=>k=L) w3 ⟨L,0,none⟩ (.slice (some ⟨g,0,none⟩) (ae.length+1) ah) rfl) (h1.avoid (hK:=f) hL);refine⟨I0 (a3.chg a5 (fun e=>by have:=(a8 _ e).1;omega) (fun e=>by have:=(a8 _ e).1;omega)) c,h2,?_,(a5.mono fun k hk=>.inr (.inr (.inl hk))).trans (Chg.setCell _ _ _ (.inl rfl))⟩;rcases hg with h|h
 ·exact .inl h
 ·refine .inr fun b hb=>?_
  have e:g=b:=by simpa[Value.ownBlock] using hb
  have:=hB.size;omega
theorem rX {a4:LL_}{ae:LI_}{x:LD_×LI_}{f t:Nat}(h:t-f=1)(hf:f<ae.length):(x.1,x.2++[ae[f]])=dO a4 ae x (f,t):=by
 unfold dO;rw[if_pos h];simp[List.getD,hf]
theorem pK {a4:LL_}{ae:LI_}{x:LD_×LI_}{f t:Nat}(h:¬t-f=1):(x.1++[(gI ((a4.drop f).take (t-f)),(ae.drop f).take (t-f))],x.2++[(x.1.length:Int)])=dO a4 ae x (f,t):=by
 unfold dO;rw[if_neg h]
theorem xx (v:V_)(l:LL_)(w:Z)(hr:aP.Row w v l)(ab:∀ b,v.ownBlock=some b→b<w.heap.size)(hl:l.length≤140737488355328)(hm:∀ s∈l,s.length≤140737488355328):C_ 50 #[v] w fun e w'=>xj w' w.heap.size l e∧Bw_ w w':=by
 have cY:=O (fun w' (hB:Bw_ w w')=>uo v l w' (hr.below hB) hl hm);obtain⟨a,ah,rfl,_⟩:=hr.2;have HR:=O hr;have cd:=O ab;clear hr ab hm;refine dA func50 rfl ?_;simp only[ntmps50,List.size_toArray,Jq,JI,Nat.reduceAdd,Nat.reduceSub,Array.replicate_succ,Array.replicate_zero,List.push_toArray,List.append_toArray,JC,Jk]
 cases hq:de l with
 | false =>
  have HQ:=O hq;rw[hq]at cY;clear hq;go_wp2_with fail;refine(cY.o _ (bt (af _ _) (af _ _))).mono ?_;rintro e w1⟨rfl,rfl⟩;go_wp2_with fail;refine nL (B:=w.heap.size) (show fX w.heap.size _ [] from True.intro) ?_;intro w' ht cy;obtain⟨k1,k2,k3⟩:=jD w (.cells #[.slice a l.length ah] 22) (.cells #[e_,F 0] 68);refine⟨_,jK rfl rfl (ls (ht.at k2)),Al (by rw[HQ.o];simp),k3.trans cy⟩
 | true =>
  have HQ:=O hq;rw[hq]at cY;clear hq
  by_cases h4:l.length≤4096
  ·have fP:¬4096<(l.length:Int):=Y
   go_wp2_with fail;refine(cY.o _ (bt (af _ _) (af _ _))).mono ?_;rintro e w1⟨rfl,rfl⟩;go_wp2_with fail;obtain⟨T,hT⟩:=H (w.heap.size+1);obtain⟨L,hL⟩:=H (T+1);obtain⟨P,hP⟩:=H (L+1);obtain⟨FV,dQ⟩:=H (Value.func (.func 79) #[] #[p_ L,p_ T]);rw[←hT,←hL,←hP];obtain⟨W1,aA⟩:=H (((((w.alloc (.cells #[.slice a l.length ah] 22)).alloc (.cells #[e_,F l.length] 68)).alloc (.cells #[e_] 92)).alloc (.cells #[.func (.func 79) #[] #[p_ L,p_ T]] 145)));rw[←aA];have dV:=Ea w (.cells #[.slice a l.length ah] 22) (.cells #[e_,F l.length] 68) (.cells #[e_] 92) (.cells #[.func (.func 79) #[] #[p_ L,p_ T]] 145);rw[←aA]at dV;obtain⟨k1,k2,k3,k4,bp,a8⟩:=dV;rw[←hT]at k2 k3 k4;rw[←hL]at k3 k4;rw[←hP]at k4
   have dB:Sit w.heap.size T L P (w.heap.size+4) FV (l.length:Int) W1 (.slice a l.length ah) (e_) (e_) l (bQ (l.take 0)) (bV 0):=by
    refine⟨k1,by rw[dQ];exact k4,⟨k3,k2⟩,⟨⟨[],Rec.Own.nil _ _,rfl,fun i h=>absurd h i_⟩,Rec.Own.nil _ _,fun b h=>by simp[Value.ownBlock]at h⟩,HR.o.below a8,fun b hb=>?_⟩;have:=cd.o b hb;exact⟨by omega,by omega,by omega,by omega,by omega,by simp[Value.ownBlock],by simp[Value.ownBlock]⟩
   clear k1 k2 k3 k4;obtain⟨b0,a_,HS,HT,HL,HP⟩:=zH6 dB a8 bp hT hL hP;clear aA dB a8 bp hT hL hP
   go_loopw [26] (fun t wr=>∃ k:Nat,∃ V lv,t=F k∧k≤l.length∧Hid (Sit w.heap.size T L P (w.heap.size+4) FV (l.length:Int) wr (.slice a l.length ah) V lv l (bQ (l.take k)) (bV k))∧Hid (Bw_ w wr)) (fun t _=>l.length-(intOf t).toNat)
   case atStart=>exact⟨0,_,_,rfl,Jl _,b0,a_⟩
   case round =>
    obtain⟨k,V,lv,rfl,hk,r,HB⟩:=hrel
    by_cases h0:k<l.length
    ·obtain⟨a',aK,a2,_,hc⟩:=au r.o.ri
     injection a2 with e1 _ e3
     subst e1 e3;obtain⟨b,aL,rfl,c1⟩:=hc k h0;obtain⟨_,c2,_⟩:=r.o.cells;rw[dQ]at c2;have k0:=nn_ k;have k1:(k:Int)<l.length:=Y;clear hc;go_wp2_with fail;refine(zP (fun k=>w.heap.size+4≤k) l[k] none 0 0 [] L T (w.heap.size+4) (l.length:Int) (bQ (l.take k)) (bV k) V lv wr r.o.bx yzr yzv (by have:=HT.o;omega) yzv (by have:=HT.o;omega) r.o.nl (Rec.Row.nil _) (fun b hb=>by simp[Value.ownBlock]at hb) (by simp[bQ];omega) (by rw[cZ];omega) ?_).mono ?_
     ·have h1:=(Array.getElem?_eq_some_iff.1 r.o.bp).1
      have:=HT.o;have:=HL.o;have:=HP.o;omega
     rintro e w2⟨⟨v2,rfl⟩,dp,dq,a3,aQ,bB,bj,bK⟩;have bz:(bQ (l.take k)).length=k:=by rw[jU,JH];omega
     rw[bz,←oE,←oQ h0]at aQ;have ar:=r.o.put (by have:=HT.o;have:=HL.o;have:=HP.o;omega) a3 aQ bB bj bK
     have aY:Bw_ w w2:=HB.o.trans (bK.below (fun j hj=>by
      rcases hj with e|e|e|e
      ·have:=HT.o;have:=HL.o;omega
      ·have:=HT.o;omega
      ·have:=(r.o.nl.lev.lt j e).1;omega
      ·obtain⟨aF,r1,_⟩:=r.o.nl.raw;have:=(r1.lt j e).1;omega) HB.o.size)
     have bA:=O ar;have a9:=O aY;clear a3 aQ bB bj bK bz ar aY c1 c2;go_wp2;exact⟨⟨k+1,dp,dq,by go_num,by omega,bA,a9⟩,by simp[intOf];omega⟩
    ·obtain rfl:k=l.length:=Y
     have bn:=r.o;rw[List.take_length]at bn;have cD:=O bn;clear bn;go_wp2;refine wp_loop (fun a' wr=>∃ x6 x7 x8 x9 dW dX dY dZ d' d_ ea eb ec ed ee ef eg eh ei ej ek em en eo ep eq er es et eu ev ex ey ez eA eB eC eD eE eF eG eH eI eJ eK eL eM eN eO eP eQ eR eS eT eU eV eW eX eZ e0 e6 e7 e8 e9 e' fa fb fc fd fe ff fg fh fi fj fk fl fm fo fp fq fr:V_,∃ ds:List Deferred,(∃ (m:Nat) (iv V lv:V_) (E:LD_) (ae:LI_),Hid (Sit w.heap.size T L P (w.heap.size+4) FV (l.length:Int) wr iv V lv (aV E ae) E ae)∧Hid (Bw_ w wr)∧Hid (fX w.heap.size wr ds)∧Hid (OkL E ae)∧Hid (it m E ae=aJ l)∧Hid (ae.length≤m)∧Hid (E.length+ae.length≤2*l.length))∧a'={ tmps:=(List.toArray (.slice a l.length ah::.pointer (some ⟨w.heap.size,0,none⟩)::.pointer (some ⟨T,0,none⟩)::F 0::.pointer (some ⟨L,0,none⟩)::.pointer (some ⟨P,0,none⟩)::x6::x7::x8::x9::dW::dX::dY::dZ::d'::d_::ea::eb::ec::ed::ee::ef::eg::eh::ei::ej::ek::em::en::eo::ep::eq::er::es::et::eu::ev::ex::ey::ez::eA::eB::eC::eD::eE::eF::eG::eH::eI::eJ::eK::eL::eM::eN::eO::eP::eQ::eR::eS::eT::eU::eV::eW::eX::eZ::e0::e6::e7::e8::e9::e'::fa::fb::fc::fd::fe::ff::fg::fh::fi::fj::fk::fl::fm::fo::fp::fq::fr::[])),defers:=ds }) (fun _ wr=>GC (wr.cell? ⟨L,0,none⟩)) ?_ ?_
     ·(repeat apply Exists.intro)
      refine⟨?_,rfl⟩;exact⟨l.length,_,_,_,bQ l,bV l.length,by rw[wG];exact cD,HB,trivial,OkL.start l HQ.o,rfl,by unfold Hid;rw[cZ];exact I6 _,by unfold Hid;rw[cZ,jU];omega⟩
     ·intro _ wr J
      (obtain⟨x6,x7,x8,x9,dW,dX,dY,dZ,d',d_,ea,eb,ec,ed,J⟩:=J;obtain⟨ee,ef,eg,eh,ei,ej,ek,em,en,eo,ep,eq,er,es,J⟩:=J;obtain⟨et,eu,ev,ex,ey,ez,eA,eB,eC,eD,eE,eF,eG,eH,J⟩:=J;obtain⟨eI,eJ,eK,eL,eM,eN,eO,eP,eQ,eR,eS,eT,eU,eV,J⟩:=J;obtain⟨eW,eX,eZ,e0,e6,e7,e8,e9,e',fa,fb,fc,fd,fe,J⟩:=J;obtain⟨ff,fg,fh,fi,fj,fk,fl,fm,fo,fp,fq,fr,J⟩:=J)
      obtain⟨ds,J⟩:=J;obtain⟨hrel,ha⟩:=J;subst ha;obtain⟨m,iv,V,lv,E,ae,r,HB,HM,br,cb,dv,bk⟩:=hrel;obtain⟨an,cn,al,cl,rfl,rfl⟩:=r.o.nl.slice;obtain⟨ai,ci,rfl,_,_⟩:=au r.o.ri;obtain⟨c1,c2,f1⟩:=r.o.cells;obtain⟨d1,d2,d3,g1,g2,g3⟩:=r.o.bx.cells
      by_cases hn:1<ae.length
      ·have bL:1<(ae.length:Int):=Y
       have HN:=O hn;clear hn;have bC:=af wr (.cells #[.slice al ae.length cl] 92);have e1:=IF bC d1;have e2:(wr.alloc (.cells #[.slice al ae.length cl] 92)).frozen? ⟨L,0,none⟩=false:=(bC.frozen (p:=⟨L,0,none⟩) (aG d1)).trans g1;have aR:Chg (fun k=>k=L) (wr.alloc (.cells #[.slice al ae.length cl] 92)) ((wr.alloc (.cells #[.slice al ae.length cl] 92)).setCell ⟨L,0,none⟩ (e_)):=Chg.setCell _ _ _ rfl;have e3:=aR.cell (IF bC c1) (by have:=HT.o;have:=HL.o;show ¬w.heap.size=L;omega);go_wp2_with fail;obtain⟨Wa,bG⟩:=H (((wr.alloc (.cells #[.slice al ae.length cl] 92)).setCell ⟨L,0,none⟩ (e_)));rw[←bG]at e3 aR⊢;have c0:Wa.heap.size=wr.heap.size+1:=by rw[bG,li];simp
       have fQ:L≠wr.heap.size:=by have:=aG d1;intro e;rw[e]at this;exact Nat.lt_irrefl _ this
       have fs:Wa.heap[wr.heap.size]?=some (.cells #[.slice al ae.length cl] 92 (0,0)):=by rw[bG];exact(Below.heap_setCell _ _ _ _ (Ne.symm fQ)).trans (World.alloc_heap_new wr _)
       have c8:=I0 (u:=e_) (r.o.bx.chg (X:=fun _=>False) (IG bC) (fun h=>h) (fun h=>h)) yzr;rw[←bG]at c8;have cu:Chg (fun k=>k=L) wr Wa:=(IG bC).trans aR;refine(wN (.slice ai (aV E ae).length ci) Wa rfl).mono ?_;rintro e W0⟨rfl,a1⟩;have bn:W0.heap.size=wr.heap.size+2:=by rw[a1];simp[c0]
       have ft:W0.heap[Wa.heap.size]?=some (.cells #[.slice ai (aV E ae).length ci] 22 (0,0)):=by rw[a1];exact World.alloc_heap_new Wa _
       have cU:Bw_ Wa W0:=by rw[a1];exact af Wa _
       rw[c0]at ft;have fT:=O c0;have bw:Chg (fun k=>k=L) wr W0:=cu.trans (IG cU);have fu:=(IG (X:=fun _=>False) cU).at fs (fun h=>h);have dC:=c8.chg (X:=fun _=>False) (IG cU) (fun h=>h) (fun h=>h);have dD:=(r.o.nl.chg bw (r.o.nl.avoid (hK:=by have:=HT.o;have:=HL.o;omega) yzv)).cut;rw[c0];clear e1 e2 e3 aR fs c8 cu a1 cU bG c0 bC;go_wp2;have ax:=r.o.nl.blk;have fU:w.heap.size<T∧T<L∧L<P∧P<wr.heap.size∧P<w.heap.size+4:=by have:=HT.o;have:=HL.o;have:=HP.o;have:=(Array.getElem?_eq_some_iff.1 r.o.bp).1;omega
       have dE:=(r.o.nl.lev.row.chg bw (fun b hb=>by have:=(ax.2 b hb).1;have:=HT.o;have:=HL.o;omega))
       have bM:=r.o.ri.chg bw (fun b hb=>by obtain⟨_,_,_,k3,_⟩:=r.o.ap b hb;exact k3);have dw:=bw.at r.o.bi Y;have fv:=bw.at r.o.bp Y;obtain⟨fw,cM,fx,cJ,fy,cG,dF⟩:=zH7 dE bM dw fv fu bw dC;clear dE bM dw fv fu bw;have ct:=dy E ae
       refine uF (D:=wr.heap.size+2) bn (gf:=114) (lb:=#[.pointer (some ⟨wr.heap.size+1,0,none⟩)]) rfl (enters_of func114 q_ rfl)
        (X:=fun _=>False) (aa:=fun k=>k<wr.heap.size+2∧k≠L∧k≠T∧(Value.slice an E.length cn).ownBlock≠some k) (El:=Co) (ag:=cE (aV E ae)) (fun k hk=>hk.elim) (fun k hk=>hk.1)
        (fun W hW=>rH 2 (wr.heap.size+1) (aV E ae) _ _ W ((hW.block _ Y).trans ft) (cM.o.below (hW.mono Y))
         (fun b hb=>by obtain⟨k0,_,k2,k3,_,k5,_⟩:=r.o.ap b hb;exact⟨by omega,k3,k2,k5⟩) ⟨by omega,by omega,by omega,fun e=>by have:=(ax.1 _ e).2;omega⟩ (by rw[ct];have:=bk.o;omega) br.o.all)
        (fun x vs U h=>by rw[show vs=_ from h];rfl) (fun x vs U U' h hc=>h)
        (RI L T (w.heap.size+4) (wr.heap.size+2) (l.length:Int) (.slice an E.length cn) E ae W0) (fun _ _ _=>False)
        (fun aj U U' h hc=>h.chg (hc.mono fun k hk=>by simpa using hk) Y Y (fun b hb=>by have:=(ax.1 b hb).2;omega)) (fun _ _ _ _ h _=>h.elim)
        ⟨_,_,dC,dD.mono (fun k hk h=>⟨h,by omega,by omega⟩),.inl rfl,fun b h=>by simp[Value.ownBlock]at h,Chg.refl _ _⟩ ?round ?done ?stop
       case round =>
        rintro yl aj⟨f,t⟩ vs U a6 fR dR ao;obtain rfl:vs=_:=dR;obtain⟨b9,cr,cN⟩:=wO br.o ao;clear fR ao;gi_wp2;refine⟨af U _,?_⟩;rintro U2 h2⟨dp,dq,a3,aQ,bB,bj,bK⟩ _ aZ;have c5:=aZ.at (World.alloc_heap_new U _) Y;have c6:U2.cell? ⟨U.heap.size,0,none⟩=some (F f):=by simp[World.cell?,c5]
        have c7:U2.cell? ⟨U.heap.size,1,none⟩=some (F t):=by simp[World.cell?,c5]
        obtain⟨X,hX⟩:=H (aj.foldl (dO (aV E ae) ae) (E,[]));rw[←hX]at aQ cN;have cq:∀ aa,aa=dO (aV E ae) ae X (f,t)→(aj++[(f,t)]).foldl (dO (aV E ae) ae) (E,[])=aa:=fun aa hY=>by rw[List.foldl_append,←hX,hY];rfl
        obtain⟨dk,c_,cF,cl2,rfl,rfl⟩:=aQ.slice
        have N:∀ k,k<wr.heap.size+2→k≠L→k≠T→(Value.slice an E.length cn).ownBlock≠some k→¬(k=L∨k=T∨(Value.slice an E.length cn).ownBlock=some k∨wr.heap.size+2≤k):=fun k h1 h2 h3 h4 h=>by
         rcases h with h|h|h|h
         ·exact h2 h
         ·exact h3 h
         ·exact h4 h
         ·omega
        have cR:=bK.at fy.o (N _ Y Y Y (fun e=>by have:=(ax.1 _ e).2;omega));have bl:=fw.o.chg bK (fun b hb=>N b (by have:=(ax.2 b hb).2;omega) (by have:=(ax.2 b hb).1;have:=HT.o;have:=HL.o;omega) (by have:=(ax.2 b hb).1;have:=HT.o;omega) (fun e=>r.o.nl.ap b e hb));have bN:=O a3;obtain⟨cx,fz,bv,cc,b7,bm,ce,bi,HX⟩:=zH9 aQ bB bj bK cN bl cq N hX;have cS:=cell_of_one cR;obtain⟨b1,b2,b3,b4,b5,b6⟩:=a3.cells;clear a3 aQ bB bj bK cN bl cq N cR aZ c5 hX;have i0:(f:Int)<t:=Y;have i1:(t:Int)≤1000000:=by have:=bk.o;omega
        have i2:=nn_ f
        by_cases h1:t-f=1
        ·have q1:((t:Int)-(f:Int)==1)=true:=by rw[beq_iff_eq];omega
         have bS:f<ae.length:=Y;obtain⟨_,_,a2,_,bx⟩:=gX bm.o;injection a2 with e1 _ e3
         subst e1 e3;obtain⟨b,aL,rfl,cf⟩:=bx f bS;clear bx;have j0:=nn_ f;have j1:(f:Int)<ae.length:=Y;gi_wp2;refine kx 7 [(0,.exact _ (.slice cF X.2.length cl2)),(1,.exact _ (.slice (some ⟨b,aL,none⟩) ae.length cl)),(3,.exact _ (F f)),(5,.exact _ (F ae[f])),(6,dc 1 [F ae[f]])] q_ q_ q_ ?_;simp only[Jw,JE,Ju,JF];refine gl_ b1 ?_;refine gl_ cS ?_;refine gl_ c6 ?_;refine gl_ cf ?_;refine gk_ (dc 1 [F ae[f]]) (fun w' G hB hS hG=>?_) (fun x K hK=>?_)
         ·go_simp;exact ew hG rfl
         obtain⟨ad,c⟩:=x;refine cO ?_;clear hK K;refine pz ?_;intro w' hB hA;have b8:=mn hA;have cm:=O (show aO w' (.slice ad 1 c) 1 (eY.cell ae[f]) from b8);have bW:=O hB;clear hB hA b8;have aB:w.heap.size+4≤U2.heap.size:=Y;refine eY.append1RIn w' ae[f] rfl _ _ 92 rfl underlying92 (w.heap.size+4) _ X.2 (cx.o.lev.below bW.o) rfl _ rfl cm.o (byI (by have:=b7.o.len;have:=b7.o.sum;have:=b7.o.ge;have:=bk.o;omega)) (Jc aB bW.o.size) ?_;intro g cp w3 M aI A;have cH:=Fi bN.o cx.o bW.o aI A M Y Y Y Y;have fA:=O cH;have aX:=bN.o.chg ((IG bW.o).trans aI) (fun e=>by have:=bv.o _ e;omega) (fun e=>by have:=bv.o _ e;omega);obtain⟨_,_,_,f3,_,_⟩:=aX.cells;have c3:=aX.cells.1;clear M aI A cH aX;gi_wp2;obtain⟨p1,p2,p3,p4⟩:=fA.o;exact RI.fin (S':=(X.1,X.2++[ae[f]])) (fun b hb=>by have:=(ax.1 b hb).2;omega) fz.o bv.o cc.o h2 p1 p2 (ce.o _ (rX h1 bS)) (.inl rfl) p3 p4 Y Y
        ·have q1:((t:Int)-(f:Int)==1)=false:=by rw[beq_eq_false_iff_ne];omega
         have q2:¬((t:Int)-(f:Int)=1):=Y;have cw:=cc.o.at fx.o (bi.o _ Y Y Y (fun e=>by have:=(ax.1 _ e).1;omega));have cV:=cc.o.at cJ.o (bi.o _ Y Y Y (fun e=>by have:=(ax.1 _ e).1;omega));have cL:=cM.o.chg cc.o (fun b hb=>by obtain⟨k0,_,k2,k3,_,k5,_⟩:=r.o.ap b hb;exact bi.o b Y k3 k2 k5);rw[dQ]at cV;have cI:=cell_of_one cw;have cP:=cell_of_one cV;obtain⟨a4,bM⟩:=H (aV E ae);rw[←bM]at cL cI ct;obtain⟨A1,C1,b_,bX⟩:=Rec.Row.subRun cL 22 underlying22 yzg f t Y Y;obtain⟨A2,C2,bh,bY⟩:=Rec.Row.subRun bm.o 92 underlying92 yzg f t Y Y;have be:((a4.drop f).take (t-f)).length=t-f:=by simp;omega
         have a0:((ae.drop f).take (t-f)).length=t-f:=by simp;omega
         have cz:∀ s∈(a4.drop f).take (t-f),s.length≤32:=fun s hs=>by
          have h1:=List.mem_of_mem_drop (List.mem_of_mem_take hs);rw[bM]at h1;have:=List.all_eq_true.1 br.o.all s h1;have:s.length=32:=by simpa[kO] using this
          omega
         obtain⟨S1,dl⟩:=H ((a4.drop f).take (t-f));obtain⟨S2,cR⟩:=H ((ae.drop f).take (t-f));rw[←dl]at bX be cz;rw[←cR]at bY a0;rw[←be]at b_ bX;rw[←a0]at bh bY;obtain⟨bH,bD,dr,dh,di,fB,fC,fD,dS⟩:=zH9 be a0 cz bX bY dl cR ct bM;clear be a0 cz bX bY dl cR cw cV cL ct bM;gi_wp2;refine kx 15 [(0,.exact _ (.func (.func 79) #[] #[p_ L,p_ T])),(1,.exact _ (.slice ai a4.length ci)),(3,.exact _ (F f)),(5,.exact _ (F t)),(7,.exact _ (s_ (gI S1))),(8,.exact _ (.slice al ae.length cl)),(10,.exact _ (F f)),(12,.exact _ (F t)),(14,DX eY U2.heap.size S2)] q_ q_ q_ ?_;simp only[Jw,JE,Ju,JF];refine gl_ cP ?_;refine gl_ cI ?_;refine gl_ c6 ?_;refine gl_ c7 ?_;refine gj_ (fun w' G hB hS hG=>?_) ?_
         ·go_simp
          exact aT hG (DZ _ S1 w' (dh.o.below hB) (by have:=bH.o;have:=bk.o;omega) dr.o)
         refine gl_ cS ?_;refine gl_ c6 ?_;refine gl_ c7 ?_;refine gk_ (DX eY U2.heap.size S2) (fun w' G hB hS hG=>?_) (fun x K hK=>?_)
         ·go_simp
          refine(zF _ S2 w' (di.o.below hB) (by have:=bD.o;have:=bk.o;omega)).mono ?_;rintro e bc⟨v',rfl,aw,fE⟩;obtain⟨a5,c5,rfl⟩:=ay aw;exact⟨_,rfl,hG (a5,c5) bc fE (fun φ h=>by cases h;exact aw.mono hB.size)⟩
         obtain⟨ad,c⟩:=x;refine cO ?_;clear hK K;refine pz ?_;intro w' hB hA;have hk:=mn hA;have bF:=O (show eY.Own w' U2.heap.size (.slice ad S2.length c) S2 from hk);have bW:=O hB;clear hB hA hk;gi_wp2;have aB:w.heap.size+4≤w'.heap.size:=by have:=bW.o.size;omega
         refine⟨trivial,CallsIn.inRound _ (callsIn_wide.2 ((zP (fun k=>w.heap.size+4≤k∧k≠wr.heap.size+2∧k≠wr.heap.size+2+1) (gI S1) ad S2.length c S2 L T (w.heap.size+4) (l.length:Int) X.1 X.2 _ _ w' (bN.o.chg (X:=fun _=>False) (IG bW.o) (fun h=>h) (fun h=>h)) Y Y Y Y Y (cx.o.below bW.o) bF.o.row ?_ (by have:=b7.o.sum;have:=b7.o.ge;have:=bk.o;omega) (by have:=b7.o.sum;have:=b7.o.ge;have:=bk.o;omega) aB).mono ?_))⟩
         ·intro b hb
          have a8:=bF.o.lt b hb;have aY:=cx.o.blk;refine⟨⟨by omega,by omega,by omega⟩,a8.2,fun e=>?_,fun e=>?_⟩
          ·have:=(aY.1 b e).2;omega
          ·have:=(aY.2 b e).2;omega
         rintro e w5⟨⟨v5,rfl⟩,fV,fF,dG,dH,dI,dK,bE⟩;obtain⟨fG,fH,fJ,fK,bP⟩:=zH5 dG dH dI dK bE;clear dG dH dI dK bE;gi_wp2;refine RI.fin (S':=(X.1++[(gI S1,S2)],X.2++[(X.1.length:Int)])) (fun b hb=>by have:=(ax.1 b hb).2;omega) fz.o bv.o cc.o h2 fG.o fH.o (ce.o _ (by rw[fB.o,fC.o,dS.o];exact pK h1)) ?_ ?_ ((IG bW.o).trans bP.o) Y Y
         ·rcases fJ.o with h|h
          ·exact .inl h
          ·exact .inr fun b hb=>Jc bW.o.size (h b hb)
         ·rcases fK.o with h|h
          ·exact .inl h
          ·exact .inr fun b hb=>Jc bW.o.size (h b hb)
       case done =>
        rintro W h2⟨dp,dq,a3,aQ,bB,bj,bK⟩ hK;have fD:=O ct;clear ct;obtain⟨X,hX⟩:=H (lvl E ae);have bb:=yJ br.o;have ca:=qy br.o HN.o;have ch:=sz HN.o dv.o (E:=E);rw[cb.o]at ch
        change NL W (w.heap.size+4) _ dp dq (lvl E ae).1 (lvl E ae).2 at aQ
        rw[←hX]at aQ bb ca ch;obtain⟨dk,c_,cF,cl2,rfl,rfl⟩:=aQ.slice
        have N:∀ k,k<wr.heap.size+2→k≠L→k≠T→(Value.slice an E.length cn).ownBlock≠some k→¬(k=L∨k=T∨(Value.slice an E.length cn).ownBlock=some k∨wr.heap.size+2≤k):=fun k h1 h2 h3 h4 h=>by
         rcases h with h|h|h|h
         ·exact h2 h
         ·exact h3 h
         ·exact h4 h
         ·omega
        have cw:=bK.at fx.o (N _ Y Y Y (fun e=>by have:=(ax.1 _ e).1;omega));have cV:=bK.at cJ.o (N _ Y Y Y (fun e=>by have:=(ax.1 _ e).1;omega))
        have fL:Bw_ w W:=(HB.o.trans (cG.o.below (fun k hk=>by omega) HB.o.size)).trans (bK.below (fun k hk=>by
         rcases hk with h|h|h|h
         ·omega
         ·omega
         ·have:=(ax.1 _ h).1;omega
         ·have:=HB.o.size;omega) (Jc HB.o.size cG.o.size))
        have da:=HM.o.chg cG.o (fun D hD e=>by rw[e]at hD;rw[r.o.bx.1]at hD;cases hD)
        have bJ:fX w.heap.size W ({ target:=.collected (wr.heap.size+2),args:=#[] }::ds):=by
         refine fX.cons (da.chg bK (fun D hD=>?_)) (by have:=HB.o.size;omega) hK (fun d hd e=>?_)
         ·have aC:=(Array.getElem?_eq_some_iff.1 hD).1
          refine N D Y (fun e=>?_) (fun e=>?_) (fun e=>?_)
          ·rw[e,dF.o.1]at hD;cases hD
          ·rw[e,dF.o.2]at hD;cases hD
          ·obtain⟨aF,r1,_⟩:=dD.raw
           rcases r1.2 with ⟨hv,_⟩|⟨g,ah,aH,hv,_,hh,_⟩
           ·rw[hv]at e;simp[Value.ownBlock]at e
           ·rw[hv]at e
            have e2:g=D:=by simpa[Value.ownBlock] using e
            rw[←e2,hh]at hD
            cases hD
         ·obtain⟨D',h1,h3⟩:=da.lt d hd
          have aC:=(Array.getElem?_eq_some_iff.1 h3).1;rw[h1]at e;have e2:D'=wr.heap.size+2:=by injection e
          omega
        have cI:=cell_of_one cw;have fI:=free_of_one cw;obtain⟨b1,b2,b3,_⟩:=a3.cells;have cW:Chg (fun k=>k=w.heap.size) W (W.setCell ⟨w.heap.size,0,none⟩ (e_)):=Chg.setCell _ _ _ rfl;have e1:=cW.cell b1 (by show ¬L=w.heap.size;omega);have bN:=O a3;obtain⟨cx,cX,I,a7,dU,HX,bg,cA,bv⟩:=zH9 aQ cw cV fL bJ hX bb ca ch;clear a3 aQ bB bj bK hK hX bb ca ch N cw cV fL da bJ;go_wp2;obtain⟨W1,aA⟩:=H (W.setCell ⟨w.heap.size,0,none⟩ (e_));rw[←aA]at cW e1⊢;have dx:W1.heap[w.heap.size]?=some (.cells #[e_] 22 (0,0)):=by rw[aA];exact one_setCell cX.o
        have db:=O aA;have bO:=O cW;have fM:W1.heap.size=W.heap.size:=by rw[aA,li]
        have dz:=O fM;have dd:=cx.o.chg cW (cx.o.avoid (hK:=by omega) Y);have dL:=bN.o.chg cW Y Y;have df:=O dd;have bf:=O dL;have bo:=dd.blk;clear aA cW fM dd dL
        go_loopw [73] (fun tj wx=>∃ j:Nat,∃ av cv,tj=F j∧j≤X.2.length∧Hid (wx.heap[w.heap.size]?=some (.cells #[.slice av (aV X.1 (X.2.take j)).length cv] 22 (0,0)))∧Hid (aP.Own wx W1.heap.size (.slice av (aV X.1 (X.2.take j)).length cv) (aV X.1 (X.2.take j)))∧Hid (Chg (fun k=>k=w.heap.size∨W1.heap.size≤k) W1 wx)) (fun tj _=>X.2.length-(intOf tj).toNat)
        case atStart=>exact⟨0,none,0,rfl,Jl _,dx,Rec.Own.nil _ _,Chg.refl _ _⟩
        case round =>
         obtain⟨j,av,cv,rfl,hj,cQ,cB,ba⟩:=hrel;have cg:∀ b,(Value.slice cF X.2.length cl2).ownBlock=some b→¬(b=w.heap.size∨W1.heap.size≤b):=fun b hb=>by have:=bo.2 b hb;omega
         have dj:∀ b,(Value.slice dk X.1.length c_).ownBlock=some b→¬(b=w.heap.size∨W1.heap.size≤b):=fun b hb=>by have:=bo.1 b hb;omega
         by_cases b':j<X.2.length
         ·obtain⟨_,_,a2,_,bx⟩:=gX (df.o.lev.row.chg ba.o cg)
          injection a2 with e2 _ e3
          subst e2 e3;obtain⟨b,aL,rfl,cj⟩:=bx j b';have bU:=bg.o.lev X.2[j] (Jz b');obtain⟨ap,hq⟩:∃ ap:Nat,(ap:Int)=X.2[j]:=⟨X.2[j].toNat,by omega⟩
          rw[←hq]at cj bU;have dt:ap<X.1.length:=Y
          have bT:aV X.1 (X.2.take (j+1))=aV X.1 (X.2.take j)++[X.1[ap].1]:=by
           rw[qI b',←hq];simp[List.getD,dt]
          have fN:L<W1.heap.size∧T<W1.heap.size:=⟨(Array.getElem?_eq_some_iff.1 bf.o.1).1,(Array.getElem?_eq_some_iff.1 bf.o.2).1⟩
          have dM:=bf.o.chg ba.o Y Y
          have dN:=df.o.chg ba.o (fun k hk aC=>by
           rcases hk with h|h|h
           ·omega
           ·exact dj k h
           ·exact cg k h)
          obtain⟨_,_,bI,_,bq⟩:=py dN.nr;injection bI with e4 _ e5
          subst e4 e5;obtain⟨nb,du,ak,nk,ck,rfl,dm,_,_⟩:=bq ap dt;obtain⟨_,cT,_,_,_,_⟩:=dM.cells;have fS:=cell_of_one cQ.o;have fW:=free_of_one cQ.o;have bR:=O bT;have fY:=O hq;clear bx bq bT dM dN hq;have j0:=nn_ j;have j1:(j:Int)<X.2.length:=Y;have j2:=nn_ ap;have j3:(ap:Int)<X.1.length:=Y;have j4:(X.2.length:Int)≤1000000:=by have h1:=bg.o.sum;have h3:=bk.o;omega
          obtain⟨N0,cs⟩:=H (X.1[ap].1);rw[←cs]at bR dm;have fZ:=O cs;clear cs;go_wp2;refine aU 8 [(0,.exact _ (.slice av (aV X.1 (X.2.take j)).length cv)),(2,.exact _ (.slice (some ⟨nb,du,none⟩) X.1.length c_)),(6,.exact _ (s_ N0)),(7,dc 1 [s_ N0])] q_ q_ ?_;simp only[Jw,JE,Ju,JF];refine gl_ fS ?_;refine gl_ cT ?_;refine gl_ dm ?_;refine gk_ (dc 1 [s_ N0]) (fun w' G hB hS hG=>?_) (fun x K hK=>?_)
          ·go_simp;exact ew hG rfl
          obtain⟨ad,c⟩:=x;refine cO ?_;clear hK K;refine pz ?_;intro w' hB hA;have b8:=mn hA;have cm:=O (show aO w' (.slice ad 1 c) 1 (aP.cell N0) from b8);have bW:=O hB;clear hB hA b8;have fO:W1.heap.size≤w'.heap.size:=Jc ba.o.size bW.o.size;refine aP.append1R w' N0 rfl _ _ 22 rfl underlying22 W1.heap.size _ (aV X.1 (X.2.take j)) (cB.o.below bW.o) rfl _ rfl cm.o (by rw[dy];have h1:=bg.o.sum;have h2:=bg.o.len;have h3:=bk.o;have h5:=bg.o.ge;show _*16≤_;simp;omega) fO ?_;intro g cp w3 M aI A;have dT:Chg (fun k=>(Value.slice av (aV X.1 (X.2.take j)).length cv).ownBlock=some k) _ w3:=(IG bW.o).trans aI;have aX:=dT.at cQ.o (fun e=>by have:=(cB.o.lt _ e).1;have:=(Array.getElem?_eq_some_iff.1 dx).1;omega);have f':=cell_of_one aX;have f_:=free_of_one aX;obtain⟨dn,aW,cK⟩:=zH3 M aX dT;clear M aI A aX dT;go_wp2;go_roundw
          case rel =>
           refine⟨j+1,some ⟨g,0,none⟩,cp,by go_num,by omega,?_,?_,?_⟩
           ·rw[bR.o,Jh];exact one_setCell aW.o
           ·rw[bR.o,Jh]
            exact dn.o.chg (Chg.setCell (X:=fun k=>k=w.heap.size) w3 ⟨w.heap.size,0,none⟩ _ rfl) (fun k hk=>by have:=(dn.o.lt k hk).1;have:=(Array.getElem?_eq_some_iff.1 dx).1;omega)
           ·exact ba.o.trans ((cK.o.mono fun k hk=>.inr (cB.o.lt k hk).1).trans (Chg.setCell w3 ⟨w.heap.size,0,none⟩ _ (.inl rfl)))
          case measure=>simp[intOf];omega
         ·obtain rfl:j=X.2.length:=Y
          have bd:=bv.o;have cC:X.2.take X.2.length=X.2:=List.take_length;rw[cC]at cQ cB;have bH:=O bd;clear bd cC;go_wp2;refine⟨⟨_,_,_,_,_,_,_,_,_,_,_,_,_,_,_,_,_,_,_,_,_,_,_,_,_,_,_,_,_,_,_,_,_,_,_,_,_,_,_,_,_,_,_,_,_,_,_,_,_,_,_,_,_,_,_,_,_,_,_,_,_,_,_,_,_,_,_,_,_,_,_,_,_,_,_,_,_,_,_,_,_,_,_,?rel,rfl⟩,?measure⟩
          case rel =>
           have cg:∀ b,(Value.slice cF X.2.length cl2).ownBlock=some b→¬(b=w.heap.size∨W1.heap.size≤b):=fun b hb=>by have:=bo.2 b hb;omega
           have dj:∀ b,(Value.slice dk X.1.length c_).ownBlock=some b→¬(b=w.heap.size∨W1.heap.size≤b):=fun b hb=>by have:=bo.1 b hb;omega
           have fN:L<W1.heap.size∧T<W1.heap.size:=⟨(Array.getElem?_eq_some_iff.1 bf.o.1).1,(Array.getElem?_eq_some_iff.1 bf.o.2).1⟩
           have ga:P<W1.heap.size:=by have:=dz.o;omega
           refine⟨m-1,_,_,_,X.1,X.2,⟨cQ.o,?_,bf.o.chg ba.o Y Y,?_,cB.o.row,fun b hb=>?_⟩,?_,?_,⟨bg.o.ids,bg.o.lev⟩,bH.o.symm,?_,?_⟩
           ·exact ba.o.at (bO.o.at I.o Y) Y
           ·exact(df.o.chg ba.o (fun k hk aC=>by
             rcases hk with h|h|h
             ·omega
             ·exact dj k h
             ·exact cg k h)).mono (fun k _ hk=>hk.1)
           ·have a8:=cB.o.lt b hb
            have aY:=bo;refine⟨a8.2,by omega,by omega,by omega,by omega,fun e=>?_,fun e=>?_⟩
            ·have:=(aY.1 b e).2;omega
            ·have:=(aY.2 b e).2;omega
           ·exact(a7.o.trans (bO.o.below (fun k hk=>by omega) a7.o.size)).trans (ba.o.below (fun k hk=>by have:=a7.o.size;have:=dz.o;omega) (by have:=a7.o.size;have:=dz.o;omega))
           ·refine(dU.o.chg bO.o (fun D hD e=>?_)).chg ba.o (fun D hD e=>?_)
            ·rw[e,cX.o]at hD;cases hD
            ·rcases e with e|e
             ·rw[e,dx]at hD;cases hD
             ·have:=(Array.getElem?_eq_some_iff.1 hD).1;omega
           ·show X.2.length≤m-1
            have:=cA.o;have:=dv.o;omega
           ·show X.1.length+X.2.length≤2*l.length
            have h1:=bg.o.sum;have h3:=bk.o;omega
          case measure =>
           have fN:L<W1.heap.size∧T<W1.heap.size:=⟨(Array.getElem?_eq_some_iff.1 bf.o.1).1,(Array.getElem?_eq_some_iff.1 bf.o.2).1⟩
           rw[(bf.o.chg ba.o Y Y).cells.1,d1];exact cA.o
       case stop=>exact fun _ _ _ _ _ h _=>h.elim
      ·have bL:¬1<(ae.length:Int):=Y
       have c9:(ae.length:Int)≤1:=Y;have HN:=O hn;clear hn;go_wp2_with fail;have dP:=r.o.bx.same yzr;have aR:Chg (fun k=>k=T) wr ((wr.setCell ⟨T,0,none⟩ (.slice an E.length cn)).setCell ⟨T,1,none⟩ (F l.length)):=(Chg.setCell (X:=fun k=>k=T) wr ⟨T,0,none⟩ _ rfl).trans (Chg.setCell (X:=fun k=>k=T) _ ⟨T,1,none⟩ _ rfl);refine nL (HM.o.chg aR (fun D hD e=>by rw[e]at hD;rw[r.o.bx.2]at hD;cases hD)) ?_;intro w' ht cy;refine⟨_,jK rfl rfl (ls (ht.at dP.2)),?_,?_⟩
       ·have aQ:=r.o.nl.chg aR (r.o.nl.avoid (hK:=by have:=HT.o;omega) (by have:=HT.o;omega))
        refine Es ⟨HQ.o,h4⟩ (NRf.tidy ?_ ht);rw[←cb.o,qz HN.o];exact aQ.nrf Y
       ·exact(HB.o.trans (aR.below (fun k hk=>by have:=HT.o;omega) HB.o.size)).trans cy
  ·have fP:4096<(l.length:Int):=Y
   have H4:=O h4;clear h4;go_wp2_with fail;refine(cY.o _ (bt (af _ _) (af _ _))).mono ?_;rintro e w1⟨rfl,rfl⟩;go_wp2_with fail;refine nL (B:=w.heap.size) (show fX w.heap.size _ [] from True.intro) ?_;intro w' ht cy;obtain⟨k1,k2,k3⟩:=jD w (.cells #[.slice a l.length ah] 22) (.cells #[e_,F 0] 68);refine⟨_,jK rfl rfl (ls (ht.at k2)),Al (fun h=>H4.o h.2),k3.trans cy⟩
end
section
attribute [local irreducible] wpG
theorem fh {w:Z}{b:Nat}{x y:V_}{t:T_}(h:w.heap[b]?=some (.cells #[x,y] t (0,0))):w.cell? ⟨b,0,none⟩=some x∧w.cell? ⟨b,1,none⟩=some y∧w.frozen? ⟨b,0,none⟩=false∧w.frozen? ⟨b,1,none⟩=false:=by
 refine⟨?_,?_,?_,?_⟩<;>simp[World.cell?,World.frozen?,h]
theorem EL {w:Z}{b:Nat}{x y u v:V_}{t:T_}(h:w.heap[b]?=some (.cells #[x,y] t (0,0))):((w.setCell ⟨b,0,none⟩ u).setCell ⟨b,1,none⟩ v).heap[b]?=some (.cells #[u,v] t (0,0)):=by
 have h1:(w.setCell ⟨b,0,none⟩ u).heap[b]?=some (.cells #[u,y] t (0,0)):=by simp[World.setCell,Array.getElem?_modify,h]
 generalize w.setCell ⟨b,0,none⟩ u=w' at *;simp[World.setCell,Array.getElem?_modify,h1]
theorem EM (w:Z)(b:Nat)(u v:V_):Chg (fun k=>k=b) w ((w.setCell ⟨b,0,none⟩ u).setCell ⟨b,1,none⟩ v):=(Chg.setCell (X:=fun k=>k=b) w ⟨b,0,none⟩ u rfl).trans (Chg.setCell (X:=fun k=>k=b) _ ⟨b,1,none⟩ v rfl)

end
section
theorem ji {P:Program}{aM:Array Oper}{C:Z→Prop}{R:Z→Z→Prop}{am:Nat→Option (bu R)}{Q:aD→Act→Prop}{k:Nat}{S:aD}{a:Act}(h:Q S a):wpG P aM C R am Q k [] S a:=h
attribute [local irreducible] wpG
def Hp:V_→Nat
 | .slice _ n _=>n
 | _=>0
structure SR (T bZ:Nat) (n0:Int) (U:Z) (nv lv:V_) (nodes:LD_) (level:LI_):Prop where
 bt:U.heap[T]?=some (.cells #[nv,.int .i64 n0] 68 (0,0))
 nl:NL U bZ (fun k=>bZ≤k) nv lv nodes level
section
variable {T bZ D:Nat}{n0:Int}{U U' w3 W0:Z}{V lv aN xv:V_}{E:LD_}{ae:LI_}{S:LD_×LI_}
theorem SR.below (h:SR T bZ n0 U V lv E ae)(hB:Bw_ U U'):SR T bZ n0 U' V lv E ae :=
 ⟨(hB.block T (Array.getElem?_eq_some_iff.1 h.bt).1).trans h.bt,h.nl.below hB⟩
theorem SR.lev (hT:T<bZ)(h:SR T bZ n0 U V lv E ae){g ah:Nat}{q:LI_}(hc:Chg (fun k=>lv.ownBlock=some k) U U')(hg:lv.ownBlock=some g∨U.heap.size≤g)(ho:eY.Own U' bZ (.slice (some ⟨g,0,none⟩) q.length ah) q):SR T bZ n0 U' V (.slice (some ⟨g,0,none⟩) q.length ah) E q :=
 ⟨hc.at h.bt (fun e=>by have:=(h.nl.blk.2 _ e).1;omega),h.nl.level hc hg ho⟩
theorem SR.push (hT:T<bZ)(h:SR T bZ n0 U V lv E ae){aF:List (q×(OA_×Nat×Nat))}{x:q×(OA_×Nat×Nat)}{y:Nd}{g ah n:Nat}(r2:aF.length=E.length)(r3:∀ i (h:i<aF.length) (h':i<E.length),KR U (fun k=>bZ≤k) V lv aF[i] E[i])(hx:KR U (fun k=>bZ≤k) V lv x y)(hc:Chg (fun k=>V.ownBlock=some k) U w3)(hg:V.ownBlock=some g∨U.heap.size≤g)(ho:pY.Own w3 bZ (.slice (some ⟨g,0,none⟩) n ah) (aF++[x])):SR T bZ n0 (w3.setCell ⟨T,0,none⟩ (.slice (some ⟨g,0,none⟩) n ah)) (.slice (some ⟨g,0,none⟩) n ah) lv (E++[y]) ae:=by
 have h1:=hc.at h.bt (fun e=>by have:=(h.nl.blk.1 _ e).1;omega);have h2:=NL.node h.nl.lev h.nl.ap r2 r3 hx hc hg ho;refine⟨?_,h2.chg (Chg.setCell (X:=fun k=>k=T) w3 ⟨T,0,none⟩ _ rfl) (h2.avoid (hK:=by show ¬bZ≤T;omega) hT)⟩;have aC:=(Array.getElem?_eq_some_iff.1 h1)
 simp[World.setCell,Array.getElem?_modify,h1]
structure RJ (T bZ D:Nat) (n0:Int) (nv0:V_) (W0 U:Z) (nv xv:V_) (S:LD_×LI_):Prop where
 sr:SR T bZ n0 U nv xv S.1 S.2
 hn:nv.ownBlock=nv0.ownBlock∨∀ b,nv.ownBlock=some b→D≤b
 hx:∀ b,xv.ownBlock=some b→D≤b
 ch:Chg (fun k=>k=T∨nv0.ownBlock=some k∨D≤k) W0 U
theorem RJ.below (h:RJ T bZ D n0 aN W0 U V xv S)(hB:Bw_ U U'):RJ T bZ D n0 aN W0 U' V xv S:=⟨h.sr.below hB,h.hn,h.hx,h.ch.trans (IG hB)⟩
theorem RJ.lev (hT:T<bZ)(hD:D≤U.heap.size)(h:RJ T bZ D n0 aN W0 U V xv S){g ah:Nat}{q:LI_}(hc:Chg (fun k=>xv.ownBlock=some k) U U')(hg:xv.ownBlock=some g∨U.heap.size≤g)(ho:eY.Own U' bZ (.slice (some ⟨g,0,none⟩) q.length ah) q):RJ T bZ D n0 aN W0 U' V (.slice (some ⟨g,0,none⟩) q.length ah) (S.1,q):=by
 refine⟨h.sr.lev hT hc hg ho,h.hn,fun b hb=>?_,h.ch.trans (hc.mono fun k hk=>.inr (.inr (h.hx k hk)))⟩;have e:g=b:=by simpa[Value.ownBlock] using hb
 subst e;rcases hg with hg|hg
 ·exact h.hx _ hg
 ·omega
theorem RJ.push (hT:T<bZ)(hD:D≤U.heap.size)(h:RJ T bZ D n0 aN W0 U V xv S){aF:List (q×(OA_×Nat×Nat))}{x:q×(OA_×Nat×Nat)}{y:Nd}{g ah n:Nat}(r2:aF.length=S.1.length)(r3:∀ i (h:i<aF.length) (h':i<S.1.length),KR U (fun k=>bZ≤k) V xv aF[i] S.1[i])(hx:KR U (fun k=>bZ≤k) V xv x y)(hc:Chg (fun k=>V.ownBlock=some k) U w3)(hg:V.ownBlock=some g∨U.heap.size≤g)(ho:pY.Own w3 bZ (.slice (some ⟨g,0,none⟩) n ah) (aF++[x])):RJ T bZ D n0 aN W0 (w3.setCell ⟨T,0,none⟩ (.slice (some ⟨g,0,none⟩) n ah)) (.slice (some ⟨g,0,none⟩) n ah) xv (S.1++[y],S.2):=by
 have a:∀ k,V.ownBlock=some k→k=T∨aN.ownBlock=some k∨D≤k:=fun k hk=>by
  rcases h.hn with e|e
  ·exact .inr (.inl (by rw[←e];exact hk))
  ·exact .inr (.inr (e k hk))
 refine⟨h.sr.push hT r2 r3 hx hc hg ho,?_,h.hx,h.ch.trans ((hc.mono a).trans (Chg.setCell _ _ _ (.inl rfl)))⟩;have e1:(Value.slice (some ⟨g,0,none⟩) n ah).ownBlock=some g:=rfl;rw[e1];rcases hg with hg|hg
 ·rcases h.hn with e|e
  ·exact .inl (by rw[←e,hg])
  ·exact .inr fun b hb=>by have:=e g hg;cases hb;omega
 ·exact .inr fun b hb=>by cases hb;omega
end
end
