/- Lemmas for DeltaJobs: walks, plain laws. -/
import Derived.Test.YtehllcbnheicoaaGreatDoorDeltaJobsK22
set_option linter.unusedSimpArgs false
set_option linter.unusedVariables false
set_option maxRecDepth 100000
set_option maxHeartbeats 16000000
namespace Go.Proofs.YtehllcbnheicoaaGreatDoor
open Go.RowKit Oct
section
theorem gH {P:Program}{ops:Array Oper}{rest:List Oper}{o:Oper}{a:Act}{Q:Exit→Act→World→Prop}(wr:World)(news:List Value)(e:TypeId)(hgd:o.guard=none)(s x:Operand)(t:TypeId)(ho:o.op=.call { callee:=.builtin .append,args:=#[s,x],argTypes:=#[t,t] })(bZ:Nat)(z:Value)(size bytes:Nat)(ht:P.underlying t=some (.slice e))(hinfo:(P.info? e).map (fun i=>(i.zero,i.size,i.bytes))=some (some z,size,bytes))(hzs:z.cells.size=size)(hsz:0<size)(v:Value)(n:Nat)(xs:List Value)(hown:wr.ownsRow bZ e size v n xs)(hs:a.eval s=v)(c:Nat)(hx:a.eval x=.slice (some ⟨wr.heap.size,0,none⟩) 1 c)(hl:news.length=size)(h1:∀ u∈news,u.oneCell'=true)(hby:0<bytes)(hbytes:(n+1)*bytes≤140737488355328)(hbase:bZ≤wr.heap.size)(h:∀ g cap w',w'.ownsRow bZ e size (.slice (some ⟨g,0,none⟩) (n+1) cap) (n+1) (xs++news)→(∀ j,j<wr.heap.size→v.ownBlock≠some j→w'.heap[j]?=wr.heap[j]?)→(v.ownBlock=some g∨wr.heap.size≤g)→Below bZ wr w'→wr.heap.size≤w'.heap.size → wpList P ops Q rest (a.put o.dst (.slice (some ⟨g,0,none⟩) (n+1) cap)) w'):wpList P ops Q (o::rest) a (wr.alloc (.cells news.toArray e)):=by
 obtain⟨i,hi,hz,hi1,hi2⟩:=info_parts hinfo;have hn:n+1≤(n+1)*bytes:=Nat.le_mul_of_pos_right _ hby;refine wpList_append_lies _ hgd s x t ho bZ e i z size bytes ht hi hz hi1 hi2 hzs hsz v n xs hs (hown.alloc _) ⟨wr.heap.size,0,none⟩ 1 c news hx (by simpa using hl) ?_ h1 (by decide) (by unfold maxLen;omega) hbytes (by simp;omega) _ rfl ?_
 ·exact Hj
 ·intro g cap w' h2 h3 h4 h5
  have hB:Below bZ wr w':=((Em bZ wr).alloc hbase _).grown h3 (by simp;omega) (fun k hk=>(hown.lt k hk).1);refine h g cap w' h2 (fun j hj hne=>?_) ?_ hB hB.size
  ·rw[h3.block j (by simp;omega) (fun e=>hne e.symm)]
   exact Below.heap_alloc _ _ _ hj
  ·rcases h4 with h4|h4
   ·exact .inl h4
   ·exact .inr (by simp at h4;omega)
theorem RP.frame {w w':World}{u:Value}{l:List PR}(h:RP w u l)(hb:∀ b,u.ownBlock=some b→w'.heap[b]?=w.heap[b]?):RP w' u l:=by
 obtain⟨⟨a,cap,rfl,hn,hc⟩,h2⟩:=h;refine⟨⟨a,cap,rfl,hn,fun j x hj=>?_⟩,h2⟩;obtain⟨b,off,rfl,hx⟩:=hc j x hj;exact⟨b,off,rfl,(World.cell?_of_block (w:=w) (hb b rfl)).trans hx⟩
def GRP (w:World)(bZ:Nat)(v:Value)(Z:List (List PR)):Prop:=∃ CS:List Value,w.ownsRow bZ 37 1 v Z.length CS ∧
 ∀ i (h:i<CS.length) (h':i<Z.length),RP w CS[i] Z[i]∧∀ b,CS[i].ownBlock=some b→b<w.heap.size∧v.ownBlock≠some b
theorem GRP.below {w w':World}{bZ:Nat}{v:Value}{Z:List (List PR)}(h:GRP w bZ v Z)(hB:Below w.heap.size w w'):GRP w' bZ v Z:=by
 obtain⟨CS,h1,h2⟩:=h;exact⟨CS,bn h1 hB,fun i h h'=>⟨(h2 i h h').1.below hB,fun b hb=>⟨Eb ((h2 i h h').2 b hb).1 hB.size,((h2 i h h').2 b hb).2⟩⟩⟩
theorem GRP.nil (w:World)(bZ:Nat):GRP w bZ (.slice none 0 0) []:=⟨[],World.ownsRow_nil _ _ _ _,fun i h _=>absurd h (by simp)⟩
theorem GRP.slice {w:World}{bZ:Nat}{v:Value}{Z:List (List PR)}(h:GRP w bZ v Z):∃ a c,v=.slice a Z.length c:=by
 obtain⟨CS,h1,_⟩:=h;exact ap h1
theorem GRP.rr {w:World}{bZ:Nat}{v:Value}{Z:List (List PR)}(h:GRP w bZ v Z):RR w v Z:=by
 obtain⟨CS,h1,h2⟩:=h;have hl:CS.length=Z.length:=by have:=h1.1;omega
 obtain⟨⟨a,cap,rfl,hn,hc⟩,hcap⟩:aZ w v Z.length CS∧∃ a cap,v=.slice a Z.length cap∧Z.length≤cap:=by
  refine⟨DQ h1,?_⟩;rcases h1.2 with ⟨hv,h0⟩|⟨g,cap,cur,hv,_,_,hc,_⟩
  ·exact⟨none,0,by rw[hv,h0],by omega⟩
  ·exact⟨_,_,hv,hc⟩
 obtain⟨a',cap',hv,hle⟩:=hcap;injection hv with _ _ e3
 subst e3;refine⟨a,cap,rfl,hle,hn,fun k hk=>?_⟩;obtain⟨b,off,ha,hu⟩:=hc k CS[k] (List.getElem?_eq_getElem (by omega));exact⟨b,off,CS[k],ha,hu,(h2 k (by omega) hk).1⟩
theorem Id {T:Prop} (h:T:=by
 have e:i=CS.length:=by simp at h;omega
 subst e;rw[EY (by omega),EY (by omega)];simp only[Nat.sub_self,hl,Ez];exact key _ _ hu hub
):T:=h
theorem GRP.snoc {w w':World}{bZ:Nat}{v v' u:Value}{Z:List (List PR)}{g:List PR}{CS:List Value}{gb cap:Nat}(h2:∀ i (h:i<CS.length) (h':i<Z.length),RP w CS[i] Z[i]∧∀ b,CS[i].ownBlock=some b→b<w.heap.size∧v.ownBlock≠some b)(hl:CS.length=Z.length)(hu:RP w u g)(hub:∀ b,u.ownBlock=some b→b<w.heap.size∧v.ownBlock≠some b)(hv:v'=.slice (some ⟨gb,0,none⟩) (Z.length+1) cap)(hown:w'.ownsRow bZ 37 1 v' (Z.length+1) (CS++[u]))(hfr:∀ j,j<w.heap.size→v.ownBlock≠some j→w'.heap[j]?=w.heap[j]?)(hg:v.ownBlock=some gb∨w.heap.size≤gb)(hsz:w.heap.size≤w'.heap.size):GRP w' bZ v' (Z++[g]):=by
 have key:∀ (x:Value) (r:List PR),RP w x r→(∀ b,x.ownBlock=some b→b<w.heap.size∧v.ownBlock≠some b)→RP w' x r∧∀ b,x.ownBlock=some b→b<w'.heap.size∧v'.ownBlock≠some b:=by
  intro x r hx hb;refine⟨hx.frame fun b h=>hfr b (hb b h).1 (hb b h).2,fun b h=>⟨Eb (hb b h).1 hsz,?_⟩⟩;subst hv;intro e;have e2:gb=b:=by simpa[Value.ownBlock] using e
  subst e2;rcases hg with hg|hg
  ·exact(hb gb h).2 hg
  ·exact absurd (hb gb h).1 (by omega)
 refine⟨CS++[u],by rw[Ev];exact hown,fun i h h'=>?_⟩
 by_cases hi:i<CS.length
 ·rw[EX hi,EX (by omega)]
  exact key _ _ (h2 i hi (by omega)).1 (h2 i hi (by omega)).2
 ·exact Id
theorem RP.subRun {w:World}{a:Option Addr}{cap:Nat}{l:List PR}(h:RP w (.slice a l.length cap) l)(lo hi:Nat)(h1:lo≤hi)(h2:hi≤l.length):∃ A C,(∀ wx,(Instr.slice 37 (.slice a l.length cap) (some (.int .i64 (lo:Int))) (some (.int .i64 (hi:Int))) none).run Tryz.prog wx=.ok (.slice A (hi-lo) C) wx)∧RP w (.slice A (hi-lo) C) ((l.drop lo).take (hi-lo)):=by
 obtain⟨_,a',cap',hv,hle⟩:=id h;injection hv with _ _ h3
 subst h3;refine⟨_,_,fun wx=>?_,h.sub lo hi h1 h2⟩;rw[run_slice_lh wx 37 a l.length cap (by kernel_rfl) .i64 .i64 lo hi (by omega) (by omega) (by omega)];have he:(sizeOf (Tryz.prog.elem 37)).run Tryz.prog wx=.ok 2 wx:=by kernel_rfl
 rw[he];simp[Result.andThen,sliced]
theorem jF:(Tryz.prog.info? 37).map (fun i=>(i.zero,i.size,i.bytes))=some (some (.slice none 0 0),1,24):=by kernel_rfl
theorem sR {A:List PR}{Z:List (List PR)}{f i:Nat}(hf:f<i)(hi:i≤A.length)(hZ:Z++grp (A.drop f)=grp A)(hin:∀ j (h:j<A.length),f≤j→j<i→A[j].1=(A[f]'(by omega)).1)(hout:∀ (h:i<A.length),A[i].1≠(A[f]'(by omega)).1):(Z++[(A.drop f).take (i-f)])++grp (A.drop i)=grp A:=by
 have hh:i-f=head1 (A.drop f):=by
  refine jG (A.drop f) (by simp;omega) (i-f) (by omega) (by simp;omega) (fun j hj=>?_) (fun hk=>?_)
  ·simp only[List.getElem_drop,Nat.add_zero]
   exact hin (f+j) (by omega) (by omega) (by omega)
  ·simp only[List.getElem_drop,Nat.add_zero,show f+(i-f)=i by omega]
   exact hout (by simp at hk;omega)
 rw[←hZ,gG (A.drop f) (by simp;omega),←hh,EC,show f+(i-f)=i by omega,Et]
 rfl
end
section
theorem mY {P:Program}{ops:Array Oper}{C:World→Prop}{R:World→World→Prop}{F:Nat→Option (aJ R)}{Q:au→Act→Prop}{k:Nat}{S:au}{a:Act}(h:Q S a):wpG P ops C R F Q k [] S a:=h
attribute [local irreducible] wpG
theorem GRP.mono {w:World}{bZ base':Nat}{v:Value}{Z:List (List PR)}(h:GRP w bZ v Z)(hb:base'≤bZ):GRP w base' v Z:=by
 obtain⟨CS,h1,h2⟩:=h;exact⟨CS,dL h1 hb,h2⟩
theorem Dm {n k:Nat}(hn:n≤1000000)(hk:k≤n):(k+1)*24≤140737488355328:=by omega
theorem Dl {n k:Nat}(hn:n≤1000000)(hk:k≤n):(0+k)*32≤140737488355328:=by omega
theorem wj {A:List PR}{Z R:List (List PR)}(h:Z++R=grp A):Z.length≤A.length:=by
 have:=bX A.length A (Ei _);rw[←h,Ev]at this;omega
theorem AZ {A:List PR}{f i:Nat}(hi:i≤A.length)(hf:f≤i):((A.drop f).take (i-f)).length=i-f:=by simp;omega
theorem GP {T:Prop} (h:T:=by
 intro b hb;have h1:=World.ownsRow.lt HO3.o b hb;refine⟨h1.2,fun e=>?_⟩;obtain⟨CS2,hc2,_⟩:=HG2.o;have h2:=World.ownsRow.lt hc2 b e;omega
):T:=h
theorem sa (v:Value)(l:List PR)(w:World)(hr:RP w v l)(hl:l.length≤1000000):Calls Tryz.prog 71 #[v] w fun e w'=>(∃ u,e=.returned u∧GRP w' w.heap.size u (grp (srt l)))∧Bw_ w w':=by
 obtain⟨a0,c0,rfl,_,_⟩:=hr.open;obtain⟨A,hA⟩:=ex_ (srt l);have hsrt:=uq _ l w hr hl;have hAl:A.length=l.length:=by rw[hA];exact bC l
 rw[←hA]at hsrt⊢;have HSRT:=zH hsrt;clear hr hsrt hA;go_enter Tryz.func71,Tryz.ntmps71;go_wp2_with fail;refine HSRT.o.mono ?_;rintro e w1 ⟨v1,rfl,hown1,hB1⟩;obtain⟨aA,cA,rfl,hcap,hcA⟩:=(OP.reads hown1).open;clear hcap;have HCA:=zH hcA;have HA:=zH (OP.reads hown1);have HB1:=zH hB1;have hAn:A.length≤1000000:=by rw[hAl];exact hl
 have HAN:=zH hAn;clear hown1 hB1 hAl hl HSRT hcA;go_wp2
 go_loopw [4,5,6] (fun vo vf vi wr=>∃ f i:Nat,∃ Z Av Cv,vf=.int .i64 (f:Int)∧vi=.int .i64 (i:Int)∧vo=.slice Av (List.length Z) Cv∧1≤i∧i≤A.length+1∧Hid (f≤A.length∧(i≤A.length→f<i)∧(i=A.length+1→f=A.length)) ∧
  Hid (∀ j (h:j<A.length) (hf:f<A.length),f≤j→j<i→A[j].1=A[f].1)∧Hid (Z++grp (A.drop f)=grp A)∧Hid (GRP wr w1.heap.size (.slice Av Z.length Cv) Z)∧Hid (Below w1.heap.size w1 wr)) (fun _ _ i _=>A.length+1-(intOf i).toNat)
 case atStart =>
  have h00:∀ j (h:j<A.length) (hf:0<A.length),0≤j→j<1→A[j].1=A[0].1:=by
   intro j h hf _ h2;obtain rfl:j=0:=by omega
   rfl
  exact⟨0,1,[],none,0,rfl,rfl,rfl,by omega,by omega,⟨by omega,by omega,by omega⟩,h00,rfl,GRP.nil _ _,dB _⟩
 case round =>
  obtain⟨f,i,Z,Av,Cv,rfl,rfl,rfl,hi1,hi2,HF,HIN,HZ,HG,HB⟩:=hrel;obtain⟨Wr,hWr⟩:=ex_ wr;subst hWr
  by_cases h0:i≤A.length
  ·have hfi:=HF.o.2.1 h0
   have hfl:f<A.length:=by omega
   obtain⟨b,off,rfl,cf,_⟩:=HCA.o f hfl;have HFc:=zH (DK HB.o cf);obtain⟨X,C,hrun,hsub⟩:=RP.subRun HA.o f i (Eg hfi) h0;have HSUB:=zH (hsub.below HB.o);have hsl:=AZ h0 (Eg hfi);obtain⟨G,hG⟩:=ex_ ((A.drop f).take (i-f));rw[←hG]at HSUB hsl;have HGG:=zH hG;have HSL:=zH hsl;rw[←hsl]at hrun HSUB;clear cf hsub hsl hG;have i0:(i:Int)≤(A.length:Int):=by omega
   have i1:=nn_ i;have i2:=nn_ f;have i3:(f:Int)<(A.length:Int):=by omega
   have i4:(f:Int)≤(i:Int):=by omega
   by_cases hin:i=A.length
   ·have e1:((i:Int)==(A.length:Int))=true:=by rw[beq_iff_eq];omega
    have HE:=zH hin;clear hin;go_wp2;refine rk_ [] ?_;refine cG ?_;refine mY ?_;intro w2 hB2 hA2;have HB2:=zH hB2;have HS2:=zH (HSUB.o.below hB2);have HG2:=zH (HG.o.below hB2);have hw12:w1.heap.size≤w2.heap.size:=En HB.o.size hB2.size;have HW12:=zH hw12;clear hB2 hA2 hw12
    go_wp2_with (first
     | (at_builtin;(refine dc w2 rfl _ _ 37 rfl Tryz.underlying37 w2.heap.size (.slice none 0 0) [] rfl (OP.nil _ _) (.slice X G.length C) G rfl HS2.o (by rw[HSL.o];exact Dl HAN.o (En (Nat.sub_le _ _) h0)) (Ei _) ?_);intro v3 w3 hown3 hB3;rw[Eu]at hown3;obtain⟨a3,c3,rfl⟩:=ap hown3;have HO3:=zH hown3;have HG3:=zH (HG2.o.below hB3);have HB3:=zH hB3;obtain⟨CS,hcs,hcs2⟩:=HG3.o;have HCS:=zH hcs;have HCS2:=zH hcs2;clear hown3 hB3 hcs hcs2)
     | (at_builtin;(refine gH w3 [.slice a3 G.length c3] 37 rfl _ _ 28 rfl w1.heap.size (.slice none 0 0) 1 24 Tryz.underlying28 jF rfl (by decide) _ Z.length CS HCS.o rfl _ rfl rfl (by simp[Value.oneCell']) (by decide) (Dm HAN.o (wj HZ.o)) (En HW12.o HB3.o.size) ?_);intro g cap w4 hown4 hfr hgb hB4 hsz4;have HO4:=zH hown4;have HFR:=zH hfr;have HGB:=zH hgb;have HB4:=zH hB4;have HSZ4:=zH hsz4;clear hown4 hfr hgb hB4 hsz4))
    go_roundw
    case rel =>
     have hout:∀ b,(Value.slice a3 G.length c3).ownBlock=some b→b<w3.heap.size∧(Value.slice Av Z.length Cv).ownBlock≠some b:=by
      exact GP
     have hii:∀ j (h:j<A.length) (hf:i<A.length),i≤j→j<i+1→A[j].1=A[i].1:=by
      intro j h hf _ h2;obtain rfl:j=i:=by omega
      rfl
     have hsn:=GRP.snoc HCS2.o (by have:=HCS.o.1;omega) (OP.reads HO3.o) hout rfl HO4.o HFR.o HGB.o HSZ4.o;refine⟨i,i+1,Z++[G],_,_,rfl,by go_num,by rw[Ev];rfl,by omega,by omega,⟨h0,fun h=>by omega,fun h=>by omega⟩,hii,?_,by rw[Ev];exact hsn,?_⟩
     ·have:=sR (A:=A) (Z:=Z) hfi h0 HZ.o (fun j h h1 h2=>HIN.o j h (by omega) h1 h2) (fun h=>absurd h (by have:=HE.o;omega))
      rw[←HGG.o]at this;exact this
     ·exact HB.o.trans ((HB2.o.mono HB.o.size).trans ((HB3.o.mono HW12.o).trans HB4.o))
    case measure=>simp[intOf];omega
   ·have e1:((i:Int)==(A.length:Int))=false:=by rw[beq_eq_false_iff_ne];omega
    have hil:i<A.length:=by omega
    have i5:(i:Int)<(A.length:Int):=by omega
    obtain⟨b',off',hb,ci,_⟩:=HCA.o i hil
    cases hb
    have HI:=zH (DK HB.o ci);clear ci hin
    by_cases hk:A[i].1=A[f].1
    ·have HK:=zH hk
     have e2:(A[i].1==A[f].1)=true:=by rw[beq_iff_eq];exact hk
     have e3:(A[i].1 != A[f].1)=false:=by rw[bne_eq_false_iff_eq];exact hk
     clear hk;go_wp2;refine rk_ [(9,.exact Bel (.string (bs A[i].1))),(14,.exact Bel (.string (bs A[f].1)))] ?_;refine cG ?_;refine gE_ (fun w' G hB hS hG=>?_) (fun K hK=>?_)
     ·have c:=DK hB HI.o
      go_simp;exact hG _ (Bel.refl _)
     refine cO ?_;clear hK K;refine gE_ (fun w' G hB hS hG=>?_) (fun K hK=>?_)
     ·have c:=DK hB HFc.o
      go_simp;exact hG _ (Bel.refl _)
     refine cO ?_;clear hK K;refine mY ?_;intro w2 hB2 hA2;have HB2:=zH hB2;have HG2:=zH (HG.o.below hB2);clear hB2 hA2;go_wp2;refine⟨?_,by simp[intOf];omega⟩;refine⟨f,i+1,Z,_,_,rfl,by go_num,rfl,by omega,by omega,⟨by omega,fun h=>by omega,fun h=>by omega⟩,fun j h hf h1 h2=>?_,HZ.o,HG2.o,HB.o.trans (HB2.o.mono HB.o.size)⟩
     by_cases hji:j=i
     ·subst hji;exact HK.o
     ·exact HIN.o j h hf h1 (by omega)
    ·have HK:=zH hk
     have e2:(A[i].1==A[f].1)=false:=by rw[beq_eq_false_iff_ne];exact hk
     have e3:(A[i].1 != A[f].1)=true:=by rw[bne_iff_ne];exact hk
     clear hk;go_wp2;refine rk_ [(9,.exact Bel (.string (bs A[i].1))),(14,.exact Bel (.string (bs A[f].1)))] ?_;refine cG ?_;refine gE_ (fun w' G hB hS hG=>?_) (fun K hK=>?_)
     ·have c:=DK hB HI.o
      go_simp;exact hG _ (Bel.refl _)
     refine cO ?_;clear hK K;refine gE_ (fun w' G hB hS hG=>?_) (fun K hK=>?_)
     ·have c:=DK hB HFc.o
      go_simp;exact hG _ (Bel.refl _)
     refine cO ?_;clear hK K;refine mY ?_;intro w2 hB2 hA2;have HB2:=zH hB2;have HS2:=zH (HSUB.o.below hB2);have HG2:=zH (HG.o.below hB2);have hw12:w1.heap.size≤w2.heap.size:=En HB.o.size hB2.size;have HW12:=zH hw12;clear hB2 hA2 hw12
     go_wp2_with (first
      | (at_builtin;(refine dc w2 rfl _ _ 37 rfl Tryz.underlying37 w2.heap.size (.slice none 0 0) [] rfl (OP.nil _ _) (.slice X G.length C) G rfl HS2.o (by rw[HSL.o];exact Dl HAN.o (En (Nat.sub_le _ _) h0)) (Ei _) ?_);intro v3 w3 hown3 hB3;rw[Eu]at hown3;obtain⟨a3,c3,rfl⟩:=ap hown3;have HO3:=zH hown3;have HG3:=zH (HG2.o.below hB3);have HB3:=zH hB3;obtain⟨CS,hcs,hcs2⟩:=HG3.o;have HCS:=zH hcs;have HCS2:=zH hcs2;clear hown3 hB3 hcs hcs2)
      | (at_builtin;(refine gH w3 [.slice a3 G.length c3] 37 rfl _ _ 28 rfl w1.heap.size (.slice none 0 0) 1 24 Tryz.underlying28 jF rfl (by decide) _ Z.length CS HCS.o rfl _ rfl rfl (by simp[Value.oneCell']) (by decide) (Dm HAN.o (wj HZ.o)) (En HW12.o HB3.o.size) ?_);intro g cap w4 hown4 hfr hgb hB4 hsz4;have HO4:=zH hown4;have HFR:=zH hfr;have HGB:=zH hgb;have HB4:=zH hB4;have HSZ4:=zH hsz4;clear hown4 hfr hgb hB4 hsz4))
     go_roundw
     case rel =>
      have hout:∀ b,(Value.slice a3 G.length c3).ownBlock=some b→b<w3.heap.size∧(Value.slice Av Z.length Cv).ownBlock≠some b:=by
       exact GP
      have hii:∀ j (h:j<A.length) (hf:i<A.length),i≤j→j<i+1→A[j].1=A[i].1:=by
       intro j h hf _ h2;obtain rfl:j=i:=by omega
       rfl
      have hsn:=GRP.snoc HCS2.o (by have:=HCS.o.1;omega) (OP.reads HO3.o) hout rfl HO4.o HFR.o HGB.o HSZ4.o;refine⟨i,i+1,Z++[G],_,_,rfl,by go_num,by rw[Ev];rfl,by omega,by omega,⟨h0,fun h=>by omega,fun h=>by omega⟩,hii,?_,by rw[Ev];exact hsn,?_⟩
      ·have:=sR (A:=A) (Z:=Z) hfi h0 HZ.o (fun j h h1 h2=>HIN.o j h (by omega) h1 h2) (fun h=>HK.o)
       rw[←HGG.o]at this;exact this
      ·exact HB.o.trans ((HB2.o.mono HB.o.size).trans ((HB3.o.mono HW12.o).trans HB4.o))
     case measure=>simp[intOf];omega
  ·have hie:i=A.length+1:=by omega
   have hfin:Z=grp A:=by
    have h1:=HF.o.2.2 hie;have h2:=HZ.o;rw[h1,List.drop_length,gS,Ep]at h2;exact h2
   subst hfin;have i0:¬(i:Int)≤(A.length:Int):=by omega
   clear hie;go_wp2;go_ret;exact⟨⟨_,rfl,HG.o.mono HB1.o.size⟩,HB1.o.trans (HB.o.mono HB1.o.size)⟩
end
section
theorem Am (l:List PR)(h:0<l.length):l[0].1=hk1 l:=by cases l with|nil=>simp at h|cons x l=>rfl
theorem Aj:(Tryz.prog.info? 9).map (fun i=>(i.zero,i.size,i.bytes))=some (some (.string ByteArray.empty),1,16):=by kernel_rfl
theorem DC {n k:Nat}(hn:n≤1000000)(hk:k≤n):(k+1)*16≤140737488355328:=by omega
theorem py (v:Value)(l:List PR)(w:World)(hr:RP w v l)(hl:l.length≤1000000):Calls Tryz.prog 39 #[v] w fun e w'=>(∃ u,e=.returned u∧w'.ownsRow w.heap.size 9 1 u ((grp (srt l)).map hk1).length (fk ((grp (srt l)).map hk1)))∧Bw_ w w':=by
 obtain⟨a0,c0,rfl,_,_⟩:=hr.open;have hgr:=sa _ l w hr hl;have hn:=uZ (srt l).length (srt l) (Ei _);have hgl:=bX (srt l).length (srt l) (Ei _);rw[bC]at hgl;obtain⟨Z,hZ⟩:=ex_ (grp (srt l));rw[←hZ]at hgr hn hgl⊢;have HGR:=zH hgr;have HN:=zH hn;have HZL:=zH (En hgl hl);clear hgr hn hgl hZ hr;go_enter Tryz.func39,Tryz.ntmps39;go_wp2_with fail;refine HGR.o.mono ?_;rintro e w1 ⟨⟨u1,rfl,hg1⟩,hB1⟩;obtain⟨a1,c1,rfl⟩:=hg1.slice;obtain⟨aa,ca,hv,_,_,hc⟩:=hg1.rr;injection hv with e1 _ e3
 subst e1 e3;have HC:=zH hc;have HB1:=zH hB1;clear hc hB1 hg1 HGR;go_wp2
 go_loopw [3,5] (fun vo vi wr=>∃ i:Nat,∃ Av Cv,vi=.int .i64 (i:Int)∧vo=.slice Av i Cv∧i≤Z.length∧Hid (wr.ownsRow w1.heap.size 9 1 (.slice Av i Cv) i (fk ((Z.take i).map hk1)))∧Hid (Below w1.heap.size w1 wr)) (fun _ i _=>Z.length-(intOf i).toNat)
 case atStart=>exact⟨0,none,0,rfl,rfl,by omega,World.ownsRow_nil _ _ _ _,dB _⟩
 case round =>
  obtain⟨i,Av,Cv,rfl,rfl,hi,HO,HB⟩:=hrel;obtain⟨Wr,hWr⟩:=ex_ wr;subst hWr
  by_cases h0:i<Z.length
  ·obtain⟨b,off,u,rfl,d1,hru⟩:=HC.o i h0
   obtain⟨a2,c2,rfl,_,hc2⟩:=hru.open;have hz0:=HN.o Z[i] (EM h0);obtain⟨b2,o2,rfl,d2,_⟩:=hc2 0 hz0;rw[Nat.zero_mul,Nat.add_zero,Am Z[i] hz0]at d2;have d1':=DK HB.o d1;have d2':=DK HB.o d2;obtain⟨x,hx⟩:=ex_ (Z[i]);rw[←hx]at d1' d2' hz0;have HX:=zH hx;have i0:=nn_ i;have i1:(i:Int)<(Z.length:Int):=by omega
   have i2:(0:Int)<(x.length:Int):=by omega
   have hby:=DC HZL.o hi;have hsz:=HB.o.size;clear d1 d2 hc2 hru hx hz0;go_wp2_with (at_builtin;go_must (refine append1 Wr [.string (bs (hk1 x))] 9 rfl _ _ 22 rfl w1.heap.size (.string ByteArray.empty) 1 16 Tryz.underlying22 Aj rfl (by decide) (.slice Av i Cv) i _ rfl HO.o _ rfl rfl (by simp[Value.oneCell']) hby (by decide) hsz ?_);intro v3 w3 hown3 hB3;obtain⟨g,cap,rfl⟩:=ownsRow_succ hown3;have HO3:=zH hown3;have HB3:=zH hB3;clear hown3 hB3 d1' d2');go_roundw
   case rel =>
    refine⟨i+1,_,_,by go_num,rfl,by omega,?_,HB.o.trans HB3.o⟩;rw[Ef h0,EO,←HX.o];have:=HO3.o;rw[lZ]at this;exact this
   case measure=>simp[intOf];omega
  ·obtain rfl:i=Z.length:=by omega
   have hfin:=HO.o;rw[List.take_length]at hfin;have HF:=zH hfin;clear hfin HO;go_wp2;go_ret;refine⟨⟨_,rfl,?_⟩,HB1.o.trans (HB.o.mono HB1.o.size)⟩;rw[EV];exact dL HF.o HB1.o.size
def Dv (w:World)(v:Value):Option PR→Prop
 | none=>v=.pointer none
 | some p=>∃ b off,v=.pointer (some ⟨b,off,none⟩)∧w.cell? ⟨b,off,none⟩=some (.string (bs p.1))∧w.cell? ⟨b,off+1,none⟩=some (.string (bs p.2))
def aU:Option PR→Option PR→List TR
 | some x,none=>[⟨x.1,x.2,[],true,false⟩]
 | none,some y=>[⟨y.1,[],y.2,false,true⟩]
 | some x,some y=>if x=y then [] else [⟨y.1,x.2,y.2,true,true⟩]
 | none,none=>[]
def gM (p:Nat)(w:World)(l:List TR):Prop:=ew p (p+1) 51 77 5 w l.length (dm.cells l)
theorem gM.stored {p g cap:Nat}{U W:World}{l l':List TR}(hb:gM p U l)(hB:Below (p+1) U W)(hown:dm.Own W (p+1) (.slice (some ⟨g,0,none⟩) l'.length cap) l'):gM p (W.setCell ⟨p,0,none⟩ (.slice (some ⟨g,0,none⟩) l'.length cap)) l'∧Below p U (W.setCell ⟨p,0,none⟩ (.slice (some ⟨g,0,none⟩) l'.length cap)):=by
 obtain⟨v,hs,_⟩:=hb;exact⟨(ew.stored (bZ:=p+1) (by omega) hs hB hown).1,Below.setCell (hB.mono (Nat.le_succ p)) (p:=⟨p,0,none⟩) (Ei _) _⟩
theorem gM.below {p:Nat}{w w':World}{l:List TR}(h:gM p w l)(hB:Below w.heap.size w w'):gM p w' l:=ew.chg h (DM (X:=fun _=>False) hB) (fun _ h=>h.elim)
theorem gM.open {p:Nat}{w:World}{l:List TR}(h:gM p w l):∃ a c,w.cell? ⟨p,0,none⟩=some (.slice a l.length c)∧w.frozen? ⟨p,0,none⟩=false∧dm.Own w (p+1) (.slice a l.length c) l∧p<w.heap.size:=by
 obtain⟨v,hh,hown⟩:=h;obtain⟨a,c,rfl⟩:=ap hown;exact⟨a,c,cell_of_one hh,free_of_one hh,hown,aD (cell_of_one hh)⟩
theorem gM.lt {p:Nat}{w:World}{l:List TR}(h:gM p w l):p<w.heap.size:=by obtain⟨_,_,_,_,_,h⟩:=h.open;exact h
theorem il {w W:World}{cs:Array Value}{e:TypeId}(hB:Below (w.heap.size+1) (w.alloc (.cells cs e)) W):Below w.heap.size w W∧∀ j u,cs[j]?=some u→W.cell? ⟨w.heap.size,j,none⟩=some u:=by
 refine⟨bt (af _ _) (hB.mono (by simp)),fun j u h=>?_⟩;rw[hB.cell (p:=⟨w.heap.size,j,none⟩) (Nat.lt_succ_self _),World.cell?_alloc_new];exact h
theorem sz (p:Nat)(b off:Nat)(x:PR)(l:List TR)(w:World)(h1:w.cell? ⟨b,off,none⟩=some (.string (bs x.1)))(h2:w.cell? ⟨b,off+1,none⟩=some (.string (bs x.2)))(hbox:gM p w l)(hl:(l.length+1)*56≤140737488355328):Calls Tryz.prog 74 #[.pointer (some ⟨b,off,none⟩),.pointer none,.pointer (some ⟨p,0,none⟩)] w fun e w'=>e=.returned (.tuple #[])∧gM p w' (l++aU (some x) none)∧Below p w w':=by
 have HB:=zH hbox;have hp:=hbox.lt;have hb:=aD h1;clear hbox;go_enter Tryz.func74,Tryz.ntmps74;go_wp2;go_region;go_wp2;go_quiet (fail);obtain⟨W,hW⟩:=ex_ ((w.alloc (.cells #[.string (bs x.1),.string (bs x.2),.string { data:=#[] },.bool true,.bool false] 77)).drew.drewN nq);obtain⟨hBW,hcW⟩:=il (W:=W) (by rw[hW];exact Below.mono (bt (b_drew _) (DL _ _)) (by simp));have t0:=hcW 0 _ rfl;have t1:=hcW 1 _ rfl;have t2:=hcW 2 _ rfl;have t3:=hcW 3 _ rfl;have t4:=hcW 4 _ rfl;have HBW:=zH hBW;have HB2:=zH (HB.o.below hBW);obtain⟨av,cv,c,f,hown,hpW⟩:=HB2.o.open;have HO:=zH hown;rw[←hW];clear hW hcW hBW hown HB;go_wp2_with (at_builtin;go_must (refine dm.append1 W ⟨x.1,x.2,[],true,false⟩ rfl _ _ 51 rfl Tryz.underlying51 (p+1) _ l HO.o rfl _ rfl _ rfl _ rfl hl hpW ?_);intro g cap w' hown' hB';have c':=(hB'.cell (p:=⟨p,0,none⟩) (Nat.lt_succ_self p)).trans c;have f':=(hB'.frozen (p:=⟨p,0,none⟩) (Nat.lt_succ_self p)).trans f;have HO':=zH hown';have HB':=zH hB';clear hown' hB' c f t0 t1 t2 t3 t4);refine bodyPost_end (results_none rfl _ _ _) rfl ?_;have hst:=HB2.o.stored (l':=l++[⟨x.1,x.2,[],true,false⟩]) (g:=g) (cap:=cap) HB'.o (by rw[Ev];exact HO'.o);rw[Ev]at hst;exact⟨rfl,by rw[show aU (some x) none=[⟨x.1,x.2,[],true,false⟩] from rfl];exact hst.1,(HBW.o.mono (by omega)).trans hst.2⟩
theorem pL (p:Nat)(b off:Nat)(y:PR)(l:List TR)(w:World)(h1:w.cell? ⟨b,off,none⟩=some (.string (bs y.1)))(h2:w.cell? ⟨b,off+1,none⟩=some (.string (bs y.2)))(hbox:gM p w l)(hl:(l.length+1)*56≤140737488355328):Calls Tryz.prog 74 #[.pointer none,.pointer (some ⟨b,off,none⟩),.pointer (some ⟨p,0,none⟩)] w fun e w'=>e=.returned (.tuple #[])∧gM p w' (l++aU none (some y))∧Below p w w':=by
 have HB:=zH hbox;have hp:=hbox.lt;have hb:=aD h1;clear hbox;go_enter Tryz.func74,Tryz.ntmps74;go_wp2;go_region;go_wp2;go_quiet (fail);obtain⟨W,hW⟩:=ex_ ((w.alloc (.cells #[.string (bs y.1),.string { data:=#[] },.string (bs y.2),.bool false,.bool true] 77)).drew.drewN nq);obtain⟨hBW,hcW⟩:=il (W:=W) (by rw[hW];exact Below.mono (bt (b_drew _) (DL _ _)) (by simp));have t0:=hcW 0 _ rfl;have t1:=hcW 1 _ rfl;have t2:=hcW 2 _ rfl;have t3:=hcW 3 _ rfl;have t4:=hcW 4 _ rfl;have HBW:=zH hBW;have HB2:=zH (HB.o.below hBW);obtain⟨av,cv,c,f,hown,hpW⟩:=HB2.o.open;have HO:=zH hown;rw[←hW];clear hW hcW hBW hown HB;go_wp2_with (at_builtin;go_must (refine dm.append1 W ⟨y.1,[],y.2,false,true⟩ rfl _ _ 51 rfl Tryz.underlying51 (p+1) _ l HO.o rfl _ rfl _ rfl _ rfl hl hpW ?_);intro g cap w' hown' hB';have c':=(hB'.cell (p:=⟨p,0,none⟩) (Nat.lt_succ_self p)).trans c;have f':=(hB'.frozen (p:=⟨p,0,none⟩) (Nat.lt_succ_self p)).trans f;have HO':=zH hown';have HB':=zH hB';clear hown' hB' c f t0 t1 t2 t3 t4);refine bodyPost_end (results_none rfl _ _ _) rfl ?_;have hst:=HB2.o.stored (l':=l++[⟨y.1,[],y.2,false,true⟩]) (g:=g) (cap:=cap) HB'.o (by rw[Ev];exact HO'.o);rw[Ev]at hst;exact⟨rfl,by rw[show aU none (some y)=[⟨y.1,[],y.2,false,true⟩] from rfl];exact hst.1,(HBW.o.mono (by omega)).trans hst.2⟩
theorem GS {T:Prop} (h:T:=by
 clear he4;go_enter Tryz.func74,Tryz.ntmps74;go_wp2;go_region;go_wp2;go_region;go_wp2;go_quiet (fail);obtain⟨W,hW⟩:=ex_ ((w.alloc (.cells #[.string (bs y.1),.string (bs x.2),.string (bs y.2),.bool true,.bool true] 77)).drew.drew.drewN nq);obtain⟨hBW,hcW⟩:=il (W:=W) (by rw[hW];exact Below.mono (bt (bt (b_drew _) (b_drew _)) (DL _ _)) (by simp));have t0:=hcW 0 _ rfl;have t1:=hcW 1 _ rfl;have t2:=hcW 2 _ rfl;have t3:=hcW 3 _ rfl;have t4:=hcW 4 _ rfl;have HBW:=zH hBW;have HB2:=zH (HB.o.below hBW);obtain⟨av,cv,c,f,hown,hpW⟩:=HB2.o.open;have HO:=zH hown;rw[←hW];clear hW hcW hBW hown HB;go_wp2_with (at_builtin;go_must (refine dm.append1 W ⟨y.1,x.2,y.2,true,true⟩ rfl _ _ 51 rfl Tryz.underlying51 (p+1) _ l HO.o rfl _ rfl _ rfl _ rfl hl hpW ?_);intro g cap w' hown' hB';have c':=(hB'.cell (p:=⟨p,0,none⟩) (Nat.lt_succ_self p)).trans c;have f':=(hB'.frozen (p:=⟨p,0,none⟩) (Nat.lt_succ_self p)).trans f;have HO':=zH hown';have HB':=zH hB';clear hown' hB' c f t0 t1 t2 t3 t4);refine bodyPost_end (results_none rfl _ _ _) rfl ?_;have hst:=HB2.o.stored (l':=l++[⟨y.1,x.2,y.2,true,true⟩]) (g:=g) (cap:=cap) HB'.o (by rw[Ev];exact HO'.o);rw[Ev]at hst;exact⟨rfl,by rw[show aU (some x) (some y)=[⟨y.1,x.2,y.2,true,true⟩] from if_neg HNE.o];exact hst.1,(HBW.o.mono (by omega)).trans hst.2⟩
):T:=h
theorem zQ (p:Nat)(b off b' off':Nat)(x y:PR)(l:List TR)(w:World)(h1:w.cell? ⟨b,off,none⟩=some (.string (bs x.1)))(h2:w.cell? ⟨b,off+1,none⟩=some (.string (bs x.2)))(h3:w.cell? ⟨b',off',none⟩=some (.string (bs y.1)))(h4:w.cell? ⟨b',off'+1,none⟩=some (.string (bs y.2)))(hbox:gM p w l)(hl:(l.length+1)*56≤140737488355328):Calls Tryz.prog 74 #[.pointer (some ⟨b,off,none⟩),.pointer (some ⟨b',off',none⟩),.pointer (some ⟨p,0,none⟩)] w fun e w'=>e=.returned (.tuple #[])∧gM p w' (l++aU (some x) (some y))∧Below p w w':=by
 have HB:=zH hbox;have hp:=hbox.lt;have hb:=aD h1;have hb':=aD h3;clear hbox
 by_cases he:x=y
 ·subst he
  go_enter Tryz.func74,Tryz.ntmps74;go_wp2;go_region;go_wp2;go_region;go_wp2;go_quiet (fail);obtain⟨W,hW⟩:=ex_ ((w.alloc (.cells #[.string (bs x.1),.string (bs x.2),.string (bs x.2),.bool true,.bool true] 77)).drew.drew.drewN nq);obtain⟨hBW,hcW⟩:=il (W:=W) (by rw[hW];exact Below.mono (bt (bt (b_drew _) (b_drew _)) (DL _ _)) (by simp));have t0:=hcW 0 _ rfl;have t1:=hcW 1 _ rfl;have t2:=hcW 2 _ rfl;have t3:=hcW 3 _ rfl;have t4:=hcW 4 _ rfl;have HBW:=zH hBW;have HB2:=zH (HB.o.below hBW);obtain⟨av,cv,c,f,hown,hpW⟩:=HB2.o.open;have HO:=zH hown;rw[←hW];clear hW hcW hBW hown HB c f t0 t1 t2 t3 t4;go_wp2;refine bodyPost_end (results_none rfl _ _ _) rfl ?_;exact⟨rfl,by rw[show aU (some x) (some x)=[] from if_pos rfl,Ep];exact HB2.o,HBW.o.mono (by omega)⟩
 ·have HNE:=zH he
  have he4:=BV x y;rw[decide_eq_false he]at he4;clear he
  cases he2:(x.1==y.1)
  ·exact GS
  ·have he3:(x.2==y.2)=false:=by rw[he2,Bool.true_and]at he4;exact he4
   exact GS
def ws (t:TR):TR:=⟨t.key,t.now,t.was,t.has,t.had⟩
def fnd (k:LU_):List PR→Option (LU_)
 | []=>none
 | p::l=>if p.1=k then some p.2 else fnd k l
theorem Ar:∀ (l:List PR) (k:LU_) (i:Nat) (h:i<l.length),(∀ j (hj:j<l.length),j<i→l[j].1≠k)→l[i].1=k→fnd k l=some l[i].2
 | p::l,k,0,_,_,he=>by simp at he;simp[fnd,he]
 | p::l,k,i+1,h,hn,he=>by
  have h0:=hn 0 (by simp) (by omega);simp at h0;rw[fnd,if_neg h0,Ar l k i (by simpa using h) (fun j hj hji=>hn (j+1) (Nat.succ_lt_succ hj) (Nat.succ_lt_succ hji)) (by simpa using he)];simp
theorem sW:∀ (l:List PR) (k:LU_),(∀ j (hj:j<l.length),l[j].1≠k)→fnd k l=none
 | [],_,_=>rfl
 | p::l,k,hn=>by
  have h0:=hn 0 (by simp);simp at h0;rw[fnd,if_neg h0,sW l k fun j hj=>hn (j+1) (Nat.succ_lt_succ hj)]
theorem sX (v:Value)(l:List PR)(k:LU_)(w:World)(hr:RP w v l)(hl:l.length≤140737488355328):Calls Tryz.prog 84 #[v,.string (bs k)] w fun e w'=>e=.returned (.tuple #[.string (bs ((fnd k l).getD [])),.bool (fnd k l).isSome])∧w=w':=by
 obtain⟨a,cap,rfl,_,hc⟩:=hr.open;have HC:=zH hc;clear hc hr;go_enter Tryz.func84,Tryz.ntmps84;go_wp2
 go_loop [6] (fun t=>∃ i:Nat,i≤l.length∧t=.int .i64 (i:Int)∧Hid (∀ j (hj:j<l.length),j<i→l[j].1≠k)) (fun t=>l.length-(intOf t).toNat)
 case atStart=>exact⟨0,by omega,rfl,fun j _ h=>absurd h (by omega)⟩
 case round =>
  obtain⟨i,hi,rfl,hH⟩:=hrel
  by_cases h0:i<l.length
  ·obtain⟨b,off,rfl,c1,c2⟩:=HC.o i h0
   have kk0:=nn_ i;have kk1:(i:Int)<(l.length:Int):=by omega
   by_cases he:l[i].1=k
   ·have HF:=zH (Ar l k i h0 hH.o he)
    have hq:(l[i].1==k)=true:=by rw[beq_iff_eq];exact he
    clear he;go_wp2;go_ret2;exact⟨by rw[HF.o];rfl,rfl⟩
   ·have HE:=zH he
    have hq:(l[i].1==k)=false:=by rw[beq_eq_false_iff_ne];exact he
    clear he;go_wp2
    go_round
    case rel =>
     refine⟨i+1,by omega,by go_num,?_⟩;intro j hj hji
     by_cases e:j=i
     ·subst e;exact HE.o
     ·exact hH.o j hj (by omega)
    case measure=>simp[intOf];omega
  ·have HF:=zH (sW l k fun j hj=>hH.o j hj (by omega))
   obtain rfl:i=l.length:=by omega
   go_wp2;go_ret2;exact⟨by rw[HF.o];rfl,rfl⟩
def l40 (t:TR):Nat:=t.key.length+t.was.length+t.now.length
def n40 (l:List TR):Nat:=(l.map l40).sum
def eC (a b:List PR)(k:LU_):List TR :=
 if ((fnd k a).getD [] != (fnd k b).getD []||(fnd k a).isSome != (fnd k b).isSome)=true then [⟨k,(fnd k a).getD [],(fnd k b).getD [],(fnd k a).isSome,(fnd k b).isSome⟩] else []
def pP (a b:List PR):LL_:=(grp (srt (a++b))).map hk1
def Bc (a b:List PR):List TR:=(pP a b).flatMap (eC a b)
theorem zC (a b:List PR)(k:LU_):(eC a b k).length≤1:=by unfold eC;split<;>simp
theorem Ba (a b:List PR)(K:LL_):(K.flatMap (eC a b)).length≤K.length:=by
 induction K with
 | nil=>simp
 | cons k K ih=>rw[List.flatMap_cons,Ev,Ea];have:=zC a b k;omega
def jO (a b:List PR)(n:Nat)(e:Ending)(w:World):Prop :=
 match cP a&&cP b with
 | false=>e=.returned (.tuple #[.slice none 0 0,.int .i64 2])
 | true=>∃ v,e=.returned (.tuple #[v,.int .i64 0])∧dm.Own w n v (Bc a b)
theorem Aa (a b:List PR):(pP a b).length≤a.length+b.length:=by
 have:=bX (srt (a++b)).length (srt (a++b)) (Ei _);rw[bC,Ev]at this;unfold pP;rw[EV];exact this
theorem byj {m i n:Nat}(h1:m≤i)(h2:i≤n)(h3:n≤800000):(m+1)*56≤140737488355328:=by omega
theorem byk {a b:Nat}(h1:a≤400000)(h2:b≤400000):(a+b)*32≤140737488355328∧a+b≤1000000∧a+b≤800000∧(0+a)*32≤140737488355328:=by omega
theorem ze {w:World}{bZ:Nat}{v:Value}{K:LL_}(h:w.ownsRow bZ 9 1 v K.length (fk K)):∃ a c,v=.slice a K.length c∧∀ i (hi:i<K.length),∃ b off,a=some ⟨b,off,none⟩∧w.cell? ⟨b,off+i,none⟩=some (.string (bs K[i])):=by
 obtain⟨a,c,rfl,_,hc⟩:=DQ h;exact⟨a,c,rfl,fun i hi=>hc i _ (xf K i hi)⟩
theorem GT {T:Prop} (h:T:=by
 go_wp2;refine⟨⟨i+1,M,_,_,by go_num,rfl,h1,?_,HO4.o,HB4.o⟩,by simp[intOf];omega⟩;unfold Hid;rw[HKT.o,List.flatMap_append,←HM.o];rw[show List.flatMap (eC a b) [k]=[] by simp[eC,←HW1.o,←HW2'.o,←HH1.o,←HH2.o,HQ.o],Ep]
):T:=h
theorem A9 (v1 v2:Value)(a b:List PR)(w:World)(hr1:RP w v1 a)(hr2:RP w v2 b)(hla:a.length≤400000)(hlb:b.length≤400000):Calls Tryz.prog 45 #[v1,v2] w fun e w'=>jO a b w.heap.size e w'∧Bw_ w w':=by
 obtain⟨a1,c1,rfl,_,_⟩:=hr1.open;obtain⟨a2,c2,rfl,_,_⟩:=hr2.open;have HR1:=zH hr1;have HR2:=zH hr2;have HLA:=zH hla;have HLB:=zH hlb;clear hr1 hr2;go_enter Tryz.func45,Tryz.ntmps45;go_wp2_with fail
 cases hoa:cP a with
 | false =>
  have HOA:=zH hoa;clear hoa;refine(iJ _ a w HR1.o (En HLA.o (by decide))).mono ?_;rw[HOA.o];rintro e w2 ⟨rfl,hB2⟩;have HWW:=zH hB2;clear hB2;go_wp2;go_ret2;refine⟨?_,HWW.o⟩;unfold jO;rw[HOA.o,Bool.false_and]
  rfl
 | true =>
  have HOA:=zH hoa;clear hoa;refine(iJ _ a w HR1.o (En HLA.o (by decide))).mono ?_;rw[HOA.o];rintro e w2 ⟨rfl,hB2⟩;have HB2:=zH hB2;have HR22:=zH (HR2.o.below hB2);clear hB2;go_wp2_with fail
  cases hob:cP b with
  | false =>
   have HOB:=zH hob;clear hob;refine(iJ _ b w2 HR22.o (En HLB.o (by decide))).mono ?_;rw[HOB.o];rintro e w3 ⟨rfl,hB3⟩;have HWW:=zH (bt HB2.o hB3);clear hB3;go_wp2;go_ret2;refine⟨?_,HWW.o⟩;unfold jO;rw[HOB.o,Bool.and_false]
   rfl
  | true =>
   have HOB:=zH hob;clear hob;refine(iJ _ b w2 HR22.o (En HLB.o (by decide))).mono ?_;rw[HOB.o];rintro e w2' ⟨rfl,hB2'⟩;have HW2:=zH (bt HB2.o hB2');have HRA:=zH (HR1.o.below (bt HB2.o hB2'));have HRB:=zH (HR22.o.below hB2');clear hB2'
   go_wp2_with (first
    | (at_builtin;(refine dc w2' rfl _ _ 37 rfl Tryz.underlying37 w2'.heap.size (.slice none 0 0) [] rfl (OP.nil _ _) (.slice a1 a.length c1) a rfl HRA.o (byk HLA.o HLB.o).2.2.2 (Ei _) ?_);intro v5 w5 hown5 hB5;rw[Eu]at hown5;obtain⟨a5,c5,rfl⟩:=ap hown5;have HO5:=zH hown5;have HB5:=zH hB5;have HRB5:=zH (HRB.o.below hB5);clear hown5 hB5)
    | (at_builtin;(refine dc w5 rfl _ _ 37 rfl Tryz.underlying37 w2'.heap.size (.slice a5 a.length c5) a rfl HO5.o (.slice a2 b.length c2) b rfl HRB5.o (byk HLA.o HLB.o).1 HB5.o.size ?_);intro v6 w6 hown6 hB6;have HO6:=zH hown6;have HB6:=zH (HB5.o.trans hB6);clear hown6 hB6)
    | fail)
   refine(py _ (a++b) w6 (OP.reads HO6.o) (by rw[Ev];exact(byk HLA.o HLB.o).2.1)).mono ?_;rintro e w7 ⟨⟨u7,rfl,hown7⟩,hB7⟩;obtain⟨K,hK⟩:=ex_ (pP a b);have hown7':w7.ownsRow w6.heap.size 9 1 u7 K.length (fk K):=by rw[hK];exact hown7
   obtain⟨aK,cK,rfl,hcK⟩:=ze hown7';have HCK:=zH hcK;have HKK:=zH hK;have HKL:=zH (show K.length≤800000 by rw[hK];exact En (Aa a b) (byk HLA.o HLB.o).2.2.1);have HB7:=zH (HB6.o.trans (hB7.mono HB6.o.size));have HRA7:=zH (HRA.o.below HB7.o);have HRB7:=zH (HRB.o.below HB7.o);clear hown7 hown7' hcK hK hB7;go_wp2
   go_loopw [7,8] (fun vo vi wr=>∃ i:Nat,∃ M Av Cv,vi=.int .i64 (i:Int)∧vo=.slice Av (List.length M) Cv∧i≤K.length∧Hid (M=(K.take i).flatMap (eC a b))∧Hid (dm.Own wr w7.heap.size (.slice Av M.length Cv) M)∧Hid (Below w7.heap.size w7 wr)) (fun _ i _=>K.length-(intOf i).toNat)
   case atStart=>exact⟨0,[],none,0,rfl,rfl,by omega,rfl,Rec.Own.nil _ _,dB _⟩
   case round =>
    obtain⟨i,M,Av,Cv,rfl,rfl,hi,HM,HO4,HB4⟩:=hrel;obtain⟨Wr,hWr⟩:=ex_ wr;subst hWr
    by_cases h1:i<K.length
    ·obtain⟨b',off',rfl,d1⟩:=HCK.o i h1
     have d2:=DK HB4.o d1;obtain⟨k,hk⟩:=ex_ (K[i]);rw[←hk]at d2;have HKT:=zH (show K.take (i+1)=K.take i++[k] by rw[hk,Ef h1]);obtain⟨W1,hW1⟩:∃ x,x=(fnd k a).getD []:=⟨_,rfl⟩
     obtain⟨W2,hW2⟩:∃ x,x=(fnd k b).getD []:=⟨_,rfl⟩
     obtain⟨b1,hh1⟩:∃ x,x=(fnd k a).isSome:=⟨_,rfl⟩
     obtain⟨b2,hh2⟩:∃ x,x=(fnd k b).isSome:=⟨_,rfl⟩
     have hf1:=sX _ a k Wr (HRA7.o.below HB4.o) (En HLA.o (by decide));have hf2:=sX _ b k Wr (HRB7.o.below HB4.o) (En HLB.o (by decide));rw[←hW1,←hh1]at hf1;rw[←hW2,←hh2]at hf2;have HF1:=zH hf1;have HF2:=zH hf2;have HW1:=zH hW1;have HW2':=zH hW2;have HH1:=zH hh1;have HH2:=zH hh2;have hml:M.length≤i:=by rw[HM.o];exact En (Ba a b _) (by rw[EJ];exact Nat.min_le_left _ _)
     have hby:=byj hml hi HKL.o;have hsz4:=HB4.o.size;have i0:=nn_ i;have i1:(i:Int)<(K.length:Int):=by omega
     have i2:(i:Int)<800000:=by have:=HKL.o;omega
     have i3:K.length≤800000:=HKL.o;clear d1 hk hf1 hf2 hW1 hW2 hh1 hh2 hml;go_wp2_with fail;refine HF1.o.mono ?_;rintro e w8 ⟨rfl,rfl⟩;go_wp2_with fail;refine HF2.o.mono ?_;rintro e w8 ⟨rfl,rfl⟩
     cases hq:(W1==W2) with
     | false =>
      have hq2:(W1 != W2)=true:=by rw[bne,hq];rfl
      have HQ:=zH hq2;go_wp2_with (at_builtin;go_must (refine dm.append1 Wr ⟨k,W1,W2,b1,b2⟩ rfl _ _ 51 rfl Tryz.underlying51 w7.heap.size _ M HO4.o rfl _ rfl _ rfl _ rfl hby hsz4 ?_);intro g cap w5 hown5 hB5;have HO5:=zH hown5;have HB5:=zH hB5;clear hown5 hB5);refine⟨⟨i+1,M++[⟨k,W1,W2,b1,b2⟩],_,_,by go_num,by rw[Ev];rfl,h1,?_,by rw[Ev];exact HO5.o,HB4.o.trans HB5.o⟩,by simp[intOf];omega⟩;unfold Hid;rw[HKT.o,List.flatMap_append,←HM.o];rw[show List.flatMap (eC a b) [k]=[⟨k,W1,W2,b1,b2⟩] by simp[eC,←HW1.o,←HW2'.o,←HH1.o,←HH2.o,HQ.o]]
     | true =>
      have hq2:(W1 != W2)=false:=by rw[bne,hq];rfl
      have HQ:=zH hq2
      cases b1 with
      | false =>
       cases b2 with
       | false =>
        exact GT
       | true =>
        go_wp2_with (at_builtin;go_must (refine dm.append1 Wr ⟨k,W1,W2,false,true⟩ rfl _ _ 51 rfl Tryz.underlying51 w7.heap.size _ M HO4.o rfl _ rfl _ rfl _ rfl hby hsz4 ?_);intro g cap w5 hown5 hB5;have HO5:=zH hown5;have HB5:=zH hB5;clear hown5 hB5);refine⟨⟨i+1,M++[⟨k,W1,W2,false,true⟩],_,_,by go_num,by rw[Ev];rfl,h1,?_,by rw[Ev];exact HO5.o,HB4.o.trans HB5.o⟩,by simp[intOf];omega⟩;unfold Hid;rw[HKT.o,List.flatMap_append,←HM.o];rw[show List.flatMap (eC a b) [k]=[⟨k,W1,W2,false,true⟩] by simp[eC,←HW1.o,←HW2'.o,←HH1.o,←HH2.o,HQ.o]]
      | true =>
       cases b2 with
       | false =>
        go_wp2_with (at_builtin;go_must (refine dm.append1 Wr ⟨k,W1,W2,true,false⟩ rfl _ _ 51 rfl Tryz.underlying51 w7.heap.size _ M HO4.o rfl _ rfl _ rfl _ rfl hby hsz4 ?_);intro g cap w5 hown5 hB5;have HO5:=zH hown5;have HB5:=zH hB5;clear hown5 hB5);refine⟨⟨i+1,M++[⟨k,W1,W2,true,false⟩],_,_,by go_num,by rw[Ev];rfl,h1,?_,by rw[Ev];exact HO5.o,HB4.o.trans HB5.o⟩,by simp[intOf];omega⟩;unfold Hid;rw[HKT.o,List.flatMap_append,←HM.o];rw[show List.flatMap (eC a b) [k]=[⟨k,W1,W2,true,false⟩] by simp[eC,←HW1.o,←HW2'.o,←HH1.o,←HH2.o,HQ.o]]
       | true =>
        exact GT
    ·obtain rfl:i=K.length:=by omega
     have hfin:=HM.o;rw[List.take_length]at hfin;have HF:=zH (show M=Bc a b by rw[hfin,HKK.o];rfl);clear hfin;go_wp2;go_ret2;refine⟨?_,HW2.o.trans ((HB7.o.trans (HB4.o.mono HB7.o.size)).mono HW2.o.size)⟩;unfold jO;rw[HOA.o,HOB.o,←HF.o];exact⟨_,rfl,Rec.Own.mono HO4.o (En HW2.o.size HB7.o.size)⟩
end
section
theorem cM {P:Program}{ops:Array Oper}{C:World→Prop}{R:World→World→Prop}{F:Nat→Option (aJ R)}{Q:au→Act→Prop}{k:Nat}{S:au}{a:Act}(h:Q S a):wpG P ops C R F Q k [] S a:=h
attribute [local irreducible] wpG
def steps {α β:Type}(ka:α→LU_)(kb:β→LU_):List α→List β→List (Option α×Option β)
 | [],[]=>[]
 | x::a,[]=>(some x,none)::steps ka kb a []
 | [],y::b=>(none,some y)::steps ka kb [] b
 | x::a,y::b=>if lt (ka x) (kb y) then (some x,none)::steps ka kb a (y::b) else if lt (kb y) (ka x) then (none,some y)::steps ka kb (x::a) b else (some x,some y)::steps ka kb a b
termination_by a b=>a.length+b.length
def ofF (a b:List PR):List TR:=(steps Prod.fst Prod.fst a b).flatMap fun s=>aU s.1 s.2
theorem k6:ofF [] []=[]:=by rw[ofF,steps];rfl
theorem jy (x:PR)(a:List PR):ofF (x::a) []=aU (some x) none++ofF a []:=by rw[ofF,steps,List.flatMap_cons];rfl
theorem gi (y:PR)(b:List PR):ofF [] (y::b)=aU none (some y)++ofF [] b:=by rw[ofF,steps,List.flatMap_cons];rfl
theorem lN (x y:PR)(a b:List PR)(h:lt x.1 y.1=true):ofF (x::a) (y::b)=aU (some x) none++ofF a (y::b):=by rw[ofF,steps,if_pos h,List.flatMap_cons];rfl
theorem nN (x y:PR)(a b:List PR)(h:lt x.1 y.1=false)(h2:lt y.1 x.1=true):ofF (x::a) (y::b)=aU none (some y)++ofF (x::a) b:=by rw[ofF,steps,if_neg (by rw[h];simp),if_pos h2,List.flatMap_cons];rfl
theorem lO (x y:PR)(a b:List PR)(h:lt x.1 y.1=false)(h2:lt y.1 x.1=false):ofF (x::a) (y::b)=aU (some x) (some y)++ofF a b:=by rw[ofF,steps,if_neg (by rw[h];simp),if_neg (by rw[h2];simp),List.flatMap_cons];rfl
theorem dG (o p:Option PR):(aU o p).length≤1:=by
 cases o<;>cases p<;>simp[aU]
 split<;>simp
theorem b56 {d na nb m:Nat}(h:d+na+nb≤m)(hm:(m+1)*56≤140737488355328):(d+1)*56≤140737488355328:=by omega
theorem jA {d t:List TR}{na nb na' nb' m:Nat}(h:d.length+na+nb≤m)(ht:t.length≤1)(h2:na'+nb'+1≤na+nb):(d++t).length+na'+nb'≤m:=by rw[Ev];omega
theorem wd (n m:Nat):n+m<(n+1)+(m+1):=by omega
theorem BY (n:Nat):n+0+1≤n+1+0:=by omega
theorem BX (n:Nat):0+n+1≤0+(n+1):=by omega
theorem zR (n m:Nat):n+(m+1)+1≤(n+1)+(m+1):=by omega
theorem zS (n m:Nat):(n+1)+m+1≤(n+1)+(m+1):=by omega
theorem zT (n m:Nat):n+m+1≤(n+1)+(m+1):=by omega
theorem DY {w:World}{a:Option Addr}{m c:Nat}{x:PR}{r:List PR}(h:RP w (.slice a (m+1) c) (x::r))(hm:m=r.length):∃ b off A C,a=some ⟨b,off,none⟩∧w.cell? ⟨b,off,none⟩=some (.string (bs x.1))∧w.cell? ⟨b,off+1,none⟩=some (.string (bs x.2)) ∧(∀ wx,(Instr.slice 37 (.slice a (m+1) c) (some (.int .i64 1)) none none).run Tryz.prog wx=.ok (.slice A m C) wx)∧RP w (.slice A m C) r:=by
 subst hm;have h':RP w (.slice a (x::r).length c) (x::r):=h;obtain⟨A,C,hrun,hr⟩:=h'.cutRun 1 1 rfl (by simp);obtain⟨a',c',hv,_,hc⟩:=h'.open;injection hv with e1 _ _
 subst e1;obtain⟨b,off,ha,h1,h2⟩:=hc 0 (by simp);rw[Nat.zero_mul,Nat.add_zero]at h1 h2;simp only[Ea,Nat.add_sub_cancel,EA,EL]at hrun hr;exact⟨b,off,A,C,ha,h1,h2,hrun,hr⟩
theorem GU {T:Prop} (h:T:=by
 go_simp;exact(eK x.1 y.1 w').mono fun _ _ ⟨he,hw⟩=>⟨_,by rw[he,HCF.o],hG _ (by rw[←hw];exact Bel.refl _)⟩
):T:=h
theorem GV {T:Prop} (h:T:=by
 have c1:=DK hB HY1.o;have c2:=DK hB HY2.o;go_simp;exact hG _ (Bel.refl _)
):T:=h
theorem GW {T:Prop} (h:T:=by
 have c1:=DK hB HX1.o;have c2:=DK hB HX2.o;go_simp;exact hG _ (Bel.refl _)
):T:=h
theorem vz (v1 v2:Value)(a b:List PR)(w0 w:World)(hr1:RP w0 v1 a)(hr2:RP w0 v2 b)(hbox:gM w0.heap.size w [])(hB:Below w0.heap.size w0 w)(hl:(a.length+b.length+1)*56≤140737488355328):Calls Tryz.prog 72 #[v1,v2,.func (.func 73) #[] #[],.func (.func 73) #[] #[],.func (.func 74) #[] #[.pointer (some ⟨w0.heap.size,0,none⟩)]] w fun e w'=>e=.returned (.tuple #[])∧gM w0.heap.size w' (ofF a b)∧Below w0.heap.size w0 w':=by
 obtain⟨a1,c1,rfl,_,_⟩:=hr1.open;obtain⟨a2,c2,rfl,_,_⟩:=hr2.open;have HR1:=zH hr1;have HR2:=zH hr2;have HBX:=zH hbox;have HBW:=zH hB;have HLB:=zH hl;clear hr1 hr2 hbox hB hl;go_enter Tryz.func72,Tryz.ntmps72;go_wp2
 go_loopw [0,1] (fun v0 v1 wr=>∃ ra rb done,∃ n0 n1:Nat,∃ A0 C0 A1 C1,v0=.slice A0 n0 C0∧v1=.slice A1 n1 C1∧n0=ra.length∧n1=rb.length∧Hid (RP w0 (.slice A0 n0 C0) ra)∧Hid (RP w0 (.slice A1 n1 C1) rb)∧Hid (done++ofF ra rb=ofF a b)∧Hid (done.length+ra.length+rb.length≤a.length+b.length)∧Hid (gM w0.heap.size wr done)∧Hid (Below w0.heap.size w0 wr)) (fun v0 v1 _=>kd v0+kd v1)
 case atStart=>exact⟨a,b,[],_,_,_,_,_,_,rfl,rfl,rfl,rfl,HR1.o,HR2.o,rfl,by simp[Hid],HBX.o,HBW.o⟩
 case round =>
  clear HR1 HR2 HBX HBW;obtain⟨ra,rb,done,n0,n1,A0,C0,A1,C1,rfl,rfl,hn0,hn1,HRA,HRB,HEQ0,HLEN,HBX,HBW⟩:=hrel;obtain⟨Wr,hWr⟩:=ex_ wr;subst hWr
  cases ra with
  | nil =>
   obtain rfl:n0=0:=hn0
   cases rb with
   | nil =>
    obtain rfl:n1=0:=hn1;go_wp2;refine bodyPost_end (results_none rfl _ _ _) rfl ?_;have:=HEQ0.o;rw[k6,Ep]at this;exact⟨rfl,by rw[←this];exact HBX.o,HBW.o⟩
   | cons y r2 =>
    obtain⟨m1,rfl⟩:∃ m,n1=m+1:=⟨r2.length,by simpa using hn1⟩
    have HM1:=zH (show m1=r2.length by simpa using hn1);clear hn1;obtain⟨b2,o2,A3,C3,rfl,cy1,cy2,ry,hry⟩:=DY HRB.o HM1.o;have HY1:=zH (DK HBW.o cy1);have HY2:=zH (DK HBW.o cy2);have HR2:=zH hry;clear cy1 cy2 hry;have j0:(0:Int)<(m1:Int)+1:=by omega
    have j1:(1:Int)≤(m1:Int)+1:=by omega
    have j2:(((m1:Int)+1)==0)=false:=by rw[beq_eq_false_iff_ne];omega
    have HB2:=zH (dB Wr);go_wp2;refine rk_ [] ?_;refine cG ?_;refine cM ?_;intro w3 hB3 hA3;have HB3:=zH (bt HB2.o hB3);clear hB3 hA3;have zy1:=DK HB3.o HY1.o;have zy2:=DK HB3.o HY2.o;have HC:=zH (pL w0.heap.size _ _ y done _ zy1 zy2 (HBX.o.below HB3.o) (b56 HLEN.o HLB.o));clear zy1 zy2;go_wp2_with fail;refine HC.o.mono ?_;rintro e w6 ⟨rfl,hbox6,hB6⟩;have HBX6:=zH hbox6;have HB6:=zH (HBW.o.trans ((HB3.o.mono HBW.o.size).trans hB6));clear hbox6 hB6 HC;go_wp2
    have HEQ:(done++aU none (some y))++ofF ([]:List PR) r2=ofF a b:=by
     have:=HEQ0.o;rw[gi]at this;rw[←this,Et]
    have HLE:(done++aU none (some y)).length+([]:List PR).length+r2.length≤a.length+b.length:=jA HLEN.o (dG none (some y)) (BX r2.length);have HREL:=zH (And.intro HEQ HLE);clear HEQ HLE;go_roundw
    case rel=>exact⟨([]:List PR),r2,done++aU none (some y),0,m1,_,_,_,_,rfl,rfl,rfl,HM1.o,HRA.o,HR2.o,HREL.o.1,HREL.o.2,HBX6.o,HB6.o⟩
    case measure=>simp[kd]
  | cons x r1 =>
   obtain⟨m0,rfl⟩:∃ m,n0=m+1:=⟨r1.length,by simpa using hn0⟩
   have HM0:=zH (show m0=r1.length by simpa using hn0);obtain⟨b1,o1,A2,C2,rfl,cx1,cx2,rx,hrx⟩:=DY HRA.o HM0.o;have HX1:=zH (DK HBW.o cx1);have HX2:=zH (DK HBW.o cx2);have HR1:=zH hrx;clear cx1 cx2 hrx;have i0:(0:Int)<(m0:Int)+1:=by omega
   have i1:(1:Int)≤(m0:Int)+1:=by omega
   have i2:(((m0:Int)+1)==0)=false:=by rw[beq_eq_false_iff_ne];omega
   cases rb with
   | nil =>
    obtain rfl:n1=0:=hn1;clear hn0;have HB2:=zH (dB Wr);go_wp2;refine rk_ [] ?_;refine cG ?_;refine cM ?_;intro w3 hB3 hA3;have HB3:=zH (bt HB2.o hB3);clear hB3 hA3;have zx1:=DK HB3.o HX1.o;have zx2:=DK HB3.o HX2.o;have HC:=zH (sz w0.heap.size _ _ x done _ zx1 zx2 (HBX.o.below HB3.o) (b56 HLEN.o HLB.o));clear zx1 zx2;go_wp2_with fail;refine HC.o.mono ?_;rintro e w6 ⟨rfl,hbox6,hB6⟩;have HBX6:=zH hbox6;have HB6:=zH (HBW.o.trans ((HB3.o.mono HBW.o.size).trans hB6));clear hbox6 hB6 HC;go_wp2
    have HEQ:(done++aU (some x) none)++ofF r1 ([]:List PR)=ofF a b:=by
     have:=HEQ0.o;rw[jy]at this;rw[←this,Et]
    have HLE:(done++aU (some x) none).length+r1.length+([]:List PR).length≤a.length+b.length:=jA HLEN.o (dG (some x) none) (BY r1.length);have HREL:=zH (And.intro HEQ HLE);clear HEQ HLE;go_roundw
    case rel=>exact⟨r1,([]:List PR),done++aU (some x) none,m0,0,_,_,_,_,rfl,rfl,HM0.o,rfl,HR1.o,HRB.o,HREL.o.1,HREL.o.2,HBX6.o,HB6.o⟩
    case measure=>simp[kd]
   | cons y r2 =>
    obtain⟨m1,rfl⟩:∃ m,n1=m+1:=⟨r2.length,by simpa using hn1⟩
    have HM1:=zH (show m1=r2.length by simpa using hn1);clear hn0 hn1;obtain⟨b2,o2,A3,C3,rfl,cy1,cy2,ry,hry⟩:=DY HRB.o HM1.o;have HY1:=zH (DK HBW.o cy1);have HY2:=zH (DK HBW.o cy2);have HR2:=zH hry;clear cy1 cy2 hry;have j0:(0:Int)<(m1:Int)+1:=by omega
    have j1:(1:Int)≤(m1:Int)+1:=by omega
    have j2:(((m1:Int)+1)==0)=false:=by rw[beq_eq_false_iff_ne];omega
    cases hlt:lt x.1 y.1 with
    | true =>
     have HL1:=zH hlt;clear hlt;have hcf:lp x.1 y.1=(-1):=by unfold lp;rw[HL1.o];rfl
     have HCF:=zH hcf;clear hcf;go_wp2;refine rk_ [(3,.exact Bel (.agg #[.string (bs x.1),.string (bs x.2)])),(4,.exact Bel (.string (bs x.1))),(8,.exact Bel (.agg #[.string (bs y.1),.string (bs y.2)])),(9,.exact Bel (.string (bs y.1))),(10,.exact Bel (.int .i64 (-1)))] ?_;refine cG ?_;refine gE_ (fun w' G hB hS hG=>?_) (fun K hK=>?_)
     ·exact GW
     refine cO ?_;clear hK K;refine gE_ (fun w' G hB hS hG=>?_) (fun K hK=>?_)
     ·go_simp
      exact aH hG (fX x w')
     refine cO ?_;clear hK K;refine gE_ (fun w' G hB hS hG=>?_) (fun K hK=>?_)
     ·exact GV
     refine cO ?_;clear hK K;refine gE_ (fun w' G hB hS hG=>?_) (fun K hK=>?_)
     ·go_simp
      exact aH hG (fX y w')
     refine cO ?_;clear hK K;refine gE_ (fun w' G hB hS hG=>?_) (fun K hK=>?_)
     ·exact GU
     refine cO ?_;clear hK K;refine cM ?_;intro w2 hB2 hA2;have HB2:=zH hB2;clear hB2 hA2;go_wp2;refine rk_ [] ?_;refine cG ?_;refine cM ?_;intro w3 hB3 hA3;have HB3:=zH (bt HB2.o hB3);clear hB3 hA3;have zx1:=DK HB3.o HX1.o;have zx2:=DK HB3.o HX2.o;have HC:=zH (sz w0.heap.size _ _ x done _ zx1 zx2 (HBX.o.below HB3.o) (b56 HLEN.o HLB.o));clear zx1 zx2;go_wp2_with fail;refine HC.o.mono ?_;rintro e w6 ⟨rfl,hbox6,hB6⟩;have HBX6:=zH hbox6;have HB6:=zH (HBW.o.trans ((HB3.o.mono HBW.o.size).trans hB6));clear hbox6 hB6 HC;go_wp2
     have HEQ:(done++aU (some x) none)++ofF r1 (y::r2)=ofF a b:=by
      have:=HEQ0.o;rw[lN _ _ _ _ HL1.o]at this;rw[←this,Et]
     have HLE:(done++aU (some x) none).length+r1.length+(y::r2).length≤a.length+b.length:=jA HLEN.o (dG (some x) none) (zR r1.length r2.length);have HREL:=zH (And.intro HEQ HLE);clear HEQ HLE;go_roundw
     case rel=>exact⟨r1,(y::r2),done++aU (some x) none,m0,(m1+1),_,_,_,_,rfl,rfl,HM0.o,(by rw[Ea,←HM1.o]),HR1.o,HRB.o,HREL.o.1,HREL.o.2,HBX6.o,HB6.o⟩
     case measure=>simp[kd]
    | false =>
     have HL1:=zH hlt;clear hlt
     cases hgt:lt y.1 x.1 with
     | true =>
      have HL2:=zH hgt;clear hgt;have hcf:lp x.1 y.1=1:=by unfold lp;rw[HL1.o,HL2.o];rfl
      have HCF:=zH hcf;clear hcf;go_wp2;refine rk_ [(3,.exact Bel (.agg #[.string (bs x.1),.string (bs x.2)])),(4,.exact Bel (.string (bs x.1))),(8,.exact Bel (.agg #[.string (bs y.1),.string (bs y.2)])),(9,.exact Bel (.string (bs y.1))),(10,.exact Bel (.int .i64 1))] ?_;refine cG ?_;refine gE_ (fun w' G hB hS hG=>?_) (fun K hK=>?_)
      ·exact GW
      refine cO ?_;clear hK K;refine gE_ (fun w' G hB hS hG=>?_) (fun K hK=>?_)
      ·go_simp
       exact aH hG (fX x w')
      refine cO ?_;clear hK K;refine gE_ (fun w' G hB hS hG=>?_) (fun K hK=>?_)
      ·exact GV
      refine cO ?_;clear hK K;refine gE_ (fun w' G hB hS hG=>?_) (fun K hK=>?_)
      ·go_simp
       exact aH hG (fX y w')
      refine cO ?_;clear hK K;refine gE_ (fun w' G hB hS hG=>?_) (fun K hK=>?_)
      ·exact GU
      refine cO ?_;clear hK K;refine cM ?_;intro w2 hB2 hA2;have HB2:=zH hB2;clear hB2 hA2;go_wp2;refine rk_ [] ?_;refine cG ?_;refine cM ?_;intro w3 hB3 hA3;have HB3:=zH (bt HB2.o hB3);clear hB3 hA3;have zy1:=DK HB3.o HY1.o;have zy2:=DK HB3.o HY2.o;have HC:=zH (pL w0.heap.size _ _ y done _ zy1 zy2 (HBX.o.below HB3.o) (b56 HLEN.o HLB.o));clear zy1 zy2;go_wp2_with fail;refine HC.o.mono ?_;rintro e w6 ⟨rfl,hbox6,hB6⟩;have HBX6:=zH hbox6;have HB6:=zH (HBW.o.trans ((HB3.o.mono HBW.o.size).trans hB6));clear hbox6 hB6 HC;go_wp2
      have HEQ:(done++aU none (some y))++ofF (x::r1) r2=ofF a b:=by
       have:=HEQ0.o;rw[nN _ _ _ _ HL1.o HL2.o]at this;rw[←this,Et]
      have HLE:(done++aU none (some y)).length+(x::r1).length+r2.length≤a.length+b.length:=jA HLEN.o (dG none (some y)) (zS r1.length r2.length);have HREL:=zH (And.intro HEQ HLE);clear HEQ HLE;go_roundw
      case rel=>exact⟨(x::r1),r2,done++aU none (some y),(m0+1),m1,_,_,_,_,rfl,rfl,(by rw[Ea,←HM0.o]),HM1.o,HRA.o,HR2.o,HREL.o.1,HREL.o.2,HBX6.o,HB6.o⟩
      case measure=>simp[kd]
     | false =>
      have HL2:=zH hgt;clear hgt;have hcf:lp x.1 y.1=0:=by unfold lp;rw[HL1.o,HL2.o];rfl
      have HCF:=zH hcf;clear hcf;go_wp2;refine rk_ [(3,.exact Bel (.agg #[.string (bs x.1),.string (bs x.2)])),(4,.exact Bel (.string (bs x.1))),(8,.exact Bel (.agg #[.string (bs y.1),.string (bs y.2)])),(9,.exact Bel (.string (bs y.1))),(10,.exact Bel (.int .i64 0))] ?_;refine cG ?_;refine gE_ (fun w' G hB hS hG=>?_) (fun K hK=>?_)
      ·exact GW
      refine cO ?_;clear hK K;refine gE_ (fun w' G hB hS hG=>?_) (fun K hK=>?_)
      ·go_simp
       exact aH hG (fX x w')
      refine cO ?_;clear hK K;refine gE_ (fun w' G hB hS hG=>?_) (fun K hK=>?_)
      ·exact GV
      refine cO ?_;clear hK K;refine gE_ (fun w' G hB hS hG=>?_) (fun K hK=>?_)
      ·go_simp
       exact aH hG (fX y w')
      refine cO ?_;clear hK K;refine gE_ (fun w' G hB hS hG=>?_) (fun K hK=>?_)
      ·exact GU
      refine cO ?_;clear hK K;refine cM ?_;intro w2 hB2 hA2;have HB2:=zH hB2;clear hB2 hA2;go_wp2;refine rk_ [] ?_;refine cG ?_;refine cM ?_;intro w3 hB3 hA3;have HB3:=zH (bt HB2.o hB3);clear hB3 hA3;go_wp2;refine rk_ [] ?_;refine cG ?_;refine cM ?_;intro w4 hB4 hA4;have HB4:=zH (bt HB3.o hB4);clear hB4 hA4;have zx1:=DK HB4.o HX1.o;have zx2:=DK HB4.o HX2.o;have zy1:=DK HB4.o HY1.o;have zy2:=DK HB4.o HY2.o;have HC:=zH (zQ w0.heap.size _ _ _ _ x y done _ zx1 zx2 zy1 zy2 (HBX.o.below HB4.o) (b56 HLEN.o HLB.o));clear zx1 zx2 zy1 zy2;go_wp2_with fail;refine HC.o.mono ?_;rintro e w6 ⟨rfl,hbox6,hB6⟩;have HBX6:=zH hbox6;have HB6:=zH (HBW.o.trans ((HB4.o.mono HBW.o.size).trans hB6));clear hbox6 hB6 HC;go_wp2
      have HEQ:(done++aU (some x) (some y))++ofF r1 r2=ofF a b:=by
       have:=HEQ0.o;rw[lO _ _ _ _ HL1.o HL2.o]at this;rw[←this,Et]
      have HLE:(done++aU (some x) (some y)).length+r1.length+r2.length≤a.length+b.length:=jA HLEN.o (dG (some x) (some y)) (zT r1.length r2.length);have HREL:=zH (And.intro HEQ HLE);clear HEQ HLE;go_roundw
      case rel=>exact⟨r1,r2,done++aU (some x) (some y),m0,m1,_,_,_,_,rfl,rfl,HM0.o,HM1.o,HR1.o,HR2.o,HREL.o.1,HREL.o.2,HBX6.o,HB6.o⟩
      case measure=>exact wd m0 m1
end
section
theorem fm {P:Program}{fn:Func}{p u:Tmp}{ty:TypeId}{tmps:Array Value}{w:World}{v:Value}{b:Nat}(hr:fn.results=#[.cell p ty,.tmp u])(hp:tmps.getD p undef=.pointer (some ⟨b,0,none⟩))(hl:(loadVar ty ⟨b,0,none⟩).run P w=.ok v w):(results fn tmps).run P w=.ok (.tuple #[v,tmps.getD u undef]) w:=by
 simp only[Array.getD_eq_getD_getElem?]at hp⊢;simp[results,hr,Sem.run_bind,Result.andThen,hp,asAddr,hl]
theorem dN {P:Program}{fn:Func}{p q:Tmp}{ty tq:TypeId}{tmps:Array Value}{w:World}{v u:Value}{b c:Nat}(hr:fn.results=#[.cell p ty,.cell q tq])(hp:tmps.getD p undef=.pointer (some ⟨b,0,none⟩))(hq:tmps.getD q undef=.pointer (some ⟨c,0,none⟩))(hl:(loadVar ty ⟨b,0,none⟩).run P w=.ok v w)(hl2:(loadVar tq ⟨c,0,none⟩).run P w=.ok u w):(results fn tmps).run P w=.ok (.tuple #[v,u]) w:=by
 simp only[Array.getD_eq_getD_getElem?]at hp hq⊢;simp[results,hr,Sem.run_bind,Result.andThen,hp,hq,asAddr,hl,hl2]
theorem kC {w:World}{b:Nat}{v:Value}(h:w.cell? ⟨b,0,none⟩=some v):(loadVar 51 ⟨b,0,none⟩).run Tryz.prog w=.ok v w:=by simp[go_sem,h]
theorem iM {w:World}{b:Nat}{v:Value}(h:w.cell? ⟨b,0,none⟩=some v):(loadVar 37 ⟨b,0,none⟩).run Tryz.prog w=.ok v w:=by simp[go_sem,h]
theorem iN {w:World}{b:Nat}{v:Value}(h:w.cell? ⟨b,0,none⟩=some v):(loadVar 33 ⟨b,0,none⟩).run Tryz.prog w=.ok v w:=by simp[go_sem,h]
def iw (a b:List PR)(n:Nat)(e:Ending)(w:World):Prop :=
 match cP a&&cP b with
 | false=>e=.returned (.tuple #[.slice none 0 0,.int .i64 2])
 | true=>∃ v,e=.returned (.tuple #[v,.int .i64 0])∧dm.Own w n v (ofF a b)
theorem iw.bad {a b:List PR}{n:Nat}{e:Ending}{w:World}(h:iw a b n e w)(hh:(cP a&&cP b)=false):e=.returned (.tuple #[.slice none 0 0,.int .i64 2]):=by
 unfold iw at h;rw[hh]at h;exact h
theorem iw.good {a b:List PR}{n:Nat}{e:Ending}{w:World}(h:iw a b n e w)(hh:(cP a&&cP b)=true):∃ v,e=.returned (.tuple #[v,.int .i64 0])∧dm.Own w n v (ofF a b):=by
 unfold iw at h;rw[hh]at h;exact h
theorem gM.set0 {p:Nat}{w:World}{l:List TR}(h:gM p w l)(u:Value):(w.setCell ⟨p,0,none⟩ u).cell? ⟨p,0,none⟩=some u:=by
 obtain⟨v,hh,_⟩:=h;exact cell_of_one (one_setCell (v:=v) hh)
theorem vN (v1 v2:Value)(a b:List PR)(w:World)(hr1:RP w v1 a)(hr2:RP w v2 b)(hl:(a.length+b.length+1)*56≤140737488355328):Calls Tryz.prog 41 #[v1,v2] w fun e w'=>iw a b w.heap.size e w'∧Bw_ w w':=by
 obtain⟨a1,c1,rfl,_,_⟩:=hr1.open;obtain⟨a2,c2,rfl,_,_⟩:=hr2.open;have hla:a.length≤140737488355328:=by omega
 have hlb:b.length≤140737488355328:=by omega
 have HR1:=zH hr1;have HR2:=zH hr2;have HLB:=zH hl;have HLA:=zH hla;have HLB2:=zH hlb;clear hr1 hr2 hl hla hlb;have hmf:∀ (fn:Fn) (first cap:Array Value) (w:World),(Instr.makeFunc fn first cap).run Tryz.prog w=.ok (.func fn first cap) w:=fun _ _ _ _=>rfl;obtain⟨w1,hw1⟩:=ex_ (w.alloc (.cells #[.slice none 0 0] 51));have hb1:w1.heap[w.heap.size]?=some (.cells #[.slice none 0 0] 51 (0,0)):=by rw[hw1];exact World.alloc_heap_new w _
 have hB1:Below w.heap.size w w1:=by rw[hw1];exact af w _
 have HBX1:=zH (show gM w.heap.size w1 [] from⟨_,hb1,World.ownsRow_nil _ _ _ _⟩);have HB1:=zH hB1;clear hB1 hb1;go_enter Tryz.func41,Tryz.ntmps41;go_wp2_with fail;rw[←hw1];clear hw1
 cases hoa:cP a with
 | false =>
  have HOA:=zH hoa;clear hoa;refine(ik _ a w1 (HR1.o.below HB1.o) HLA.o).mono ?_;rw[HOA.o];rintro e w2 ⟨rfl,hB2⟩;have HB2:=zH (bt HB1.o hB2);have HBX2:=zH (HBX1.o.below hB2);clear hB2;obtain⟨av,cv,cc,ff,_,_⟩:=HBX2.o.open;go_wp2;refine bodyPost_ret (fm (v:=.slice none 0 0) rfl rfl (kC (HBX2.o.set0 _))) rfl ?_;refine⟨?_,Below.setCell HB2.o (p:=⟨w.heap.size,0,none⟩) (Ei _) _⟩;unfold iw;rw[HOA.o,Bool.false_and]
  rfl
 | true =>
  have HOA:=zH hoa;clear hoa;refine(ik _ a w1 (HR1.o.below HB1.o) HLA.o).mono ?_;rw[HOA.o];rintro e w2 ⟨rfl,hB2⟩;have HB2:=zH (bt HB1.o hB2);have HBX2:=zH (HBX1.o.below hB2);clear hB2;go_wp2_with fail
  cases hob:cP b with
  | false =>
   have HOB:=zH hob;clear hob;refine(ik _ b w2 (HR2.o.below HB2.o) HLB2.o).mono ?_;rw[HOB.o];rintro e w3 ⟨rfl,hB3⟩;have HB3:=zH (bt HB2.o hB3);have HBX3:=zH (HBX2.o.below hB3);clear hB3;obtain⟨av,cv,cc,ff,_,_⟩:=HBX3.o.open;go_wp2;refine bodyPost_ret (fm (v:=.slice none 0 0) rfl rfl (kC (HBX3.o.set0 _))) rfl ?_;refine⟨?_,Below.setCell HB3.o (p:=⟨w.heap.size,0,none⟩) (Ei _) _⟩;unfold iw;rw[HOB.o,Bool.and_false]
   rfl
  | true =>
   have HOB:=zH hob;clear hob;refine(ik _ b w2 (HR2.o.below HB2.o) HLB2.o).mono ?_;rw[HOB.o];rintro e w3 ⟨rfl,hB3⟩;have HB3:=zH (bt HB2.o hB3);have HBX3:=zH (HBX2.o.below hB3);clear hB3;go_wp2_with fail;refine(vz _ _ a b w w3 HR1.o HR2.o HBX3.o HB3.o HLB.o).mono ?_;rintro e w4 ⟨rfl,hbox4,hB4⟩;have HB4:=zH hB4;have HBX4:=zH hbox4;clear hbox4 hB4;obtain⟨av,cv,cc,ff,hown,_⟩:=HBX4.o.open;have HO:=zH hown;clear hown;go_wp2;refine bodyPost_ret (fm (v:=.slice av (ofF a b).length cv) rfl rfl (kC (HBX4.o.set0 _))) rfl ?_;refine⟨?_,Below.setCell HB4.o (p:=⟨w.heap.size,0,none⟩) (Ei _) _⟩;unfold iw;rw[HOA.o,HOB.o];exact⟨_,rfl,Rec.Own.mono (ownsRow_setCell_below HO.o (by simp) _) (Nat.le_succ _)⟩
def da (o:Option PR)(t:TR):Bool :=
 (match o with|none=>([]==t.was)&&!t.had|some x=>(x.2==t.was)&&t.had)&&(t.had != t.has||t.was != t.now)&&(t.has||t.now==[])
theorem GX {T:Prop} (h:T:=by
 go_enter Tryz.func79,Tryz.ntmps79;go_wp2;go_ret;exact⟨by rw[HF.o];rfl,bt (af _ _) (af _ _)⟩
):T:=h
theorem yh (b off:Nat)(x:PR)(t:TR)(w:World)(h1:w.cell? ⟨b,off,none⟩=some (.string (bs x.1)))(h2:w.cell? ⟨b,off+1,none⟩=some (.string (bs x.2))):Calls Tryz.prog 79 #[.pointer (some ⟨b,off,none⟩),.agg #[.string (bs t.key),.string (bs t.was),.string (bs t.now),.bool t.had,.bool t.has]] w fun e w'=>e=.returned (.bool (da (some x) t))∧Bw_ w w':=by
 have hb:=aD h1;obtain⟨key,was,now,had,has⟩:=t
 cases hw:(x.2==was) with
 | false =>
  have HF:=zH (show da (some x) ⟨key,was,now,had,has⟩=false by unfold da;simp only[hw,Bool.false_and]);exact GX
 | true =>
  cases had with
  | false =>
   have HF:=zH (show da (some x) ⟨key,was,now,false,has⟩=false by unfold da;simp only[hw,Bool.true_and,Bool.not_true,Bool.false_and]);exact GX
  | true =>
   cases has with
   | false =>
    cases hn:(now==[]) with
    | false =>
     have HF:=zH (show da (some x) ⟨key,was,now,true,false⟩=false by unfold da;simp[hw,hn]);exact GX
    | true =>
     have HF:=zH (show da (some x) ⟨key,was,now,true,false⟩=true by unfold da;simp[hw,hn]);exact GX
   | true =>
    cases hwn:(was==now) with
    | true =>
     have HF:=zH (show da (some x) ⟨key,was,now,true,true⟩=false by unfold da;simp[hw,bne,hwn]);exact GX
    | false =>
     have HF:=zH (show da (some x) ⟨key,was,now,true,true⟩=true by unfold da;simp[hw,bne,hwn]);exact GX
theorem yi (t:TR)(w:World):Calls Tryz.prog 79 #[.pointer none,.agg #[.string (bs t.key),.string (bs t.was),.string (bs t.now),.bool t.had,.bool t.has]] w fun e w'=>e=.returned (.bool (da none t))∧Bw_ w w':=by
 obtain⟨key,was,now,had,has⟩:=t
 cases hw:([]==was) with
 | false =>
  have HF:=zH (show da none ⟨key,was,now,had,has⟩=false by unfold da;simp only[hw,Bool.false_and]);exact GX
 | true =>
  cases had with
  | true =>
   have HF:=zH (show da none ⟨key,was,now,true,has⟩=false by unfold da;simp only[hw,Bool.true_and,Bool.not_true,Bool.false_and]);exact GX
  | false =>
   cases has with
   | false =>
    cases hwn:(was==now) with
    | true =>
     have HF:=zH (show da none ⟨key,was,now,false,false⟩=false by unfold da;simp[hw,bne,hwn]);exact GX
    | false =>
     cases hn:(now==[]) with
     | false =>
      have HF:=zH (show da none ⟨key,was,now,false,false⟩=false by unfold da;simp[hw,hn,bne,hwn]);exact GX
     | true =>
      have HF:=zH (show da none ⟨key,was,now,false,false⟩=true by unfold da;simp[hw,hn,bne,hwn]);exact GX
   | true =>
    have HF:=zH (show da none ⟨key,was,now,false,true⟩=true by unfold da;simp[hw]);exact GX
end
