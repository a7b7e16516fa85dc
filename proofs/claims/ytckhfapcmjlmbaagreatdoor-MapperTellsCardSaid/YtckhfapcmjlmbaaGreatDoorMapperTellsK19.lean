/- Lemmas for MapperTells: walks, plain laws. -/
import Derived.Test.YtckhfapcmjlmbaaGreatDoorMapperTellsK22
set_option linter.unusedSimpArgs false
set_option linter.unusedVariables false
set_option maxRecDepth 100000
set_option maxHeartbeats 16000000
namespace Go.Proofs.YtckhfapcmjlmbaaGreatDoor
open Go.RowKit Oct
section

theorem FN {T:Prop} (h:T:=by
 exact GL
):T:=h
theorem tf (va vb:Value)(a b:List PR)(w:World)(ha:RP w va a)(hb:RP w vb b)(hla:a.length≤140737488355328)(hlb:b.length≤140737488355328):Calls Tryz.prog 21 #[va,vb] w fun e w'=>e=.returned (.bool (decide (a=b)))∧Bw_ w w':=by
 obtain⟨aa,ca,rfl,_,hca⟩:=ha.open;obtain⟨ab,cb,rfl,_,hcb⟩:=hb.open
 by_cases hl:a.length=b.length
 ·have hL:=zH hl
  have t1:((a.length:Int) != (b.length:Int))=false:=by rw[bne_eq_false_iff_eq];omega
  clear hl;go_enter Tryz.func21,Tryz.ntmps21;go_wp2
  go_loopw [5] (fun i wr=>∃ k:Nat,k≤a.length∧i=.int .i64 k∧Hid (∀ j (h:j<a.length) (h':j<b.length),j<k→a[j]=b[j])∧Below w.heap.size w wr) (fun i _=>a.length-(intOf i).toNat)
  case atStart=>exact⟨0,by omega,rfl,by intro j _ _ h;omega,DF _ _⟩
  case round =>
   obtain⟨k,hk,rfl,hH,hB⟩:=hrel
   by_cases h0:k<a.length
   ·have h0b:k<b.length:=by have:=hL.o;omega
    obtain⟨b1,o1,rfl,hc1,hc2⟩:=hca k h0;obtain⟨b2,o2,rfl,hc3,hc4⟩:=hcb k h0b;have hd1:=C8 hB hc1;have hd2:=C8 hB hc2;have hd3:=C8 hB hc3;have hd4:=C8 hB hc4;have kk1:(k:Int)<(a.length:Int):=by omega
    have kk2:(k:Int)<(b.length:Int):=by omega
    clear hca hcb
    by_cases he:a[k]=b[k]
    ·exact Gk
    ·have HE:=zH he
     have he4:=Bd a[k] b[k];rw[decide_eq_false he]at he4;clear he
     cases he2:(a[k].1==b[k].1)
     ·exact FN
     ·have he3:(a[k].2==b[k].2)=false:=by rw[he2,Bool.true_and]at he4;exact he4
      clear he4;exact FN
   ·exact GB
 ·have t1:((a.length:Int) != (b.length:Int))=true:=by rw[bne_iff_ne];omega
  go_enter Tryz.func21,Tryz.ntmps21;go_wp2;go_ret;exact⟨by rw[decide_eq_false (fun e=>hl (by rw[e]))];rfl,DF _ _⟩
def w18 (p:PR):Nat:=1+(p.1.length+p.2.length) / 64
def c18 (l:List PR):Nat:=(l.map w18).sum
def t18 (rows:List (List PR)):Nat:=(rows.map fun r=>c18 (r.take 200)).sum
theorem jb {P:Program}{ops:Array Oper}{rest:List Oper}{o:Oper}{a:Act}{Q:Exit→Act→World→Prop}(wr:World)(news:List Value)(e:TypeId)(hgd:o.guard=none)(s x:Operand)(t:TypeId)(ho:o.op=.call { callee:=.builtin .append,args:=#[s,x],argTypes:=#[t,t] })(bZ:Nat)(z:Value)(size bytes:Nat)(ht:P.underlying t=some (.slice e))(hinfo:(P.info? e).map (fun i=>(i.zero,i.size,i.bytes))=some (some z,size,bytes))(hzs:z.cells.size=size)(hsz:0<size)(v:Value)(n:Nat)(xs:List Value)(hown:wr.ownsRow bZ e size v n xs)(hs:a.eval s=v)(c:Nat)(hx:a.eval x=.slice (some ⟨wr.heap.size,0,none⟩) 1 c)(hl:news.length=size)(h1:∀ u∈news,u.oneCell'=true)(hby:0<bytes)(hbytes:(n+1)*bytes≤140737488355328)(hbase:bZ≤wr.heap.size)(h:∀ g cap w',w'.ownsRow bZ e size (.slice (some ⟨g,0,none⟩) (n+1) cap) (n+1) (xs++news)→(∀ j,j<wr.heap.size→v.ownBlock≠some j→w'.heap[j]?=wr.heap[j]?)→(v.ownBlock=some g∨wr.heap.size≤g)→Below bZ wr w'→wr.heap.size≤w'.heap.size → wpList P ops Q rest (a.put o.dst (.slice (some ⟨g,0,none⟩) (n+1) cap)) w'):wpList P ops Q (o::rest) a (wr.alloc (.cells news.toArray e)):=by
 obtain⟨i,hi,hz,hi1,hi2⟩:=info_parts hinfo;have hn:n+1≤(n+1)*bytes:=Nat.le_mul_of_pos_right _ hby;refine wpList_append_lies _ hgd s x t ho bZ e i z size bytes ht hi hz hi1 hi2 hzs hsz v n xs hs (hown.alloc _) ⟨wr.heap.size,0,none⟩ 1 c news hx (by simpa using hl) ?_ h1 (by decide) (by unfold maxLen;omega) hbytes (by simp;omega) _ rfl ?_
 ·exact Gj
 ·intro g cap w' h2 h3 h4 h5
  have hB:Below bZ wr w':=((DF bZ wr).alloc hbase _).grown h3 (by simp;omega) (fun k hk=>(hown.lt k hk).1);refine h g cap w' h2 (fun j hj hne=>?_) ?_ hB hB.size
  ·rw[h3.block j (by simp;omega) (fun e=>hne e.symm)]
   exact Below.heap_alloc _ _ _ hj
  ·rcases h4 with h4|h4
   ·exact .inl h4
   ·exact .inr (by simp at h4;omega)
theorem RP.frame {w w':World}{u:Value}{l:List PR}(h:RP w u l)(hb:∀ b,u.ownBlock=some b→w'.heap[b]?=w.heap[b]?):RP w' u l:=by
 obtain⟨⟨a,cap,rfl,hn,hc⟩,h2⟩:=h;refine⟨⟨a,cap,rfl,hn,fun j x hj=>?_⟩,h2⟩;obtain⟨b,off,rfl,hx⟩:=hc j x hj;exact⟨b,off,rfl,(World.cell?_of_block (w:=w) (hb b rfl)).trans hx⟩
def GRP (w:World)(bZ:Nat)(v:Value)(Z:List (List PR)):Prop:=∃ CS:List Value,w.ownsRow bZ 29 1 v Z.length CS ∧
 ∀ i (h:i<CS.length) (h':i<Z.length),RP w CS[i] Z[i]∧∀ b,CS[i].ownBlock=some b→b<w.heap.size∧v.ownBlock≠some b
theorem GRP.below {w w':World}{bZ:Nat}{v:Value}{Z:List (List PR)}(h:GRP w bZ v Z)(hB:Below w.heap.size w w'):GRP w' bZ v Z:=by
 obtain⟨CS,h1,h2⟩:=h;exact⟨CS,bD h1 hB,fun i h h'=>⟨(h2 i h h').1.below hB,fun b hb=>⟨Dv ((h2 i h h').2 b hb).1 hB.size,((h2 i h h').2 b hb).2⟩⟩⟩
theorem GRP.nil (w:World)(bZ:Nat):GRP w bZ (.slice none 0 0) []:=⟨[],World.ownsRow_nil _ _ _ _,fun i h _=>absurd h (by simp)⟩
theorem GRP.slice {w:World}{bZ:Nat}{v:Value}{Z:List (List PR)}(h:GRP w bZ v Z):∃ a c,v=.slice a Z.length c:=by
 obtain⟨CS,h1,_⟩:=h;exact ap h1
theorem GRP.rr {w:World}{bZ:Nat}{v:Value}{Z:List (List PR)}(h:GRP w bZ v Z):RR w v Z:=by
 obtain⟨CS,h1,h2⟩:=h;have hl:CS.length=Z.length:=by have:=h1.1;omega
 obtain⟨⟨a,cap,rfl,hn,hc⟩,hcap⟩:aJ w v Z.length CS∧∃ a cap,v=.slice a Z.length cap∧Z.length≤cap:=by
  refine⟨Dd h1,?_⟩;rcases h1.2 with ⟨hv,h0⟩|⟨g,cap,cur,hv,_,_,hc,_⟩
  ·exact⟨none,0,by rw[hv,h0],by omega⟩
  ·exact⟨_,_,hv,hc⟩
 obtain⟨a',cap',hv,hle⟩:=hcap;injection hv with _ _ e3
 subst e3;refine⟨a,cap,rfl,hle,hn,fun k hk=>?_⟩;obtain⟨b,off,ha,hu⟩:=hc k CS[k] (List.getElem?_eq_getElem (by omega));exact⟨b,off,CS[k],ha,hu,(h2 k (by omega) hk).1⟩
theorem GRP.snoc {w w':World}{bZ:Nat}{v v' u:Value}{Z:List (List PR)}{g:List PR}{CS:List Value}{gb cap:Nat}(h2:∀ i (h:i<CS.length) (h':i<Z.length),RP w CS[i] Z[i]∧∀ b,CS[i].ownBlock=some b→b<w.heap.size∧v.ownBlock≠some b)(hl:CS.length=Z.length)(hu:RP w u g)(hub:∀ b,u.ownBlock=some b→b<w.heap.size∧v.ownBlock≠some b)(hv:v'=.slice (some ⟨gb,0,none⟩) (Z.length+1) cap)(hown:w'.ownsRow bZ 29 1 v' (Z.length+1) (CS++[u]))(hfr:∀ j,j<w.heap.size→v.ownBlock≠some j→w'.heap[j]?=w.heap[j]?)(hg:v.ownBlock=some gb∨w.heap.size≤gb)(hsz:w.heap.size≤w'.heap.size):GRP w' bZ v' (Z++[g]):=by
 have key:∀ (x:Value) (r:List PR),RP w x r→(∀ b,x.ownBlock=some b→b<w.heap.size∧v.ownBlock≠some b)→RP w' x r∧∀ b,x.ownBlock=some b→b<w'.heap.size∧v'.ownBlock≠some b:=by
  intro x r hx hb;refine⟨hx.frame fun b h=>hfr b (hb b h).1 (hb b h).2,fun b h=>⟨Dv (hb b h).1 hsz,?_⟩⟩;subst hv;intro e;have e2:gb=b:=by simpa[Value.ownBlock] using e
  subst e2;rcases hg with hg|hg
  ·exact(hb gb h).2 hg
  ·exact absurd (hb gb h).1 (by omega)
 refine⟨CS++[u],by rw[DL];exact hown,fun i h h'=>?_⟩
 by_cases hi:i<CS.length
 ·rw[Ee hi,Ee (by omega)]
  exact key _ _ (h2 i hi (by omega)).1 (h2 i hi (by omega)).2
 ·have e:i=CS.length:=by simp at h;omega
  subst e;rw[List.getElem_append_right (by omega),List.getElem_append_right (by omega)];simp only[Nat.sub_self,hl,DN];exact key _ _ hu hub
theorem RP.subRun {w:World}{a:Option Addr}{cap:Nat}{l:List PR}(h:RP w (.slice a l.length cap) l)(lo hi:Nat)(h1:lo≤hi)(h2:hi≤l.length):∃ A C,(∀ wx,(Instr.slice 29 (.slice a l.length cap) (some (.int .i64 (lo:Int))) (some (.int .i64 (hi:Int))) none).run Tryz.prog wx=.ok (.slice A (hi-lo) C) wx)∧RP w (.slice A (hi-lo) C) ((l.drop lo).take (hi-lo)):=by
 obtain⟨_,a',cap',hv,hle⟩:=id h;injection hv with _ _ h3
 subst h3;refine⟨_,_,fun wx=>?_,h.sub lo hi h1 h2⟩;rw[run_slice_lh wx 29 a l.length cap (by kernel_rfl) .i64 .i64 lo hi (by omega) (by omega) (by omega)];have he:(sizeOf (Tryz.prog.elem 29)).run Tryz.prog wx=.ok 2 wx:=by kernel_rfl
 rw[he];simp[Result.andThen,sliced]
theorem iU:(Tryz.prog.info? 29).map (fun i=>(i.zero,i.size,i.bytes))=some (some (.slice none 0 0),1,24):=by kernel_rfl
theorem sf {A:List PR}{Z:List (List PR)}{f i:Nat}(hf:f<i)(hi:i≤A.length)(hZ:Z++grp (A.drop f)=grp A)(hin:∀ j (h:j<A.length),f≤j→j<i→A[j].1=(A[f]'(by omega)).1)(hout:∀ (h:i<A.length),A[i].1≠(A[f]'(by omega)).1):(Z++[(A.drop f).take (i-f)])++grp (A.drop i)=grp A:=by
 have hh:i-f=head1 (A.drop f):=by
  refine nB (A.drop f) (by simp;omega) (i-f) (by omega) (by simp;omega) (fun j hj=>?_) (fun hk=>?_)
  ·simp only[List.getElem_drop,Nat.add_zero]
   exact hin (f+j) (by omega) (by omega) (by omega)
  ·simp only[List.getElem_drop,Nat.add_zero,show f+(i-f)=i by omega]
   exact hout (by simp at hk;omega)
 rw[←hZ,iX (A.drop f) (by simp;omega),←hh,DP,show f+(i-f)=i by omega,DK]
 rfl
end
section
theorem mw {P:Program}{ops:Array Oper}{C:World→Prop}{R:World→World→Prop}{F:Nat→Option (bn R)}{Q:aB→Act→Prop}{k:Nat}{S:aB}{a:Act}(h:Q S a):wpG P ops C R F Q k [] S a:=h
attribute [local irreducible] wpG
theorem GRP.mono {w:World}{bZ base':Nat}{v:Value}{Z:List (List PR)}(h:GRP w bZ v Z)(hb:base'≤bZ):GRP w base' v Z:=by
 obtain⟨CS,h1,h2⟩:=h;exact⟨CS,dF h1 hb,h2⟩
theorem CK {n k:Nat}(hn:n≤1000000)(hk:k≤n):(k+1)*24≤140737488355328:=by omega
theorem CJ {n k:Nat}(hn:n≤1000000)(hk:k≤n):(0+k)*32≤140737488355328:=by omega
theorem uY {A:List PR}{Z R:List (List PR)}(h:Z++R=grp A):Z.length≤A.length:=by
 have:=cL A.length A (DC _);rw[←h,DL]at this;omega
theorem z8 {A:List PR}{f i:Nat}(hi:i≤A.length)(hf:f≤i):((A.drop f).take (i-f)).length=i-f:=by simp;omega
theorem FZ {T:Prop} (h:T:=by
 intro b hb;have h1:=World.ownsRow.lt HO3.o b hb;refine⟨h1.2,fun e=>?_⟩;obtain⟨CS2,hc2,_⟩:=HG2.o;have h2:=World.ownsRow.lt hc2 b e;omega
):T:=h
theorem rz (v:Value)(l:List PR)(w:World)(hr:RP w v l)(hl:l.length≤1000000):Calls Tryz.prog 159 #[v] w fun e w'=>(∃ u,e=.returned u∧GRP w' w.heap.size u (grp (srt l)))∧Bw_ w w':=by
 obtain⟨a0,c0,rfl,_,_⟩:=hr.open;obtain⟨A,hA⟩:=ex_ (srt l);have hsrt:=tG _ l w hr hl;have hAl:A.length=l.length:=by rw[hA];exact bK l
 rw[←hA]at hsrt⊢;have HSRT:=zH hsrt;clear hr hsrt hA;go_enter Tryz.func159,Tryz.ntmps159;go_wp2_with fail;refine HSRT.o.mono ?_;rintro e w1 ⟨v1,rfl,hown1,hB1⟩;obtain⟨aA,cA,rfl,hcap,hcA⟩:=(OP.reads hown1).open;clear hcap;have HCA:=zH hcA;have HA:=zH (OP.reads hown1);have HB1:=zH hB1;have hAn:A.length≤1000000:=by rw[hAl];exact hl
 have HAN:=zH hAn;clear hown1 hB1 hAl hl HSRT hcA;go_wp2
 go_loopw [4,5,6] (fun vo vf vi wr=>∃ f i:Nat,∃ Z Av Cv,vf=.int .i64 (f:Int)∧vi=.int .i64 (i:Int)∧vo=.slice Av (List.length Z) Cv∧1≤i∧i≤A.length+1∧Hid (f≤A.length∧(i≤A.length→f<i)∧(i=A.length+1→f=A.length)) ∧
  Hid (∀ j (h:j<A.length) (hf:f<A.length),f≤j→j<i→A[j].1=A[f].1)∧Hid (Z++grp (A.drop f)=grp A)∧Hid (GRP wr w1.heap.size (.slice Av Z.length Cv) Z)∧Hid (Below w1.heap.size w1 wr)) (fun _ _ i _=>A.length+1-(intOf i).toNat)
 case atStart =>
  have h00:∀ j (h:j<A.length) (hf:0<A.length),0≤j→j<1→A[j].1=A[0].1:=by
   intro j h hf _ h2;obtain rfl:j=0:=by omega
   rfl
  exact⟨0,1,[],none,0,rfl,rfl,rfl,by omega,by omega,⟨by omega,by omega,by omega⟩,h00,rfl,GRP.nil _ _,dM _⟩
 case round =>
  obtain⟨f,i,Z,Av,Cv,rfl,rfl,rfl,hi1,hi2,HF,HIN,HZ,HG,HB⟩:=hrel;obtain⟨Wr,hWr⟩:=ex_ wr;subst hWr
  by_cases h0:i≤A.length
  ·have hfi:=HF.o.2.1 h0
   have hfl:f<A.length:=by omega
   obtain⟨b,off,rfl,cf,_⟩:=HCA.o f hfl;have HFc:=zH (C8 HB.o cf);obtain⟨X,C,hrun,hsub⟩:=RP.subRun HA.o f i (DA hfi) h0;have HSUB:=zH (hsub.below HB.o);have hsl:=z8 h0 (DA hfi);obtain⟨G,hG⟩:=ex_ ((A.drop f).take (i-f));rw[←hG]at HSUB hsl;have HGG:=zH hG;have HSL:=zH hsl;rw[←hsl]at hrun HSUB;clear cf hsub hsl hG;have i0:(i:Int)≤(A.length:Int):=by omega
   have i1:=nn_ i;have i2:=nn_ f;have i3:(f:Int)<(A.length:Int):=by omega
   have i4:(f:Int)≤(i:Int):=by omega
   by_cases hin:i=A.length
   ·have e1:((i:Int)==(A.length:Int))=true:=by rw[beq_iff_eq];omega
    have HE:=zH hin;clear hin;go_wp2;refine rk_ [] ?_;refine cG ?_;refine mw ?_;intro w2 hB2 hA2;have HB2:=zH hB2;have HS2:=zH (HSUB.o.below hB2);have HG2:=zH (HG.o.below hB2);have hw12:w1.heap.size≤w2.heap.size:=DG HB.o.size hB2.size;have HW12:=zH hw12;clear hB2 hA2 hw12
    go_wp2_with (first
     | (at_builtin;(refine df w2 rfl _ _ 29 rfl Tryz.underlying29 w2.heap.size (.slice none 0 0) [] rfl (OP.nil _ _) (.slice X G.length C) G rfl HS2.o (by rw[HSL.o];exact CJ HAN.o (DG (Nat.sub_le _ _) h0)) (DC _) ?_);intro v3 w3 hown3 hB3;rw[D5]at hown3;obtain⟨a3,c3,rfl⟩:=ap hown3;have HO3:=zH hown3;have HG3:=zH (HG2.o.below hB3);have HB3:=zH hB3;obtain⟨CS,hcs,hcs2⟩:=HG3.o;have HCS:=zH hcs;have HCS2:=zH hcs2;clear hown3 hB3 hcs hcs2)
     | (at_builtin;(refine jb w3 [.slice a3 G.length c3] 29 rfl _ _ 32 rfl w1.heap.size (.slice none 0 0) 1 24 Tryz.underlying32 iU rfl (by decide) _ Z.length CS HCS.o rfl _ rfl rfl (by simp[Value.oneCell']) (by decide) (CK HAN.o (uY HZ.o)) (DG HW12.o HB3.o.size) ?_);intro g cap w4 hown4 hfr hgb hB4 hsz4;have HO4:=zH hown4;have HFR:=zH hfr;have HGB:=zH hgb;have HB4:=zH hB4;have HSZ4:=zH hsz4;clear hown4 hfr hgb hB4 hsz4))
    go_roundw
    case rel =>
     have hout:∀ b,(Value.slice a3 G.length c3).ownBlock=some b→b<w3.heap.size∧(Value.slice Av Z.length Cv).ownBlock≠some b:=by
      exact FZ
     have hii:∀ j (h:j<A.length) (hf:i<A.length),i≤j→j<i+1→A[j].1=A[i].1:=by
      intro j h hf _ h2;obtain rfl:j=i:=by omega
      rfl
     have hsn:=GRP.snoc HCS2.o (by have:=HCS.o.1;omega) (OP.reads HO3.o) hout rfl HO4.o HFR.o HGB.o HSZ4.o;refine⟨i,i+1,Z++[G],_,_,rfl,by go_num,by rw[DL];rfl,by omega,by omega,⟨h0,fun h=>by omega,fun h=>by omega⟩,hii,?_,by rw[DL];exact hsn,?_⟩
     ·have:=sf (A:=A) (Z:=Z) hfi h0 HZ.o (fun j h h1 h2=>HIN.o j h (by omega) h1 h2) (fun h=>absurd h (by have:=HE.o;omega))
      rw[←HGG.o]at this;exact this
     ·exact HB.o.trans ((HB2.o.mono HB.o.size).trans ((HB3.o.mono HW12.o).trans HB4.o))
    case measure=>simp[intOf];omega
   ·have e1:((i:Int)==(A.length:Int))=false:=by rw[beq_eq_false_iff_ne];omega
    have hil:i<A.length:=by omega
    have i5:(i:Int)<(A.length:Int):=by omega
    obtain⟨b',off',hb,ci,_⟩:=HCA.o i hil
    cases hb
    have HI:=zH (C8 HB.o ci);clear ci hin
    by_cases hk:A[i].1=A[f].1
    ·have HK:=zH hk
     have e2:(A[i].1==A[f].1)=true:=by rw[beq_iff_eq];exact hk
     have e3:(A[i].1 != A[f].1)=false:=by rw[bne_eq_false_iff_eq];exact hk
     clear hk;go_wp2;refine rk_ [(9,.exact Bel (.string (bs A[i].1))),(14,.exact Bel (.string (bs A[f].1)))] ?_;refine cG ?_;refine gE_ (fun w' G hB hS hG=>?_) (fun K hK=>?_)
     ·have c:=C8 hB HI.o
      go_simp;exact hG _ (Bel.refl _)
     refine cO ?_;clear hK K;refine gE_ (fun w' G hB hS hG=>?_) (fun K hK=>?_)
     ·have c:=C8 hB HFc.o
      go_simp;exact hG _ (Bel.refl _)
     refine cO ?_;clear hK K;refine mw ?_;intro w2 hB2 hA2;have HB2:=zH hB2;have HG2:=zH (HG.o.below hB2);clear hB2 hA2;go_wp2;refine⟨?_,by simp[intOf];omega⟩;refine⟨f,i+1,Z,_,_,rfl,by go_num,rfl,by omega,by omega,⟨by omega,fun h=>by omega,fun h=>by omega⟩,fun j h hf h1 h2=>?_,HZ.o,HG2.o,HB.o.trans (HB2.o.mono HB.o.size)⟩
     by_cases hji:j=i
     ·subst hji;exact HK.o
     ·exact HIN.o j h hf h1 (by omega)
    ·have HK:=zH hk
     have e2:(A[i].1==A[f].1)=false:=by rw[beq_eq_false_iff_ne];exact hk
     have e3:(A[i].1 != A[f].1)=true:=by rw[bne_iff_ne];exact hk
     clear hk;go_wp2;refine rk_ [(9,.exact Bel (.string (bs A[i].1))),(14,.exact Bel (.string (bs A[f].1)))] ?_;refine cG ?_;refine gE_ (fun w' G hB hS hG=>?_) (fun K hK=>?_)
     ·have c:=C8 hB HI.o
      go_simp;exact hG _ (Bel.refl _)
     refine cO ?_;clear hK K;refine gE_ (fun w' G hB hS hG=>?_) (fun K hK=>?_)
     ·have c:=C8 hB HFc.o
      go_simp;exact hG _ (Bel.refl _)
     refine cO ?_;clear hK K;refine mw ?_;intro w2 hB2 hA2;have HB2:=zH hB2;have HS2:=zH (HSUB.o.below hB2);have HG2:=zH (HG.o.below hB2);have hw12:w1.heap.size≤w2.heap.size:=DG HB.o.size hB2.size;have HW12:=zH hw12;clear hB2 hA2 hw12
     go_wp2_with (first
      | (at_builtin;(refine df w2 rfl _ _ 29 rfl Tryz.underlying29 w2.heap.size (.slice none 0 0) [] rfl (OP.nil _ _) (.slice X G.length C) G rfl HS2.o (by rw[HSL.o];exact CJ HAN.o (DG (Nat.sub_le _ _) h0)) (DC _) ?_);intro v3 w3 hown3 hB3;rw[D5]at hown3;obtain⟨a3,c3,rfl⟩:=ap hown3;have HO3:=zH hown3;have HG3:=zH (HG2.o.below hB3);have HB3:=zH hB3;obtain⟨CS,hcs,hcs2⟩:=HG3.o;have HCS:=zH hcs;have HCS2:=zH hcs2;clear hown3 hB3 hcs hcs2)
      | (at_builtin;(refine jb w3 [.slice a3 G.length c3] 29 rfl _ _ 32 rfl w1.heap.size (.slice none 0 0) 1 24 Tryz.underlying32 iU rfl (by decide) _ Z.length CS HCS.o rfl _ rfl rfl (by simp[Value.oneCell']) (by decide) (CK HAN.o (uY HZ.o)) (DG HW12.o HB3.o.size) ?_);intro g cap w4 hown4 hfr hgb hB4 hsz4;have HO4:=zH hown4;have HFR:=zH hfr;have HGB:=zH hgb;have HB4:=zH hB4;have HSZ4:=zH hsz4;clear hown4 hfr hgb hB4 hsz4))
     go_roundw
     case rel =>
      have hout:∀ b,(Value.slice a3 G.length c3).ownBlock=some b→b<w3.heap.size∧(Value.slice Av Z.length Cv).ownBlock≠some b:=by
       exact FZ
      have hii:∀ j (h:j<A.length) (hf:i<A.length),i≤j→j<i+1→A[j].1=A[i].1:=by
       intro j h hf _ h2;obtain rfl:j=i:=by omega
       rfl
      have hsn:=GRP.snoc HCS2.o (by have:=HCS.o.1;omega) (OP.reads HO3.o) hout rfl HO4.o HFR.o HGB.o HSZ4.o;refine⟨i,i+1,Z++[G],_,_,rfl,by go_num,by rw[DL];rfl,by omega,by omega,⟨h0,fun h=>by omega,fun h=>by omega⟩,hii,?_,by rw[DL];exact hsn,?_⟩
      ·have:=sf (A:=A) (Z:=Z) hfi h0 HZ.o (fun j h h1 h2=>HIN.o j h (by omega) h1 h2) (fun h=>HK.o)
       rw[←HGG.o]at this;exact this
      ·exact HB.o.trans ((HB2.o.mono HB.o.size).trans ((HB3.o.mono HW12.o).trans HB4.o))
     case measure=>simp[intOf];omega
  ·have hie:i=A.length+1:=by omega
   have hfin:Z=grp A:=by
    have h1:=HF.o.2.2 hie;have h2:=HZ.o;rw[h1,List.drop_length,gq,DR]at h2;exact h2
   subst hfin;have i0:¬(i:Int)≤(A.length:Int):=by omega
   clear hie;go_wp2;go_ret;exact⟨⟨_,rfl,HG.o.mono HB1.o.size⟩,HB1.o.trans (HB.o.mono HB1.o.size)⟩
end
section
theorem zv (l:List PR)(h:0<l.length):l[0].1=hk1 l:=by cases l with|nil=>simp at h|cons x l=>rfl
theorem r9:(Tryz.prog.info? 9).map (fun i=>(i.zero,i.size,i.bytes))=some (some (.string ByteArray.empty),1,16):=by kernel_rfl
theorem CX {n k:Nat}(hn:n≤1000000)(hk:k≤n):(k+1)*16≤140737488355328:=by omega
theorem wK (v:Value)(l:List PR)(w:World)(hr:RP w v l)(hl:l.length≤1000000):Calls Tryz.prog 113 #[v] w fun e w'=>(∃ u,e=.returned u∧w'.ownsRow w.heap.size 9 1 u ((grp (srt l)).map hk1).length (bO ((grp (srt l)).map hk1)))∧Bw_ w w':=by
 obtain⟨a0,c0,rfl,_,_⟩:=hr.open;have hgr:=rz _ l w hr hl;have hn:=ul (srt l).length (srt l) (DC _);have hgl:=cL (srt l).length (srt l) (DC _);rw[bK]at hgl;obtain⟨Z,hZ⟩:=ex_ (grp (srt l));rw[←hZ]at hgr hn hgl⊢;have HGR:=zH hgr;have HN:=zH hn;have HZL:=zH (DG hgl hl);clear hgr hn hgl hZ hr;go_enter Tryz.func113,Tryz.ntmps113;go_wp2_with fail;refine HGR.o.mono ?_;rintro e w1 ⟨⟨u1,rfl,hg1⟩,hB1⟩;obtain⟨a1,c1,rfl⟩:=hg1.slice;obtain⟨aa,ca,hv,_,_,hc⟩:=hg1.rr;injection hv with e1 _ e3
 subst e1 e3;have HC:=zH hc;have HB1:=zH hB1;clear hc hB1 hg1 HGR;go_wp2
 go_loopw [3,5] (fun vo vi wr=>∃ i:Nat,∃ Av Cv,vi=.int .i64 (i:Int)∧vo=.slice Av i Cv∧i≤Z.length∧Hid (wr.ownsRow w1.heap.size 9 1 (.slice Av i Cv) i (bO ((Z.take i).map hk1)))∧Hid (Below w1.heap.size w1 wr)) (fun _ i _=>Z.length-(intOf i).toNat)
 case atStart=>exact⟨0,none,0,rfl,rfl,by omega,World.ownsRow_nil _ _ _ _,dM _⟩
 case round =>
  obtain⟨i,Av,Cv,rfl,rfl,hi,HO,HB⟩:=hrel;obtain⟨Wr,hWr⟩:=ex_ wr;subst hWr
  by_cases h0:i<Z.length
  ·obtain⟨b,off,u,rfl,d1,hru⟩:=HC.o i h0
   obtain⟨a2,c2,rfl,_,hc2⟩:=hru.open;have hz0:=HN.o Z[i] (DY h0);obtain⟨b2,o2,rfl,d2,_⟩:=hc2 0 hz0;rw[Nat.zero_mul,Nat.add_zero,zv Z[i] hz0]at d2;have d1':=C8 HB.o d1;have d2':=C8 HB.o d2;obtain⟨x,hx⟩:=ex_ (Z[i]);rw[←hx]at d1' d2' hz0;have HX:=zH hx;have i0:=nn_ i;have i1:(i:Int)<(Z.length:Int):=by omega
   have i2:(0:Int)<(x.length:Int):=by omega
   have hby:=CX HZL.o hi;have hsz:=HB.o.size;clear d1 d2 hc2 hru hx hz0;go_wp2_with (at_builtin;go_must (refine append1 Wr [.string (bs (hk1 x))] 9 rfl _ _ 22 rfl w1.heap.size (.string ByteArray.empty) 1 16 Tryz.underlying22 r9 rfl (by decide) (.slice Av i Cv) i _ rfl HO.o _ rfl rfl (by simp[Value.oneCell']) hby (by decide) hsz ?_);intro v3 w3 hown3 hB3;obtain⟨g,cap,rfl⟩:=ownsRow_succ hown3;have HO3:=zH hown3;have HB3:=zH hB3;clear hown3 hB3 d1' d2');go_roundw
   case rel =>
    refine⟨i+1,_,_,by go_num,rfl,by omega,?_,HB.o.trans HB3.o⟩;rw[Dz h0,DJ,←HX.o];have:=HO3.o;rw[iJ]at this;exact this
   case measure=>simp[intOf];omega
  ·obtain rfl:i=Z.length:=by omega
   have hfin:=HO.o;rw[List.take_length]at hfin;have HF:=zH hfin;clear hfin HO;go_wp2;go_ret;refine⟨⟨_,rfl,?_⟩,HB1.o.trans (HB.o.mono HB1.o.size)⟩;rw[Ed];exact dF HF.o HB1.o.size
end
