/- Lemmas. -/
import Derived.Test.YtfjpghgdebpliaaGreatDoorContractPlaysK7
set_option linter.unusedSimpArgs false
set_option linter.unusedVariables false
set_option maxRecDepth 100000
set_option maxHeartbeats 16000000
namespace Go.Proofs.YtfjpghgdebpliaaGreatDoor
open Go.Proofs.Tryz
open Go.RowKit Oct
structure TR where
 key:q
 was:q
 now:q
 had:Bool
 has:Bool
deriving DecidableEq
def rise:LL_→Bool
 | []=>true
 | [_]=>true
 | p::ap::l=>lt p ap&&rise (ap::l)
theorem pV (l:LL_):rise l=true↔∀ k (h:k+1<l.length),lt l[k] l[k+1]=true:=by
 match l with
 | []=>simp[rise]
 | [_]=>simp[rise]
 | p::ap::l =>
  have H:=pV (ap::l);simp only[rise,Jj,H];exact Mu
theorem lt3 (a b:q):(lt a b=true∧lt b a=false∧(a==b)=false∧(b==a)=false)∨(lt a b=false∧lt b a=true∧(a==b)=false∧(b==a)=false)∨(a=b∧lt a b=false∧lt b a=false∧(a==b)=true∧(b==a)=true):=by
 by_cases e:a=b
 ·subst e
  simp[gN]
 ·have h1:(a==b)=false:=by simpa using e
  have h2:(b==a)=false:=by simpa using fun h=>e h.symm
  have:=D7 a b;rw[h1,Bool.or_false]at this
  cases h:lt a b
  ·rw[h]at this
   exact .inr (.inl ⟨rfl,this.symm,h1,h2⟩)
  ·exact .inl ⟨rfl,ia h,h1,h2⟩
def oR (l:LP_):LL_:=l.map (·.1)
def GB (l:LP_):Bool:=rise (oR l)
theorem LB {T:Prop} (h:T:=by
 go_wp2;go_quiet (fail);go_wp2;go_ret;exact⟨by rw[decide_eq_false (vP k h0 f HE.o)];rfl,bt hB (II _ _)⟩
):T:=h
theorem ii (va vb:V_)(a b:LP_)(w:Z)(ha:RP w va a)(hb:RP w vb b)(g:a.length≤140737488355328)(cw:b.length≤140737488355328):R_ 20 #[va,vb] w (.bool (decide (a=b))):=by
 obtain⟨z,ca,rfl,_,cu⟩:=ha.open;obtain⟨ab,cb,rfl,_,r⟩:=hb.open
 by_cases hl:a.length=b.length
 ·have hL:=O hl
  have t1:((a.length:Int) != (b.length:Int))=false:=by rw[bne_eq_false_iff_eq];omega
  clear hl;go_enter func20,ntmps20;go_wp2
  go_loopw [5] (fun i wr=>∃ k:Nat,k≤a.length∧i=F k∧Hid (∀ j (h:j<a.length) (h':j<b.length),j<k→a[j]=b[j])∧Bw_ w wr) (fun i _=>a.length-(intOf i).toNat)
  case atStart=>exact⟨0,by omega,rfl,by intro j _ _ h;omega,Ja _ _⟩
  case round =>
   obtain⟨k,hk,rfl,X,hB⟩:=hrel
   by_cases h0:k<a.length
   ·have f:k<b.length:=by have:=hL.o;omega
    obtain⟨b1,o1,rfl,y,aZ⟩:=cu k h0;obtain⟨b2,t,rfl,aI,ar⟩:=r k f;have l:=IF hB y;have m:=IF hB aZ;have n:=IF hB aI;have o:=IF hB ar;have a5:(k:Int)<a.length:=Y;have K:(k:Int)<b.length:=Y;clear cu r
    by_cases he:a[k]=b[k]
    ·have af:(a[k].1==b[k].1)=true:=by simp[he]
     have c:(a[k].2==b[k].2)=true:=by simp[he]
     have HE:=O he;clear he;go_wp2;go_quiet (fail);go_wp2;go_roundw
     case rel =>
      refine⟨k+1,by omega,by go_num,?_,bt hB (II _ _)⟩;intro j h h' hj
      by_cases a3:j=k
      ·subst a3;exact HE.o
      ·exact X.o j h h' Y
     case measure=>simp[intOf];omega
    ·have HE:=O he
     have d:=Hv a[k] b[k];rw[decide_eq_false he]at d;clear he
     cases af:(a[k].1==b[k].1)
     ·exact LB
     ·have c:(a[k].2==b[k].2)=false:=by rw[af,Bool.true_and]at d;exact d
      clear d;exact LB
   ·obtain rfl:k=a.length:=Y
    go_wp2;go_ret;exact⟨by rw[decide_eq_true (List.ext_getElem hL.o (fun j h h'=>X.o j h h' h))];rfl,hB⟩
 ·have t1:((a.length:Int) != (b.length:Int))=true:=by rw[bne_iff_ne];omega
  go_enter func20,ntmps20;go_wp2;go_ret;exact⟨by rw[decide_eq_false (fun e=>hl (by rw[e]))];rfl,Ja _ _⟩
def w18 (p:PR):Nat:=1+(p.1.length+p.2.length) / 64
def c18 (l:LP_):Nat:=(l.map w18).sum
def t18 (ac:LQ_):Nat:=(ac.map fun r=>c18 (r.take 200)).sum
def fL (ac:LQ_):Bool:=decide (20<ac.length)||decide (100<t18 (ac.take 40))
theorem Ei (l:LP_)(k:Nat)(h:k<l.length):c18 (l.take (k+1))=c18 (l.take k)+w18 l[k]:=by
 unfold c18;rw[JB h,Jf,List.sum_append];simp
theorem CQ (l:LQ_)(k:Nat)(h:k<l.length):t18 (l.take (k+1))=t18 (l.take k)+c18 (l[k].take 200):=by
 unfold t18;rw[JB h,Jf,List.sum_append];simp
theorem Ej (l:LP_):l.length≤c18 l:=by
 induction l with
 | nil=>simp[c18]
 | cons x l H =>
  have e:c18 (x::l)=w18 x+c18 l:=by simp[c18]
  have:1≤w18 x:=Nat.le_add_right _ _;rw[Jq,e];omega
theorem Ai:∀ (l:LP_) (p:PR),p∈l→w18 p≤c18 l
 | x::l,p,h=>by
  have e:c18 (x::l)=w18 x+c18 l:=by simp[c18]
  rcases JK.1 h with rfl|h
  ·omega
  ·have:=Ai l p h;omega
theorem zI:∀ (ac:LQ_) (r:LP_),r∈ac→c18 (r.take 200)≤t18 ac
 | x::l,r,h=>by
  have e:t18 (x::l)=c18 (x.take 200)+t18 l:=by simp[t18]
  rcases JK.1 h with rfl|h
  ·omega
  ·have:=zI l r h;omega
theorem fx (ac:LQ_)(h:fL ac=false):ac.length≤20∧∀ r∈ac,r.length≤100∧∀ p∈r,p.1.length≤6400∧p.2.length≤6400:=by
 simp[fL]at h;obtain⟨h1,h2⟩:=h;rw[I5 Y]at h2;refine⟨h1,fun r hr=>?_⟩;have h3:=zI ac r hr;have h4:=Ej (r.take 200);rw[JH]at h4;have hl:r.length≤100:=Y;refine⟨hl,fun p hp=>?_⟩;rw[I5 Y]at h3;have h5:=Ai r p hp;unfold w18 at h5;omega
theorem Ie (ac:LQ_)(i:Nat)(hi:i≤ac.length)(h:¬(i<ac.length∧i<40))(h2:i≤40):t18 (ac.take i)=t18 (ac.take 40):=by
 by_cases h1:i<ac.length
 ·rw[show i=40 by omega]
 ·rw[I5 Y,I5 Y]
theorem GM (r:LP_)(i:Nat)(hi:i≤r.length)(h:¬(i<r.length∧i<200))(h2:i≤200):c18 (r.take i)=c18 (r.take 200):=by
 by_cases h1:i<r.length
 ·rw[show i=200 by omega]
 ·rw[I5 Y,I5 Y]
theorem Gm (p:PR)(h1:p.1.length≤140737488355328)(h2:p.2.length≤140737488355328):w18 p≤8796093022208:=by unfold w18;omega
theorem EI (y:Nat)(p:PR):((y:Int)+1+((p.1.length:Int)+(p.2.length:Int)) / 64)=((y+w18 p:Nat):Int):=by
 unfold w18;omega
theorem FC {x y k:Nat}(h:y≤x+k*8796093022208){n:Nat}(hn:n≤8796093022208):y+n≤x+(k+1)*8796093022208:=Y
theorem En {x y k i:Nat}(h:y≤x+k*8796093022208)(hk:k≤200)(hx:x≤i*1759218604441600):y≤(i+1)*1759218604441600:=Y
theorem LD {T:Prop} (h:T:=by
 clear h3;go_wp2;exact⟨⟨i+1,y,h1,h2,by go_num,rfl,b.o,HY.o,a7.o⟩,by simp[intOf];omega⟩
):T:=h
theorem rt (v:V_)(ac:LQ_)(w:Z)(hr:RR w v ac)(hl:ac.length≤140737488355328)(hm:∀ r∈ac,r.length≤140737488355328∧∀ p∈r,p.1.length≤140737488355328∧p.2.length≤140737488355328):R_ 5 #[v] w (.bool (fL ac)):=by
 obtain⟨a,ah,rfl,_,_,hc⟩:=hr;have HC:=O hc;have HM:=O hm;clear hc hm;go_enter func5,ntmps5;go_wp2
 go_loopw [3,4] (fun n t wr=>∃ i x:Nat,i≤ac.length∧i≤40∧t=F i∧n=F x∧x≤i*1759218604441600∧Hid (x=t18 (ac.take i))∧Hid (Bw_ w wr)) (fun _ t _=>40-(intOf t).toNat)
 case atStart=>exact⟨0,0,by omega,by omega,rfl,rfl,by omega,rfl,Ja _ _⟩
 case round =>
  obtain⟨i,x,hi,aG,rfl,rfl,hx,X,HB⟩:=hrel
  by_cases h0:i<ac.length∧i<40
  ·obtain⟨h1,h2⟩:=h0
   obtain⟨b1,o1,u,rfl,d1,B⟩:=HC.o i h1;obtain⟨a2,c2,rfl,_,aZ⟩:=B.open;have L:=O aZ;have HD:=O (IF HB.o d1);obtain⟨ad,I⟩:=HM.o ac[i] (Jz h1);have ai:=O I;have HT:=O (CQ ac i h1);obtain⟨r,hr⟩:=H (ac[i]);rw[←hr]at L HD ad ai HT;clear aZ I hr d1;obtain⟨Wr,bp⟩:=H wr;subst bp;have ar:=nn_ i;have a5:(i:Int)<ac.length:=Y;have K:(i:Int)<40:=Y;go_wp2
   go_loopw [3,5] (fun n t wx=>∃ k y:Nat,k≤r.length∧k≤200∧t=F k∧n=F y∧y≤x+k*8796093022208∧Hid (y=x+c18 (r.take k))∧Hid (Bw_ Wr wx)) (fun _ t _=>200-(intOf t).toNat)
   case atStart=>exact⟨0,x,by omega,by omega,rfl,rfl,by omega,by simp[Hid,c18],iE _⟩
   case round =>
    obtain⟨k,y,hk,z,rfl,rfl,hy,hJ,a9⟩:=hrel;have s:=IF a9.o HD.o;have l:=nn_ k
    by_cases h3:k<r.length∧k<200
    ·obtain⟨h4,h5⟩:=h3
     obtain⟨b3,o3,rfl,e1,e2⟩:=L.o k h4;have aN:=IF (bt HB.o a9.o) e1;have M:=IF (bt HB.o a9.o) e2;have c:(k:Int)<r.length:=Y;have e:(k:Int)<200:=Y;have ae:=(ai.o r[k] (Jz h4)).1;have au:=(ai.o r[k] (Jz h4)).2;have hw:=Gm r[k] ae au;have HS:=O (Ei r k h4);have HW:=O (EI y r[k]);clear e1 e2;go_wp2;go_quiet (fail);go_wp2;refine⟨⟨k+1,y+w18 r[k],h4,h5,by go_num,kr HW.o,FC hy hw,?_,bt a9.o (II _ _)⟩,by simp[intOf];omega⟩;unfold Hid;rw[HS.o,hJ.o,Ji]
    ·have d:=GM r k hk h3 z
     have HY:=O (show y=t18 (ac.take (i+1)) by rw[HT.o,hJ.o,d,X.o]);have b:=O (En hy z hx);have a7:=O (HB.o.trans (a9.o.mono HB.o.size));clear d
     by_cases h4:k<r.length
     ·have c:(k:Int)<r.length:=Y
      have e:¬(k:Int)<200:=Y;exact LD
     ·have c:¬(k:Int)<r.length:=Y
      exact LD
  ·have d:=Ie ac i hi h0 aG
   have HX:=O (show x=t18 (ac.take 40) by rw[←d];exact X.o);have cx:=O (show fL ac=(decide (20<ac.length)||decide (100<x)) by rw[HX.o];rfl);clear d X
   by_cases h4:20<ac.length
   ·have c3:20<(ac.length:Int):=Y
    have HL:=O (show fL ac=true by rw[cx.o];simp[h4])
    by_cases h1:i<ac.length
    ·have c1:(i:Int)<ac.length:=Y
     have c2:¬(i:Int)<40:=Y;clear h0;go_wp2;go_ret;exact⟨by rw[HL.o];rfl,HB.o⟩
    ·have c1:¬(i:Int)<ac.length:=Y
     clear h0;go_wp2;go_ret;exact⟨by rw[HL.o];rfl,HB.o⟩
   ·have c1:¬(i:Int)<ac.length:=Y
    have c3:¬20<(ac.length:Int):=Y;clear h0
    by_cases h5:100<x
    ·have c4:100<(x:Int):=Y
     have HL:=O (show fL ac=true by rw[cx.o];simp[h5]);go_wp2;go_ret;exact⟨by rw[HL.o];rfl,HB.o⟩
    ·have c4:¬100<(x:Int):=Y
     have HL:=O (show fL ac=false by rw[cx.o];simp[h4,h5]);go_wp2;go_ret;exact⟨by rw[HL.o];rfl,HB.o⟩
theorem nA {P:Program}{aM:Array Oper}{rest:LO_}{o:Oper}{a:Act}{Q:Exit→Act→Z→Prop}(wr:Z)(l:LV_)(e:T_)(av:o.guard=none)(s x:Operand)(t:T_)(ho:o.op=.call { callee:=.builtin .append,args:=#[s,x],argTypes:=#[t,t] })(bZ:Nat)(z:V_)(size bytes:Nat)(ht:P.underlying t=some (.slice e))(r:(P.info? e).map (fun i=>(i.zero,i.size,i.bytes))=some (some z,size,bytes))(B:z.cells.size=size)(a6:0<size)(v:V_)(n:Nat)(xs:LV_)(aw:wr.ownsRow bZ e size v n xs)(hs:a.eval s=v)(c:Nat)(hx:a.eval x=.slice (some ⟨wr.heap.size,0,none⟩) 1 c)(hl:l.length=size)(h1:∀ u∈l,u.oneCell'=true)(aS:0<bytes)(d:(n+1)*bytes≤140737488355328)(aB:bZ≤wr.heap.size)(h:∀ g ah w',w'.ownsRow bZ e size (.slice (some ⟨g,0,none⟩) (n+1) ah) (n+1) (xs++l)→(∀ j,j<wr.heap.size→v.ownBlock≠some j→w'.heap[j]?=wr.heap[j]?)→(v.ownBlock=some g∨wr.heap.size≤g)→B_ bZ wr w'→wr.heap.size≤w'.heap.size → wpList P aM Q rest (a.put o.dst (.slice (some ⟨g,0,none⟩) (n+1) ah)) w'):wpList P aM Q (o::rest) a (wr.alloc (.cells l.toArray e)):=by
 obtain⟨i,hi,hz,ao,aG⟩:=info_parts r;have hn:n+1≤(n+1)*bytes:=Nat.le_mul_of_pos_right _ aS;refine wpList_append_lies _ av s x t ho bZ e i z size bytes ht hi hz ao aG B a6 v n xs hs (aw.alloc _) ⟨wr.heap.size,0,none⟩ 1 c l hx yzh ?_ h1 d_ yzb d yza _ rfl ?_
 ·exact Mg
 ·intro g ah w' h2 h3 h4 h5
  have hB:B_ bZ wr w':=((Ja bZ wr).alloc aB _).grown h3 yza (fun k hk=>(aw.lt k hk).1);refine h g ah w' h2 (fun j hj aI=>?_) ?_ hB hB.size
  ·rw[h3.block j yza (fun e=>aI e.symm)]
   exact Below.heap_alloc _ _ _ hj
  ·rcases h4 with h4|h4
   ·exact .inl h4
   ·exact .inr yzx
theorem RP.frame {w w':Z}{u:V_}{l:LP_}(h:RP w u l)(hb:∀ b,u.ownBlock=some b→w'.heap[b]?=w.heap[b]?):RP w' u l:=by
 obtain⟨⟨a,ah,rfl,hn,hc⟩,h2⟩:=h;refine⟨⟨a,ah,rfl,hn,fun j x hj=>?_⟩,h2⟩;obtain⟨b,aL,rfl,hx⟩:=hc j x hj;exact⟨b,aL,rfl,(World.cell?_of_block (w:=w) (hb b rfl)).trans hx⟩
def GRP (w:Z)(bZ:Nat)(v:V_)(ab:LQ_):Prop:=∃ B:LV_,w.ownsRow bZ 29 1 v ab.length B ∧
 ∀ i (h:i<B.length) (h':i<ab.length),RP w B[i] ab[i]∧∀ b,B[i].ownBlock=some b→b<w.heap.size∧v.ownBlock≠some b
theorem GRP.below {w w':Z}{bZ:Nat}{v:V_}{ab:LQ_}(h:GRP w bZ v ab)(hB:Bw_ w w'):GRP w' bZ v ab:=by
 obtain⟨B,h1,h2⟩:=h;exact⟨B,cX h1 hB,fun i h h'=>⟨(h2 i h h').1.below hB,fun b hb=>⟨Jr ((h2 i h h').2 b hb).1 hB.size,((h2 i h h').2 b hb).2⟩⟩⟩
theorem GRP.nil (w:Z)(bZ:Nat):GRP w bZ (e_) []:=⟨[],World.ownsRow_nil _ _ _ _,fun i h _=>absurd h i_⟩
theorem GRP.slice {w:Z}{bZ:Nat}{v:V_}{ab:LQ_}(h:GRP w bZ v ab):∃ a c,v=.slice a ab.length c:=by
 obtain⟨B,h1,_⟩:=h;exact ay h1
theorem Ma {T:Prop} (h:T:=by
 obtain⟨⟨a,ah,rfl,hn,hc⟩,ag⟩:aO w v ab.length B∧∃ a ah,v=.slice a ab.length ah∧ab.length≤ah:=by
  refine⟨IN h1,?_⟩;rcases h1.2 with ⟨hv,h0⟩|⟨g,ah,aH,hv,_,_,hc,_⟩
  ·exact⟨none,0,by rw[hv,h0],by omega⟩
  ·exact⟨_,_,hv,hc⟩
 obtain⟨a',aK,hv,aq⟩:=ag;injection hv with _ _ e3
 subst e3;refine⟨a,ah,rfl,aq,hn,fun k hk=>?_⟩;obtain⟨b,aL,ha,hu⟩:=hc k B[k] (List.getElem?_eq_getElem (by omega));exact⟨b,aL,B[k],ha,hu,(h2 k (by omega) hk).1⟩
):T:=h
theorem GRP.rr {w:Z}{bZ:Nat}{v:V_}{ab:LQ_}(h:GRP w bZ v ab):RR w v ab:=by
 obtain⟨B,h1,h2⟩:=h;have hl:B.length=ab.length:=by have:=h1.1;omega
 exact Ma
theorem GRP.snoc {w w':Z}{bZ:Nat}{v v' u:V_}{ab:LQ_}{g:LP_}{B:LV_}{gb ah:Nat}(h2:∀ i (h:i<B.length) (h':i<ab.length),RP w B[i] ab[i]∧∀ b,B[i].ownBlock=some b→b<w.heap.size∧v.ownBlock≠some b)(hl:B.length=ab.length)(hu:RP w u g)(a:∀ b,u.ownBlock=some b→b<w.heap.size∧v.ownBlock≠some b)(hv:v'=.slice (some ⟨gb,0,none⟩) (ab.length+1) ah)(aw:w'.ownsRow bZ 29 1 v' (ab.length+1) (B++[u]))(E:∀ j,j<w.heap.size→v.ownBlock≠some j→w'.heap[j]?=w.heap[j]?)(hg:v.ownBlock=some gb∨w.heap.size≤gb)(a6:w.heap.size≤w'.heap.size):GRP w' bZ v' (ab++[g]):=by
 have z:∀ (x:V_) (r:LP_),RP w x r→(∀ b,x.ownBlock=some b→b<w.heap.size∧v.ownBlock≠some b)→RP w' x r∧∀ b,x.ownBlock=some b→b<w'.heap.size∧v'.ownBlock≠some b:=by
  intro x r hx hb;refine⟨hx.frame fun b h=>E b (hb b h).1 (hb b h).2,fun b h=>⟨Jr (hb b h).1 a6,?_⟩⟩;subst hv;intro e;have e2:gb=b:=by simpa[Value.ownBlock] using e
  subst e2;rcases hg with hg|hg
  ·exact(hb gb h).2 hg
  ·exact absurd (hb gb h).1 Y
 refine⟨B++[u],by rw[Jh];exact aw,fun i h h'=>?_⟩
 by_cases hi:i<B.length
 ·rw[JD hi,JD Y]
  exact z _ _ (h2 i hi Y).1 (h2 i hi Y).2
 ·have e:i=B.length:=by simp at h;omega
  subst e;rw[JL Y,JL Y];simp only[Nat.sub_self,hl,Jm];exact z _ _ hu a
theorem RP.subRun {w:Z}{a:OA_}{ah:Nat}{l:LP_}(h:RP w (.slice a l.length ah) l)(k hi:Nat)(h1:k≤hi)(h2:hi≤l.length):∃ A C,(∀ wx,(Instr.slice 29 (.slice a l.length ah) (some (F k)) (some (F hi)) none).run prog wx=.ok (.slice A (hi-k) C) wx)∧RP w (.slice A (hi-k) C) ((l.drop k).take (hi-k)):=by
 obtain⟨_,a',aK,hv,aq⟩:=id h;injection hv with _ _ h3
 subst h3;refine⟨_,_,fun wx=>?_,h.sub k hi h1 h2⟩;rw[run_slice_lh wx 29 a l.length ah q_ .i64 .i64 k hi Y Y Y];have he:(sizeOf (prog.elem 29)).run prog wx=.ok 2 wx:=q_;rw[he];simp[Result.andThen,sliced]
theorem na:(Tryz.prog.info? 29).map (fun i=>(i.zero,i.size,i.bytes))=some (some (e_),1,24):=q_
theorem wJ {A:LP_}{ab:LQ_}{f i:Nat}(hf:f<i)(hi:i≤A.length)(hZ:ab++grp (A.drop f)=grp A)(N:∀ j (h:j<A.length),f≤j→j<i→A[j].1=(A[f]' Y).1)(I:∀ (h:i<A.length),A[i].1≠(A[f]' Y).1):(ab++[(A.drop f).take (i-f)])++grp (A.drop i)=grp A:=by
 have hh:i-f=head1 (A.drop f):=by
  refine qJ (A.drop f) yza (i-f) Y yza (fun j hj=>?_) (fun hk=>?_)
  ·simp only[List.getElem_drop,Nat.add_zero]
   exact N (f+j) Y Y Y
  ·simp only[List.getElem_drop,Nat.add_zero,show f+(i-f)=i by omega]
   exact I (by simp at hk;omega)
 rw[←hZ,kS (A.drop f) yza,←hh,Jv,show f+(i-f)=i by omega,Jg]
 rfl
section
theorem pB {P:Program}{aM:Array Oper}{C:Z→Prop}{R:Z→Z→Prop}{am:Nat→Option (bu R)}{Q:aD→Act→Prop}{k:Nat}{S:aD}{a:Act}(h:Q S a):wpG P aM C R am Q k [] S a:=h
attribute [local irreducible] wpG
theorem GRP.mono {w:Z}{bZ a:Nat}{v:V_}{ab:LQ_}(h:GRP w bZ v ab)(hb:a≤bZ):GRP w a v ab:=by
 obtain⟨B,h1,h2⟩:=h;exact⟨B,fq h1 hb,h2⟩
theorem Ij {n k:Nat}(hn:n≤1000000)(hk:k≤n):(k+1)*24≤140737488355328:=Y
theorem Ii {n k:Nat}(hn:n≤1000000)(hk:k≤n):(0+k)*32≤140737488355328:=Y
theorem z8 {A:LP_}{ab R:LQ_}(h:ab++R=grp A):ab.length≤A.length:=by
 have:=dI A.length A (I6 _);rw[←h,Jh]at this;omega
theorem EP {A:LP_}{f i:Nat}(hi:i≤A.length)(hf:f≤i):((A.drop f).take (i-f)).length=i-f:=by simp;omega
theorem LJ {T:Prop} (h:T:=by
 intro b hb;have h1:=World.ownsRow.lt bf.o b hb;refine⟨h1.2,fun e=>?_⟩;obtain⟨aC,aZ,_⟩:=V.o;have h2:=World.ownsRow.lt aZ b e;omega
):T:=h
theorem vK (v:V_)(l:LP_)(w:Z)(hr:RP w v l)(hl:l.length≤1000000):C_ 146 #[v] w fun e w'=>(∃ u,e=.returned u∧GRP w' w.heap.size u (grp (srt l)))∧Bw_ w w':=by
 obtain⟨a0,c0,rfl,_,_⟩:=hr.open;obtain⟨A,hA⟩:=H (srt l);have ac:=yk _ l w hr hl;have bb:A.length=l.length:=by rw[hA];exact cy l
 rw[←hA]at ac⊢;have ak:=O ac;clear hr ac hA;go_enter func146,ntmps146;go_wp2_with fail;refine ak.o.mono ?_;rintro e w1⟨v1,rfl,aH,aF⟩;obtain⟨aA,cA,rfl,ag,au⟩:=(OP.reads aH).open;clear ag;obtain⟨s,HA,a_⟩:=zH3 au (OP.reads aH) aF;have az:A.length≤1000000:=by rw[bb];exact hl
 have ai:=O az;clear aH aF bb hl ak au;go_wp2
 go_loopw [4,5,6] (fun vo vf m wr=>∃ f i:Nat,∃ ab Av Cv,vf=F f∧m=F i∧vo=.slice Av (List.length ab) Cv∧1≤i∧i≤A.length+1∧Hid (f≤A.length∧(i≤A.length→f<i)∧(i=A.length+1→f=A.length)) ∧
  Hid (∀ j (h:j<A.length) (hf:f<A.length),f≤j→j<i→A[j].1=A[f].1)∧Hid (ab++grp (A.drop f)=grp A)∧Hid (GRP wr w1.heap.size (.slice Av ab.length Cv) ab)∧Hid (Bw_ w1 wr)) (fun _ _ i _=>A.length+1-(intOf i).toNat)
 case atStart =>
  have aB:∀ j (h:j<A.length) (hf:0<A.length),0≤j→j<1→A[j].1=A[0].1:=by
   intro j h hf _ h2;obtain rfl:j=0:=Y
   rfl
  exact⟨0,1,[],none,0,rfl,rfl,rfl,by omega,by omega,⟨by omega,by omega,by omega⟩,aB,rfl,GRP.nil _ _,iE _⟩
 case round =>
  obtain⟨f,i,ab,Av,Cv,rfl,rfl,rfl,ao,aG,HF,bi,HZ,HG,HB⟩:=hrel;obtain⟨Wr,bp⟩:=H wr;subst bp
  by_cases h0:i≤A.length
  ·have aj:=HF.o.2.1 h0
   have bS:f<A.length:=Y;obtain⟨b,aL,rfl,cf,_⟩:=s.o f bS;have av:=O (IF HB.o cf);obtain⟨X,C,aO,an⟩:=RP.subRun HA.o f i (JA aj) h0;have U:=O (an.below HB.o);have bj:=EP h0 (JA aj);obtain⟨G,hG⟩:=H ((A.drop f).take (i-f));rw[←hG]at U bj;have aw:=O hG;have aU:=O bj;rw[←bj]at aO U;clear cf an bj hG;have i0:(i:Int)≤A.length:=Y;have i1:=nn_ i;have i2:=nn_ f;have i3:(f:Int)<A.length:=Y;have i4:(f:Int)≤i:=Y
   by_cases N:i=A.length
   ·have e1:((i:Int)==(A.length:Int))=true:=by rw[beq_iff_eq];omega
    have HE:=O N;clear N;go_wp2;refine rk_ [] ?_;refine cG ?_;refine pB ?_;intro w2 ax aa;obtain⟨a9,bA,V⟩:=zH3 ax (U.o.below ax) (HG.o.below ax);have n:w1.heap.size≤w2.heap.size:=Jc HB.o.size ax.size;have t:=O n;clear ax aa n
    go_wp2_with (first
     | (at_builtin;(refine ed w2 rfl _ _ 29 rfl underlying29 w2.heap.size (e_) [] rfl (OP.nil _ _) (.slice X G.length C) G rfl bA.o (by rw[aU.o];exact Ii ai.o (Jc (Nat.sub_le _ _) h0)) (I6 _) ?_);intro v3 w3 M al;rw[JC]at M;obtain⟨a3,c3,rfl⟩:=ay M;obtain⟨bf,a2,aW⟩:=zH3 M (V.o.below al) al;obtain⟨B,aR,aI⟩:=a2.o;have bW:=O aR;have bn:=O aI;clear M al aR aI)
     | (at_builtin;(refine nA w3 [.slice a3 G.length c3] 29 rfl _ _ 32 rfl w1.heap.size (e_) 1 24 underlying32 na rfl d_ _ ab.length B bW.o rfl _ rfl rfl (by simp[Value.oneCell']) d_ (Ij ai.o (z8 HZ.o)) (Jc t.o aW.o.size) ?_);intro g ah w4 r E bB aQ ad;obtain⟨cT,b7,cu,ba,W⟩:=zH5 r E bB aQ ad;clear r E bB aQ ad))
    go_roundw
    case rel =>
     have I:∀ b,(Value.slice a3 G.length c3).ownBlock=some b→b<w3.heap.size∧(Value.slice Av ab.length Cv).ownBlock≠some b:=by
      exact LJ
     have ar:∀ j (h:j<A.length) (hf:i<A.length),i≤j→j<i+1→A[j].1=A[i].1:=by
      intro j h hf _ h2;obtain rfl:j=i:=Y
      rfl
     have D:=GRP.snoc bn.o (by have:=bW.o.1;omega) (OP.reads bf.o) I rfl cT.o b7.o cu.o W.o;refine⟨i,i+1,ab++[G],_,_,rfl,by go_num,by rw[Jh];rfl,by omega,by omega,⟨h0,fun h=>by omega,fun h=>by omega⟩,ar,?_,by rw[Jh];exact D,?_⟩
     ·have:=wJ (A:=A) (ab:=ab) aj h0 HZ.o (fun j h h1 h2=>bi.o j h Y h1 h2) (fun h=>absurd h (by have:=HE.o;omega))
      rw[←aw.o]at this;exact this
     ·exact HB.o.trans ((a9.o.mono HB.o.size).trans ((aW.o.mono t.o).trans ba.o))
    case measure=>simp[intOf];omega
   ·have e1:((i:Int)==(A.length:Int))=false:=by rw[beq_eq_false_iff_ne];omega
    have b5:i<A.length:=Y;have i5:(i:Int)<A.length:=Y;obtain⟨b',J,hb,ci,_⟩:=s.o i b5
    cases hb
    have HI:=O (IF HB.o ci);clear ci N
    by_cases hk:A[i].1=A[f].1
    ·have HK:=O hk
     have e2:(A[i].1==A[f].1)=true:=by rw[beq_iff_eq];exact hk
     have e3:(A[i].1 != A[f].1)=false:=by rw[bne_eq_false_iff_eq];exact hk
     clear hk;go_wp2;refine rk_ [(9,.exact Bel (s_ A[i].1)),(14,.exact Bel (s_ A[f].1))] ?_;refine cG ?_;refine gl_ HI.o ?_;refine gl_ av.o ?_;refine pB ?_;intro w2 ax aa;have a9:=O ax;have V:=O (HG.o.below ax);clear ax aa;go_wp2;refine⟨?_,by simp[intOf];omega⟩;refine⟨f,i+1,ab,_,_,rfl,by go_num,rfl,by omega,by omega,⟨by omega,fun h=>by omega,fun h=>by omega⟩,fun j h hf h1 h2=>?_,HZ.o,V.o,HB.o.trans (a9.o.mono HB.o.size)⟩
     by_cases ae:j=i
     ·subst ae;exact HK.o
     ·exact bi.o j h hf h1 Y
    ·have HK:=O hk
     have e2:(A[i].1==A[f].1)=false:=by rw[beq_eq_false_iff_ne];exact hk
     have e3:(A[i].1 != A[f].1)=true:=by rw[bne_iff_ne];exact hk
     clear hk;go_wp2;refine rk_ [(9,.exact Bel (s_ A[i].1)),(14,.exact Bel (s_ A[f].1))] ?_;refine cG ?_;refine gl_ HI.o ?_;refine gl_ av.o ?_;refine pB ?_;intro w2 ax aa;obtain⟨a9,bA,V⟩:=zH3 ax (U.o.below ax) (HG.o.below ax);have n:w1.heap.size≤w2.heap.size:=Jc HB.o.size ax.size;have t:=O n;clear ax aa n
     go_wp2_with (first
      | (at_builtin;(refine ed w2 rfl _ _ 29 rfl underlying29 w2.heap.size (e_) [] rfl (OP.nil _ _) (.slice X G.length C) G rfl bA.o (by rw[aU.o];exact Ii ai.o (Jc (Nat.sub_le _ _) h0)) (I6 _) ?_);intro v3 w3 M al;rw[JC]at M;obtain⟨a3,c3,rfl⟩:=ay M;obtain⟨bf,a2,aW⟩:=zH3 M (V.o.below al) al;obtain⟨B,aR,aI⟩:=a2.o;have bW:=O aR;have bn:=O aI;clear M al aR aI)
      | (at_builtin;(refine nA w3 [.slice a3 G.length c3] 29 rfl _ _ 32 rfl w1.heap.size (e_) 1 24 underlying32 na rfl d_ _ ab.length B bW.o rfl _ rfl rfl (by simp[Value.oneCell']) d_ (Ij ai.o (z8 HZ.o)) (Jc t.o aW.o.size) ?_);intro g ah w4 r E bB aQ ad;obtain⟨cT,b7,cu,ba,W⟩:=zH5 r E bB aQ ad;clear r E bB aQ ad))
     go_roundw
     case rel =>
      have I:∀ b,(Value.slice a3 G.length c3).ownBlock=some b→b<w3.heap.size∧(Value.slice Av ab.length Cv).ownBlock≠some b:=by
       exact LJ
      have ar:∀ j (h:j<A.length) (hf:i<A.length),i≤j→j<i+1→A[j].1=A[i].1:=by
       intro j h hf _ h2;obtain rfl:j=i:=Y
       rfl
      have D:=GRP.snoc bn.o (by have:=bW.o.1;omega) (OP.reads bf.o) I rfl cT.o b7.o cu.o W.o;refine⟨i,i+1,ab++[G],_,_,rfl,by go_num,by rw[Jh];rfl,by omega,by omega,⟨h0,fun h=>by omega,fun h=>by omega⟩,ar,?_,by rw[Jh];exact D,?_⟩
      ·have:=wJ (A:=A) (ab:=ab) aj h0 HZ.o (fun j h h1 h2=>bi.o j h Y h1 h2) (fun h=>HK.o)
       rw[←aw.o]at this;exact this
      ·exact HB.o.trans ((a9.o.mono HB.o.size).trans ((aW.o.mono t.o).trans ba.o))
     case measure=>simp[intOf];omega
  ·have af:i=A.length+1:=Y
   have d:ab=grp A:=by
    have h1:=HF.o.2.2 af;have h2:=HZ.o;rw[h1,List.drop_length,iT,Jy]at h2;exact h2
   subst d;have i0:¬(i:Int)≤A.length:=Y;clear af;go_wp2;go_ret;exact⟨⟨_,rfl,HG.o.mono a_.o.size⟩,a_.o.trans (HB.o.mono a_.o.size)⟩
end
theorem D6 (l:LP_)(h:0<l.length):l[0].1=hk1 l:=by cases l with|nil=>simp at h|cons x l=>rfl
theorem D4:(Tryz.prog.info? 9).map (fun i=>(i.zero,i.size,i.bytes))=some (some (.string ByteArray.empty),1,16):=q_
theorem Is {n k:Nat}(hn:n≤1000000)(hk:k≤n):(k+1)*16≤140737488355328:=Y
theorem Bn (v:V_)(l:LP_)(w:Z)(hr:RP w v l)(hl:l.length≤1000000):C_ 110 #[v] w fun e w'=>(∃ u,e=.returned u∧w'.ownsRow w.heap.size 9 1 u ((grp (srt l)).map hk1).length (fD ((grp (srt l)).map hk1)))∧Bw_ w w':=by
 obtain⟨a0,c0,rfl,_,_⟩:=hr.open;have aK:=vK _ l w hr hl;have hn:=yZ (srt l).length (srt l) (I6 _);have am:=dI (srt l).length (srt l) (I6 _);rw[cy]at am;obtain⟨ab,hZ⟩:=H (grp (srt l));rw[←hZ]at aK hn am⊢;obtain⟨n,HN,c⟩:=zH3 aK hn (Jc am hl);clear aK hn am hZ hr;go_enter func110,ntmps110;go_wp2_with fail;refine n.o.mono ?_;rintro e w1⟨⟨u1,rfl,b9⟩,aF⟩;obtain⟨a1,c1,rfl⟩:=b9.slice;obtain⟨z,ca,hv,_,_,hc⟩:=b9.rr;injection hv with e1 _ e3
 subst e1 e3;have HC:=O hc;have a_:=O aF;clear hc aF b9 n;go_wp2
 go_loopw [3,5] (fun vo m wr=>∃ i:Nat,∃ Av Cv,m=F i∧vo=.slice Av i Cv∧i≤ab.length∧Hid (wr.ownsRow w1.heap.size 9 1 (.slice Av i Cv) i (fD ((ab.take i).map hk1)))∧Hid (Bw_ w1 wr)) (fun _ i _=>ab.length-(intOf i).toNat)
 case atStart=>exact⟨0,none,0,rfl,rfl,by omega,World.ownsRow_nil _ _ _ _,iE _⟩
 case round =>
  obtain⟨i,Av,Cv,rfl,rfl,hi,HO,HB⟩:=hrel;obtain⟨Wr,bp⟩:=H wr;subst bp
  by_cases h0:i<ab.length
  ·obtain⟨b,aL,u,rfl,d1,B⟩:=HC.o i h0
   obtain⟨a2,c2,rfl,_,aZ⟩:=B.open;have C:=HN.o ab[i] (Jz h0);obtain⟨b2,t,rfl,d2,_⟩:=aZ 0 C;rw[Nat.zero_mul,Nat.add_zero,D6 ab[i] C]at d2;have a:=IF HB.o d1;have f:=IF HB.o d2;obtain⟨x,hx⟩:=H (ab[i]);rw[←hx]at a f C;have HX:=O hx;have i0:=nn_ i;have i1:(i:Int)<ab.length:=Y;have i2:0<(x.length:Int):=Y;have aS:=Is c.o hi;have a6:=HB.o.size;clear d1 d2 aZ B hx C;go_wp2_with (at_builtin;go_must (refine append1 Wr [s_ (hk1 x)] 9 rfl _ _ 22 rfl w1.heap.size (.string ByteArray.empty) 1 16 underlying22 D4 rfl d_ (.slice Av i Cv) i _ rfl HO.o _ rfl rfl (by simp[Value.oneCell']) aS d_ a6 ?_);intro v3 w3 M al;obtain⟨g,ah,rfl⟩:=ownsRow_succ M;have bf:=O M;have aW:=O al;clear M al a f);go_roundw
   case rel =>
    refine⟨i+1,_,_,by go_num,rfl,by omega,?_,HB.o.trans aW.o⟩;rw[JB h0,Jf,←HX.o];have:=bf.o;rw[uM]at this;exact this
   case measure=>simp[intOf];omega
  ·obtain rfl:i=ab.length:=Y
   have d:=HO.o;rw[List.take_length]at d;have HF:=O d;clear d HO;go_wp2;go_ret;refine⟨⟨_,rfl,?_⟩,a_.o.trans (HB.o.mono a_.o.size)⟩;rw[Js];exact fq HF.o a_.o.size


def l40 (t:TR):Nat:=t.key.length+t.was.length+t.now.length
def n40 (l:List TR):Nat:=(l.map l40).sum

section
attribute [local irreducible] wpG
def steps {α β:Type}(ka:α→q)(kb:β→q):List α→List β→List (Option α×Option β)
 | [],[]=>[]
 | x::a,[]=>(some x,none)::steps ka kb a []
 | [],y::b=>(none,some y)::steps ka kb [] b
 | x::a,y::b=>if lt (ka x) (kb y) then (some x,none)::steps ka kb a (y::b) else if lt (kb y) (ka x) then (none,some y)::steps ka kb (x::a) b else (some x,some y)::steps ka kb a b
termination_by a b=>a.length+b.length
end
section
attribute [local irreducible] wpG
end
section
open Oct
end
section
open Oct
section
variable {α β:Type}(ka:α→q)(kb:β→q)
end
def F8:Option PR×Option PR→q
 | (some x,_)=>x.1
 | (none,some y)=>y.1
 | (none,none)=>[]
end
