/- Lemmas for MapperTells: walks, plain laws. -/
import Derived.Lib.Bytealg
import Derived.WalkMore
import Derived.Test.YtckhfapcmjlmbaaGreatDoorMapperTellsK28
import Derived.Test.YtckhfapcmjlmbaaGreatDoorMapperTellsK29
set_option linter.unusedSimpArgs false
set_option linter.unusedVariables false
set_option maxRecDepth 100000
set_option maxHeartbeats 16000000
namespace Go.Proofs.YtckhfapcmjlmbaaGreatDoor
open Go.RowKit Oct
section
attribute [local irreducible] wpG
theorem mR {j:Jb}(h:bJ j=true):(gD j).length≤10000:=by
 obtain⟨m1,m2,m3⟩:=nn h;have l1:=dr m1;have l2:=dr m2;have l3:=dr m3;have b1:=fB m1;have b2:=fB m2;have b3:=fB m3;unfold gD fV;simp only[DL,Du,aX];omega
theorem AF (t1 c1 t2 c2 t3 c3:Value)(j:Jb)(w:World)(h:dH w t1 c1 t2 c2 t3 c3 j)(hm:bJ j=true):Calls Tryz.prog 43 #[bM t1 c1 t2 c2 t3 c3 j] w fun e w'=>e=.returned (.tuple #[.string (bs (fJ (gD j))),.int .i64 0])∧Bw_ w w':=by
 have HP:=zH (fun w' (hB:Below w.heap.size w w')=>by
  have q:=r7 t1 c1 t2 c2 t3 c3 j w' (h.below hB);rw[show rB j=.tuple #[.string (bs (gD j)),.int .i64 0] from if_pos hm]at q;exact q)
 have HS:=zH (mR hm);obtain⟨PB,hPB⟩:=ex_ (gD j);rw[←hPB]at HP HS⊢;clear hPB;obtain⟨ta,tc,ca,cc,ta2,tc2,ca2,cc2,ta3,tc3,ca3,cc3,rfl,rfl,rfl,rfl,rfl,rfl⟩:=jo_ h.a.t h.a.c h.b.t h.b.c h.c.t h.c.c;unfold bM at HP⊢;obtain⟨W1,hW1⟩:=ex_ (w.alloc (.cells #[.slice ta j.mt.length tc,.slice ca j.mc.length cc,.slice ta2 j.jt.length tc2,.slice ca2 j.jc.length cc2,.slice ta3 j.tt.length tc3,.slice ca3 j.tc.length cc3,.int .i64 j.parts,.int .i64 j.fuel] 27));have hb1:=ba_ hW1;obtain⟨J,hJ⟩:=ex_ w.heap.size;have hx:=bn_ hJ hW1;obtain⟨x0,x1,x2,x3,x4,x5,x6,x7⟩:=cl8 hx;have HB1:=zH hb1;go_enter Tryz.func43,Tryz.ntmps43;go_upto_region 1 with fail;rw[←hW1,←hJ];clear hW1 hJ hb1 hx h;go_wp2_with (first|(go_at_call 79;refine(HP.o _ HB1.o).mono ?_;rintro e w2 ⟨rfl,hB2⟩;have HB2:=zH (bt HB1.o hB2);clear hB2)|(go_at_call 46;refine(vj PB w2 (DG HS.o (by decide))).mono ?_;rintro e w3 ⟨rfl,hB3⟩;have HB3:=zH (bt HB2.o hB3);clear hB3));go_ret2;exact⟨rfl,HB3.o⟩
end
section
def fl (acc:LU_):LU_→LL_
 | []=>if acc=[] then [] else [acc]
 | b::r=>if b=10 then (acc++[b])::fl [] r else fl (acc++[b]) r
def bY (s:LU_):LL_:=fl [] s
theorem rd:bY []=[]:=rfl
theorem oV (l:LU_):∀ (acc r:LU_),(∀ b∈l,b≠10)→fl acc (l++r)=fl (acc++l) r:=by
 induction l with
 | nil=>intro acc r _;rw[DR];rfl
 | cons x l ih =>
  intro acc r h;rw[Dx,fl,if_neg (h x (D2 ..)),ih _ _ (fun b hb=>h b (D4 _ hb)),DK]
  rfl
theorem yz (l r:LU_)(h:∀ b∈l,b≠10):bY (l++10::r)=(l++[10])::bY r:=by
 unfold bY;rw[oV l [] (10::r) h,D5,fl,if_pos rfl]
theorem wu (s:LU_)(h0:s≠[])(h:∀ b∈s,b≠10):bY s=[s]:=by
 unfold bY;have q:=oV s [] [] h;rw[DR,D5]at q;rw[q,fl,if_neg h0]
theorem wB (l:LU_):∀ acc,(fl acc l).flatten=acc++l:=by
 induction l with
 | nil =>
  intro acc;rw[fl]
  split
  ·next h=>rw[h];rfl
  ·simp
 | cons b l ih =>
  intro acc;rw[fl]
  split
  ·rw[List.flatten_cons,ih,D5,DK];rfl
  ·rw[ih,DK];rfl
theorem oP (s:LU_):(bY s).flatten=s:=wB s []
theorem yE (l:LU_):∀ acc,∀ r∈fl acc l,0<r.length:=by
 induction l with
 | nil =>
  intro acc r hr;rw[fl]at hr
  split at hr
  ·cases hr
  ·next h =>
   rw[DZ.1 hr];exact List.length_pos_iff.2 h
 | cons b l ih =>
  intro acc r hr;rw[fl]at hr
  split at hr
  ·rcases List.mem_cons.1 hr with rfl|hr
   ·simp
   ·exact ih _ r hr
  ·exact ih _ r hr
theorem qj (L:LL_)(h:∀ r∈L,0<r.length):L.length≤L.flatten.length:=by
 induction L with
 | nil=>simp
 | cons x L ih =>
  rw[List.flatten_cons,DL,Du];have h1:=h x (D2 ..);have h2:=ih (fun r hr=>h r (D4 _ hr));omega
theorem g9 (s:LU_):(bY s).length≤s.length:=by
 have q:=qj (bY s) (yE s [])
 rwa [oP]at q
theorem p8 (L:LL_):∀ r∈L,r.length≤L.flatten.length:=by
 induction L with
 | nil=>intro r hr;cases hr
 | cons x L ih =>
  intro r hr;rw[List.flatten_cons,DL];rcases List.mem_cons.1 hr with rfl|hr
  ·omega
  ·have:=ih r hr;omega
theorem oQ (s:LU_):∀ r∈bY s,r.length≤s.length:=by
 have q:=p8 (bY s)
 rwa [oP]at q
theorem wv (s:LU_)(out:LL_)(f i:Nat)(hi:i<s.length)(hf:f≤i)(h:out++fl ((s.drop f).take (i-f)) (s.drop i)=bY s):(s[i]=10∨i+1=s.length→(out++[(s.drop f).take (i+1-f)])++fl [] (s.drop (i+1))=bY s) ∧(¬(s[i]=10∨i+1=s.length)→out++fl ((s.drop f).take (i+1-f)) (s.drop (i+1))=bY s):=by
 have hd:s.drop i=s[i]::s.drop (i+1):=Dw hi
 have ht:(s.drop f).take (i+1-f)=(s.drop f).take (i-f)++[s[i]]:=by
  rw[show i+1-f=(i-f)+1 by omega,Dz (by rw[D7];omega)];congr 2;rw[List.getElem_drop];congr 1;omega
 rw[hd,fl]at h;refine⟨fun q=>?_,fun q=>?_⟩
 ·by_cases hb:s[i]=10
  ·rw[if_pos hb]at h
   rw[ht,DK];exact h
  ·rw[if_neg hb]at h
   have he:i+1=s.length:=q.resolve_left hb;have hn:s.drop (i+1)=[]:=Ef (by omega);rw[hn]at h⊢;rw[ht];rw[fl,if_neg (by simp)]at h;rw[fl,if_pos rfl,DR];exact h
 ·rw[if_neg (fun hb=>q (.inl hb))]at h
  rw[ht];exact h
def fw (s:LU_):LU_:=if s.getLast?=some 10 then s.dropLast else s
theorem sH (s:LU_):(fw s).length≤s.length:=by
 unfold fw
 split
 ·rw[List.length_dropLast];omega
 ·exact DC _
end
section
def bV (j:Jb):Nat→List PR→LL_→List PR×Nat×Nat
 | _,out,[]=>(out,0,0)
 | k,out,r::rs=>if (vmV j.mt j.mc 1 [fw r] j.fuel).1≠0 then ([],k,(vmV j.mt j.mc 1 [fw r] j.fuel).1) else bV j (k+1) (out++(vmV j.mt j.mc 1 [fw r] j.fuel).2.1) rs
def bC (j:Jb)(text:LU_):List PR×Nat×Nat:=if bJ j=true then bV j 0 [] (bY text) else ([],0,2)
theorem m8 {j:Jb}{k:Nat}{out:List PR}{r:LU_}{rs:LL_}(h:(vmV j.mt j.mc 1 [fw r] j.fuel).1≠0):bV j k out (r::rs)=([],k,(vmV j.mt j.mc 1 [fw r] j.fuel).1):=by rw[bV,if_pos h]
theorem o7 {j:Jb}{k:Nat}{out:List PR}{r:LU_}{rs:LL_}(h:(vmV j.mt j.mc 1 [fw r] j.fuel).1=0):bV j k out (r::rs)=bV j (k+1) (out++(vmV j.mt j.mc 1 [fw r] j.fuel).2.1) rs:=by rw[bV,if_neg (fun q=>q h)]
theorem nd {j:Jb}{text:LU_}(h:bJ j=true):bC j text=bV j 0 [] (bY text):=if_pos h
theorem kZ {j:Jb}{text:LU_}(h:¬bJ j=true):bC j text=([],0,2):=if_neg h
def bi (j:Jb):List (List PR)→List (List PR)→List (List PR)×LU_×Nat
 | out,[]=>(out,[],0)
 | out,p::ps=>if (cM j [p]).2.2≠0 then ([],(cM j [p]).2.1,(cM j [p]).2.2) else bi j (out++[(cM j [p]).1]) ps
theorem jM {j:Jb}{out:List (List PR)}{p:List PR}{ps:List (List PR)}(h:(cM j [p]).2.2≠0):bi j out (p::ps)=([],(cM j [p]).2.1,(cM j [p]).2.2):=by rw[bi,if_pos h]
theorem kY {j:Jb}{out:List (List PR)}{p:List PR}{ps:List (List PR)}(h:(cM j [p]).2.2=0):bi j out (p::ps)=bi j (out++[(cM j [p]).1]) ps:=by rw[bi,if_neg (fun q=>q h)]
def iD (j:Jb)(text:LU_):List (List PR)×Nat×Nat :=
 if (bC j text).2.2≠0 then ([],(bC j text).2) else
 if (bi j [] (splitP (bC j text).1 j.parts.toNat)).2.2≠0 then ([],(bY text).length,(bi j [] (splitP (bC j text).1 j.parts.toNat)).2.2) else ((bi j [] (splitP (bC j text).1 j.parts.toNat)).1,0,0)
theorem Bp (texts:LL_)(code:List VI)(role:UInt8)(ins:LL_)(fuel:Int):∀ p∈(vmV texts code role ins fuel).2.1,p.1.length≤1024∧p.2.length≤1024:=by
 cases hy:cn texts code role ins fuel with
 | false=>rw[mB hy];simp
 | true =>
  rw[jW hy];obtain⟨h1,h2,-,-,h5⟩:=dG hy;obtain⟨hg,-⟩:=fg h1 h2 h5;unfold l8
  split
  ·rename_i h0
   obtain⟨hok,-⟩:=kg hg fuel.toNat aY fA h0;exact hok.pv
  ·simp
def tR (p:PR):Prop:=p.1.length≤1024∧p.2.length≤1024
theorem m7 (j:Jb):∀ (rs:LL_) (k:Nat) (out:List PR),(bV j k out rs).1.length≤out.length+256*rs.length
 | [],k,out=>by simp[bV]
 | r::rs,k,out=>by
  rw[bV]
  split
  ·simp
  ·have h:=m7 j rs (k+1) (out++(vmV j.mt j.mc 1 [fw r] j.fuel).2.1)
   have h2:=kT j.mt j.mc 1 [fw r] j.fuel;rw[DL]at h;rw[Du];omega
theorem o8 (j:Jb):∀ (rs:LL_) (k:Nat) (out:List PR),(∀ p∈out,tR p)→∀ p∈(bV j k out rs).1,tR p
 | [],k,out,h=>h
 | r::rs,k,out,h=>by
  rw[bV]
  split
  ·simp
  ·refine o8 j rs (k+1) _ (fun p hp=>?_)
   rcases DM.1 hp with hp|hp
   ·exact h p hp
   ·exact Bp _ _ _ _ _ p hp
theorem ii (j:Jb)(text:LU_):(bC j text).1.length≤256*text.length:=by
 unfold bC
 split
 ·have h:=m7 j (bY text) 0 []
  have h2:=g9 text;simp only[Eb]at h;omega
 ·simp
theorem o9 (j:Jb)(text:LU_):∀ p∈(bC j text).1,tR p:=by
 unfold bC
 split
 ·exact o8 j _ 0 [] (by simp)
 ·simp
theorem mY (j:Jb):∀ (ps out:List (List PR)),(bi j out ps).2.2=0→(bi j out ps).1.length=out.length+ps.length
 | [],out,_=>by simp[bi]
 | p::ps,out,h=>by
  by_cases hz:(cM j [p]).2.2=0
  ·rw[kY hz]at h⊢
   rw[mY j ps _ h,DL,Du];simp only[Du,Eb];omega
  ·rw[jM hz]at h
   exact absurd h hz
theorem mZ (j:Jb)(Q:List PR→Prop):∀ (ps out:List (List PR)),(∀ r∈out,Q r)→(∀ p∈ps,Q (cM j [p]).1)→∀ r∈(bi j out ps).1,Q r
 | [],out,h,_=>h
 | p::ps,out,h,hp=>by
  rw[bi]
  split
  ·simp
  ·refine mZ j Q ps _ (fun r hr=>?_) (fun x hx=>hp x (D4 _ hx))
   rcases DM.1 hr with hr|hr
   ·exact h r hr
   ·rw[DZ.1 hr]
    exact hp p (D2 ..)
theorem jG (l:List PR)(n:Nat):∀ p∈splitP l n,(∀ x∈p,x∈l)∧p.length≤l.length:=by
 intro p hp;unfold splitP at hp;obtain⟨i,-,rfl⟩:=List.mem_map.1 hp;exact⟨fun x hx=>(List.mem_filter.1 hx).1,List.length_filter_le _ _⟩

abbrev Wr:Type:=Nat×Nat×Nat×LU_
theorem jH (l:List PR)(n:Nat):(splitP l n).length=n:=by unfold splitP;simp
end
section
theorem index10:∀ s:LU_,(Lib.indexByte s 10=-1∧∀ b∈s,b≠10)∨∃ k:Nat,Lib.indexByte s 10=(k:Int)∧k<s.length∧s=s.take k++10::s.drop (k+1)∧∀ b∈s.take k,b≠10
 | []=>.inl ⟨rfl,by simp⟩
 | b::l=>by
  by_cases hb:b=10
  ·subst hb
   exact .inr ⟨0,by simp[Lib.indexByte],by simp,by simp,by simp⟩
  ·have hne:(b==10)=false:=by simpa using hb
   rcases index10 l with ⟨h1,h2⟩|⟨k,h1,h2,h3,h4⟩
   ·refine .inl ⟨by simp[Lib.indexByte,hne,h1],fun x hx=>?_⟩
    rcases List.mem_cons.1 hx with rfl|hx
    ·exact hb
    ·exact h2 x hx
   ·refine .inr ⟨k+1,?_,by simp;omega,?_,fun x hx=>?_⟩
    ·have hk:((k:Int)==-1)=false:=by
      simp
     simp[Lib.indexByte,hne,h1,hk]
    ·rw[DQ,DO,Dx,←h3]
    ·rw[DQ]at hx
     rcases List.mem_cons.1 hx with rfl|hx
     ·exact hb
     ·exact h4 x hx
def kM (s:LU_):Nat:=if Lib.indexByte s 10+1=0 then s.length else (Lib.indexByte s 10+1).toNat
theorem wt (s:LU_)(h:s≠[]):bY s=s.take (kM s)::bY (s.drop (kM s))∧0<kM s∧kM s≤s.length:=by
 have hp:=List.length_pos_iff.2 h;rcases index10 s with ⟨h1,h2⟩|⟨k,h1,h2,h3,h4⟩
 ·have e:kM s=s.length:=by unfold kM;rw[h1];rfl
  rw[e,DB (DC _),Ef (DC _),wu s h h2,rd];exact⟨rfl,hp,DC _⟩
 ·have e:kM s=k+1:=by
   unfold kM;rw[h1,if_neg (by omega)];omega
  rw[e];refine⟨?_,by omega,by omega⟩
  have ht:s.take (k+1)=s.take k++[10]:=by
   rw[Dz h2];congr 2
   have hg:s[k]?=some 10:=by
    rw[h3,List.getElem?_append_right (by rw[DU];omega),DU,Nat.min_eq_left (by omega),Nat.sub_self]
    rfl
   exact(List.getElem?_eq_some_iff.1 hg).2
  rw[ht];have q:=yz (s.take k) (s.drop (k+1)) h4;rw[←h3]at q;exact q
theorem Bq (s:LU_):Lib.trimSuffix s [10]=fw s:=by
 unfold Lib.trimSuffix fw Lib.hasSuffix;rcases List.eq_nil_or_concat s with rfl|⟨l,b,rfl⟩
 ·rfl
 ·rw[List.concat_eq_append]
  by_cases hb:b=10
  ·subst hb
   have h1:[10].isSuffixOf (l++[10])=true:=List.isSuffixOf_iff_suffix.2 ⟨l,rfl⟩;rw[if_pos h1,if_pos (by simp)];simp
  ·have h1:¬[10].isSuffixOf (l++[b])=true:=fun q=>by
    obtain⟨t,ht⟩:=List.isSuffixOf_iff_suffix.1 q;have e:=congrArg List.getLast? ht;simp at e;exact hb e.symm
   rw[if_neg h1,if_neg (by simpa using hb)]
end
section
attribute [local go_sem] Oper.semAt_some
theorem sE (l:LU_):(bs l).data.toList=l:=by simp[bs]
theorem sa (s:LU_)(w:World):Calls Tryz.prog 152 #[.string (bs s),.int .u8 10] w fun e w'=>e=.returned (.int .i64 (Lib.indexByte s 10))∧w'=w:=by
 have h:=Tryz.strings_IndexByte (bs s) 10 w;rw[sE]at h;exact h
theorem yf (s:LU_)(w:World)(hs:s.length≤140737488355328):Calls Tryz.prog 64 #[.string (bs s),.string ⟨#[10]⟩] w fun e w'=>e=.returned (.string (bs (fw s)))∧w'=w:=by
 have h:=Tryz.strings_TrimSuffix (bs s) ⟨#[10]⟩ w (by rw[bA];omega);rw[sE]at h;rw[←Bq];exact h
theorem pP {w:World}{b k:Nat}{t:TypeId}{cs:List Value}{v:Value}(h:Blk w b t cs)(hv:cs[k]?=some v):w.setCell ⟨b,k,none⟩ v=w:=by
 have e:cs.toArray.setIfInBounds k v=cs.toArray:=by
  obtain⟨hk,rfl⟩:=List.getElem?_eq_some_iff.1 hv;simp
 have e2:(w.setCell ⟨b,k,none⟩ v).heap=w.heap:=by
  apply Array.ext_getElem?;intro i;unfold World.setCell;simp only[Array.getElem?_modify]
  split
  ·rename_i hi
   subst hi;unfold Blk at h;rw[h];simp[e]
  ·rfl
 have e3:w.setCell ⟨b,k,none⟩ v={ w with heap:=(w.setCell ⟨b,k,none⟩ v).heap }:=rfl;rw[e3,e2]
def ElR (x:LU_)(vs:Array Value)(_:World):Prop:=vs=#[.string (bs x)]
def uN:Option Value→Nat
 | some (.string s)=>s.size
 | _=>0
theorem qO (q:LU_):uN (some (.string (bs q)))=q.length:=by
 show(bs q).size=q.length;exact bA q
theorem oR {B K:Nat}{q s:LU_}{dn:LL_}{J:LL_→World→Prop}{wr W7:World}(HJ:∀ pre U U',J pre U→Chg (fun k=>k=B) U U'→J pre U')(hB:wr.heap[B]?=some (.cells #[.string (bs q)] 9 (0,0)))(hc:Chg (fun k=>¬k=B) wr W7)(hJ7:J (dn++[q.take K]) W7)(hG:bY s=dn++bY q)(hst:bY q=q.take K::bY (q.drop K))(hq:q.length≤140737488355328):∃ (q2:LU_) (dn2:LL_),q2.length≤140737488355328∧Hid ((W7.setCell ⟨B,0,none⟩ (.string (bs (q.drop K)))).heap[B]?=some (.cells #[.string (bs q2)] 9 (0,0)))∧Hid (bY s=dn2++bY q2)∧Hid (J dn2 (W7.setCell ⟨B,0,none⟩ (.string (bs (q.drop K))))):=by
 refine⟨q.drop K,dn++[q.take K],by rw[D7];omega,?_,?_,?_⟩
 ·exact one_setCell (v:=.string (bs q)) (hc.at hB (fun h=>h rfl))
 ·show bY s=_
  rw[hG,hst,DK];rfl
 ·exact HJ _ _ _ hJ7 (Chg.setCell _ _ _ rfl)
theorem oS {B K:Nat}{q:LU_}{wr W7:World}(hB:wr.heap[B]?=some (.cells #[.string (bs q)] 9 (0,0)))(hc:Chg (fun k=>¬k=B) wr W7)(h0:0<K)(hk:K≤q.length):uN ((W7.setCell ⟨B,0,none⟩ (.string (bs (q.drop K)))).cell? ⟨B,0,none⟩)<uN (wr.cell? ⟨B,0,none⟩):=by
 rw[cell_of_one hB,cell_of_one (one_setCell (v:=.string (bs q)) (hc.at hB (fun h=>h rfl))),qO,qO,D7];omega
theorem F9 {T:Prop} (h:T:=by
 clear hKq HI
 (refine(wpIn_wide (n:=n)).1 ?_;gi_wp2;refine⟨fun h=>(by cases h),?_⟩;refine hRd.mono ?_;rintro e W7 (⟨rfl,hJ7,hc7⟩|⟨rfl,hJx7⟩);(have c7:=hc7.cell c1 (fun h=>h rfl);have f7:=free_of_one (hc7.at hB.o (fun h=>h rfl));gi_wp2;go_wp2;go_roundw;(case rel=>exact oR HJ.o hB.o hc7 hJ7 hG.o HST.o hql);(case measure=>exact oS hB.o hc7 hk0 hkl));(gi_wp2;go_wp2;refine bodyPost_ret (results_none rfl _ _ _) rfl ?_;exact⟨⟨_,rfl⟩,.inr ⟨_,HP.o,hJx7⟩⟩))
):T:=h
theorem n8 (n B:Nat)(s:LU_)(W:World)(hB:W.heap[B]?=some (.cells #[.string (bs s)] 9 (0,0)))(hl:s.length≤140737488355328):sQ Fence.wide n Tryz.prog 151 #[.pointer (some ⟨B,0,none⟩)] (fun k=>k=B) (fun k=>k=B) ElR (bY s) W:=by
 intro l J Jx hJ hJx hY hJ0;refine callsIn_wide.2 ?_;have HJ:=zH hJ;have HY:=zH hY;have HB:=zH hB;clear hJ hJx hY hB;go_enter Tryz.func151,Tryz.ntmps151;go_wp2
 go_loopw [3] (fun _ wr=>∃ (q:LU_) (dn:LL_),q.length≤140737488355328∧Hid (wr.heap[B]?=some (.cells #[.string (bs q)] 9 (0,0)))∧Hid (bY s=dn++bY q)∧Hid (J dn wr)) (fun _ wr=>uN (wr.cell? ⟨B,0,none⟩))
 case atStart=>exact⟨s,[],hl,HB.o,rfl,hJ0⟩
 case round =>
  clear hJ0 HB;obtain⟨q,dn,hql,hB,hG,hJd⟩:=hrel;have c1:=cell_of_one hB.o;have f1:=free_of_one hB.o
  by_cases h0:q=[]
  ·subst h0
   have HF:=zH (show bY s=dn by have:=hG.o;rw[rd,DR]at this;exact this);clear hG;go_wp2;go_end0;exact⟨⟨_,rfl⟩,.inl (by rw[HF.o];exact hJd.o)⟩
  ·obtain⟨hst,hk0,hkl⟩:=wt q h0
   have hp:dn++[q.take (kM q)] <+: bY s:=⟨bY (q.drop (kM q)),by rw[hG.o,hst];simp⟩
   obtain⟨fn,tm,asg,bod,hy,hRd⟩:=HY.o dn (q.take (kM q)) #[.string (bs (q.take (kM q)))] wr hJd.o rfl hp;have HP:=zH hp;have HST:=zH hst;have h1:(q==[])=false:=by simpa using h0
   have HI:=zH (sa q wr);have hcut:kM q=if Lib.indexByte q 10+1=0 then q.length else (Lib.indexByte q 10+1).toNat:=rfl;obtain⟨K,hK⟩:=ex_ (kM q);rw[←hK]at hcut hk0 hkl HST HP hy hRd;clear hK hp hst h0;rcases index10 q with ⟨hi,-⟩|⟨k,hi,hk,-,-⟩
   ·rw[hi]at HI hcut
    have hKq:K=q.length:=hcut;clear hcut hi;go_upto_region 4 with(go_at_call 152;refine HI.o.mono ?_;rintro e w2 ⟨rfl,rfl⟩);rw[←hKq];exact F9
   ·rw[hi]at HI hcut
    have hKq:K=k+1:=by rw[hcut,if_neg (by omega)];omega
    have hk2:(k:Int)+1≠0:=by omega
    clear hcut hi;go_upto_region 4 with(go_at_call 152;refine HI.o.mono ?_;rintro e w2 ⟨rfl,rfl⟩);rw[show(k:Int)+1=(K:Int) by omega];exact F9
theorem rf (s:LU_)(w:World):Calls Tryz.prog 106 #[.string (bs s)] w fun e w'=>e=.returned (.func (.func 151) #[] #[.pointer (some ⟨w.heap.size,0,none⟩)])∧w'=w.alloc (.cells #[.string (bs s)] 9):=by
 go_enter Tryz.func106,Tryz.ntmps106;go_wp2;go_ret;exact⟨rfl,rfl⟩
end
section
attribute [local irreducible] wpG
theorem jQ {j:Jb}(h:bJ j=true):∃ m:Nat,j.parts=(m:Int)∧1≤m∧m≤16:=by
 obtain⟨-,h1,h2,-⟩:=mn h;exact⟨j.parts.toNat,by omega,by omega,by omega⟩
theorem Do (w:World):RR w (.slice none 0 0) []:=(GRP.nil w 0).rr
theorem RR.oneI {w:World}{u:Value}{p:List PR}(h:RP w u p):RR (w.alloc (.cells #[u] 29)) (.slice (some ⟨w.heap.size,0,none⟩) 1 1) [p]:=by
 refine⟨_,1,rfl,DC _,(fun q=>by cases q),fun k hk=>?_⟩;have e:k=0:=by simp at hk;omega
 subst e;exact⟨_,0,u,rfl,by simp[World.cell?_alloc_new],h.below (af _ _)⟩
end
section
attribute [local go_sem] Oper.semAt_some
def uG (s:Nat)(w:World)(pre:LL_)(U:World):Prop:=iu s (s+4) 22 9 1 U pre.length (bO pre)∧Chg (fun k=>s≤k) w U
theorem uG.chg {s:Nat}{w U U':World}{pre:LL_}(h:uG s w pre U)(hc:Chg (fun k=>k=s+1∨k=s+2∨k=s+2+1) U U'):uG s w pre U' :=
 ⟨h.1.chg hc (fun k hk=>by omega),h.2.trans (hc.mono fun k hk=>by omega)⟩
theorem uG.step {s g cap:Nat}{w U W:World}{pre:LL_}{x:LU_}{v:Value}(hbox:U.heap[s]?=some (.cells #[v] 22 (0,0)))(hw:Chg (fun k=>s≤k) w U)(hB:Below (s+4) U W)(hown:W.ownsRow (s+4) 9 1 (.slice (some ⟨g,0,none⟩) (pre.length+1) cap) (pre.length+1) (bO pre++[.string (bs x)])):Chg (fun k=>¬(k=s+1∨k=s+2∨k=s+2+1)) U (W.setCell ⟨s,0,none⟩ (.slice (some ⟨g,0,none⟩) (pre.length+1) cap))∧uG s w (pre++[x]) (W.setCell ⟨s,0,none⟩ (.slice (some ⟨g,0,none⟩) (pre.length+1) cap)):=by
 obtain⟨h1,h2⟩:=iu.stored (by omega) hbox hB hown;refine⟨h2.mono fun k hk=>by omega,?_,hw.trans (h2.mono fun k hk=>by omega)⟩;rw[iJ]at h1;simpa using h1
theorem n7 {P:Program}{fn:Func}{p:Tmp}{ty:TypeId}{tmps:Array Value}{w:World}{v:Value}{b:Nat}(hr:fn.results=#[.cell p ty])(hp:tmps.getD p undef=.pointer (some ⟨b,0,none⟩))(hl:(loadVar ty ⟨b,0,none⟩).run P w=.ok v w):(results fn tmps).run P w=.ok v w:=by
 simp only[Array.getD_eq_getD_getElem?]at hp⊢;simp[results,hr,Sem.run_bind,Result.andThen,hp,asAddr,hl]
theorem tY {w:World}{b:Nat}{v:Value}(h:w.cell? ⟨b,0,none⟩=some v):(loadVar 22 ⟨b,0,none⟩).run Tryz.prog w=.ok v w:=by simp[go_sem,h]
theorem km:∀ l:LL_,aK.cells l=bO l
 | []=>rfl
 | x::l=>by rw[Rec.cells,km l];rfl
theorem lX (s:LU_)(w:World)(hl:s.length≤1000000):Calls Tryz.prog 62 #[.string (bs s)] w fun e w'=>(∃ v,e=.returned v∧aK.Own w' w.heap.size v (bY s))∧Bw_ w w':=by
 have hcl:=g9 s;refine cE Tryz.func62 rfl ?_;simp only[Tryz.ntmps62,List.size_toArray,Du,Eb,Nat.reduceAdd,Nat.reduceSub,Array.replicate_succ,Array.replicate_zero,List.push_toArray,List.append_toArray,D5,Dx];obtain⟨W1,hW1⟩:=ex_ (w.alloc (.cells #[.slice none 0 0] 22));have hs1:W1.heap.size=w.heap.size+1:=by rw[hW1];simp
 have hbx:W1.heap[w.heap.size]?=some (.cells #[.slice none 0 0] 22 (0,0)):=by rw[hW1];exact World.alloc_heap_new w _
 have hc1:Chg (fun k=>w.heap.size≤k) w W1:=by rw[hW1];exact Chg.alloc _ w _
 go_upto_region 1 with fail;rw[←hW1];clear hW1;go_wp2_with (go_at_call 106;refine(rf s W1).mono ?_;rintro e W2 ⟨rfl,hw2⟩;have HW2:=zH hw2;clear hw2);have hb2:Below W1.heap.size W1 W2:=by rw[HW2.o];exact af _ _
 have hs2:W2.heap.size=w.heap.size+2:=by rw[HW2.o];simp[hs1]
 have hbB:W2.heap[w.heap.size+1]?=some (.cells #[.string (bs s)] 9 (0,0)):=by rw[HW2.o,←hs1];exact World.alloc_heap_new W1 _
 have hbx2:W2.heap[w.heap.size]?=some (.cells #[.slice none 0 0] 22 (0,0)):=(hb2.block _ (by omega)).trans hbx;have hc2:Chg (fun k=>w.heap.size≤k) w W2:=hc1.trans (Da hb2)
 try rw[hs1]
 clear HW2 hb2 hbx hc1
 refine qy (D:=w.heap.size+2) hs2 (gf:=151) (lb:=#[.pointer (some ⟨w.heap.size+1,0,none⟩)]) rfl (enters_of Tryz.func151 (by kernel_rfl) rfl)
  (X:=fun k=>k=w.heap.size+1) (Y:=fun k=>k=w.heap.size+1) (El:=ElR) (out:=bY s) (fun k hk=>by omega) (fun k hk=>by omega)
  (fun W hW=>n8 2 (w.heap.size+1) s W ((hW.block _ (by omega)).trans hbB) (by omega))
  (fun x vs U h=>by rw[h];rfl) (fun x vs U U' h hc=>h)
  (uG w.heap.size w) (fun _ _ _=>False) (fun pre U U' h hc=>h.chg hc) (fun _ _ _ _ h _=>h.elim)
  ⟨⟨_,hbx2,World.ownsRow_nil _ _ _ _⟩,hc2⟩ ?round ?done ?stop
 case round =>
  rintro l pre x vs U _ _ rfl hpre;have hlen:=hpre.length_le;rw[DL]at hlen;have hby:(pre.length+1)*16≤140737488355328:=by simp at hlen;omega
  gi_wp2;refine⟨DF _ _,?_⟩;rintro U2 h2 ⟨⟨v,hbox,hown⟩,hchg⟩ _ hc2;obtain⟨av,cv,rfl⟩:=ap hown;have c:=cell_of_one hbox;have f:=free_of_one hbox;clear hlen hpre hc2;gi_wp2_with (gi_at_builtin;refine pB U2 [_] 9 rfl _ _ 22 rfl (w.heap.size+4) (.string ⟨#[]⟩) 1 16 Tryz.underlying22 (by kernel_rfl) rfl (by decide) _ _ _ rfl hown _ rfl rfl (by simp[Value.oneCell']) hby (by decide) (by omega) ?_;intro g cap W3 hown3 hB3;have c3:=cell_of_one ((hB3.block w.heap.size (by omega)).trans hbox);have f3:=free_of_one ((hB3.block w.heap.size (by omega)).trans hbox));exact uG.step hbox hchg hB3 hown3
 case done =>
  rintro W h2 ⟨⟨v,hbox,hown⟩,hchg⟩ hK;obtain⟨av,cv,rfl⟩:=ap hown;have c:=cell_of_one hbox;have f:=free_of_one hbox;go_wp2;rw[pP (k:=0) (show Blk W w.heap.size 22 [.slice av (bY s).length cv] from hbox) rfl];have hp:∀ X:Nat→Prop,X (w.heap.size+2)→Chg X W (W.putObj (w.heap.size+2) (.deferred none)):=fun X hx=>Chg.putObj _ _ _ hx;refine fD (D:=w.heap.size+2) rfl hK (n7 rfl rfl (tY ((hp (fun k=>k=w.heap.size+2) rfl).cell c (by simp)))) ⟨⟨_,rfl,?_⟩,?_⟩
  ·unfold Rec.Own
   rw[km];exact dF (cV hown (hp (fun k=>k=w.heap.size+2) rfl) fun k hk=>by omega) (by omega)
  ·exact(hchg.trans (hp _ (by omega))).below (fun k hk=>hk) (DC _)
 case stop=>exact fun _ _ _ _ _ h _=>h.elim
end
section
attribute [local irreducible] wpG
theorem AV {n k o x:Nat}(hn:n≤1000000)(hk:k≤n)(ho:o≤256*k)(hx:x≤256):(o+x)*32≤140737488355328:=by omega
theorem nu (t1 c1 t2 c2 t3 c3:Value)(j:Jb)(text:LU_)(w:World)(h:dH w t1 c1 t2 c2 t3 c3 j)(hdo:de w)(ht:text.length≤1000000):Calls Tryz.prog 30 #[bM t1 c1 t2 c2 t3 c3 j,.string (bs text)] w fun e w'=>(∃ pv,e=.returned (.tuple #[pv,.int .i64 ((bC j text).2.1:Int),.int .i64 ((bC j text).2.2:Int)])∧recKv.Own w' w.heap.size pv (bC j text).1)∧Bw_ w w':=by
 have HCK:=zH (fun w' (hB:Below w.heap.size w w')=>im t1 c1 t2 c2 t3 c3 j w' (h.below hB));have HMP:=zH (fun (s:LU_) w' (hB:Below w.heap.size w w') hs=>zq t1 c1 t2 c2 t3 c3 j s w' (h.below hB) (hdo.below hB) hs);have HRC:=zH (fun w'=>lX text w' ht);have HRE:=zH (show ∀ r∈bY text,r.length≤1000000 from fun r hr=>DG (oQ text r hr) ht);have HRN:=zH (DG (g9 text) ht);obtain⟨ta,tc,ca,cc,ta2,tc2,ca2,cc2,ta3,tc3,ca3,cc3,rfl,rfl,rfl,rfl,rfl,rfl⟩:=jo_ h.a.t h.a.c h.b.t h.b.c h.c.t h.c.c;unfold bM at HCK HMP⊢;obtain⟨W1,hW1⟩:=ex_ (w.alloc (.cells #[.slice ta j.mt.length tc,.slice ca j.mc.length cc,.slice ta2 j.jt.length tc2,.slice ca2 j.jc.length cc2,.slice ta3 j.tt.length tc3,.slice ca3 j.tc.length cc3,.int .i64 j.parts,.int .i64 j.fuel] 27));have hb1:=ba_ hW1;obtain⟨J,hJ⟩:=ex_ w.heap.size;have hx:=bn_ hJ hW1;obtain⟨x0,x1,x2,x3,x4,x5,x6,x7⟩:=cl8 hx;have HB1:=zH hb1;have HX:=zH hx;go_enter Tryz.func30,Tryz.ntmps30;go_upto_region 1 with fail;rw[←hW1,←hJ];clear hW1 hJ hb1 hx h hdo ht;go_step3;obtain⟨ck,hck⟩:=ex_ (br j);rw[←hck]at HCK
 by_cases hm:bJ j=true
 ·have t1:((ck.2.2:Int) != 0)=false:=by rw[hck,nl hm];rfl
  have HPJ:=zH (nd (j:=j) (text:=text) hm);have HRM:=zH (fun s:LU_=>ny hm j.mt j.mc 1 [s]);clear hck hm;go_wp2_with (first|(go_at_call 62;refine(HRC.o _).mono ?_;rintro e w3 ⟨⟨rv,rfl,hro⟩,hB3⟩;obtain⟨ra,rc,rfl⟩:=ap hro;have HRO:=zH hro.row;have HX3:=zH (HX2.o.below hB3);have HB3:=zH (bt HB2.o hB3);clear hro hB3)|(go_at_call 61;refine(HCK.o _ HB1.o).mono ?_;rintro e w2 ⟨rfl,hB2⟩;have HX2:=zH (HX.o.below hB2);have HB2:=zH (bt HB1.o hB2);clear hB2 x0 x1 x2 x3 x4 x5 x6 x7));obtain⟨_,_,hkv,_,hkc⟩:=an HRO.o;injection hkv with q1 _ q3
  subst q1 q3;have HKC:=zH hkc;obtain⟨RS,hRS⟩:=ex_ (bY text);rw[←hRS]at HRN HRE HKC HPJ⊢;clear hkc hRS HRO HCK HRC;go_step3;go_wp2
  go_loopw [4,5,6,27] (fun tx bd er i wr=>∃ (k:Nat) (out:List PR),k≤RS.length∧out.length≤256*k∧i=.int .i64 (k:Int)∧bd=.int .i64 0∧er=.int .i64 0∧Hid (recKv.Own wr w3.heap.size tx out)∧Hid (bV j k out (RS.drop k)=bV j 0 [] RS)∧Hid (Below w3.heap.size w3 wr)) (fun _ _ _ i _=>RS.length-(intOf i).toNat)
  case atStart=>exact⟨0,[],D6 _,D6 _,rfl,rfl,rfl,Rec.Own.nil _ _,rfl,DF _ _⟩
  case round =>
   obtain⟨k,out,hk,hok,rfl,rfl,rfl,HO,HAV,HBR⟩:=hrel;obtain⟨ao,co,rfl⟩:=ap HO.o;have hrn:=HRN.o
   by_cases h0:k<RS.length
   ·obtain⟨kb,ko,hA,e1⟩:=HKC.o k h0
    subst hA;have hdr:RS.drop k=RS[k]::RS.drop (k+1):=Dw h0;have hrl:=HRE.o _ (DY h0);obtain⟨r,hre⟩:=ex_ (RS[k]'h0);rw[←hre]at e1 hrl hdr;have HD:=zH hdr;replace e1:=C8 HBR.o e1;have hxx:=HX3.o.below HBR.o;obtain⟨x0,x1,x2,x3,x4,x5,x6,x7⟩:=cl8 hxx;have hrl2:r.length≤140737488355328:=by omega
    have HTR:=zH (fun w'=>yf r w' hrl2);have HGM:=zH (HMP.o (fw r) wr.drew (bt (bt HB3.o HBR.o) (b_drew wr)) (DG (sH r) hrl2));rw[HRM.o]at HGM;have HVP:=zH (kT j.mt j.mc 1 [fw r] j.fuel);obtain⟨R,hR⟩:=ex_ (vmV j.mt j.mc 1 [fw r] j.fuel);rw[←hR]at HGM HVP;have HR:=zH hR;have i0:=nn_ k;have i1:(k:Int)<(RS.length:Int):=by omega
    have HHH:=zH h0;have HBY:=zH (AV (x:=R.2.1.length) HRN.o hk hok HVP.o);clear hR hdr hre hxx h0 hrl hrl2
    by_cases hz:R.1=0
    ·have t3:((R.1:Int) != 0)=false:=by rw[hz];rfl
     have HQ:=zH (show bV j k out (r::RS.drop (k+1))=bV j (k+1) (out++R.2.1) (RS.drop (k+1)) by rw[HR.o];exact o7 (by rw[←HR.o];exact hz));clear hz;go_upto_region 8 with fail;go_region_with (first|(go_at_call 63;refine HGM.o.mono ?_;rintro e w7 ⟨⟨pv,rfl,hrow⟩,hB7⟩;obtain⟨pa,pc,rfl,-,-⟩:=(fc hrow).open;have HROW:=zH hrow;have hB7:=bt (b_drew wr) hB7;have HB7:=zH (bt HBR.o hB7);have HO7:=zH (HO.o.below hB7);have HS7:=zH (DG HBR.o.size hB7.size);clear hB7 hrow)|(go_at_call 64;refine(HTR.o _).mono ?_;rintro e w6 ⟨rfl,rfl⟩))
     all_goals
      go_wp2_with (at_builtin;go_must (refine recKv.append w7 rfl _ _ 29 rfl Tryz.underlying29 w3.heap.size _ out HO7.o rfl _ R.2.1 HROW.o rfl HBY.o HS7.o ?_);intro v8 w8 hown8 hB8;have HO8:=zH hown8;have HB8:=zH hB8;clear hown8 hB8);go_roundw
      case rel=>exact⟨k+1,out++R.2.1,HHH.o,by rw[DL];have:=HVP.o;omega,by go_num,rfl,rfl,HO8.o,by rw[←HQ.o,←HD.o];exact HAV.o,HB7.o.trans HB8.o⟩
      case measure=>have:=HHH.o;simp[intOf];omega
    ·have t3:((R.1:Int) != 0)=true:=by rw[bne_iff_ne];omega
     have HQ:=zH (show bV j k out (r::RS.drop (k+1))=([],k,R.1) by rw[HR.o];exact m8 (by rw[←HR.o];exact hz));clear hz;go_upto_region 8 with fail;go_region_with (first|(go_at_call 63;refine HGM.o.mono ?_;rintro e w7 ⟨⟨pv,rfl,hrow⟩,hB7⟩;obtain⟨pa,pc,rfl,-,-⟩:=(fc hrow).open;have HROW:=zH hrow;have hB7:=bt (b_drew wr) hB7;have HB7:=zH (bt HBR.o hB7);have HO7:=zH (HO.o.below hB7);have HS7:=zH (DG HBR.o.size hB7.size);clear hB7 hrow)|(go_at_call 64;refine(HTR.o _).mono ?_;rintro e w6 ⟨rfl,rfl⟩))
     all_goals
      go_wp2_with fail
      try rw[Exit.noGoto_ret]
      go_ret3;rw[HPJ.o,←HAV.o,HD.o,HQ.o];exact⟨⟨_,rfl,Rec.Own.nil _ _⟩,bt HB3.o HB7.o⟩
   ·have i1:¬(k:Int)<(RS.length:Int):=by omega
    have HE:=zH (show bV j 0 [] RS=(out,0,0) by rw[←HAV.o,Ef (by omega)];rfl);clear h0;go_wp2_with fail
    try rw[Exit.noGoto_ret]
    go_ret3;rw[HPJ.o,HE.o];exact⟨⟨_,rfl,HO.o.mono HB3.o.size⟩,bt HB3.o HBR.o⟩
 ·have t1:((ck.2.2:Int) != 0)=true:=by rw[hck,bne_iff_ne];have:=p9 hm;omega
  have HPJ:=zH (kZ (j:=j) (text:=text) hm);clear hm hck;go_wp2_with (go_at_call 61;refine(HCK.o _ HB1.o).mono ?_;rintro e w2 ⟨rfl,hB2⟩;have HB2:=zH (bt HB1.o hB2);clear hB2 x0 x1 x2 x3 x4 x5 x6 x7)
  try rw[Exit.noGoto_ret]
  go_ret3;rw[HPJ.o];exact⟨⟨_,rfl,Rec.Own.nil _ _⟩,HB2.o⟩
theorem CL {n k:Nat}(h:n≤1000000)(hk:k≤n):(k+1)*16≤140737488355328:=by omega
theorem nP {b:UInt8}(h:b=10):(((b.toNat:Int))==10)=true:=by subst h;rfl
theorem py {b:UInt8}(h:b≠10):(((b.toNat:Int))==10)=false:=by
 rw[beq_eq_false_iff_ne];intro e;apply h;apply UInt8.toNat_inj.1;show b.toNat=10;omega
theorem n9 {s:LU_}{k i:Nat}{out:LL_}(hik:k=i)(hi:i=s.length)(h:out++fl ((s.drop k).take (i-k)) (s.drop i)=bY s):out=bY s:=by
 subst hik;rw[Nat.sub_self,DW,Ef (by omega),fl,if_pos rfl,DR]at h;exact h
theorem kr (s:LU_)(w:World)(hl:s.length≤1000000):Calls Tryz.prog 65 #[.string (bs s)] w fun e w'=>(∃ v,e=.returned v∧aK.Own w' w.heap.size v (bY s))∧Bw_ w w':=by
 go_enter Tryz.func65,Tryz.ntmps65;go_wp2
 go_loopw [3,4,5] (fun u f t wr=>∃ (i k:Nat) (out:LL_),i≤s.length∧k≤i∧out.length≤i∧f=.int .i64 (k:Int)∧t=.int .i64 (i:Int)∧(i=s.length→k=i)∧Hid (out++fl ((s.drop k).take (i-k)) (s.drop i)=bY s)∧Hid (aK.Own wr w.heap.size u out)∧Hid (Below w.heap.size w wr)) (fun _ _ t _=>s.length-(intOf t).toNat)
 case atStart=>exact⟨0,0,[],D6 _,DC _,DC _,rfl,rfl,fun _=>rfl,rfl,Rec.Own.nil _ _,DF _ _⟩
 case round =>
  obtain⟨i,k,out,hi,hk,hol,rfl,rfl,hik,HE,HO,HB⟩:=hrel;obtain⟨ao,co,rfl⟩:=ap HO.o
  by_cases h0:i<s.length
  ·have hby:=wv s out k i h0 hk HE.o
   have i0:=nn_ i;have i1:(i:Int)<(s.length:Int):=by omega
   have HBY:=zH (CL hl (DG hol hi));have HI:=zH h0;have HKI:=zH hk;obtain⟨b,hb⟩:=ex_ (s[i]'h0);rw[←hb]at hby;have HBE:=zH hb
   by_cases h10:b=10
   ·have HN:=zH (hby.1 (.inl h10))
    have t1:=nP h10;rw[hb]at t1;clear hby h10 hik hb
    (go_wp2_with (at_builtin;go_must (refine aK.append1 wr ((s.drop k).take (i+1-k)) rfl _ _ 22 rfl Tryz.underlying22 w.heap.size _ out HO.o rfl _ rfl _ rfl _ rfl HBY.o HB.o.size ?_);intro g cap w8 hown8 hB8;have HO8:=zH hown8;have HB8:=zH hB8;clear hown8 hB8);go_roundw;(case rel=>exact⟨i+1,i+1,out++[(s.drop k).take (i+1-k)],HI.o,DC _,by rw[DL];simp;omega,by go_num,by go_num,fun _=>rfl,(show(out++[(s.drop k).take (i+1-k)])++fl ((s.drop (i+1)).take (i+1-(i+1))) (s.drop (i+1))=bY s by rw[Nat.sub_self,DW];exact HN.o),by first|exact HO8.o|(rw[DL];exact HO8.o),HB.o.trans HB8.o⟩);(case measure=>have:=HI.o;simp[intOf];omega))
   ·have t1:=py h10
    rw[hb]at t1
    by_cases hlast:i+1=s.length
    ·have HN:=zH (hby.1 (.inr hlast))
     have t2:((i:Int)==(s.length:Int)-1)=true:=by rw[beq_iff_eq];omega
     clear hby h10 hik hb hlast
     (go_wp2_with (at_builtin;go_must (refine aK.append1 wr ((s.drop k).take (i+1-k)) rfl _ _ 22 rfl Tryz.underlying22 w.heap.size _ out HO.o rfl _ rfl _ rfl _ rfl HBY.o HB.o.size ?_);intro g cap w8 hown8 hB8;have HO8:=zH hown8;have HB8:=zH hB8;clear hown8 hB8);go_roundw;(case rel=>exact⟨i+1,i+1,out++[(s.drop k).take (i+1-k)],HI.o,DC _,by rw[DL];simp;omega,by go_num,by go_num,fun _=>rfl,(show(out++[(s.drop k).take (i+1-k)])++fl ((s.drop (i+1)).take (i+1-(i+1))) (s.drop (i+1))=bY s by rw[Nat.sub_self,DW];exact HN.o),by first|exact HO8.o|(rw[DL];exact HO8.o),HB.o.trans HB8.o⟩);(case measure=>have:=HI.o;simp[intOf];omega))
    ·have HN:=zH (hby.2 (fun q=>q.elim h10 hlast))
     have t2:((i:Int)==(s.length:Int)-1)=false:=by rw[beq_eq_false_iff_ne];omega
     have HL:=zH hlast;clear hby h10 hik hb hlast;go_wp2_with fail;go_roundw
     case rel=>exact⟨i+1,k,out,HI.o,D8 HKI.o,D8 hol,rfl,by go_num,fun q=>absurd q HL.o,HN.o,HO.o,HB.o⟩
     case measure=>have:=HI.o;simp[intOf];omega
  ·have i1:¬(i:Int)<(s.length:Int):=by omega
   have hie:i=s.length:=by omega
   have HOE:=zH (n9 (hik hie) hie HE.o);rw[HOE.o]at HO;rw[show out.length=(bY s).length by rw[HOE.o]];clear h0 hie hik HE;go_wp2_with fail;go_ret;exact⟨⟨_,rfl,HO.o⟩,HB.o⟩
theorem zK {s:LU_}{n:Nat}(hn:s.length=n+1)(h:s[n]'(by omega)=10):fw s=s.take n:=by
 have e:s.getLast?=some (s[n]'(by omega)):=by rw[List.getLast?_eq_getElem?,show s.length-1=n by omega];exact List.getElem?_eq_getElem (by omega)
 unfold fw;rw[if_pos (by rw[e,h]),List.dropLast_eq_take,hn,Nat.add_sub_cancel]
theorem AY {s:LU_}{n:Nat}(hn:s.length=n+1)(h:s[n]'(by omega)≠10):fw s=s:=by
 have e:s.getLast?=some (s[n]'(by omega)):=by rw[List.getLast?_eq_getElem?,show s.length-1=n by omega];exact List.getElem?_eq_getElem (by omega)
 unfold fw;rw[if_neg (by rw[e];exact fun q=>h (Option.some.inj q))]
theorem wN (s:LU_)(w:World)(hs:s.length≤1000000):Calls Tryz.prog 67 #[.string (bs s)] w fun e w'=>e=.returned (.string (bs (fw s)))∧w'=w:=by
 go_enter Tryz.func67,Tryz.ntmps67
 by_cases h0:s=[]
 ·subst h0
  go_wp2;go_ret;exact⟨rfl,rfl⟩
 ·have h1:(s==[])=false:=by simpa using h0
  obtain⟨n,hn⟩:∃ n,s.length=n+1:=⟨s.length-1,by have:=List.length_pos_iff.2 h0;omega⟩
  have m1:(s.length:Int)-1=(n:Int):=by omega
  have m2:(n:Int)<(s.length:Int):=by omega
  have m3:=nn_ n
  by_cases h10:s[n]'(by omega)=10
  ·have t1:=nP h10
   have HB:=zH (zK hn h10);clear h10 h0;go_wp2;go_ret;rw[HB.o];exact⟨rfl,rfl⟩
  ·have t1:=py h10
   have HB:=zH (AY hn h10);clear h10 h0;go_wp2;go_ret;rw[HB.o];exact⟨rfl,rfl⟩
theorem zF {n k o x:Nat}(hn:n≤1000000)(hk:k≤n)(ho:o≤256*k)(hx:x≤256):(o+x)*32≤140737488355328:=by omega
theorem kt (t1 c1 t2 c2 t3 c3:Value)(j:Jb)(text:LU_)(w:World)(h:dH w t1 c1 t2 c2 t3 c3 j)(ht:text.length≤1000000):Calls Tryz.prog 31 #[bM t1 c1 t2 c2 t3 c3 j,.string (bs text)] w fun e w'=>(∃ pv,e=.returned (.tuple #[pv,.int .i64 ((bC j text).2.1:Int),.int .i64 ((bC j text).2.2:Int)])∧recKv.Own w' w.heap.size pv (bC j text).1)∧Bw_ w w':=by
 have HMY:=zH (fun w' (hB:Below w.heap.size w w')=>ie t1 c1 t2 c2 t3 c3 j w' (h.below hB));have HMP:=zH (fun (s:LU_) w' (hB:Below w.heap.size w w') hs=>tM t1 c1 t2 c2 t3 c3 j s w' (h.below hB) hs);have HRC:=zH (fun w'=>kr text w' ht);have HRE:=zH (show ∀ r∈bY text,r.length≤1000000 from fun r hr=>DG (oQ text r hr) ht);have HRN:=zH (DG (g9 text) ht);obtain⟨ta,tc,ca,cc,ta2,tc2,ca2,cc2,ta3,tc3,ca3,cc3,rfl,rfl,rfl,rfl,rfl,rfl⟩:=jo_ h.a.t h.a.c h.b.t h.b.c h.c.t h.c.c;unfold bM at HMY HMP⊢;obtain⟨W1,hW1⟩:=ex_ (w.alloc (.cells #[.slice ta j.mt.length tc,.slice ca j.mc.length cc,.slice ta2 j.jt.length tc2,.slice ca2 j.jc.length cc2,.slice ta3 j.tt.length tc3,.slice ca3 j.tc.length cc3,.int .i64 j.parts,.int .i64 j.fuel] 27));have hb1:=ba_ hW1;obtain⟨J,hJ⟩:=ex_ w.heap.size;have hx:=bn_ hJ hW1;obtain⟨x0,x1,x2,x3,x4,x5,x6,x7⟩:=cl8 hx;have HB1:=zH hb1;have HX:=zH hx;go_enter Tryz.func31,Tryz.ntmps31;go_upto_region 1 with fail;rw[←hW1,←hJ];clear hW1 hJ hb1 hx h ht
 by_cases hm:bJ j=true
 ·rw[hm]at HMY
  have HPJ:=zH (nd (j:=j) (text:=text) hm);clear hm;go_upto_region 6 with(first|(go_at_call 65;refine(HRC.o _).mono ?_;rintro e w3 ⟨⟨rv,rfl,hro⟩,hB3⟩;obtain⟨ra,rc,rfl⟩:=ap hro;have HRO:=zH hro.row;have HX3:=zH (HX2.o.below hB3);have HB3:=zH (bt HB2.o hB3);clear hro hB3)|(go_at_call 16;refine(HMY.o _ HB1.o).mono ?_;rintro e w2 ⟨rfl,hB2⟩;have HX2:=zH (HX.o.below hB2);have HB2:=zH (bt HB1.o hB2);clear hB2 x0 x1 x2 x3 x4 x5 x6 x7));obtain⟨_,_,hkv,_,hkc⟩:=an HRO.o;injection hkv with q1 _ q3
  subst q1 q3;have HKC:=zH hkc;obtain⟨RS,hRS⟩:=ex_ (bY text);rw[←hRS]at HRN HRE HKC HPJ⊢;clear hkc hRS HRO HMY HRC
  go_loopw [8,9] (fun tx i wr=>∃ (k:Nat) (out:List PR),k≤RS.length∧out.length≤256*k∧i=.int .i64 (k:Int)∧Hid (recKv.Own wr w3.heap.size tx out)∧Hid (bV j k out (RS.drop k)=bV j 0 [] RS)∧Hid (Below w3.heap.size w3 wr)) (fun _ i _=>RS.length-(intOf i).toNat)
  case atStart=>exact⟨0,[],D6 _,D6 _,rfl,Rec.Own.nil _ _,rfl,DF _ _⟩
  case round =>
   obtain⟨k,out,hk,hok,rfl,HO,HAV,HBR⟩:=hrel;obtain⟨ao,co,rfl⟩:=ap HO.o;have hrn:=HRN.o
   by_cases h0:k<RS.length
   ·obtain⟨kb,ko,hA,e1⟩:=HKC.o k h0
    subst hA;have hdr:RS.drop k=RS[k]::RS.drop (k+1):=Dw h0;have hrl:=HRE.o _ (DY h0);obtain⟨r,hre⟩:=ex_ (RS[k]'h0);rw[←hre]at e1 hrl hdr;have HD:=zH hdr;replace e1:=C8 HBR.o e1;have hxx:=HX3.o.below HBR.o;obtain⟨x0,x1,x2,x3,x4,x5,x6,x7⟩:=cl8 hxx;have hrl2:r.length≤1000000:=hrl;have HTR:=zH (fun w'=>wN r w' hrl2);have HBX:=zH (bt HB3.o HBR.o);have HVP:=zH (kT j.mt j.mc 1 [fw r] j.fuel);have HGM:=zH (HMP.o (fw r) wr.drew (bt (bt HB3.o HBR.o) (b_drew wr)) (DG (sH r) (DG hrl2 (by decide))));obtain⟨R,hR⟩:=ex_ (vmV j.mt j.mc 1 [fw r] j.fuel);rw[←hR]at HGM HVP;have HR:=zH hR;have i0:=nn_ k;have i1:(k:Int)<(RS.length:Int):=by omega
    have HHH:=zH h0;have HXX:=zH hxx;have HBY:=zH (zF (x:=R.2.1.length) HRN.o hk hok HVP.o);clear hR hdr hre hxx h0 hrl hrl2
    by_cases hz:R.1=0
    ·have t3:((R.1:Int) != 0)=false:=by rw[hz];rfl
     have HQ:=zH (show bV j k out (r::RS.drop (k+1))=bV j (k+1) (out++R.2.1) (RS.drop (k+1)) by rw[HR.o];exact o7 (by rw[←HR.o];exact hz));clear hz;go_upto_region 8 with fail;go_region_with (first|(go_at_call 66;refine HGM.o.mono ?_;rintro e w7 ⟨⟨pv,rfl,hrow⟩,hB7⟩;obtain⟨pa,pc,rfl,-,-⟩:=(kn hrow).open;have HROW:=zH (qW (kn hrow));have hB7:=bt (b_drew wr) hB7;have HB7:=zH (bt HBR.o hB7);have HO7:=zH (HO.o.below hB7);have HS7:=zH (DG HBR.o.size hB7.size);clear hB7 hrow)|(go_at_call 67;refine(HTR.o _).mono ?_;rintro e w6 ⟨rfl,rfl⟩))
     all_goals
      go_wp2_with (at_builtin;go_must (refine recKv.append w7 rfl _ _ 29 rfl Tryz.underlying29 w3.heap.size _ out HO7.o rfl _ R.2.1 HROW.o rfl HBY.o HS7.o ?_);intro v8 w8 hown8 hB8;have HO8:=zH hown8;have HB8:=zH hB8;clear hown8 hB8);go_roundw
      case rel=>exact⟨k+1,out++R.2.1,HHH.o,by rw[DL];have:=HVP.o;omega,by go_num,HO8.o,by rw[←HQ.o,←HD.o];exact HAV.o,HB7.o.trans HB8.o⟩
      case measure=>have:=HHH.o;simp[intOf];omega
    ·have t3:((R.1:Int) != 0)=true:=by rw[bne_iff_ne];omega
     have HQ:=zH (show bV j k out (r::RS.drop (k+1))=([],k,R.1) by rw[HR.o];exact m8 (by rw[←HR.o];exact hz));clear hz;go_upto_region 8 with fail;go_region_with (first|(go_at_call 66;refine HGM.o.mono ?_;rintro e w7 ⟨⟨pv,rfl,hrow⟩,hB7⟩;obtain⟨pa,pc,rfl,-,-⟩:=(kn hrow).open;have HROW:=zH (qW (kn hrow));have hB7:=bt (b_drew wr) hB7;have HB7:=zH (bt HBR.o hB7);have HO7:=zH (HO.o.below hB7);have HS7:=zH (DG HBR.o.size hB7.size);clear hB7 hrow)|(go_at_call 67;refine(HTR.o _).mono ?_;rintro e w6 ⟨rfl,rfl⟩))
     all_goals
      go_wp2_with fail;go_ret3;rw[HPJ.o,←HAV.o,HD.o,HQ.o];exact⟨⟨_,rfl,Rec.Own.nil _ _⟩,bt HB3.o HB7.o⟩
   ·have i1:¬(k:Int)<(RS.length:Int):=by omega
    have HE:=zH (show bV j 0 [] RS=(out,0,0) by rw[←HAV.o,Ef (by omega)];rfl);clear h0;go_wp2_with fail;go_ret3;rw[HPJ.o,HE.o];exact⟨⟨_,rfl,HO.o.mono HB3.o.size⟩,bt HB3.o HBR.o⟩
 ·have hmf:bJ j=false:=by cases q:bJ j with
   | false=>rfl
   | true=>exact absurd q hm
  rw[hmf]at HMY;have HPJ:=zH (kZ (j:=j) (text:=text) hm);clear hm hmf;go_wp2_with (go_at_call 16;refine(HMY.o _ HB1.o).mono ?_;rintro e w2 ⟨rfl,hB2⟩;have HB2:=zH (bt HB1.o hB2);clear hB2 x0 x1 x2 x3 x4 x5 x6 x7);go_ret3;rw[HPJ.o];exact⟨⟨_,rfl,Rec.Own.nil _ _⟩,HB2.o⟩

def uf (p:List PR):bn Bel:=⟨Nat,fun x=>.slice (some ⟨x,0,none⟩) 1 1,fun x=>some fun w=>RR w (.slice (some ⟨x,0,none⟩) 1 1) [p],fun _ _ h _ _ hφ hB=>by cases h;exact RR.below hφ hB⟩
@[go_sem] theorem BA (p:List PR) (x:Nat):(uf p).val x=.slice (some ⟨x,0,none⟩) 1 1:=rfl
def zo (bZ:Nat)(l:List PR)(u v:Value):bn Bel:=⟨Option Addr×Nat,fun x=>.tuple #[.slice x.1 l.length x.2,u,v],fun x=>some fun w=>recKv.Own w bZ (.slice x.1 l.length x.2) l,fun _ _ h _ _ hφ hB=>by cases h;exact Rec.Own.below hφ hB⟩
@[go_sem] theorem B3 (bZ:Nat) (l:List PR) (u v:Value) (a:Option Addr) (c:Nat):(zo bZ l u v).val (a,c)=.tuple #[.slice a l.length c,u,v]:=rfl
end
