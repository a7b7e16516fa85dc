/- Lemmas for DeltaJobs: walks, plain laws. -/
import Derived.Lib.Bytealg
import Derived.Test.YtehllcbnheicoaaGreatDoorDeltaJobsK26
set_option linter.unusedSimpArgs false
set_option linter.unusedVariables false
set_option maxRecDepth 100000
set_option maxHeartbeats 16000000
namespace Go.Proofs.YtehllcbnheicoaaGreatDoor
open Go.RowKit Oct
section
def fP (acc:LU_):LU_→LL_
 | []=>if acc=[] then [] else [acc]
 | b::r=>if b=10 then (acc++[b])::fP [] r else fP (acc++[b]) r
def cN (s:LU_):LL_:=fP [] s
theorem rU:cN []=[]:=rfl
theorem pt (l:LU_):∀ (acc r:LU_),(∀ b∈l,b≠10)→fP acc (l++r)=fP (acc++l) r:=by
 induction l with
 | nil=>intro acc r _;rw[Ep];rfl
 | cons x l ih =>
  intro acc r h;rw[Ed,fP,if_neg (h x (Er ..)),ih _ _ (fun b hb=>h b (Es _ hb)),Et]
  rfl
theorem zw (l r:LU_)(h:∀ b∈l,b≠10):cN (l++10::r)=(l++[10])::cN r:=by
 unfold cN;rw[pt l [] (10::r) h,Eu,fP,if_pos rfl]
theorem xw (s:LU_)(h0:s≠[])(h:∀ b∈s,b≠10):cN s=[s]:=by
 unfold cN;have q:=pt s [] [] h;rw[Ep,Eu]at q;rw[q,fP,if_neg h0]
theorem xz (l:LU_):∀ acc,(fP acc l).flatten=acc++l:=by
 induction l with
 | nil =>
  intro acc;rw[fP]
  split
  ·next h=>rw[h];rfl
  ·simp
 | cons b l ih =>
  intro acc;rw[fP]
  split
  ·rw[List.flatten_cons,ih,Eu,Et];rfl
  ·rw[ih,Et];rfl
theorem pn (s:LU_):(cN s).flatten=s:=xz s []
theorem zz (l:LU_):∀ acc,∀ r∈fP acc l,0<r.length:=by
 induction l with
 | nil =>
  intro acc r hr;rw[fP]at hr
  split at hr
  ·cases hr
  ·next h =>
   rw[EN.1 hr];exact List.length_pos_iff.2 h
 | cons b l ih =>
  intro acc r hr;rw[fP]at hr
  split at hr
  ·rcases EW.1 hr with rfl|hr
   ·simp
   ·exact ih _ r hr
  ·exact ih _ r hr
theorem qO (L:LL_)(h:∀ r∈L,0<r.length):L.length≤L.flatten.length:=by
 induction L with
 | nil=>simp
 | cons x L ih =>
  rw[List.flatten_cons,Ev,Ea];have h1:=h x (Er ..);have h2:=ih (fun r hr=>h r (Es _ hr));omega
theorem iE (s:LU_):(cN s).length≤s.length:=by
 have q:=qO (cN s) (zz s [])
 rwa [pn]at q
theorem qG (L:LL_):∀ r∈L,r.length≤L.flatten.length:=by
 induction L with
 | nil=>intro r hr;cases hr
 | cons x L ih =>
  intro r hr;rw[List.flatten_cons,Ev];rcases EW.1 hr with rfl|hr
  ·omega
  ·have:=ih r hr;omega
theorem po (s:LU_):∀ r∈cN s,r.length≤s.length:=by
 have q:=qG (cN s)
 rwa [pn]at q
theorem xx (s:LU_)(out:LL_)(f i:Nat)(hi:i<s.length)(hf:f≤i)(h:out++fP ((s.drop f).take (i-f)) (s.drop i)=cN s):(s[i]=10∨i+1=s.length→(out++[(s.drop f).take (i+1-f)])++fP [] (s.drop (i+1))=cN s) ∧(¬(s[i]=10∨i+1=s.length)→out++fP ((s.drop f).take (i+1-f)) (s.drop (i+1))=cN s):=by
 have hd:s.drop i=s[i]::s.drop (i+1):=Ec hi
 have ht:(s.drop f).take (i+1-f)=(s.drop f).take (i-f)++[s[i]]:=by
  rw[show i+1-f=(i-f)+1 by omega,Ef (by rw[Ew];omega)];congr 2;rw[List.getElem_drop];congr 1;omega
 rw[hd,fP]at h;refine⟨fun q=>?_,fun q=>?_⟩
 ·by_cases hb:s[i]=10
  ·rw[if_pos hb]at h
   rw[ht,Et];exact h
  ·rw[if_neg hb]at h
   have he:i+1=s.length:=q.resolve_left hb;have hn:s.drop (i+1)=[]:=Ex (by omega);rw[hn]at h⊢;rw[ht];rw[fP,if_neg (by simp)]at h;rw[fP,if_pos rfl,Ep];exact h
 ·rw[if_neg (fun hb=>q (.inl hb))]at h
  rw[ht];exact h
def fT (s:LU_):LU_:=if s.getLast?=some 10 then s.dropLast else s
theorem tB (s:LU_):(fT s).length≤s.length:=by
 unfold fT
 split
 ·rw[List.length_dropLast];omega
 ·exact Ei _
end
section
attribute [local irreducible] wpG
theorem Do {n k:Nat}(h:n≤1000000)(hk:k≤n):(k+1)*16≤140737488355328:=by omega
theorem oz {b:UInt8}(h:b=10):(((b.toNat:Int))==10)=true:=by subst h;rfl
theorem p6 {b:UInt8}(h:b≠10):(((b.toNat:Int))==10)=false:=by
 rw[beq_eq_false_iff_ne];intro e;apply h;apply UInt8.toNat_inj.1;show b.toNat=10;omega
theorem oM {s:LU_}{k i:Nat}{out:LL_}(hik:k=i)(hi:i=s.length)(h:out++fP ((s.drop k).take (i-k)) (s.drop i)=cN s):out=cN s:=by
 subst hik;rw[Nat.sub_self,EF,Ex (by omega),fP,if_pos rfl,Ep]at h;exact h
theorem qx (s:LU_)(w:World)(hl:s.length≤1000000):Calls Tryz.prog 51 #[.string (bs s)] w fun e w'=>(∃ v,e=.returned v∧aL.Own w' w.heap.size v (cN s))∧Bw_ w w':=by
 go_enter Tryz.func51,Tryz.ntmps51;go_wp2
 go_loopw [3,4,5] (fun u f t wr=>∃ (i k:Nat) (out:LL_),i≤s.length∧k≤i∧out.length≤i∧f=.int .i64 (k:Int)∧t=.int .i64 (i:Int)∧(i=s.length→k=i)∧Hid (out++fP ((s.drop k).take (i-k)) (s.drop i)=cN s)∧Hid (aL.Own wr w.heap.size u out)∧Hid (Below w.heap.size w wr)) (fun _ _ t _=>s.length-(intOf t).toNat)
 case atStart=>exact⟨0,0,[],EG _,Ei _,Ei _,rfl,rfl,fun _=>rfl,rfl,Rec.Own.nil _ _,Em _ _⟩
 case round =>
  obtain⟨i,k,out,hi,hk,hol,rfl,rfl,hik,HE,HO,HB⟩:=hrel;obtain⟨ao,co,rfl⟩:=ap HO.o
  by_cases h0:i<s.length
  ·have hby:=xx s out k i h0 hk HE.o
   have i0:=nn_ i;have i1:(i:Int)<(s.length:Int):=by omega
   have HBY:=zH (Do hl (En hol hi));have HI:=zH h0;have HKI:=zH hk;obtain⟨b,hb⟩:=ex_ (s[i]'h0);rw[←hb]at hby;have HBE:=zH hb
   by_cases h10:b=10
   ·have HN:=zH (hby.1 (.inl h10))
    have t1:=oz h10;rw[hb]at t1;clear hby h10 hik hb
    (go_wp2_with (at_builtin;go_must (refine aL.append1 wr ((s.drop k).take (i+1-k)) rfl _ _ 22 rfl Tryz.underlying22 w.heap.size _ out HO.o rfl _ rfl _ rfl _ rfl HBY.o HB.o.size ?_);intro g cap w8 hown8 hB8;have HO8:=zH hown8;have HB8:=zH hB8;clear hown8 hB8);go_roundw;(case rel=>exact⟨i+1,i+1,out++[(s.drop k).take (i+1-k)],HI.o,Ei _,by rw[Ev];simp;omega,by go_num,by go_num,fun _=>rfl,(show(out++[(s.drop k).take (i+1-k)])++fP ((s.drop (i+1)).take (i+1-(i+1))) (s.drop (i+1))=cN s by rw[Nat.sub_self,EF];exact HN.o),by first|exact HO8.o|(rw[Ev];exact HO8.o),HB.o.trans HB8.o⟩);(case measure=>have:=HI.o;simp[intOf];omega))
   ·have t1:=p6 h10
    rw[hb]at t1
    by_cases hlast:i+1=s.length
    ·have HN:=zH (hby.1 (.inr hlast))
     have t2:((i:Int)==(s.length:Int)-1)=true:=by rw[beq_iff_eq];omega
     clear hby h10 hik hb hlast
     (go_wp2_with (at_builtin;go_must (refine aL.append1 wr ((s.drop k).take (i+1-k)) rfl _ _ 22 rfl Tryz.underlying22 w.heap.size _ out HO.o rfl _ rfl _ rfl _ rfl HBY.o HB.o.size ?_);intro g cap w8 hown8 hB8;have HO8:=zH hown8;have HB8:=zH hB8;clear hown8 hB8);go_roundw;(case rel=>exact⟨i+1,i+1,out++[(s.drop k).take (i+1-k)],HI.o,Ei _,by rw[Ev];simp;omega,by go_num,by go_num,fun _=>rfl,(show(out++[(s.drop k).take (i+1-k)])++fP ((s.drop (i+1)).take (i+1-(i+1))) (s.drop (i+1))=cN s by rw[Nat.sub_self,EF];exact HN.o),by first|exact HO8.o|(rw[Ev];exact HO8.o),HB.o.trans HB8.o⟩);(case measure=>have:=HI.o;simp[intOf];omega))
    ·have HN:=zH (hby.2 (fun q=>q.elim h10 hlast))
     have t2:((i:Int)==(s.length:Int)-1)=false:=by rw[beq_eq_false_iff_ne];omega
     have HL:=zH hlast;clear hby h10 hik hb hlast;go_wp2_with fail;go_roundw
     case rel=>exact⟨i+1,k,out,HI.o,EH HKI.o,EH hol,rfl,by go_num,fun q=>absurd q HL.o,HN.o,HO.o,HB.o⟩
     case measure=>have:=HI.o;simp[intOf];omega
  ·have i1:¬(i:Int)<(s.length:Int):=by omega
   have hie:i=s.length:=by omega
   have HOE:=zH (oM (hik hie) hie HE.o);rw[HOE.o]at HO;rw[show out.length=(cN s).length by rw[HOE.o]];clear h0 hie hik HE;go_wp2_with fail;go_ret;exact⟨⟨_,rfl,HO.o⟩,HB.o⟩
end
section
def cq (j:Jb):Nat→List PR→LL_→List PR×Nat×Nat
 | _,out,[]=>(out,0,0)
 | k,out,r::rs=>if (vmV j.mt j.mc 1 [fT r] j.fuel).1≠0 then ([],k,(vmV j.mt j.mc 1 [fT r] j.fuel).1) else cq j (k+1) (out++(vmV j.mt j.mc 1 [fT r] j.fuel).2.1) rs
def bf (j:Jb)(text:LU_):List PR×Nat×Nat:=if cd j=true then cq j 0 [] (cN text) else ([],0,2)
theorem nI {j:Jb}{k:Nat}{out:List PR}{r:LU_}{rs:LL_}(h:(vmV j.mt j.mc 1 [fT r] j.fuel).1≠0):cq j k out (r::rs)=([],k,(vmV j.mt j.mc 1 [fT r] j.fuel).1):=by rw[cq,if_pos h]
theorem pA {j:Jb}{k:Nat}{out:List PR}{r:LU_}{rs:LL_}(h:(vmV j.mt j.mc 1 [fT r] j.fuel).1=0):cq j k out (r::rs)=cq j (k+1) (out++(vmV j.mt j.mc 1 [fT r] j.fuel).2.1) rs:=by rw[cq,if_neg (fun q=>q h)]
theorem nJ {j:Jb}{text:LU_}(h:cd j=true):bf j text=cq j 0 [] (cN text):=if_pos h
theorem pC {j:Jb}{text:LU_}(h:¬cd j=true):bf j text=([],0,2):=if_neg h
def bQ (j:Jb):Nat→List PR→LL_→List PR×(Nat×Nat)×Nat
 | _,out,[]=>(out,(0,0),0)
 | k,out,t::ts=>if (bf j t).2.2≠0 then ([],(k,(bf j t).2.1),(bf j t).2.2) else bQ j (k+1) (out++(bf j t).1) ts
theorem vu {j:Jb}{k:Nat}{out:List PR}{t:LU_}{ts:LL_}(h:(bf j t).2.2≠0):bQ j k out (t::ts)=([],(k,(bf j t).2.1),(bf j t).2.2):=by rw[bQ,if_pos h]
theorem yk {j:Jb}{k:Nat}{out:List PR}{t:LU_}{ts:LL_}(h:(bf j t).2.2=0):bQ j k out (t::ts)=bQ j (k+1) (out++(bf j t).1) ts:=by rw[bQ,if_neg (fun q=>q h)]
def cB (j:Jb):Nat→List (List PR)→LL_→List (List PR)×(Nat×Nat)×Nat
 | _,out,[]=>(out,(0,0),0)
 | k,out,t::ts=>if (bf j t).2.2≠0 then ([],(k,(bf j t).2.1),(bf j t).2.2) else cB j (k+1) (out++[(bf j t).1]) ts
theorem vq {j:Jb}{k:Nat}{out:List (List PR)}{t:LU_}{ts:LL_}(h:(bf j t).2.2≠0):cB j k out (t::ts)=([],(k,(bf j t).2.1),(bf j t).2.2):=by rw[cB,if_pos h]
theorem yj {j:Jb}{k:Nat}{out:List (List PR)}{t:LU_}{ts:LL_}(h:(bf j t).2.2=0):cB j k out (t::ts)=cB j (k+1) (out++[(bf j t).1]) ts:=by rw[cB,if_neg (fun q=>q h)]
theorem mD (j:Jb):∀ (ts:LL_) (k:Nat) (out:List (List PR)),bQ j k out.flatten ts=((cB j k out ts).1.flatten,(cB j k out ts).2)
 | [],k,out=>rfl
 | t::ts,k,out=>by
  rw[bQ,cB]
  split
  ·rfl
  ·have h:=mD j ts (k+1) (out++[(bf j t).1])
   rw[List.flatten_append,List.flatten_cons,List.flatten_nil,Ep]at h;exact h
def bK (j:Jb):List (List PR)→List (List PR)→List (List PR)×LU_×Nat
 | out,[]=>(out,[],0)
 | out,p::ps=>if (cI j [p]).2.2≠0 then ([],(cI j [p]).2.1,(cI j [p]).2.2) else bK j (out++[(cI j [p]).1]) ps
theorem kw {j:Jb}{out:List (List PR)}{p:List PR}{ps:List (List PR)}(h:(cI j [p]).2.2≠0):bK j out (p::ps)=([],(cI j [p]).2.1,(cI j [p]).2.2):=by rw[bK,if_pos h]
theorem lJ {j:Jb}{out:List (List PR)}{p:List PR}{ps:List (List PR)}(h:(cI j [p]).2.2=0):bK j out (p::ps)=bK j (out++[(cI j [p]).1]) ps:=by rw[bK,if_neg (fun q=>q h)]
theorem Ce (texts:LL_)(code:List VI)(role:UInt8)(ins:LL_)(fuel:Int):∀ p∈(vmV texts code role ins fuel).2.1,p.1.length≤1024∧p.2.length≤1024:=by
 cases hy:cU texts code role ins fuel with
 | false=>rw[nd hy];simp
 | true =>
  rw[kG hy];obtain⟨h1,h2,-,-,h5⟩:=eb hy;obtain⟨hg,-⟩:=fK h1 h2 h5;unfold mK
  split
  ·rename_i h0
   obtain⟨hok,-⟩:=kP hg fuel.toNat bg fY h0;exact hok.pv
  ·simp
def lK (p:PR):Prop:=p.1.length≤1024∧p.2.length≤1024
theorem nH (j:Jb):∀ (rs:LL_) (k:Nat) (out:List PR),(cq j k out rs).1.length≤out.length+256*rs.length
 | [],k,out=>by simp[cq]
 | r::rs,k,out=>by
  rw[cq]
  split
  ·simp
  ·have h:=nH j rs (k+1) (out++(vmV j.mt j.mc 1 [fT r] j.fuel).2.1)
   have h2:=lD j.mt j.mc 1 [fT r] j.fuel;rw[Ev]at h;rw[Ea];omega
theorem pB (j:Jb):∀ (rs:LL_) (k:Nat) (out:List PR),(∀ p∈out,lK p)→∀ p∈(cq j k out rs).1,lK p
 | [],k,out,h=>h
 | r::rs,k,out,h=>by
  rw[cq]
  split
  ·simp
  ·refine pB j rs (k+1) _ (fun p hp=>?_)
   rcases Ey.1 hp with hp|hp
   ·exact h p hp
   ·exact Ce _ _ _ _ _ p hp
theorem nK (j:Jb)(text:LU_):(bf j text).1.length≤256*text.length:=by
 unfold bf
 split
 ·have h:=nH j (cN text) 0 []
  have h2:=iE text;simp only[ET]at h;omega
 ·simp
theorem xN (j:Jb)(text:LU_):∀ p∈(bf j text).1,lK p:=by
 unfold bf
 split
 ·exact pB j _ 0 [] (by simp)
 ·simp
def totalF (files:LL_):Nat:=(files.map List.length).sum
theorem od (j:Jb):∀ (ts:LL_) (k:Nat) (out:List PR),(bQ j k out ts).1.length≤out.length+256*totalF ts
 | [],k,out=>by simp[bQ,totalF]
 | t::ts,k,out=>by
  rw[bQ]
  split
  ·simp
  ·have h:=od j ts (k+1) (out++(bf j t).1)
   have h2:=nK j t;rw[Ev]at h;unfold totalF at h⊢;rw[List.map_cons,List.sum_cons];omega
theorem pX (j:Jb):∀ (ts:LL_) (k:Nat) (out:List PR),(∀ p∈out,lK p)→∀ p∈(bQ j k out ts).1,lK p
 | [],k,out,h=>h
 | t::ts,k,out,h=>by
  rw[bQ]
  split
  ·simp
  ·refine pX j ts (k+1) _ (fun p hp=>?_)
   rcases Ey.1 hp with hp|hp
   ·exact h p hp
   ·exact xN j t p hp
end
section
attribute [local irreducible] wpG
theorem AG {s:LU_}{n:Nat}(hn:s.length=n+1)(h:s[n]'(by omega)=10):fT s=s.take n:=by
 have e:s.getLast?=some (s[n]'(by omega)):=by rw[List.getLast?_eq_getElem?,show s.length-1=n by omega];exact List.getElem?_eq_getElem (by omega)
 unfold fT;rw[if_pos (by rw[e,h]),List.dropLast_eq_take,hn,Nat.add_sub_cancel]
theorem BK {s:LU_}{n:Nat}(hn:s.length=n+1)(h:s[n]'(by omega)≠10):fT s=s:=by
 have e:s.getLast?=some (s[n]'(by omega)):=by rw[List.getLast?_eq_getElem?,show s.length-1=n by omega];exact List.getElem?_eq_getElem (by omega)
 unfold fT;rw[if_neg (by rw[e];exact fun q=>h (Option.some.inj q))]
theorem xI (s:LU_)(w:World)(hs:s.length≤1000000):Calls Tryz.prog 53 #[.string (bs s)] w fun e w'=>e=.returned (.string (bs (fT s)))∧w'=w:=by
 go_enter Tryz.func53,Tryz.ntmps53
 by_cases h0:s=[]
 ·subst h0
  go_wp2;go_ret;exact⟨rfl,rfl⟩
 ·have h1:(s==[])=false:=by simpa using h0
  obtain⟨n,hn⟩:∃ n,s.length=n+1:=⟨s.length-1,by have:=List.length_pos_iff.2 h0;omega⟩
  have m1:(s.length:Int)-1=(n:Int):=by omega
  have m2:(n:Int)<(s.length:Int):=by omega
  have m3:=nn_ n
  by_cases h10:s[n]'(by omega)=10
  ·have t1:=oz h10
   have HB:=zH (AG hn h10);clear h10 h0;go_wp2;go_ret;rw[HB.o];exact⟨rfl,rfl⟩
  ·have t1:=p6 h10
   have HB:=zH (BK hn h10);clear h10 h0;go_wp2;go_ret;rw[HB.o];exact⟨rfl,rfl⟩
theorem AC {n k o x:Nat}(hn:n≤1000000)(hk:k≤n)(ho:o≤256*k)(hx:x≤256):(o+x)*32≤140737488355328:=by omega
theorem qz (t1 c1 t2 c2 t3 c3:Value)(j:Jb)(text:LU_)(w:World)(h:eO w t1 c1 t2 c2 t3 c3 j)(ht:text.length≤1000000):Calls Tryz.prog 25 #[cg t1 c1 t2 c2 t3 c3 j,.string (bs text)] w fun e w'=>(∃ pv,e=.returned (.tuple #[pv,.int .i64 ((bf j text).2.1:Int),.int .i64 ((bf j text).2.2:Int)])∧recKv.Own w' w.heap.size pv (bf j text).1)∧Bw_ w w':=by
 have HMY:=zH (fun w' (hB:Below w.heap.size w w')=>iG t1 c1 t2 c2 t3 c3 j w' (h.below hB));have HMP:=zH (fun (s:LU_) w' (hB:Below w.heap.size w w') hs=>ut t1 c1 t2 c2 t3 c3 j s w' (h.below hB) hs);have HRC:=zH (fun w'=>qx text w' ht);have HRE:=zH (show ∀ r∈cN text,r.length≤1000000 from fun r hr=>En (po text r hr) ht);have HRN:=zH (En (iE text) ht);obtain⟨ta,tc,ca,cc,ta2,tc2,ca2,cc2,ta3,tc3,ca3,cc3,rfl,rfl,rfl,rfl,rfl,rfl⟩:=jo_ h.a.t h.a.c h.b.t h.b.c h.c.t h.c.c;unfold cg at HMY HMP⊢;obtain⟨W1,hW1⟩:=ex_ (w.alloc (.cells #[.slice ta j.mt.length tc,.slice ca j.mc.length cc,.slice ta2 j.jt.length tc2,.slice ca2 j.jc.length cc2,.slice ta3 j.tt.length tc3,.slice ca3 j.tc.length cc3,.int .i64 j.parts,.int .i64 j.fuel] 27));have hb1:=ba_ hW1;obtain⟨J,hJ⟩:=ex_ w.heap.size;have hx:=bn_ hJ hW1;obtain⟨x0,x1,x2,x3,x4,x5,x6,x7⟩:=cl8 hx;have HB1:=zH hb1;have HX:=zH hx;go_enter Tryz.func25,Tryz.ntmps25;go_upto_region 1 with fail;rw[←hW1,←hJ];clear hW1 hJ hb1 hx h ht
 by_cases hm:cd j=true
 ·rw[hm]at HMY
  have HPJ:=zH (nJ (j:=j) (text:=text) hm);clear hm;go_upto_region 6 with(first|(go_at_call 51;refine(HRC.o _).mono ?_;rintro e w3 ⟨⟨rv,rfl,hro⟩,hB3⟩;obtain⟨ra,rc,rfl⟩:=ap hro;have HRO:=zH hro.row;have HX3:=zH (HX2.o.below hB3);have HB3:=zH (bt HB2.o hB3);clear hro hB3)|(go_at_call 30;refine(HMY.o _ HB1.o).mono ?_;rintro e w2 ⟨rfl,hB2⟩;have HX2:=zH (HX.o.below hB2);have HB2:=zH (bt HB1.o hB2);clear hB2 x0 x1 x2 x3 x4 x5 x6 x7));obtain⟨_,_,hkv,_,hkc⟩:=an HRO.o;injection hkv with q1 _ q3
  subst q1 q3;have HKC:=zH hkc;obtain⟨RS,hRS⟩:=ex_ (cN text);rw[←hRS]at HRN HRE HKC HPJ⊢;clear hkc hRS HRO HMY HRC
  go_loopw [8,9] (fun tx i wr=>∃ (k:Nat) (out:List PR),k≤RS.length∧out.length≤256*k∧i=.int .i64 (k:Int)∧Hid (recKv.Own wr w3.heap.size tx out)∧Hid (cq j k out (RS.drop k)=cq j 0 [] RS)∧Hid (Below w3.heap.size w3 wr)) (fun _ i _=>RS.length-(intOf i).toNat)
  case atStart=>exact⟨0,[],EG _,EG _,rfl,Rec.Own.nil _ _,rfl,Em _ _⟩
  case round =>
   obtain⟨k,out,hk,hok,rfl,HO,HAV,HBR⟩:=hrel;obtain⟨ao,co,rfl⟩:=ap HO.o;have hrn:=HRN.o
   by_cases h0:k<RS.length
   ·obtain⟨kb,ko,hA,e1⟩:=HKC.o k h0
    subst hA;have hdr:RS.drop k=RS[k]::RS.drop (k+1):=Ec h0;have hrl:=HRE.o _ (EM h0);obtain⟨r,hre⟩:=ex_ (RS[k]'h0);rw[←hre]at e1 hrl hdr;have HD:=zH hdr;replace e1:=DK HBR.o e1;have hxx:=HX3.o.below HBR.o;obtain⟨x0,x1,x2,x3,x4,x5,x6,x7⟩:=cl8 hxx;have hrl2:r.length≤1000000:=hrl;have HTR:=zH (fun w'=>xI r w' hrl2);have HBX:=zH (bt HB3.o HBR.o);have HVP:=zH (lD j.mt j.mc 1 [fT r] j.fuel);have HGM:=zH (HMP.o (fT r) wr.drew (bt (bt HB3.o HBR.o) (b_drew wr)) (En (tB r) (En hrl2 (by decide))));obtain⟨R,hR⟩:=ex_ (vmV j.mt j.mc 1 [fT r] j.fuel);rw[←hR]at HGM HVP;have HR:=zH hR;have i0:=nn_ k;have i1:(k:Int)<(RS.length:Int):=by omega
    have HHH:=zH h0;have HXX:=zH hxx;have HBY:=zH (AC (x:=R.2.1.length) HRN.o hk hok HVP.o);clear hR hdr hre hxx h0 hrl hrl2
    by_cases hz:R.1=0
    ·have t3:((R.1:Int) != 0)=false:=by rw[hz];rfl
     have HQ:=zH (show cq j k out (r::RS.drop (k+1))=cq j (k+1) (out++R.2.1) (RS.drop (k+1)) by rw[HR.o];exact pA (by rw[←HR.o];exact hz));clear hz;go_upto_region 8 with fail;go_region_with (first|(go_at_call 52;refine HGM.o.mono ?_;rintro e w7 ⟨⟨pv,rfl,hrow⟩,hB7⟩;obtain⟨pa,pc,rfl,-,-⟩:=(kV hrow).open;have HROW:=zH (nv (kV hrow));have hB7:=bt (b_drew wr) hB7;have HB7:=zH (bt HBR.o hB7);have HO7:=zH (HO.o.below hB7);have HS7:=zH (En HBR.o.size hB7.size);clear hB7 hrow)|(go_at_call 53;refine(HTR.o _).mono ?_;rintro e w6 ⟨rfl,rfl⟩))
     all_goals
      go_wp2_with (at_builtin;go_must (refine recKv.append w7 rfl _ _ 37 rfl Tryz.underlying37 w3.heap.size _ out HO7.o rfl _ R.2.1 HROW.o rfl HBY.o HS7.o ?_);intro v8 w8 hown8 hB8;have HO8:=zH hown8;have HB8:=zH hB8;clear hown8 hB8);go_roundw
      case rel=>exact⟨k+1,out++R.2.1,HHH.o,by rw[Ev];have:=HVP.o;omega,by go_num,HO8.o,by rw[←HQ.o,←HD.o];exact HAV.o,HB7.o.trans HB8.o⟩
      case measure=>have:=HHH.o;simp[intOf];omega
    ·have t3:((R.1:Int) != 0)=true:=by rw[bne_iff_ne];omega
     have HQ:=zH (show cq j k out (r::RS.drop (k+1))=([],k,R.1) by rw[HR.o];exact nI (by rw[←HR.o];exact hz));clear hz;go_upto_region 8 with fail;go_region_with (first|(go_at_call 52;refine HGM.o.mono ?_;rintro e w7 ⟨⟨pv,rfl,hrow⟩,hB7⟩;obtain⟨pa,pc,rfl,-,-⟩:=(kV hrow).open;have HROW:=zH (nv (kV hrow));have hB7:=bt (b_drew wr) hB7;have HB7:=zH (bt HBR.o hB7);have HO7:=zH (HO.o.below hB7);have HS7:=zH (En HBR.o.size hB7.size);clear hB7 hrow)|(go_at_call 53;refine(HTR.o _).mono ?_;rintro e w6 ⟨rfl,rfl⟩))
     all_goals
      go_wp2_with fail;go_ret3;rw[HPJ.o,←HAV.o,HD.o,HQ.o];exact⟨⟨_,rfl,Rec.Own.nil _ _⟩,bt HB3.o HB7.o⟩
   ·have i1:¬(k:Int)<(RS.length:Int):=by omega
    have HE:=zH (show cq j 0 [] RS=(out,0,0) by rw[←HAV.o,Ex (by omega)];rfl);clear h0;go_wp2_with fail;go_ret3;rw[HPJ.o,HE.o];exact⟨⟨_,rfl,HO.o.mono HB3.o.size⟩,bt HB3.o HBR.o⟩
 ·have hmf:cd j=false:=by cases q:cd j with
   | false=>rfl
   | true=>exact absurd q hm
  rw[hmf]at HMY;have HPJ:=zH (pC (j:=j) (text:=text) hm);clear hm hmf;go_wp2_with (go_at_call 30;refine(HMY.o _ HB1.o).mono ?_;rintro e w2 ⟨rfl,hB2⟩;have HB2:=zH (bt HB1.o hB2);clear hB2 x0 x1 x2 x3 x4 x5 x6 x7);go_ret3;rw[HPJ.o];exact⟨⟨_,rfl,Rec.Own.nil _ _⟩,HB2.o⟩
end
section
theorem nG (j:Jb):∀ (ps out:List (List PR)),(bK j out ps).2.2=0→(bK j out ps).1.length=out.length+ps.length
 | [],out,_=>by simp[bK]
 | p::ps,out,h=>by
  by_cases hz:(cI j [p]).2.2=0
  ·rw[lJ hz]at h⊢
   rw[nG j ps _ h,Ev,Ea];simp only[Ea,ET];omega
  ·rw[kw hz]at h
   exact absurd h hz
theorem kx (j:Jb)(Q:List PR→Prop):∀ (ps out:List (List PR)),(∀ r∈out,Q r)→(∀ p∈ps,Q (cI j [p]).1)→∀ r∈(bK j out ps).1,Q r
 | [],out,h,_=>h
 | p::ps,out,h,hp=>by
  rw[bK]
  split
  ·simp
  ·refine kx j Q ps _ (fun r hr=>?_) (fun x hx=>hp x (Es _ hx))
   rcases Ey.1 hr with hr|hr
   ·exact h r hr
   ·rw[EN.1 hr]
    exact hp p (Er ..)
theorem kn (l:List PR)(n:Nat):∀ p∈splitP l n,(∀ x∈p,x∈l)∧p.length≤l.length:=by
 intro p hp;unfold splitP at hp;obtain⟨i,-,rfl⟩:=List.mem_map.1 hp;exact⟨fun x hx=>(List.mem_filter.1 hx).1,List.length_filter_le _ _⟩
theorem rowsV_keys (j:Jb):∀ (gs:List (List PR)) (out:List PR),jC (dt j out gs).1=jC out++gs.map hk1∨(dt j out gs).1=[]
 | [],out=>.inl (by simp[dt])
 | g::gs,out=>by
  rw[dt]
  split
  ·exact .inr rfl
  ·rcases rowsV_keys j gs (out++[(hk1 g,(valuesJ j (g.map (·.2))).1)]) with h|h
   ·refine .inl ?_
    rw[h];simp[jC]
   ·exact .inr h
theorem uE (j:Jb)(rows:List (List PR)):cP (cI j rows).1=true:=by
 unfold cI
 split
 ·rcases rowsV_keys j (grp (srt rows.flatten)) [] with h|h
  ·have h1:=(iq (srt rows.flatten).length (srt rows.flatten) (Ei _) (dT _)).2
   unfold cP;rw[h];have e:jC []++(grp (srt rows.flatten)).map hk1=(grp (srt rows.flatten)).map hk1:=rfl;rw[e,kR];intro k hk;rw[EV]at hk;rw[List.getElem_map,List.getElem_map];exact h1 k hk
  ·rw[h];rfl
 ·rfl
theorem uF (j:Jb)(l:List PR)(n:Nat):∀ r∈(bK j [] (splitP l n)).1,cP r=true :=
 kx j (fun r=>cP r=true) _ [] (by simp) (fun q _=>uE j [q])
abbrev Wr:Type:=Nat×Nat×Nat×LU_
def wr0:Wr:=(0,0,0,[])
def bB (j:Jb)(files:LL_):List PR×Wr×Nat :=
 if cd j=true then
  if (bQ j 0 [] files).2.2≠0 then ([],(1,(bQ j 0 [] files).2.1.1,(bQ j 0 [] files).2.1.2,[]),(bQ j 0 [] files).2.2) else ((bQ j 0 [] files).1,wr0,0)
 else ([],wr0,2)
def aY (j:Jb)(files:LL_):List (List PR)×Wr×Nat :=
 if (bB j files).2.2≠0 then ([],(bB j files).2) else
 if (bK j [] (splitP (bB j files).1 j.parts.toNat)).2.2≠0 then ([],(2,0,0,(bK j [] (splitP (bB j files).1 j.parts.toNat)).2.1),(bK j [] (splitP (bB j files).1 j.parts.toNat)).2.2)
 else ((bK j [] (splitP (bB j files).1 j.parts.toNat)).1,wr0,0)
theorem pW (j:Jb)(files:LL_):∀ p∈(bB j files).1,lK p:=by
 unfold bB
 split
 ·split
  ·simp
  ·exact pX j files 0 [] (by simp)
 ·simp
theorem iS (j:Jb)(files:LL_):(bB j files).1.length≤256*totalF files:=by
 unfold bB
 split
 ·split
  ·simp
  ·have h:=od j files 0 []
   simp only[ET,Ek]at h;exact h
 ·simp
theorem kp (l:List PR)(n:Nat):(splitP l n).length=n:=by unfold splitP;simp
theorem ez (j:Jb)(files:LL_)(h:(aY j files).2.2=0):(aY j files).1.length=j.parts.toNat:=by
 unfold aY at h⊢
 split
 ·next h1=>rw[if_pos h1]at h;exact absurd h h1
 ·next h1 =>
  rw[if_neg h1]at h
  split
  ·next h2=>rw[if_pos h2]at h;exact absurd h h2
  ·next h2 =>
   have q:=nG j (splitP (bB j files).1 j.parts.toNat) [] (Decidable.not_not.1 h2);rw[kp]at q;simpa using q
theorem iD (j:Jb)(files:LL_):∀ r∈(aY j files).1,cP r=true:=by
 unfold aY
 split
 ·simp
 ·split
  ·simp
  ·exact uF j _ _
end
section
theorem index10:∀ s:LU_,(Lib.indexByte s 10=-1∧∀ b∈s,b≠10)∨∃ k:Nat,Lib.indexByte s 10=(k:Int)∧k<s.length∧s=s.take k++10::s.drop (k+1)∧∀ b∈s.take k,b≠10
 | []=>.inl ⟨rfl,by simp⟩
 | b::l=>by
  by_cases hb:b=10
  ·subst hb
   exact .inr ⟨0,by simp[Lib.indexByte],by simp,by simp,by simp⟩
  ·have hne:(b==10)=false:=by simpa using hb
   rcases index10 l with ⟨h1,h2⟩|⟨k,h1,h2,h3,h4⟩
   ·refine .inl ⟨by simp[Lib.indexByte,hne,h1],fun x hx=>?_⟩
    rcases EW.1 hx with rfl|hx
    ·exact hb
    ·exact h2 x hx
   ·refine .inr ⟨k+1,?_,by simp;omega,?_,fun x hx=>?_⟩
    ·have hk:((k:Int)==-1)=false:=by
      simp
     simp[Lib.indexByte,hne,h1,hk]
    ·rw[ED,EA,Ed,←h3]
    ·rw[ED]at hx
     rcases EW.1 hx with rfl|hx
     ·exact hb
     ·exact h4 x hx
def ln (s:LU_):Nat:=if Lib.indexByte s 10+1=0 then s.length else (Lib.indexByte s 10+1).toNat
theorem xv (s:LU_)(h:s≠[]):cN s=s.take (ln s)::cN (s.drop (ln s))∧0<ln s∧ln s≤s.length:=by
 have hp:=List.length_pos_iff.2 h;rcases index10 s with ⟨h1,h2⟩|⟨k,h1,h2,h3,h4⟩
 ·have e:ln s=s.length:=by unfold ln;rw[h1];rfl
  rw[e,Eh (Ei _),Ex (Ei _),xw s h h2,rU];exact⟨rfl,hp,Ei _⟩
 ·have e:ln s=k+1:=by
   unfold ln;rw[h1,if_neg (by omega)];omega
  rw[e];refine⟨?_,by omega,by omega⟩
  have ht:s.take (k+1)=s.take k++[10]:=by
   rw[Ef h2];congr 2
   have hg:s[k]?=some 10:=by
    rw[h3,List.getElem?_append_right (by rw[EJ];omega),EJ,Nat.min_eq_left (by omega),Nat.sub_self]
    rfl
   exact(List.getElem?_eq_some_iff.1 hg).2
  rw[ht];have q:=zw (s.take k) (s.drop (k+1)) h4;rw[←h3]at q;exact q
theorem Cf (s:LU_):Lib.trimSuffix s [10]=fT s:=by
 unfold Lib.trimSuffix fT Lib.hasSuffix;rcases List.eq_nil_or_concat s with rfl|⟨l,b,rfl⟩
 ·rfl
 ·rw[List.concat_eq_append]
  by_cases hb:b=10
  ·subst hb
   have h1:[10].isSuffixOf (l++[10])=true:=List.isSuffixOf_iff_suffix.2 ⟨l,rfl⟩;rw[if_pos h1,if_pos (by simp)];simp
  ·have h1:¬[10].isSuffixOf (l++[b])=true:=fun q=>by
    obtain⟨t,ht⟩:=List.isSuffixOf_iff_suffix.1 q;have e:=congrArg List.getLast? ht;simp at e;exact hb e.symm
   rw[if_neg h1,if_neg (by simpa using hb)]
end
section
attribute [local go_sem] Oper.semAt_some
theorem tu (l:LU_):(bs l).data.toList=l:=by simp[bs]
theorem sO (s:LU_)(w:World):Calls Tryz.prog 127 #[.string (bs s),.int .u8 10] w fun e w'=>e=.returned (.int .i64 (Lib.indexByte s 10))∧w'=w:=by
 have h:=Tryz.strings_IndexByte (bs s) 10 w;rw[tu]at h;exact h
theorem za (s:LU_)(w:World)(hs:s.length≤140737488355328):Calls Tryz.prog 50 #[.string (bs s),.string ⟨#[10]⟩] w fun e w'=>e=.returned (.string (bs (fT s)))∧w'=w:=by
 have h:=Tryz.strings_TrimSuffix (bs s) ⟨#[10]⟩ w (by rw[bY];omega);rw[tu]at h;rw[←Cf];exact h
theorem eQ {w:World}{b k:Nat}{t:TypeId}{cs:List Value}{v:Value}(h:Blk w b t cs)(hv:cs[k]?=some v):w.setCell ⟨b,k,none⟩ v=w:=by
 have e:cs.toArray.setIfInBounds k v=cs.toArray:=by
  obtain⟨hk,rfl⟩:=List.getElem?_eq_some_iff.1 hv;simp
 have e2:(w.setCell ⟨b,k,none⟩ v).heap=w.heap:=by
  apply Array.ext_getElem?;intro i;unfold World.setCell;simp only[Array.getElem?_modify]
  split
  ·rename_i hi
   subst hi;unfold Blk at h;rw[h];simp[e]
  ·rfl
 have e3:w.setCell ⟨b,k,none⟩ v={ w with heap:=(w.setCell ⟨b,k,none⟩ v).heap }:=rfl;rw[e3,e2]
def ElR (x:LU_)(vs:Array Value)(_:World):Prop:=vs=#[.string (bs x)]
def vU:Option Value→Nat
 | some (.string s)=>s.size
 | _=>0
theorem rI (q:LU_):vU (some (.string (bs q)))=q.length:=by
 show(bs q).size=q.length;exact bY q
theorem pp {B K:Nat}{q s:LU_}{dn:LL_}{J:LL_→World→Prop}{wr W7:World}(HJ:∀ pre U U',J pre U→Chg (fun k=>k=B) U U'→J pre U')(hB:wr.heap[B]?=some (.cells #[.string (bs q)] 9 (0,0)))(hc:Chg (fun k=>¬k=B) wr W7)(hJ7:J (dn++[q.take K]) W7)(hG:cN s=dn++cN q)(hst:cN q=q.take K::cN (q.drop K))(hq:q.length≤140737488355328):∃ (q2:LU_) (dn2:LL_),q2.length≤140737488355328∧Hid ((W7.setCell ⟨B,0,none⟩ (.string (bs (q.drop K)))).heap[B]?=some (.cells #[.string (bs q2)] 9 (0,0)))∧Hid (cN s=dn2++cN q2)∧Hid (J dn2 (W7.setCell ⟨B,0,none⟩ (.string (bs (q.drop K))))):=by
 refine⟨q.drop K,dn++[q.take K],by rw[Ew];omega,?_,?_,?_⟩
 ·exact one_setCell (v:=.string (bs q)) (hc.at hB (fun h=>h rfl))
 ·show cN s=_
  rw[hG,hst,Et];rfl
 ·exact HJ _ _ _ hJ7 (Chg.setCell _ _ _ rfl)
theorem pq {B K:Nat}{q:LU_}{wr W7:World}(hB:wr.heap[B]?=some (.cells #[.string (bs q)] 9 (0,0)))(hc:Chg (fun k=>¬k=B) wr W7)(h0:0<K)(hk:K≤q.length):vU ((W7.setCell ⟨B,0,none⟩ (.string (bs (q.drop K)))).cell? ⟨B,0,none⟩)<vU (wr.cell? ⟨B,0,none⟩):=by
 rw[cell_of_one hB,cell_of_one (one_setCell (v:=.string (bs q)) (hc.at hB (fun h=>h rfl))),rI,rI,Ew];omega
theorem GR {T:Prop} (h:T:=by
 clear hKq HI
 (refine(wpIn_wide (n:=n)).1 ?_;gi_wp2;refine⟨fun h=>(by cases h),?_⟩;refine hRd.mono ?_;rintro e W7 (⟨rfl,hJ7,hc7⟩|⟨rfl,hJx7⟩);(have c7:=hc7.cell c1 (fun h=>h rfl);have f7:=free_of_one (hc7.at hB.o (fun h=>h rfl));gi_wp2;go_wp2;go_roundw;(case rel=>exact pp HJ.o hB.o hc7 hJ7 hG.o HST.o hql);(case measure=>exact pq hB.o hc7 hk0 hkl));(gi_wp2;go_wp2;refine bodyPost_ret (results_none rfl _ _ _) rfl ?_;exact⟨⟨_,rfl⟩,.inr ⟨_,HP.o,hJx7⟩⟩))
):T:=h
theorem oL (n B:Nat)(s:LU_)(W:World)(hB:W.heap[B]?=some (.cells #[.string (bs s)] 9 (0,0)))(hl:s.length≤140737488355328):tJ Fence.wide n Tryz.prog 126 #[.pointer (some ⟨B,0,none⟩)] (fun k=>k=B) (fun k=>k=B) ElR (cN s) W:=by
 intro l J Jx hJ hJx hY hJ0;refine callsIn_wide.2 ?_;have HJ:=zH hJ;have HY:=zH hY;have HB:=zH hB;clear hJ hJx hY hB;go_enter Tryz.func126,Tryz.ntmps126;go_wp2
 go_loopw [3] (fun _ wr=>∃ (q:LU_) (dn:LL_),q.length≤140737488355328∧Hid (wr.heap[B]?=some (.cells #[.string (bs q)] 9 (0,0)))∧Hid (cN s=dn++cN q)∧Hid (J dn wr)) (fun _ wr=>vU (wr.cell? ⟨B,0,none⟩))
 case atStart=>exact⟨s,[],hl,HB.o,rfl,hJ0⟩
 case round =>
  clear hJ0 HB;obtain⟨q,dn,hql,hB,hG,hJd⟩:=hrel;have c1:=cell_of_one hB.o;have f1:=free_of_one hB.o
  by_cases h0:q=[]
  ·subst h0
   have HF:=zH (show cN s=dn by have:=hG.o;rw[rU,Ep]at this;exact this);clear hG;go_wp2;go_end0;exact⟨⟨_,rfl⟩,.inl (by rw[HF.o];exact hJd.o)⟩
  ·obtain⟨hst,hk0,hkl⟩:=xv q h0
   have hp:dn++[q.take (ln q)] <+: cN s:=⟨cN (q.drop (ln q)),by rw[hG.o,hst];simp⟩
   obtain⟨fn,tm,asg,bod,hy,hRd⟩:=HY.o dn (q.take (ln q)) #[.string (bs (q.take (ln q)))] wr hJd.o rfl hp;have HP:=zH hp;have HST:=zH hst;have h1:(q==[])=false:=by simpa using h0
   have HI:=zH (sO q wr);have hcut:ln q=if Lib.indexByte q 10+1=0 then q.length else (Lib.indexByte q 10+1).toNat:=rfl;obtain⟨K,hK⟩:=ex_ (ln q);rw[←hK]at hcut hk0 hkl HST HP hy hRd;clear hK hp hst h0;rcases index10 q with ⟨hi,-⟩|⟨k,hi,hk,-,-⟩
   ·rw[hi]at HI hcut
    have hKq:K=q.length:=hcut;clear hcut hi;go_upto_region 4 with(go_at_call 127;refine HI.o.mono ?_;rintro e w2 ⟨rfl,rfl⟩);rw[←hKq];exact GR
   ·rw[hi]at HI hcut
    have hKq:K=k+1:=by rw[hcut,if_neg (by omega)];omega
    have hk2:(k:Int)+1≠0:=by omega
    clear hcut hi;go_upto_region 4 with(go_at_call 127;refine HI.o.mono ?_;rintro e w2 ⟨rfl,rfl⟩);rw[show(k:Int)+1=(K:Int) by omega];exact GR
theorem rV (s:LU_)(w:World):Calls Tryz.prog 91 #[.string (bs s)] w fun e w'=>e=.returned (.func (.func 126) #[] #[.pointer (some ⟨w.heap.size,0,none⟩)])∧w'=w.alloc (.cells #[.string (bs s)] 9):=by
 go_enter Tryz.func91,Tryz.ntmps91;go_wp2;go_ret;exact⟨rfl,rfl⟩
end
section
attribute [local irreducible] wpG
def wrV (x:Wr):Value:=.agg #[.int .u8 (x.1:Int),.int .i64 (x.2.1:Int),.int .i64 (x.2.2.1:Int),.string (bs x.2.2.2)]
theorem bO {w:World}{b:Nat}{v0 v1 v2 v3:Value}(h:Blk w b 47 [v0,v1,v2,v3]):(loadVar 47 ⟨b,0,none⟩).run Tryz.prog w=.ok (.agg #[v0,v1,v2,v3]) w:=by
 obtain⟨x0,x1,x2,x3⟩:=cl4 h;clear h;go_simp
theorem aQ {P:Program}{fn:Func}{p q r:Tmp}{tq:TypeId}{tmps:Array Value}{w:World}{u:Value}{c:Nat}(hr:fn.results=#[.tmp p,.cell q tq,.tmp r])(hq:tmps.getD q undef=.pointer (some ⟨c,0,none⟩))(hl2:(loadVar tq ⟨c,0,none⟩).run P w=.ok u w):(results fn tmps).run P w=.ok (.tuple #[tmps.getD p undef,u,tmps.getD r undef]) w:=by
 simp only[Array.getD_eq_getD_getElem?]at hq⊢;simp[results,hr,Sem.run_bind,Result.andThen,hq,asAddr,hl2]
def xk (w:World)(b:Nat)(v0 v1 v2 v3:Value):World:=(((w.setCell ⟨b,0,none⟩ v0).setCell ⟨b,1,none⟩ v1).setCell ⟨b,2,none⟩ v2).setCell ⟨b,3,none⟩ v3
theorem bi {w:World}{b:Nat}{t:TypeId}{a0 a1 a2 a3:Value}(hx:Blk w b t [a0,a1,a2,a3])(v0 v1 v2 v3:Value):Blk (xk w b v0 v1 v2 v3) b t [v0,v1,v2,v3] :=
 (((hx.set 0 v0).set 1 v1).set 2 v2).set 3 v3
theorem cH (w:World)(b:Nat)(v0 v1 v2 v3:Value):Chg (fun x=>x=b) w (xk w b v0 v1 v2 v3) :=
 Chg.trans (Chg.trans (Chg.trans (Chg.setCell w ⟨b,0,none⟩ v0 rfl) (Chg.setCell _ ⟨b,1,none⟩ v1 rfl)) (Chg.setCell _ ⟨b,2,none⟩ v2 rfl)) (Chg.setCell _ ⟨b,3,none⟩ v3 rfl)
theorem kA {j:Jb}(h:cd j=true):∃ m:Nat,j.parts=(m:Int)∧1≤m∧m≤16:=by
 obtain⟨-,h1,h2,-⟩:=Bp h;exact⟨j.parts.toNat,by omega,by omega,by omega⟩
def fh (j:Jb)(files:LL_):List (List PR)×Wr×Nat :=
 if (cB j 0 [] files).2.2≠0 then ([],(1,(cB j 0 [] files).2.1.1,(cB j 0 [] files).2.1.2,[]),(cB j 0 [] files).2.2) else ((cB j 0 [] files).1,wr0,0)
theorem yo {j:Jb}{files:LL_}{k b e:Nat}{l:List (List PR)}(h:cB j 0 [] files=(l,(k,b),e))(he:e≠0):fh j files=([],(1,k,b,[]),e):=by
 unfold fh;rw[h];exact if_pos he
theorem Ax {j:Jb}{files:LL_}{l:List (List PR)}{x:Nat×Nat}(h:cB j 0 [] files=(l,x,0)):fh j files=(l,wr0,0):=by
 unfold fh;rw[h];exact if_neg (fun q=>q rfl)
theorem sZ {j:Jb}(h:cd j=true)(files:LL_):bB j files=if (fh j files).2.2≠0 then ([],(fh j files).2) else ((fh j files).1.flatten,wr0,0):=by
 have q:=mD j files 0 [];rw[List.flatten_nil]at q;unfold bB fh;rw[if_pos h,q]
 by_cases hz:(cB j 0 [] files).2.2=0
 ·simp only[hz,ne_eq,not_true_eq_false,if_false]
 ·simp only[hz,ne_eq,not_false_eq_true,if_true]
theorem it {j:Jb}(h:¬cd j=true)(files:LL_):bB j files=([],wr0,2):=if_neg h
def eJ (j:Jb)(ps:List (List PR)):List (List PR)×Wr×Nat :=
 if (bK j [] ps).2.2≠0 then ([],(2,0,0,(bK j [] ps).2.1),(bK j [] ps).2.2) else ((bK j [] ps).1,wr0,0)
theorem p4 {j:Jb}{ps l:List (List PR)}{key:LU_}{e:Nat}(h:bK j [] ps=(l,key,e))(he:e≠0):eJ j ps=([],(2,0,0,key),e):=by
 unfold eJ;rw[h];exact if_pos he
theorem s7 {j:Jb}{ps l:List (List PR)}{x:LU_}(h:bK j [] ps=(l,x,0)):eJ j ps=(l,wr0,0):=by
 unfold eJ;rw[h];exact if_neg (fun q=>q rfl)
theorem nw (j:Jb)(files:LL_):aY j files=if (bB j files).2.2≠0 then ([],(bB j files).2) else eJ j (splitP (bB j files).1 j.parts.toNat):=rfl
theorem n9 (j:Jb):∀ (ts:LL_) (k:Nat) (out:List (List PR)),(cB j k out ts).1.length≤out.length+ts.length
 | [],k,out=>by simp[cB]
 | t::ts,k,out=>by
  rw[cB]
  split
  ·simp
  ·have h:=n9 j ts (k+1) (out++[(bf j t).1])
   rw[Ev]at h;simp only[Ea,ET]at h⊢;omega
theorem dI {w:World}{b:Nat}{t:TypeId}{v0 v1 v2 v3:Value}(h:Blk w b t [v0,v1,v2,v3]):xk w b v0 v1 v2 v3=w:=by
 unfold xk;rw[eQ h (k:=0) rfl,eQ h (k:=1) rfl,eQ h (k:=2) rfl,eQ h (k:=3) rfl]
theorem D5 (w:World):RR w (.slice none 0 0) []:=(GRP.nil w 0).rr
theorem RR.oneI {w:World}{u:Value}{p:List PR}(h:RP w u p):RR (w.alloc (.cells #[u] 37)) (.slice (some ⟨w.heap.size,0,none⟩) 1 1) [p]:=by
 refine⟨_,1,rfl,Ei _,(fun q=>by cases q),fun k hk=>?_⟩;have e:k=0:=by simp at hk;omega
 subst e;exact⟨_,0,u,rfl,by simp[World.cell?_alloc_new],h.below (af _ _)⟩
theorem s6 (j:Jb)(ps:List (List PR)):(eJ j ps).2.1=wr0∨(eJ j ps).1=[]:=by
 unfold eJ
 split
 ·exact .inr rfl
 ·exact .inl rfl
theorem RR.emptyI {w w':World}{v:Value}(h:RR w v []):RR w' v []:=by
 obtain⟨a,cap,hv,hl,hn,hc⟩:=h;exact⟨a,cap,hv,hl,hn,fun k hk=>absurd hk (by simp)⟩
theorem RR.set4I {w:World}{E:Nat}{t:TypeId}{v:Value}{rows:List (List PR)}{x:Wr}(hE:Blk w E t [.int .u8 0,.int .i64 0,.int .i64 0,.string ⟨#[]⟩])(h:RR w v rows)(hs:x=wr0∨rows=[]):RR (xk w E (.int .u8 (x.1:Int)) (.int .i64 (x.2.1:Int)) (.int .i64 (x.2.2.1:Int)) (.string (bs x.2.2.2))) v rows:=by
 rcases hs with rfl|rfl
 ·have e:xk w E (.int .u8 (wr0.1:Int)) (.int .i64 (wr0.2.1:Int)) (.int .i64 (wr0.2.2.1:Int)) (.string (bs wr0.2.2.2))=w:=dI hE
  rw[e];exact h
 ·exact h.emptyI
theorem AD {n o x:Nat}(ho:o≤256*n)(hx:x≤256*n)(hn:n≤1000000):(o+x)*32≤140737488355328:=by omega
theorem rq (t:LU_)(ts:LL_):totalF (t::ts)=t.length+totalF ts:=rfl
theorem qy (t1 c1 t2 c2 t3 c3:Value)(j:Jb)(v:Value)(files:LL_)(w:World)(h:eO w t1 c1 t2 c2 t3 c3 j)(hv:aL.Row w v files)(hl:files.length≤1000000)(hm:∀ t∈files,t.length≤1000000)(ht:totalF files≤1000000):Calls Tryz.prog 83 #[cg t1 c1 t2 c2 t3 c3 j,v] w fun e w'=>(∃ pv,e=.returned (.tuple #[pv,wrV (bB j files).2.1,.int .i64 ((bB j files).2.2:Int)])∧recKv.Own w' w.heap.size pv (bB j files).1)∧Bw_ w w':=by
 have HMY:=zH (fun w' (hB:Below w.heap.size w w')=>iG t1 c1 t2 c2 t3 c3 j w' (h.below hB));have HPA:=zH (fun (s:LU_) w' (hB:Below w.heap.size w w') hs=>qz t1 c1 t2 c2 t3 c3 j s w' (h.below hB) hs);have HXM:=zH hm;have HTF:=zH ht;obtain⟨ta,tc,ca,cc,ta2,tc2,ca2,cc2,ta3,tc3,ca3,cc3,rfl,rfl,rfl,rfl,rfl,rfl⟩:=jo_ h.a.t h.a.c h.b.t h.b.c h.c.t h.c.c;obtain⟨av,cv,rfl,_,hc⟩:=an hv;unfold cg at HMY HPA⊢;have HCC:=zH hc;obtain⟨J,hJ⟩:=ex_ w.heap.size;obtain⟨W0,hW0⟩:=ex_ (w.alloc (.cells #[.slice ta j.mt.length tc,.slice ca j.mc.length cc,.slice ta2 j.jt.length tc2,.slice ca2 j.jc.length cc2,.slice ta3 j.tt.length tc3,.slice ca3 j.tc.length cc3,.int .i64 j.parts,.int .i64 j.fuel] 27));have hs0:W0.heap.size=J+1:=by rw[hW0,ba,hJ]
 obtain⟨W1,hW1⟩:=ex_ (W0.alloc (.cells #[.int .u8 0,.int .i64 0,.int .i64 0,.string ⟨#[]⟩] 47));have hb0:=ba_ hW0;have hb1:=ba_ hW1
 have hx:Blk W1 J 27 [.slice ta j.mt.length tc,.slice ca j.mc.length cc,.slice ta2 j.jt.length tc2,.slice ca2 j.jc.length cc2,.slice ta3 j.tt.length tc3,.slice ca3 j.tc.length cc3,.int .i64 j.parts,.int .i64 j.fuel]:=by
  have q:=bn_ hJ hW0;exact q.below hb1
 have he:Blk W1 (J+1) 47 [.int .u8 0,.int .i64 0,.int .i64 0,.string ⟨#[]⟩]:=by
  have q:=bm_ hW1
  rwa [hs0]at q
 obtain⟨x0,x1,x2,x3,x4,x5,x6,x7⟩:=cl8 hx;have HB1:=zH (bt hb0 hb1);have HX1:=zH hx;have HE1:=zH he;have HI47:=zH (show(Tryz.prog.info? 47).map (·.size)=some 4 by kernel_rfl);have HJW:=zH (show w.heap.size=J from hJ.symm);go_enter Tryz.func83,Tryz.ntmps83;go_upto_region 1 with fail;rw[←hJ,←hW0]
 try rw[hs0]
 rw[←hW1];clear hJ hW0 hW1 hs0 hb0 hb1 hx he h hv hm ht hc
 by_cases hmy:cd j=true
 ·rw[hmy]at HMY
  have HWE:=zH (show bB j files=if (bQ j 0 [] files).2.2≠0 then ([],(1,(bQ j 0 [] files).2.1.1,(bQ j 0 [] files).2.1.2,[]),(bQ j 0 [] files).2.2) else ((bQ j 0 [] files).1,wr0,0) from if_pos hmy);clear hmy;go_upto_region 5 with(go_at_call 30;refine(HMY.o _ HB1.o).mono ?_;rintro e w3 ⟨rfl,hB3⟩;have HX3:=zH (HX1.o.below hB3);have HE3:=zH (HE1.o.below hB3);have HB3:=zH (bt HB1.o hB3);clear hB3 x0 x1 x2 x3 x4 x5 x6 x7)
  go_loopw [7,8] (fun tx i wr=>∃ (k:Nat) (out:List PR),k≤files.length∧out.length+256*totalF (files.drop k)≤256*totalF files∧i=.int .i64 (k:Int)∧Hid (recKv.Own wr w3.heap.size tx out)∧Hid (bQ j k out (files.drop k)=bQ j 0 [] files)∧Hid (Below w3.heap.size w3 wr)) (fun _ i _=>files.length-(intOf i).toNat)
  case atStart=>exact⟨0,[],EG _,by simp,rfl,Rec.Own.nil _ _,rfl,Em _ _⟩
  case round =>
   obtain⟨k,out,hk,hok,rfl,HO,HAV,HBR⟩:=hrel;obtain⟨ao,co,rfl⟩:=ap HO.o
   by_cases h0:k<files.length
   ·obtain⟨kb,ko,hA,e1⟩:=HCC.o k h0
    subst hA;have hdr:files.drop k=files[k]::files.drop (k+1):=Ec h0;have hrl:=HXM.o _ (EM h0);obtain⟨r,hre⟩:=ex_ (files[k]'h0);rw[←hre]at e1 hrl hdr;have hpl:=nK j r;rw[hdr,rq]at hok;have HD:=zH hdr;replace e1:=DK (bt HB3.o HBR.o) e1;have hxx:=HX3.o.below HBR.o;obtain⟨x0,x1,x2,x3,x4,x5,x6,x7⟩:=cl8 hxx;have HGP:=zH (HPA.o r wr.drew (bt (bt HB3.o HBR.o) (b_drew wr)) hrl);obtain⟨R,hR⟩:=ex_ (bf j r);rw[←hR]at HGP hpl;have HR:=zH hR;have i0:=nn_ k;have i1:(k:Int)<(files.length:Int):=by omega
    have HHH:=zH h0;have HTK:=zH (show(out++R.1).length+256*totalF (files.drop (k+1))≤256*totalF files by rw[Ev];omega);have HBY:=zH (AD (o:=out.length) (x:=R.1.length) (n:=totalF files) (by omega) (by omega) HTF.o);clear hR hdr hre hxx h0 hrl hpl hok
    by_cases hz:R.2.2=0
    ·have t3:((R.2.2:Int) != 0)=false:=by rw[hz];rfl
     have HQ:=zH (show bQ j k out (r::files.drop (k+1))=bQ j (k+1) (out++R.1) (files.drop (k+1)) by rw[HR.o];exact yk (by rw[←HR.o];exact hz));clear hz;go_upto_region 7 with fail;go_region_with (go_at_call 25;refine HGP.o.mono ?_;rintro e w7 ⟨⟨pv,rfl,hrow⟩,hB7⟩;obtain⟨pa,pc,rfl⟩:=ap hrow;have HROW:=zH hrow.row;have hB7:=bt (b_drew wr) hB7;have HB7W:=zH hB7;have HB7:=zH (bt HBR.o hB7);have HO7:=zH (HO.o.below hB7);have HS7:=zH (En HBR.o.size hB7.size);clear hB7 hrow)
     all_goals
      go_wp2_with (at_builtin;go_must (refine recKv.append w7 rfl _ _ 37 rfl Tryz.underlying37 w3.heap.size _ out HO7.o rfl _ R.1 HROW.o rfl HBY.o HS7.o ?_);intro v8 w8 hown8 hB8;have HO8:=zH hown8;have HB8:=zH hB8;clear hown8 hB8);go_roundw
      case rel=>exact⟨k+1,out++R.1,HHH.o,HTK.o,by go_num,HO8.o,by rw[←HQ.o,←HD.o];exact HAV.o,HB7.o.trans HB8.o⟩
      case measure=>have:=HHH.o;simp[intOf];omega
    ·have t3:((R.2.2:Int) != 0)=true:=by rw[bne_iff_ne];omega
     have HQ:=zH (show bQ j k out (r::files.drop (k+1))=([],(k,R.2.1),R.2.2) by rw[HR.o];exact vu (by rw[←HR.o];exact hz));have HWW:=zH (show bB j files=([],(1,k,R.2.1,[]),R.2.2) by rw[HWE.o,←HAV.o,HD.o,HQ.o];exact if_pos hz);clear hz;go_upto_region 7 with fail;go_region_with (go_at_call 25;refine HGP.o.mono ?_;rintro e w7 ⟨⟨pv,rfl,hrow⟩,hB7⟩;obtain⟨pa,pc,rfl⟩:=ap hrow;have HROW:=zH hrow.row;have hB7:=bt (b_drew wr) hB7;have HB7W:=zH hB7;have HB7:=zH (bt HBR.o hB7);have HO7:=zH (HO.o.below hB7);have HS7:=zH (En HBR.o.size hB7.size);clear hB7 hrow)
     all_goals
      have he8:=(HE3.o.below (bt HBR.o HB7W.o))
      (obtain⟨z0,z1,z2,z3⟩:=cl4 he8;obtain⟨g0,g1,g2,g3⟩:=fr4 he8;have hEl:=he8.lt)
      have HE8:=zH he8;clear he8;go_wp2_with fail;refine bodyPost_ret (aQ rfl rfl (bO (bi HE8.o _ _ _ _))) rfl ?_;have hc:=cH w7 (J+1) (.int .u8 1) (.int .i64 (k:Int)) (.int .i64 (R.2.1:Int)) (.string ⟨#[]⟩);rw[HWW.o];exact⟨⟨_,rfl,Rec.Own.nil _ _⟩,(bt HB3.o HB7.o).trans (hc.below (fun k hk=>by rw[show k=J+1 from hk,HJW.o];omega) (bt HB3.o HB7.o).size)⟩
   ·have i1:¬(k:Int)<(files.length:Int):=by omega
    have HE:=zH (show bQ j 0 [] files=(out,(0,0),0) by rw[←HAV.o,Ex (by omega)];rfl);have HWW:=zH (show bB j files=(out,wr0,0) by rw[HWE.o,HE.o];exact if_neg (fun q=>q rfl));clear h0 hok;have he8:=(HE3.o.below HBR.o)
    (obtain⟨z0,z1,z2,z3⟩:=cl4 he8;obtain⟨g0,g1,g2,g3⟩:=fr4 he8;have hEl:=he8.lt)
    have HE8:=zH he8;clear he8;go_wp2_with fail;refine bodyPost_ret (aQ rfl rfl (bO (bi HE8.o _ _ _ _))) rfl ?_;rw[HWW.o];rw[show(((wr.setCell ⟨J+1,0,none⟩ (.int .u8 0)).setCell ⟨J+1,1,none⟩ (.int .i64 0)).setCell ⟨J+1,2,none⟩ (.int .i64 0)).setCell ⟨J+1,3,none⟩ (.string ⟨#[]⟩)=wr from dI HE8.o];exact⟨⟨_,rfl,HO.o.mono HB3.o.size⟩,bt HB3.o HBR.o⟩
 ·have hmf:cd j=false:=by cases q:cd j with
   | false=>rfl
   | true=>exact absurd q hmy
  rw[hmf]at HMY;have HWW:=zH (it hmy files);clear hmy hmf;go_upto_region 2 with(go_at_call 30;refine(HMY.o _ HB1.o).mono ?_;rintro e w2 ⟨rfl,hB2⟩;have HE2:=zH (HE1.o.below hB2);have HB2:=zH (bt HB1.o hB2);clear hB2 x0 x1 x2 x3 x4 x5 x6 x7);have he8:=HE2.o
  (obtain⟨z0,z1,z2,z3⟩:=cl4 he8;obtain⟨g0,g1,g2,g3⟩:=fr4 he8;have hEl:=he8.lt)
  clear he8;go_wp2_with fail;refine bodyPost_ret (aQ rfl rfl (bO (bi HE2.o _ _ _ _))) rfl ?_;rw[HWW.o];rw[show(((w2.setCell ⟨J+1,0,none⟩ (.int .u8 0)).setCell ⟨J+1,1,none⟩ (.int .i64 0)).setCell ⟨J+1,2,none⟩ (.int .i64 0)).setCell ⟨J+1,3,none⟩ (.string ⟨#[]⟩)=w2 from dI HE2.o];exact⟨⟨_,rfl,Rec.Own.nil _ _⟩,HB2.o⟩
def uS (p:List PR):aJ Bel:=⟨Nat,fun x=>.slice (some ⟨x,0,none⟩) 1 1,fun x=>some fun w=>RR w (.slice (some ⟨x,0,none⟩) 1 1) [p],fun _ _ h _ _ hφ hB=>by cases h;exact RR.below hφ hB⟩
@[go_sem] theorem Cn (p:List PR) (x:Nat):(uS p).val x=.slice (some ⟨x,0,none⟩) 1 1:=rfl
def Ad (bZ:Nat)(l:List PR)(u v:Value):aJ Bel:=⟨Option Addr×Nat,fun x=>.tuple #[.slice x.1 l.length x.2,u,v],fun x=>some fun w=>recKv.Own w bZ (.slice x.1 l.length x.2) l,fun _ _ h _ _ hφ hB=>by cases h;exact Rec.Own.below hφ hB⟩
@[go_sem] theorem CF (bZ:Nat) (l:List PR) (u v:Value) (a:Option Addr) (c:Nat):(Ad bZ l u v).val (a,c)=.tuple #[.slice a l.length c,u,v]:=rfl
theorem sY {j:Jb}{files:LL_}(hz:(bB j files).2.2=0):cd j=true:=by
 cases h:cd j with
 | true=>rfl
 | false =>
  rw[it (by rw[h];decide)]at hz;exact absurd hz (by decide)
theorem Hp {T:Prop} (h:T:=by
 obtain⟨pa,pc,rfl⟩:=ap ho;exact⟨_,rfl,hG (pa,pc) w'' hB2 (fun φ h=>by cases h;exact Rec.Own.mono ho HSZ.o)⟩
):T:=h
theorem mn (t1 c1 t2 c2 t3 c3:Value)(j:Jb)(v:Value)(files:LL_)(w:World)(h:eO w t1 c1 t2 c2 t3 c3 j)(hv:aL.Row w v files)(hl:files.length≤1000000)(hm:∀ t∈files,t.length≤1000000)(ht:totalF files≤3000):Calls Tryz.prog 44 #[cg t1 c1 t2 c2 t3 c3 j,v] w fun e w'=>(∃ a c,e=.returned (.tuple #[.slice a (aY j files).1.length c,wrV (aY j files).2.1,.int .i64 ((aY j files).2.2:Int)])∧RR w' (.slice a (aY j files).1.length c) (aY j files).1)∧Bw_ w w':=by
 have HPP:=zH (fun w' (hB:Below w.heap.size w w')=>qy t1 c1 t2 c2 t3 c3 j v files w' (h.below hB) (hv.below hB) hl hm (En ht (by decide)));have HRR:=zH (fun (u:Value) (p:List PR) w' (hB:Below w.heap.size w w') hu (h1:p.length≤1000000) (h2:∀ x∈p,x.2.length≤140737488355328)=>r5 t1 c1 t2 c2 t3 c3 u j [p] w' (h.below hB) hu (by simp) (by simpa using h1) (by simpa using h1) (by simpa using h2));have HOK:=zH (pW j files);have HMY:=zH (fun hz=>sY (j:=j) (files:=files) hz);have HTL:=zH (En (iS j files) (Nat.mul_le_mul_left 256 ht));obtain⟨ta,tc,ca,cc,ta2,tc2,ca2,cc2,ta3,tc3,ca3,cc3,rfl,rfl,rfl,rfl,rfl,rfl⟩:=jo_ h.a.t h.a.c h.b.t h.b.c h.c.t h.c.c;obtain⟨av,cv,rfl,_,hc⟩:=an hv;unfold cg at HPP HRR⊢;obtain⟨J,hJ⟩:=ex_ w.heap.size;obtain⟨W0,hW0⟩:=ex_ (w.alloc (.cells #[.slice ta j.mt.length tc,.slice ca j.mc.length cc,.slice ta2 j.jt.length tc2,.slice ca2 j.jc.length cc2,.slice ta3 j.tt.length tc3,.slice ca3 j.tc.length cc3,.int .i64 j.parts,.int .i64 j.fuel] 27));have hs0:W0.heap.size=J+1:=by rw[hW0,ba,hJ]
 obtain⟨W1,hW1⟩:=ex_ (W0.alloc (.cells #[.int .u8 0,.int .i64 0,.int .i64 0,.string ⟨#[]⟩] 47));have hb0:=ba_ hW0;have hb1:=ba_ hW1
 have hx:Blk W1 J 27 [.slice ta j.mt.length tc,.slice ca j.mc.length cc,.slice ta2 j.jt.length tc2,.slice ca2 j.jc.length cc2,.slice ta3 j.tt.length tc3,.slice ca3 j.tc.length cc3,.int .i64 j.parts,.int .i64 j.fuel]:=by
  have q:=bn_ hJ hW0;exact q.below hb1
 have he:Blk W1 (J+1) 47 [.int .u8 0,.int .i64 0,.int .i64 0,.string ⟨#[]⟩]:=by
  have q:=bm_ hW1
  rwa [hs0]at q
 obtain⟨x0,x1,x2,x3,x4,x5,x6,x7⟩:=cl8 hx;have HB1:=zH (bt hb0 hb1);have HX1:=zH hx;have HE1:=zH he;have HI47:=zH (show(Tryz.prog.info? 47).map (·.size)=some 4 by kernel_rfl);have HJW:=zH (show w.heap.size=J from hJ.symm);go_enter Tryz.func44,Tryz.ntmps44;go_upto_region 1 with fail;rw[←hJ,←hW0]
 try rw[hs0]
 rw[←hW1];clear hJ hW0 hW1 hs0 hb0 hb1 hx he h hv hl hm ht hc;have HRW:=zH (nw j files);obtain⟨R,hR⟩:=ex_ (bB j files);unfold wrV at HPP;rw[←hR]at HPP HRW HTL HOK HMY;clear hR
 by_cases hz:R.2.2=0
 ·have t2:((R.2.2:Int) != 0)=false:=by rw[hz];rfl
  have HWW:=zH (show aY j files=eJ j (splitP R.1 j.parts.toNat) by rw[HRW.o,if_neg (fun z=>z hz)]);obtain⟨m,hpm,hm1,hm2⟩:=kA (HMY.o hz);rw[hpm,EP]at HWW;have HLE:=zH (show R.1.length≤1000000 from En HTL.o (by decide));have HSP:=zH (kn R.1 m);have HSL:=zH (kp R.1 m);have HQ1:=zH (show ∀ p∈splitP R.1 m,p.length≤1000000∧∀ x∈p,x.2.length≤140737488355328 from fun p hp=>⟨En (HSP.o p hp).2 HLE.o,fun x hx=>En (HOK.o x ((HSP.o p hp).1 x hx)).2 (by decide)⟩);have HSS:=zH (fun u w' hu=>up u R.1 m w' hu HLE.o (fun p hp=>En (HOK.o p hp).1 (by decide)) hm1 hm2);rw[hpm]at HPP HX1 HRR x6;have hm3:m≤1000000:=by omega
  clear hz hpm hm1 hm2;go_upto_region 2 with(first|(refine bA w7.heap.size [.int .u8 0,.int .i64 0,.int .i64 0,.string ⟨#[]⟩] [.int .u8 (R.2.1.1:Int),.int .i64 (R.2.1.2.1:Int),.int .i64 (R.2.1.2.2.1:Int),.string (bs R.2.1.2.2.2)] (Blk.new w7 _ _) rfl _ _ _ rfl rfl rfl HI47.o rfl (by simp[Value.oneCell']) ?_;intro W8 hw8;have hB78:Below w7.heap.size w7 W8:=(by rw[←hw8.o];exact aI (af _ _) (Ei _) _);have HD8:=zH (show Blk W8 w7.heap.size 47 [.int .u8 (R.2.1.1:Int),.int .i64 (R.2.1.2.1:Int),.int .i64 (R.2.1.2.2.1:Int),.string (bs R.2.1.2.2.2)] by rw[←hw8.o];exact(Blk.new w7 [.int .u8 0,.int .i64 0,.int .i64 0,.string ⟨#[]⟩] _).row _);have HE8:=zH (HE7.o.below hB78);have HBB8:=zH (bt HB7.o hB78);have HO8:=zH (HO7.o.below hB78);have HX8:=zH (HX7.o.below hB78);clear hw8 hB78)|(go_at_call 83;refine(HPP.o _ HB1.o).mono ?_;rintro e w7 ⟨⟨pv,rfl,hro⟩,hB7⟩;obtain⟨pa,pc,rfl⟩:=ap hro;have HO7:=zH hro;have HE7:=zH (HE1.o.below hB7);have HX7:=zH (HX1.o.below hB7);have HB7:=zH (bt HB1.o hB7);clear hB7 hro x0 x1 x2 x3 x4 x5 x6 x7));have x6:=HX8.o.cell (k:=6) rfl;have hJl8:=HX8.o.lt;go_upto_region 5 with(go_at_call 57;refine(HSS.o _ _ (gu HO8.o.row)).mono ?_;rintro e w9 ⟨D,rfl,hD,hor,hB9⟩;have HOR:=zH hor.rr;have HX9:=zH (HX8.o.below hB9);have HE9:=zH (HE8.o.below hB9);have HB9:=zH (bt HBB8.o hB9);clear hD hor hB9 x6 hJl8);obtain⟨xs,hxs⟩:=ex_ (splitP R.1 m);have hxl:xs.length=m:=by rw[hxs];exact HSL.o
  rw[←hxs]at HOR HQ1 HWW;rw[←hxl];rw[←hxl]at HX9 HRR hm3;clear hxs HSP HSL HSS HMY HTL HOK HRW HX8 HX1;obtain⟨_,_,hv9,_,_,hc9⟩:=HOR.o;injection hv9 with q1 _ q3
  subst q1 q3;have HC9:=zH hc9;clear hc9 hxl;go_upto_region 7 with fail
  go_loopw [11,12] (fun u t wr=>∃ (k:Nat) (out:List (List PR)),k≤xs.length∧out.length≤k∧t=.int .i64 (k:Int)∧Hid (GRP wr w9.heap.size u out)∧Hid (bK j out (xs.drop k)=bK j [] xs)∧Hid (Below w9.heap.size w9 wr)) (fun _ t _=>xs.length-(intOf t).toNat)
  case atStart=>exact⟨0,[],EG _,Ei _,rfl,GRP.nil _ _,rfl,Em _ _⟩
  case round =>
   obtain⟨k,out,hk,hok,rfl,HG,HAV,HBR⟩:=hrel;obtain⟨Av,Cv,rfl⟩:=GRP.slice HG.o
   by_cases h0:k<xs.length
   ·obtain⟨b1,o1,u1,hA,e1,hu1⟩:=HC9.o k h0
    cases hA
    rw[Ek]at e1;have hdr:xs.drop k=xs[k]::xs.drop (k+1):=Ec h0;have hxm:=HQ1.o _ (EM h0);obtain⟨x,hxe⟩:=ex_ (xs[k]'h0);rw[←hxe]at hxm hdr hu1;have HD:=zH hdr;replace e1:=DK HBR.o e1;have hu2:=hu1.below HBR.o;obtain⟨ua,uc,rfl,-,-⟩:=hu2.open;have hxx:=HX9.o.below HBR.o;obtain⟨x0,x1,x2,x3,x4,x5,x6,x7⟩:=cl8 hxx;have hJl:=hxx.lt;have hDl:D<wr.heap.size:=aD e1;obtain⟨R,hR⟩:=ex_ (cI j [x]);have HR:=zH hR;have HFK:=zH (fun (v:Value) w' (hB:Below w.heap.size w w') (hv:RR w' v [x])=>show Calls Tryz.prog 14 _ w' fun e w''=>(∃ pv,e=.returned (.tuple #[pv,.string (bs R.2.1),.int .i64 (R.2.2:Int)])∧recKv.Own w'' w'.heap.size pv R.1)∧Below w'.heap.size w' w'' by have q:=HRR.o v x w' hB hv hxm.1 hxm.2;rw[←hR]at q;exact q);have HU2:=zH hu2;have HXX:=zH hxx;have HE1x:=zH e1;have HBX:=zH (bt HB9.o HBR.o);have i0:=nn_ k;have i1:(k:Int)<(xs.length:Int):=by omega
    have HHH:=zH h0;have HBZ:=zH (show(out.length+1)*24≤140737488355328 by omega);have HWS:=zH (show w.heap.size≤w9.heap.size from HB9.o.size);clear hR hdr hxe h0 hxm hxx hu1 hu2;go_upto_region 9 with fail;refine rk_ [(0,.exact _ (.agg #[.slice ta j.mt.length tc,.slice ca j.mc.length cc,.slice ta2 j.jt.length tc2,.slice ca2 j.jc.length cc2,.slice ta3 j.tt.length tc3,.slice ca3 j.tc.length cc3,.int .i64 (xs.length:Int),.int .i64 j.fuel])),(4,.exact _ (.slice ua x.length uc)),(5,uS x),(6,Ad wr.heap.size R.1 (.string (bs R.2.1)) (.int .i64 (R.2.2:Int)))] ?_;refine cG ?_;refine gE_ (fun w' G hB hS hG=>?_) (fun K hK=>?_)
    ·have hx:=HXX.o.below hB
     obtain⟨y0,y1,y2,y3,y4,y5,y6,y7⟩:=cl8 hx;clear hB hS hx x0 x1 x2 x3 x4 x5 x6 x7 e1;go_simp;exact hG _ (Bel.refl _)
    refine cO ?_;clear hK K;refine gE_ (fun w' G hB hS hG=>?_) (fun K hK=>?_)
    ·have y:=DK hB HE1x.o
     clear hB hS x0 x1 x2 x3 x4 x5 x6 x7 e1;go_simp;exact hG _ (Bel.refl _)
    refine cO ?_;clear hK K;refine gk_ (uS x) (fun w' G hB hS hG=>?_) (fun (q5:Nat) K hK=>?_)
    ·have hq:=RR.oneI (HU2.o.below hB)
     clear hB hS x0 x1 x2 x3 x4 x5 x6 x7 e1;go_simp;exact hG w'.heap.size _ (af _ _) (fun φ h=>by cases h;exact hq)
    refine cO ?_;clear hK K;refine gk_ (Ad wr.heap.size R.1 (.string (bs R.2.1)) (.int .i64 (R.2.2:Int))) (fun w' G hB hS hG=>?_) (fun (q6:Option Addr×Nat) K hK=>?_)
    ·have hrr:RR w' (.slice (some ⟨q5,0,none⟩) 1 1) [x]:=at0 hS (by kernel_rfl)
     have hu:=HFK.o _ w' (bt HBX.o hB) hrr;have HSZ:=zH (show wr.heap.size≤w'.heap.size from hB.size);clear hB hS hrr x0 x1 x2 x3 x4 x5 x6 x7 e1;go_simp;refine hu.mono ?_;rintro e w'' ⟨⟨pv,rfl,ho⟩,hB2⟩;exact Hp
    obtain⟨pa,pc⟩:=q6;refine cO ?_;clear hK K;refine dF ?_;intro W8 hB8 hA8;have HO8:=zH (show recKv.Own W8 wr.heap.size (.slice pa R.1.length pc) R.1 from lA hA8);have HB8:=zH (show Below wr.heap.size wr W8 from hB8);have HG8:=zH (HG.o.below HB8.o);obtain⟨CS,hcs,hcs2⟩:=HG8.o;have HCS:=zH hcs;have HCS2:=zH hcs2;clear hA8 hB8 hcs hcs2 x0 x1 x2 x3 x4 x5 x6 x7 e1 hJl hDl
    by_cases hz:R.2.2=0
    ·have t3:((R.2.2:Int) != 0)=false:=by rw[hz];rfl
     have HQ:=zH (show bK j out (x::xs.drop (k+1))=bK j (out++[R.1]) (xs.drop (k+1)) by rw[HR.o];exact lJ (by rw[←HR.o];exact hz));clear hz
     all_goals
      go_wp2_with (at_builtin;(refine gH W8 [.slice pa R.1.length pc] 37 rfl _ _ 28 rfl w9.heap.size (.slice none 0 0) 1 24 Tryz.underlying28 jF rfl (by decide) _ out.length CS HCS.o rfl _ rfl rfl (by simp[Value.oneCell']) (by decide) HBZ.o (En HBR.o.size HB8.o.size) ?_);intro g cap w10 hown9 hfr hgb hB9 hsz9;have HO9:=zH hown9;have HFR:=zH hfr;have HGB:=zH hgb;have HB10:=zH hB9;have HSZ9:=zH hsz9;clear hown9 hfr hgb hB9 hsz9);go_roundw
      case rel =>
       have hout:∀ b,(Value.slice pa R.1.length pc).ownBlock=some b→b<W8.heap.size∧(Value.slice Av out.length Cv).ownBlock≠some b:=by
        intro b hb;have h1:=World.ownsRow.lt HO8.o b hb;refine⟨h1.2,fun e=>?_⟩;obtain⟨CS2,hc2,_⟩:=HG.o;have h2:=World.ownsRow.lt hc2 b e;omega
       have hsn:=GRP.snoc HCS2.o (by have:=HCS.o.1;omega) (gu (Rec.Own.row (R:=recKv) HO8.o)) hout rfl HO9.o HFR.o HGB.o HSZ9.o;refine⟨k+1,out++[R.1],HHH.o,by rw[Ev];simp;omega,by go_num,?_,by rw[←HQ.o,←HD.o];exact HAV.o,HBR.o.trans ((HB8.o.mono HBR.o.size).trans HB10.o)⟩
       first|exact hsn|(rw[Ev];exact hsn)
      case measure=>have:=HHH.o;simp[intOf];omega
    ·have t3:((R.2.2:Int) != 0)=true:=by rw[bne_iff_ne];omega
     have HQ:=zH (show eJ j xs=([],(2,0,0,R.2.1),R.2.2) from p4 (l:=[]) (by rw[←HAV.o,HD.o,HR.o];exact kw (by rw[←HR.o];exact hz)) hz);clear hz
     all_goals
      have he8:=(HE9.o.below HBR.o).below HB8.o
      (obtain⟨z0,z1,z2,z3⟩:=cl4 he8;obtain⟨g0,g1,g2,g3⟩:=fr4 he8;have hEl:=he8.lt)
      have HE8:=zH he8;have HBW:=zH (bt (bt HB9.o HBR.o) HB8.o);clear he8;go_wp2_with fail;refine bodyPost_ret (aQ rfl rfl (bO (bi HE8.o _ _ _ _))) rfl ?_;have hc:=cH W8 (J+1) (.int .u8 2) (.int .i64 0) (.int .i64 0) (.string (bs R.2.1));rw[HWW.o,HQ.o];exact⟨⟨none,0,rfl,D5 _⟩,HBW.o.trans (hc.below (fun k hk=>by rw[show k=J+1 from hk,HJW.o];omega) HBW.o.size)⟩
   ·have i1:¬(k:Int)<(xs.length:Int):=by omega
    have HQ:=zH (show eJ j xs=(out,wr0,0) from s7 (by rw[←HAV.o,Ex (by omega)];rfl));clear h0;have he8:=HE9.o.below HBR.o
    (obtain⟨z0,z1,z2,z3⟩:=cl4 he8;obtain⟨g0,g1,g2,g3⟩:=fr4 he8;have hEl:=he8.lt)
    have HE8:=zH he8;clear he8;go_wp2_with fail;refine bodyPost_ret (aQ rfl rfl (bO (bi HE8.o _ _ _ _))) rfl ?_;rw[HWW.o,HQ.o];rw[show(((wr.setCell ⟨J+1,0,none⟩ (.int .u8 0)).setCell ⟨J+1,1,none⟩ (.int .i64 0)).setCell ⟨J+1,2,none⟩ (.int .i64 0)).setCell ⟨J+1,3,none⟩ (.string ⟨#[]⟩)=wr from dI HE8.o];exact⟨⟨_,_,rfl,HG.o.rr⟩,bt HB9.o HBR.o⟩
 ·have t2:((R.2.2:Int) != 0)=true:=by rw[bne_iff_ne];omega
  have HWW:=zH (show aY j files=([],R.2) by rw[HRW.o,if_pos hz]);clear hz;go_upto_region 3 with(first|(refine bA w7.heap.size [.int .u8 0,.int .i64 0,.int .i64 0,.string ⟨#[]⟩] [.int .u8 (R.2.1.1:Int),.int .i64 (R.2.1.2.1:Int),.int .i64 (R.2.1.2.2.1:Int),.string (bs R.2.1.2.2.2)] (Blk.new w7 _ _) rfl _ _ _ rfl rfl rfl HI47.o rfl (by simp[Value.oneCell']) ?_;intro W8 hw8;have hB78:Below w7.heap.size w7 W8:=(by rw[←hw8.o];exact aI (af _ _) (Ei _) _);have HD8:=zH (show Blk W8 w7.heap.size 47 [.int .u8 (R.2.1.1:Int),.int .i64 (R.2.1.2.1:Int),.int .i64 (R.2.1.2.2.1:Int),.string (bs R.2.1.2.2.2)] by rw[←hw8.o];exact(Blk.new w7 [.int .u8 0,.int .i64 0,.int .i64 0,.string ⟨#[]⟩] _).row _);have HE8:=zH (HE7.o.below hB78);have HBB8:=zH (bt HB7.o hB78);have HO8:=zH (HO7.o.below hB78);have HX8:=zH (HX7.o.below hB78);clear hw8 hB78)|(go_at_call 83;refine(HPP.o _ HB1.o).mono ?_;rintro e w7 ⟨⟨pv,rfl,hro⟩,hB7⟩;obtain⟨pa,pc,rfl⟩:=ap hro;have HO7:=zH hro;have HE7:=zH (HE1.o.below hB7);have HX7:=zH (HX1.o.below hB7);have HB7:=zH (bt HB1.o hB7);clear hB7 hro x0 x1 x2 x3 x4 x5 x6 x7));obtain⟨y0,y1,y2,y3⟩:=cl4 HD8.o;have he8:=HE8.o
  (obtain⟨z0,z1,z2,z3⟩:=cl4 he8;obtain⟨g0,g1,g2,g3⟩:=fr4 he8;have hEl:=he8.lt)
  clear he8;go_region_law (fail);go_wp2_with fail
  all_goals
   refine bodyPost_ret (aQ rfl rfl (bO (bi HE8.o _ _ _ _))) rfl ?_;have hc:=cH W8 (J+1) (.int .u8 (R.2.1.1:Int)) (.int .i64 (R.2.1.2.1:Int)) (.int .i64 (R.2.1.2.2.1:Int)) (.string (bs R.2.1.2.2.2));rw[HWW.o];exact⟨⟨none,0,rfl,D5 _⟩,bt (HBB8.o.trans (hc.below (fun k hk=>by rw[show k=J+1 from hk,HJW.o];omega) HBB8.o.size)) (b_drew _)⟩
end
section
attribute [local go_sem] Oper.semAt_some
def vM (s:Nat)(w:World)(pre:LL_)(U:World):Prop:=ew s (s+4) 22 9 1 U pre.length (fk pre)∧Chg (fun k=>s≤k) w U
theorem vM.chg {s:Nat}{w U U':World}{pre:LL_}(h:vM s w pre U)(hc:Chg (fun k=>k=s+1∨k=s+2∨k=s+2+1) U U'):vM s w pre U' :=
 ⟨h.1.chg hc (fun k hk=>by omega),h.2.trans (hc.mono fun k hk=>by omega)⟩
theorem vM.step {s g cap:Nat}{w U W:World}{pre:LL_}{x:LU_}{v:Value}(hbox:U.heap[s]?=some (.cells #[v] 22 (0,0)))(hw:Chg (fun k=>s≤k) w U)(hB:Below (s+4) U W)(hown:W.ownsRow (s+4) 9 1 (.slice (some ⟨g,0,none⟩) (pre.length+1) cap) (pre.length+1) (fk pre++[.string (bs x)])):Chg (fun k=>¬(k=s+1∨k=s+2∨k=s+2+1)) U (W.setCell ⟨s,0,none⟩ (.slice (some ⟨g,0,none⟩) (pre.length+1) cap))∧vM s w (pre++[x]) (W.setCell ⟨s,0,none⟩ (.slice (some ⟨g,0,none⟩) (pre.length+1) cap)):=by
 obtain⟨h1,h2⟩:=ew.stored (by omega) hbox hB hown;refine⟨h2.mono fun k hk=>by omega,?_,hw.trans (h2.mono fun k hk=>by omega)⟩;rw[lZ]at h1;simpa using h1
theorem oJ {P:Program}{fn:Func}{p:Tmp}{ty:TypeId}{tmps:Array Value}{w:World}{v:Value}{b:Nat}(hr:fn.results=#[.cell p ty])(hp:tmps.getD p undef=.pointer (some ⟨b,0,none⟩))(hl:(loadVar ty ⟨b,0,none⟩).run P w=.ok v w):(results fn tmps).run P w=.ok v w:=by
 simp only[Array.getD_eq_getD_getElem?]at hp⊢;simp[results,hr,Sem.run_bind,Result.andThen,hp,asAddr,hl]
theorem uN {w:World}{b:Nat}{v:Value}(h:w.cell? ⟨b,0,none⟩=some v):(loadVar 22 ⟨b,0,none⟩).run Tryz.prog w=.ok v w:=by simp[go_sem,h]
theorem kU:∀ l:LL_,aL.cells l=fk l
 | []=>rfl
 | x::l=>by rw[Rec.cells,kU l];rfl
theorem tH (s:LU_)(w:World)(hl:s.length≤1000000):Calls Tryz.prog 48 #[.string (bs s)] w fun e w'=>(∃ v,e=.returned v∧aL.Own w' w.heap.size v (cN s))∧Bw_ w w':=by
 have hcl:=iE s;refine db Tryz.func48 rfl ?_;simp only[Tryz.ntmps48,List.size_toArray,Ea,ET,Nat.reduceAdd,Nat.reduceSub,Array.replicate_succ,Array.replicate_zero,List.push_toArray,List.append_toArray,Eu,Ed];obtain⟨W1,hW1⟩:=ex_ (w.alloc (.cells #[.slice none 0 0] 22));have hs1:W1.heap.size=w.heap.size+1:=by rw[hW1];simp
 have hbx:W1.heap[w.heap.size]?=some (.cells #[.slice none 0 0] 22 (0,0)):=by rw[hW1];exact World.alloc_heap_new w _
 have hc1:Chg (fun k=>w.heap.size≤k) w W1:=by rw[hW1];exact Chg.alloc _ w _
 go_upto_region 1 with fail;rw[←hW1];clear hW1;go_wp2_with (go_at_call 91;refine(rV s W1).mono ?_;rintro e W2 ⟨rfl,hw2⟩;have HW2:=zH hw2;clear hw2);have hb2:Below W1.heap.size W1 W2:=by rw[HW2.o];exact af _ _
 have hs2:W2.heap.size=w.heap.size+2:=by rw[HW2.o];simp[hs1]
 have hbB:W2.heap[w.heap.size+1]?=some (.cells #[.string (bs s)] 9 (0,0)):=by rw[HW2.o,←hs1];exact World.alloc_heap_new W1 _
 have hbx2:W2.heap[w.heap.size]?=some (.cells #[.slice none 0 0] 22 (0,0)):=(hb2.block _ (by omega)).trans hbx;have hc2:Chg (fun k=>w.heap.size≤k) w W2:=hc1.trans (DM hb2)
 try rw[hs1]
 clear HW2 hb2 hbx hc1
 refine rd (D:=w.heap.size+2) hs2 (gf:=126) (lb:=#[.pointer (some ⟨w.heap.size+1,0,none⟩)]) rfl (enters_of Tryz.func126 (by kernel_rfl) rfl)
  (X:=fun k=>k=w.heap.size+1) (Y:=fun k=>k=w.heap.size+1) (El:=ElR) (out:=cN s) (fun k hk=>by omega) (fun k hk=>by omega)
  (fun W hW=>oL 2 (w.heap.size+1) s W ((hW.block _ (by omega)).trans hbB) (by omega))
  (fun x vs U h=>by rw[h];rfl) (fun x vs U U' h hc=>h)
  (vM w.heap.size w) (fun _ _ _=>False) (fun pre U U' h hc=>h.chg hc) (fun _ _ _ _ h _=>h.elim)
  ⟨⟨_,hbx2,World.ownsRow_nil _ _ _ _⟩,hc2⟩ ?round ?done ?stop
 case round =>
  rintro l pre x vs U _ _ rfl hpre;have hlen:=hpre.length_le;rw[Ev]at hlen;have hby:(pre.length+1)*16≤140737488355328:=by simp at hlen;omega
  gi_wp2;refine⟨Em _ _,?_⟩;rintro U2 h2 ⟨⟨v,hbox,hown⟩,hchg⟩ _ hc2;obtain⟨av,cv,rfl⟩:=ap hown;have c:=cell_of_one hbox;have f:=free_of_one hbox;clear hlen hpre hc2;gi_wp2_with (gi_at_builtin;refine p9 U2 [_] 9 rfl _ _ 22 rfl (w.heap.size+4) (.string ⟨#[]⟩) 1 16 Tryz.underlying22 (by kernel_rfl) rfl (by decide) _ _ _ rfl hown _ rfl rfl (by simp[Value.oneCell']) hby (by decide) (by omega) ?_;intro g cap W3 hown3 hB3;have c3:=cell_of_one ((hB3.block w.heap.size (by omega)).trans hbox);have f3:=free_of_one ((hB3.block w.heap.size (by omega)).trans hbox));exact vM.step hbox hchg hB3 hown3
 case done =>
  rintro W h2 ⟨⟨v,hbox,hown⟩,hchg⟩ hK;obtain⟨av,cv,rfl⟩:=ap hown;have c:=cell_of_one hbox;have f:=free_of_one hbox;go_wp2;rw[eQ (k:=0) (show Blk W w.heap.size 22 [.slice av (cN s).length cv] from hbox) rfl];have hp:∀ X:Nat→Prop,X (w.heap.size+2)→Chg X W (W.putObj (w.heap.size+2) (.deferred none)):=fun X hx=>Chg.putObj _ _ _ hx;refine gl (D:=w.heap.size+2) rfl hK (oJ rfl rfl (uN ((hp (fun k=>k=w.heap.size+2) rfl).cell c (by simp)))) ⟨⟨_,rfl,?_⟩,?_⟩
  ·unfold Rec.Own
   rw[kU];exact dL (cE hown (hp (fun k=>k=w.heap.size+2) rfl) fun k hk=>by omega) (by omega)
  ·exact(hchg.trans (hp _ (by omega))).below (fun k hk=>hk) (Ei _)
 case stop=>exact fun _ _ _ _ _ h _=>h.elim
end
