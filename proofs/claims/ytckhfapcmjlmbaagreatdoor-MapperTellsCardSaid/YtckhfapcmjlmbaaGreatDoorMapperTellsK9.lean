/- Lemmas for MapperTells: walks, plain laws. -/
import Derived.Laws.RangeString
import Derived.Test.YtckhfapcmjlmbaaGreatDoorMapperTellsK2
set_option linter.unusedSimpArgs false
set_option linter.unusedVariables false
set_option maxRecDepth 100000
set_option maxHeartbeats 16000000
namespace Go.Proofs.YtckhfapcmjlmbaaGreatDoor
open Go.RowKit Oct
section
attribute [local irreducible] wpG
theorem qR {P:Program}(w:World)(I:Nat)(s:ByteArray)(pos:Nat)(ty:TypeId)(hI:w.heap[I]?=some (.stringIter s pos))(h:pos<s.size)(ha:(s[pos]'h).toNat<128):(Instr.next (.pointer (some ⟨I,0,none⟩)) true ty).run P w=.ok (.tuple #[.bool true,.int .i64 pos,.int .i32 (s[pos]'h).toNat]) (w.putObj I (.stringIter s (pos+1))):=by
 simp only[Instr.next,getObj,setObj,Sem.run_bind,Sem.run,hI,Result.andThen,h,if_true,decode_ascii s pos h ha];simp[goInt,Sem.run,hI,World.putObj]
theorem pR {P:Program}(w:World)(I:Nat)(s:ByteArray)(pos:Nat)(ty:TypeId)(hI:w.heap[I]?=some (.stringIter s pos))(h:¬pos<s.size):(Instr.next (.pointer (some ⟨I,0,none⟩)) true ty).run P w=.ok (.tuple #[.bool false]) w:=by
 simp[Instr.next,getObj,Sem.run,hI,h]
theorem dB {w:World}{I:Nat}{s:ByteArray}{pos:Nat}(hI:w.heap[I]?=some (.stringIter s pos)):w.iterPos I=pos:=by
 simp[World.iterPos,hI]
theorem kC {P:Program}(w:World)(I:Nat)(l:LU_)(pos:Nat)(ty:TypeId)(hI:w.heap[I]?=some (.stringIter (bs l) pos))(h:pos<l.length)(ha:l[pos].toNat<128):(Instr.next (.pointer (some ⟨I,0,none⟩)) true ty).run P w=.ok (.tuple #[.bool true,.int .i64 (pos:Int),.int .i32 (l[pos].toNat:Int)]) (w.putObj I (.stringIter (bs l) (pos+1))):=by
 have hs:pos<(bs l).size:=by rw[bA];exact h
 have:=qR (P:=P) w I (bs l) pos ty hI hs (by rw[zI];exact ha);rw[zI]at this;exact this
theorem lO {P:Program}(w:World)(I:Nat)(l:LU_)(pos:Nat)(ty:TypeId)(hI:w.heap[I]?=some (.stringIter (bs l) pos))(h:¬pos<l.length):(Instr.next (.pointer (some ⟨I,0,none⟩)) true ty).run P w=.ok (.tuple #[.bool false]) w:=pR w I (bs l) pos ty hI (by rw[bA];exact h)
def jy (w:World):Prop:=∀ k,k<24→w.cell? ⟨1,k*2,none⟩=some (.string (bs (dj.getD k ([],[])).1))∧w.cell? ⟨1,k*2+1,none⟩=some (.string (bs (dj.getD k ([],[])).2))
theorem jy.below {w w':World}{bZ:Nat}(h:jy w)(hB:Below bZ w w')(hg:1<bZ):jy w':=fun k hk=>by
 obtain⟨h1,h2⟩:=h k hk;exact⟨(World.cell?_of_block (hB.block _ hg)).trans h1,(World.cell?_of_block (hB.block _ hg)).trans h2⟩
theorem xv:∀ k,k<24→(Lib.countByte (dj.getD k ([],[])).1 82=0∨(dj.getD k ([],[])).1=[82])∧(Lib.countByte (dj.getD k ([],[])).2 82=0∨(dj.getD k ([],[])).2=[82]):=by decide
theorem regV_two (a:UInt8):gC a=[84]∨gC a=[78]:=by unfold gC;split<;>simp
theorem replV_mem {s r:LU_}{c:UInt8}(h:c∈dX s r):c∈s∨(s=[82]∧c∈r):=by
 unfold dX at h
 split at h
 ·rename_i e;exact .inr ⟨e,h⟩
 ·exact .inl h
theorem AS:∀ k,k<24→(∀ c∈(dj.getD k ([],[])).1,c.toNat<128):=by decide
theorem AR:∀ k,k<24→(∀ c∈(dj.getD k ([],[])).2,c=49∨c=50∨c=84∨c=78∨c=82):=by decide
theorem AQ:∀ k,k<24→(82∈(dj.getD k ([],[])).2→(dj.getD k ([],[])).2=[82]):=by decide
theorem AP:∀ k,k<24→(49∈(dj.getD k ([],[])).2→1≤(dj.getD k ([],[])).1.length):=by decide
theorem AO:∀ k,k<24→(50∈(dj.getD k ([],[])).2→2≤(dj.getD k ([],[])).1.length):=by decide
theorem AN:∀ k,k<24→((dj.getD k ([],[])).1.length≤3):=by decide
theorem AM:∀ k,k<24→((dj.getD k ([],[])).2.length≤2):=by decide
theorem GT {T:Prop} (h:T:=by
 rcases regV_two x.2 with e|e<;>(rw[e]at h;simp at h)
):T:=h
theorem pw (x:VI)(hx:x.1.toNat<24):(∀ c∈(bG x).1,c.toNat<128)∧(∀ c∈(bG x).2,c=49∨c=50∨c=84∨c=78)∧(49∈(bG x).2→1≤(bG x).1.length)∧(50∈(bG x).2→2≤(bG x).1.length)∧(bG x).1.length≤3∧(bG x).2.length≤2:=by
 have f1:=AS x.1.toNat hx;have f2:=AR x.1.toNat hx;have f3:=AQ x.1.toNat hx;have f4:=AP x.1.toNat hx;have f5:=AO x.1.toNat hx;have f6:=AN x.1.toNat hx;have f7:=AM x.1.toNat hx
 have hl:∀ s:LU_,(dX s (gC x.2)).length=s.length:=fun s=>by
  unfold dX
  split
  ·rename_i h;rw[h];rcases regV_two x.2 with e|e<;>rw[e]<;>rfl
  ·rfl
 unfold bG;refine⟨fun c hc=>?_,fun c hc=>?_,fun hc=>?_,fun hc=>?_,by rw[hl];exact f6,by rw[hl];exact f7⟩
 ·rcases replV_mem hc with h|⟨_,h⟩
  ·exact f1 c h
  ·rcases regV_two x.2 with e|e<;>(rw[e,DZ]at h;subst h;decide)
 ·rcases replV_mem hc with h|⟨_,h⟩
  ·rcases f2 c h with h1|h1|h1|h1|h1
   ·exact .inl h1
   ·exact .inr (.inl h1)
   ·exact .inr (.inr (.inl h1))
   ·exact .inr (.inr (.inr h1))
   ·exfalso
    subst h1;have:=f3 h;unfold dX at hc;rw[if_pos this]at hc;rcases regV_two x.2 with e|e<;>(rw[e]at hc;simp at hc)
  ·rcases regV_two x.2 with e|e<;>(rw[e,DZ]at h;subst h;simp)
 ·rw[hl]
  rcases replV_mem hc with h|⟨_,h⟩
  ·exact f4 h
  ·exact GT
 ·rw[hl]
  rcases replV_mem hc with h|⟨_,h⟩
  ·exact f5 h
  ·exact GT
theorem fitV_iff:∀ (t u:LU_),t.length≤u.length→(mb t u=true↔∀ j (h:j<t.length) (h':j<u.length),t[j]=63∨t[j]=u[j])
 | [],u,_=>by simp[mb]
 | a::t,[],h=>by simp at h
 | a::t,b::u,h=>by
  rw[mb,DS,fitV_iff t u (by simpa using h)];constructor
  ·rintro⟨h1,h2⟩ j hj hj'
   cases j with
   | zero=>simpa using h1
   | succ j=>exact h2 j (by simpa using hj) (by simpa using hj')
  ·intro h3
   have h4:a=63∨a=b:=h3 0 (by simp) (by simp);refine⟨by simpa using h4,fun j hj hj'=>?_⟩;exact h3 (j+1) (by simpa using hj) (by simpa using hj')
theorem fh {top g:LU_}{k:Nat}(h:k<g.length):bw top (g.take (k+1))=bw top (g.take k)++(if g[k]=49 then top.take 1 else if g[k]=50 then (top.drop 1).take 1 else [g[k]]):=by
 unfold bw;rw[Dz h,List.flatMap_append];simp
theorem nC (top:LU_):∀ g:LU_,(bw top g).length≤g.length
 | []=>by simp[bw]
 | c::g=>by
  have ih:=nC top g;unfold bw at ih⊢;rw[List.flatMap_cons,DL,Du]
  have:(if c=49 then top.take 1 else if c=50 then (top.drop 1).take 1 else [c]).length≤1:=by
   split
   ·rw[DU];omega
   ·split
    ·rw[DU];omega
    ·simp
  omega
end
section
attribute [local irreducible] wpG
section
variable {w:World}{bZ G:Nat}{tv cv bv sv ev:Value}{inp:Nat}{role:UInt8}{s:Vs}
theorem Ew {T:Prop} (h:T:=by
 refine rk_ [(2,.exact _ (.int .u8 (c.toNat:Int))),(7,.exact _ (.int .u8 (c.toNat:Int))),(10,.exact _ (.int .u8 (d.toNat:Int)))] ?_;refine cG ?_
 repeat(refine gE_ (fun w' G hB hS hG=>?_) (fun K hK=>?_);(go_simp;first|exact HCC.o▸hG _ (Bel.refl _)|exact HDD.o▸hG _ (Bel.refl _));refine cO ?_;clear hK K)
 refine aI ?_;intro w5 hB5 hA5;have HB5:=zH (HBP.o.trans (hB5.mono HBP.o.size));have HI5:=zH (show w5.heap[I]?=some (.stringIter (bs T) (pos+1)) from(hB5.block I (Array.getElem?_eq_some_iff.1 HI2.o).1).trans HI2.o);clear hB5 hA5;go_wp2;exact⟨⟨pos+1,HP.o,HI5.o,HB5.o,HF2.o⟩,by rw[dB HI5.o];exact HMS.o⟩
):T:=h
theorem Ex {T:Prop} (h:T:=by
 have HGS:=zH hgs;clear hgs hc;go_wp2;exact⟨⟨k+1,by rw[HGS.o]<;>simp,hke,HJ2.o,HJB.o⟩,by rw[dB HJ2.o];exact HMS.o⟩
):T:=h
theorem Ey {T:Prop} (h:T:=by
 have:=kC (P:=Tryz.prog) wr J E k ty HJt.o hke (by rw[hc];decide);rw[hc]at this;exact this
):T:=h
theorem Ez {T:Prop} (h:T:=by
 clear h22 h16;go_wp2_with fail;go_ret;exact⟨by rw[HVAL.o];rfl,by rw[HVAL.o];exact HVK.o.1,(Da HBF.o).trans (Chg.setCell _ _ _ rfl)⟩
):T:=h
theorem EA {T:Prop} (h:T:=by
 clear h22 h16;go_wp2_with fail;go_ret;exact⟨by rw[HVAL.o];rfl,by rw[HVAL.o];exact HVG.o,Da HBF.o⟩
):T:=h
theorem sZ (h:VG w bZ G tv cv inp role s bv sv ev)(hE:jy w)(hg:1<bZ)(p a:UInt8)(hp:p.toNat<24)(hk:s.kinds.length≤1000):Calls Tryz.prog 217 #[.pointer (some ⟨G,0,none⟩),.agg #[.int .u8 (p.toNat:Int),.int .u8 (a.toNat:Int)]] w fun e w'=>e=.returned (.int .i64 (((aF s.kinds (p,a)).1:Nat):Int))∧VG w' bZ G tv cv inp role { s with kinds:=(aF s.kinds (p,a)).2 } bv sv ev∧Chg (fun x=>x=G) w w':=by
 have HH:=zH h;have hgw:G<w.heap.size:=h.blk.lt;have hbw:bZ≤w.heap.size:=DG h.gb (DA hgw);obtain⟨W1,hW1⟩:=ex_ (w.alloc (.cells #[.int .u8 (p.toNat:Int),.int .u8 (a.toNat:Int)] 127));have hb1:=ba_ hW1;have hx:=bm_ hW1;have h1:=h.below hb1;obtain⟨x0,x1⟩:=cl2 hx;have g4:=h1.cell (k:=4) rfl;obtain⟨q1,q2⟩:=hE p.toNat hp;have t1:=C8 hb1 q1;have t2:=C8 hb1 q2;obtain⟨r1,r2⟩:=xv p.toNat hp;have hfacts:=pw (p,a) hp;have HB1:=zH hb1;have HBW:=zH hbw;have HGW:=zH hgw;have hrp:=regV_two a;have HRP:=zH hrp;have R1:=zH r1;have R2:=zH r2;obtain⟨T0,hT0⟩:=ex_ ((dj.getD p.toNat ([],[])).1);obtain⟨E0,hE0⟩:=ex_ ((dj.getD p.toNat ([],[])).2);obtain⟨R,hR⟩:=ex_ (gC a);obtain⟨T,hT⟩:=ex_ ((bG (p,a)).1);obtain⟨E,hEE⟩:=ex_ ((bG (p,a)).2);rw[←hT0]at t1 R1;rw[←hE0]at t2 R2;rw[←hR]at HRP;have HTR:=zH (show T=dX T0 R by rw[hT,hT0,hR];rfl);have HER:=zH (show E=dX E0 R by rw[hEE,hE0,hR];rfl);have HR:=zH hR;have HT:=zH hT;have HEE:=zH hEE;rw[←hT,←hEE]at hfacts;have HF:=zH hfacts;have hTl:T.length≤3:=hfacts.2.2.2.2.1;have a1:(a.toNat:Int)<256:=by have:=a.toNat_lt;omega
 have a0:(0:Int)≤(a.toNat:Int):=by omega
 have p0:(0:Int)≤(p.toNat:Int):=by omega
 have p1:(p.toNat:Int)<24:=by omega
 have k1:(s.kinds.length:Int)≤1000:=by omega
 have k2:(T.length:Int)≤3:=by omega
 clear h h1 hx hb1 hE q1 q2 r1 r2 hfacts hrp hT0 hE0 hR hT hEE;go_enter Tryz.func217,Tryz.ntmps217;go_upto_region 2 with fail;rw[←hW1];clear hW1
 go_upto_if 16 with fail
 go_cut [5] (fun t wx=>t=.string (bs R)∧wx=W1)
 case first =>
  by_cases hq:4≤a.toNat
  ·have hq1:(4:Int)≤(a.toNat:Int):=by omega
   have HR84:=zH (show R=[84] by rw[HR.o];unfold gC;rw[if_pos hq]);clear hq;go_wp2_with fail
   go_meet
   case rel=>exact⟨by rw[HR84.o];rfl,rfl⟩
  ·have hq1:¬(4:Int)≤(a.toNat:Int):=by omega
   have HR78:=zH (show R=[78] by rw[HR.o];unfold gC;rw[if_neg hq]);clear hq;go_wp2_with fail
   go_meet
   case rel=>exact⟨by rw[HR78.o];rfl,rfl⟩
 case rest =>
  obtain⟨rfl,rfl⟩:=hcut;go_upto_region 4 with fail;refine rk_ [(1,.exact _ (.int .u8 (p.toNat:Int))),(4,.exact _ (.string (bs T0))),(6,.exact _ (.string (bs T))),(8,.exact _ (.int .u8 (p.toNat:Int))),(11,.exact _ (.string (bs E0))),(13,.exact _ (.string (bs E)))] ?_;refine cG ?_;refine gE_ (fun w' G hB hS hG=>?_) (fun K hK=>?_)
  ·have y:=C8 hB x0
   go_simp;exact hG _ (Bel.refl _)
  refine cO ?_;clear hK K;refine gE_ (fun w' G hB hS hG=>?_) (fun K hK=>?_)
  ·have y:=C8 hB t1
   go_simp;exact hG _ (Bel.refl _)
  refine cO ?_;clear hK K;refine gE_ (fun w' G hB hS hG=>?_) (fun K hK=>?_)
  ·have hr:=jd T0 R w' R1.o HRP.o
   rw[←HTR.o]at hr;go_simp;exact aO hG hr
  refine cO ?_;clear hK K;refine gE_ (fun w' G hB hS hG=>?_) (fun K hK=>?_)
  ·have y:=C8 hB x0
   go_simp;exact hG _ (Bel.refl _)
  refine cO ?_;clear hK K;refine gE_ (fun w' G hB hS hG=>?_) (fun K hK=>?_)
  ·have y:=C8 hB t2
   go_simp;exact hG _ (Bel.refl _)
  refine cO ?_;clear hK K;refine gE_ (fun w' G hB hS hG=>?_) (fun K hK=>?_)
  ·have hr:=jd E0 R w' R2.o HRP.o
   rw[←HER.o]at hr;go_simp;exact aO hG hr
  refine cO ?_;clear hK K;refine aI ?_;intro w2 hB2 hA2;have z0:=C8 hB2 x0;have z4:=C8 hB2 g4;have HB2:=zH (bt HB1.o hB2);clear hB2 hA2 x0 x1 g4 t1 t2
  by_cases hlt:s.kinds.length<T.length
  ·have n1:(s.kinds.length:Int)-(T.length:Int)<0:=by omega
   have HV:=zH (show aF s.kinds (p,a)=(130,s.kinds) by unfold aF;rw[←HT.o,if_pos hlt]);clear hlt;go_wp2_with fail;go_ret;exact⟨by rw[HV.o];rfl,by rw[HV.o];exact HH.o.below HB2.o,Da HB2.o⟩
  ·obtain⟨m,hm⟩:∃ m:Nat,s.kinds.length=m+T.length:=⟨s.kinds.length-T.length,by omega⟩
   have n1:(s.kinds.length:Int)-(T.length:Int)=(m:Int):=by omega
   have n2:¬(m:Int)<0:=by omega
   have n3:=nn_ m;have n4:(m:Int)≤(s.kinds.length:Int):=by omega
   obtain⟨K,hK⟩:=ex_ s.kinds;have HM:=zH hm;have HK:=zH hK;clear hlt hm;go_upto_region 8 with fail;refine rk_ [(3,.exact _ (.string (bs s.kinds))),(9,.exact _ (.string (bs s.kinds)))] ?_;refine cG ?_;refine gE_ (fun w' G hB hS hG=>?_) (fun K hK=>?_)
   ·have y:=C8 hB z4
    go_simp;exact hG _ (Bel.refl _)
   refine cO ?_;clear hK K;refine gE_ (fun w' G hB hS hG=>?_) (fun K hK=>?_)
   ·have y:=C8 hB z4
    go_simp;exact hG _ (Bel.refl _)
   refine cO ?_;clear hK K;refine aI ?_;intro w3 hB3 hA3;have y0:=C8 hB3 z0;have HB3:=zH (bt HB2.o hB3);clear hB3 hA3 z0 z4;obtain⟨U,hU⟩:=ex_ (s.kinds.drop m);obtain⟨Pk,hPk⟩:=ex_ (s.kinds.take m);have hUl:U.length=T.length:=by rw[hU,D7];have:=HM.o;omega
   rw[←hU,←hPk];have HU:=zH hU;have HPK:=zH hPk;have HUL:=zH hUl;have u1:(U.length:Int)≤3:=by omega
   clear hU hPk hUl;go_wp2_with fail;obtain⟨I,hI⟩:=ex_ w3.heap.size;have hit:=World.iter_heap w3 (bs T) 0;have hbi:Below w3.heap.size w3 (w3.iter (bs T) 0):=af w3 _;rw[←hI]at hit;have HI:=zH hI;have HIT:=zH hit;have HBI:=zH hbi;rw[←hI];clear hI hit hbi
   go_loopw [11] (fun _ wx=>∃ pos:Nat,pos≤T.length∧Hid (wx.heap[I]?=some (.stringIter (bs T) pos))∧Hid (Below w3.heap.size w3 wx)∧Hid (∀ j (h:j<T.length) (h':j<U.length),j<pos→T[j]=63∨T[j]=U[j])) (fun _ wx=>T.length-wx.iterPos I)
   case atStart=>exact⟨0,D6 _,HIT.o,HBI.o,fun j _ _ h=>by omega⟩
   case round =>
    obtain⟨pos,hpos,HIt,HBx,HFit⟩:=hrel
    by_cases hp:pos<T.length
    ·have hpu:pos<U.length:=by rw[HUL.o];exact hp
     have hasc:=HF.o.1 T[pos] (DY hp);have hnx:∀ ty,(Instr.next (.pointer (some ⟨I,0,none⟩)) true ty).run Tryz.prog wr=.ok (.tuple #[.bool true,.int .i64 (pos:Int),.int .i32 (T[pos].toNat:Int)]) (wr.putObj I (.stringIter (bs T) (pos+1))):=fun ty=>kC wr I T pos ty HIt.o hp hasc;have hIlt:I<wr.heap.size:=(Array.getElem?_eq_some_iff.1 HIt.o).1;have hbp:Below w3.heap.size w3 (wr.putObj I (.stringIter (bs T) (pos+1))):=HBx.o.trans ((Chg.putObj (X:=fun k=>k=I) wr I _ rfl).below (fun k hk=>by rw[hk,HI.o];exact DC _) HBx.o.size);have hit2:(wr.putObj I (.stringIter (bs T) (pos+1))).heap[I]?=some (.stringIter (bs T) (pos+1)):=World.putObj_heap_same hIlt;have HBP:=zH hbp;have HI2:=zH hit2;have j0:=nn_ pos;have j1:(pos:Int)<(T.length:Int):=by omega
     have j2:(pos:Int)<(U.length:Int):=by omega
     have hms:T.length-(pos+1)<T.length-wr.iterPos I:=by rw[dB HIt.o];omega
     have HMS:=zH hms;have HP:=zH hp;have HPU:=zH hpu;clear hasc hIlt hbp hit2 hms;go_upto_region 12 with fail;obtain⟨X,hX⟩:=ex_ (wr.putObj I (.stringIter (bs T) (pos+1)));rw[←hX]at HBP HI2⊢;clear hX hnx;obtain⟨c,hc⟩:=ex_ (T[pos]);obtain⟨d,hd⟩:=ex_ (U[pos]);have HCC:=zH hc;have HDD:=zH hd
     by_cases h63:c=63
     ·have e1:((c.toNat:Int) != 63)=false:=by rw[h63];rfl
      have hf:∀ j (h:j<T.length) (h':j<U.length),j<pos+1→T[j]=63∨T[j]=U[j]:=fun j h h' hj=>by
       by_cases e:j=pos
       ·subst e;exact .inl (HCC.o.symm.trans h63)
       ·exact HFit.o j h h' (by omega)
      have HF2:=zH hf;clear h63 hf hc hd;exact Ew
     ·have e1:((c.toNat:Int) != 63)=true:=by
       have:=aC (p:=c) (k:=63) (by decide) h63;simpa[bne] using this
      by_cases heq:c=d
      ·have e2:((c.toNat:Int) != (d.toNat:Int))=false:=by rw[heq];simp
       have hf:∀ j (h:j<T.length) (h':j<U.length),j<pos+1→T[j]=63∨T[j]=U[j]:=fun j h h' hj=>by
        by_cases e:j=pos
        ·subst e;exact .inr ((HCC.o.symm.trans heq).trans HDD.o)
        ·exact HFit.o j h h' (by omega)
       have HF2:=zH hf;clear h63 hf heq hc hd;exact Ew
      ·have e2:((c.toNat:Int) != (d.toNat:Int))=true:=by
        rw[bne_iff_ne];intro e;exact heq (UInt8.toNat_inj.1 (by omega))
       have hv:aF s.kinds (p,a)=(131,s.kinds):=by
        have hnf:mb T U=false:=by
         rw[←Bool.not_eq_true];intro hft;rcases(fitV_iff T U (by rw[HUL.o];exact DC _)).1 hft pos HP.o HPU.o with h|h
         ·exact h63 (HCC.o.trans h)
         ·exact heq ((HCC.o.trans h).trans HDD.o.symm)
        unfold aF;rw[←HT.o,if_neg (by have:=HM.o;omega),show s.kinds.length-T.length=m by have:=HM.o;omega,←HU.o,hnf]
        rfl
       have HV:=zH hv;clear h63 heq hv hc hd;refine rk_ [(2,.exact _ (.int .u8 (c.toNat:Int))),(7,.exact _ (.int .u8 (c.toNat:Int))),(10,.exact _ (.int .u8 (d.toNat:Int)))] ?_;refine cG ?_
       repeat(refine gE_ (fun w' G hB hS hG=>?_) (fun K hK=>?_);(go_simp;first|exact HCC.o▸hG _ (Bel.refl _)|exact HDD.o▸hG _ (Bel.refl _));refine cO ?_;clear hK K)
       refine aI ?_;intro w5 hB5 hA5;have HB5:=zH (HB3.o.trans ((HBP.o.trans (hB5.mono HBP.o.size)).mono HB3.o.size));clear hB5 hA5;go_wp2_with fail;go_ret;exact⟨by rw[HV.o];rfl,by rw[HV.o];exact HH.o.below HB5.o,Da HB5.o⟩
    ·obtain rfl:pos=T.length:=by omega
     have hft:mb T U=true:=(fitV_iff T U (by rw[HUL.o];exact DC _)).2 fun j h h'=>HFit.o j h h' h;have hnx:∀ ty,(Instr.next (.pointer (some ⟨I,0,none⟩)) true ty).run Tryz.prog wr=.ok (.tuple #[.bool false]) wr:=fun ty=>lO wr I T T.length ty HIt.o (by omega);have HFT:=zH hft;clear hft;go_upto_region 14 with fail;clear hnx;obtain⟨W4,hW4⟩:∃ W,W=wr:=⟨_,rfl⟩
     subst hW4;have y4:=C8 HBx.o y0;go_wp2_with fail;obtain⟨J,hJ⟩:=ex_ W4.heap.size;have hjt:=World.iter_heap W4 (bs E) 0;have hbj:Below W4.heap.size W4 (W4.iter (bs E) 0):=af W4 _;rw[←hJ]at hjt;have HJ:=zH hJ;have HJT:=zH hjt;have HBJ:=zH hbj;have HEL:=zH HF.o.2.2.2.2.2;rw[←hJ];clear hJ hjt hbj
     go_loopw [9] (fun t9 wx=>∃ k:Nat,t9=.string (bs (Pk++bw U (E.take k)))∧k≤E.length∧Hid (wx.heap[J]?=some (.stringIter (bs E) k))∧Hid (Below W4.heap.size W4 wx)) (fun _ wx=>E.length-wx.iterPos J)
     case atStart=>exact⟨0,by simp[bw],D6 _,HJT.o,HBJ.o⟩
     case round =>
      obtain⟨k,rfl,hke0,HJt,HBy⟩:=hrel
      by_cases hke:k<E.length
      ·have hmem:=HF.o.2.1 E[k] (DY hke)
       have h49:=HF.o.2.2.1;have h50:=HF.o.2.2.2.1;have hJlt:J<wr.heap.size:=(Array.getElem?_eq_some_iff.1 HJt.o).1;have hjb:Below W4.heap.size W4 (wr.putObj J (.stringIter (bs E) (k+1))):=HBy.o.trans ((Chg.putObj (X:=fun x=>x=J) wr J _ rfl).below (fun x hx=>by rw[hx,HJ.o];exact DC _) HBy.o.size);have hj2:(wr.putObj J (.stringIter (bs E) (k+1))).heap[J]?=some (.stringIter (bs E) (k+1)):=World.putObj_heap_same hJlt;have HJB:=zH hjb;have HJ2:=zH hj2;have hb1:Pk.length≤1000:=by rw[HPK.o,DU];omega
       have hb2:(bw U (E.take k)).length≤2:=DG (nC _ _) (by rw[DU];have:=HEL.o;omega);have hms:E.length-(k+1)<E.length-wr.iterPos J:=by rw[dB HJt.o];omega
       have HMS:=zH hms;clear hJlt hjb hj2 hms;rcases hmem with hc|hc|hc|hc
       ·have hnx:∀ ty,(Instr.next (.pointer (some ⟨J,0,none⟩)) true ty).run Tryz.prog wr=.ok (.tuple #[.bool true,.int .i64 (k:Int),.int .i32 49]) (wr.putObj J (.stringIter (bs E) (k+1))):=fun ty=>by
         exact Ey
        have hgs:bw U (E.take (k+1))=bw U (E.take k)++U.take 1:=by rw[fh hke,hc];rfl
        have hu1:1≤U.length:=by rw[HUL.o];exact h49 (by rw[←hc];exact DY hke)
        have hu2:(1:Int)≤(U.length:Int):=by omega
        clear hu1 h49 h50;exact Ex
       ·have hnx:∀ ty,(Instr.next (.pointer (some ⟨J,0,none⟩)) true ty).run Tryz.prog wr=.ok (.tuple #[.bool true,.int .i64 (k:Int),.int .i32 50]) (wr.putObj J (.stringIter (bs E) (k+1))):=fun ty=>by
         exact Ey
        have hgs:bw U (E.take (k+1))=bw U (E.take k)++(U.drop 1).take 1:=by rw[fh hke,hc];rfl
        have hu1:2≤U.length:=by rw[HUL.o];exact h50 (by rw[←hc];exact DY hke)
        have hu2:(2:Int)≤(U.length:Int):=by omega
        clear hu1 h49 h50;exact Ex
       ·have hnx:∀ ty,(Instr.next (.pointer (some ⟨J,0,none⟩)) true ty).run Tryz.prog wr=.ok (.tuple #[.bool true,.int .i64 (k:Int),.int .i32 84]) (wr.putObj J (.stringIter (bs E) (k+1))):=fun ty=>by
         exact Ey
        have hgs:bw U (E.take (k+1))=bw U (E.take k)++[84]:=by rw[fh hke,hc];rfl
        have hcv:∀ w,(convert 21 9 (.int .i32 84)).run Tryz.prog w=.ok (.string (bs [84])) w:=by intro w;kernel_rfl
        clear h49 h50;exact Ex
       ·have hnx:∀ ty,(Instr.next (.pointer (some ⟨J,0,none⟩)) true ty).run Tryz.prog wr=.ok (.tuple #[.bool true,.int .i64 (k:Int),.int .i32 78]) (wr.putObj J (.stringIter (bs E) (k+1))):=fun ty=>by
         exact Ey
        have hgs:bw U (E.take (k+1))=bw U (E.take k)++[78]:=by rw[fh hke,hc];rfl
        have hcv:∀ w,(convert 21 9 (.int .i32 78)).run Tryz.prog w=.ok (.string (bs [78])) w:=by intro w;kernel_rfl
        clear h49 h50;exact Ex
      ·obtain rfl:k=E.length:=by omega
       have hnx:∀ ty,(Instr.next (.pointer (some ⟨J,0,none⟩)) true ty).run Tryz.prog wr=.ok (.tuple #[.bool false]) wr:=fun ty=>lO wr J E E.length ty HJt.o (by omega);rw[List.take_length];obtain⟨RS,hRS⟩:=ex_ (Pk++bw U E);rw[←hRS];have y5:=C8 HBy.o y4;have hbF:Below w.heap.size w wr:=(HB3.o.trans (HBx.o.mono HB3.o.size)).trans (HBy.o.mono (DG HB3.o.size HBx.o.size));have hvg:=HH.o.below hbF;have f4:=hvg.free (k:=4) (by decide);have c4:=hvg.cell (k:=4) rfl;have hvk:=hvg.kinds RS;have HVK:=zH hvk;have HVG:=zH hvg;have HBF:=zH hbF
       have hval:aF s.kinds (p,a)=if (p=22∧16≤RS.length)∨16<RS.length then (130,s.kinds) else (0,RS):=by
        unfold aF;rw[←HT.o,←HEE.o,if_neg (by have:=HM.o;omega),show s.kinds.length-T.length=m by have:=HM.o;omega,←HU.o,←HPK.o,if_neg (by rw[HFT.o];simp),←hRS]
       have HVAL:=zH hval;clear hvg hvk hbF hRS hval
       by_cases h22:p=22
       ·have e22:((p.toNat:Int)==22)=true:=by rw[h22];rfl
        by_cases h16:16≤RS.length
        ·have f16:(16:Int)≤(RS.length:Int):=by omega
         rw[if_pos (.inl ⟨h22,h16⟩)]at HVAL;exact EA
        ·have f16:¬(16:Int)≤(RS.length:Int):=by omega
         have f17:¬(16:Int)<(RS.length:Int):=by omega
         rw[if_neg (by omega)]at HVAL;exact Ez
       ·have e22:((p.toNat:Int)==22)=false:=aC (k:=22) (by decide) h22
        by_cases h16:16<RS.length
        ·have f16:(16:Int)<(RS.length:Int):=by omega
         rw[if_pos (.inr h16)]at HVAL;exact EA
        ·have f16:¬(16:Int)<(RS.length:Int):=by omega
         rw[if_neg (by rintro (h|h);exact h22 h.1;exact h16 h)]at HVAL;exact Ez
end
end
section
attribute [local irreducible] wpG
section
variable {a:UInt8}{i:Nat}{s:Vs}
theorem Cl:turnsV i (19,a) s=(0,{ s with blocks:=s.blocks++[⟨19,s.kinds,s.kinds,i,false⟩] }):=rfl
theorem Cj:turnsV i (22,a) s=(0,{ s with blocks:=s.blocks++[⟨22,s.kinds,s.kinds,i,false⟩],kinds:=s.kinds++[84] }):=rfl
theorem Ck {b:Vb}(h:s.blocks.getLast?=some b):turnsV i (20,a) s=(0,{ s with ends:=s.ends.set b.at_ (i:Int),blocks:=s.blocks.dropLast++[{ b with want:=s.kinds,at_:=i,did:=true }],kinds:=b.opn }):=by unfold turnsV;simp[h]
theorem A8 {b:Vb}(h:s.blocks.getLast?=some b)(hk:s.kinds=b.want):turnsV i (21,a) s=(0,{ s with ends:=s.ends.set b.at_ (i:Int),blocks:=s.blocks.dropLast }):=by unfold turnsV;simp[h,hk]
theorem A9 {b:Vb}(h:s.blocks.getLast?=some b)(hk:s.kinds≠b.want):turnsV i (21,a) s=(132,s):=by unfold turnsV;simp[h,hk]
theorem tuN {p:UInt8}(h19:p≠19)(h22:p≠22)(h20:p≠20)(h21:p≠21):turnsV i (p,a) s=(0,s):=by unfold turnsV;simp[h19,h22,h20,h21]
end
theorem yn {α:Type}{l:List α}{m:Nat}(hm:l.length=m+1)(x:α):l.set m x=l.dropLast++[x]:=by
 have hne:l≠[]:=by rintro rfl;simp at hm
 obtain⟨l',y,rfl⟩:∃ l' y,l=l'++[y]:=⟨l.dropLast,l.getLast hne,(List.dropLast_concat_getLast hne).symm⟩
 have:l'.length=m:=by simpa using hm
 rw[List.set_append_right _ _ (by omega)];simp[this]
section
variable {w:World}{bZ G:Nat}{tv cv bv sv ev:Value}{inp:Nat}{role:UInt8}{s:Vs}
theorem VG.as {s':Vs}(h:VG w bZ G tv cv inp role s bv sv ev)(e:s=s'):VG w bZ G tv cv inp role s' bv sv ev:=e▸h
theorem VG.setE {g c n:Nat}(h:VG w bZ G tv cv inp role s bv sv (.slice (some ⟨g,0,none⟩) n c)){k:Nat}(hk:k<s.ends.length)(x:Int):VG (w.setCell ⟨g,k,none⟩ (.int .i64 x)) bZ G tv cv inp role { s with ends:=s.ends.set k x } bv sv (.slice (some ⟨g,0,none⟩) n c)∧Below bZ w (w.setCell ⟨g,k,none⟩ (.int .i64 x)):=by
 have ho:=h.oe.setCell hk (y:=x) (j:=0) (by decide) (u:=.int .i64 x) rfl;rw[show k*bf.n+0=k from Nat.mul_one k]at ho;exact h.chgE (Chg.setCell _ _ _ rfl) ho
theorem VG.setB {g c n m:Nat}(h:VG w bZ G tv cv inp role s (.slice (some ⟨g,0,none⟩) n c) sv ev)(hm:s.blocks.length=m+1){b b':Vb}(hb:s.blocks[m]?=some b){j:Nat}(hj:j<5){u:Value}(hu:kj.cell b'=(kj.cell b).set j u):VG (w.setCell ⟨g,m*5+j,none⟩ u) bZ G tv cv inp role { s with blocks:=s.blocks.set m b' } (.slice (some ⟨g,0,none⟩) n c) sv ev∧Below bZ w (w.setCell ⟨g,m*5+j,none⟩ u):=by
 have hml:m<s.blocks.length:=by omega
 rw[List.getElem?_eq_getElem hml]at hb;have hb2:=Option.some.inj hb;have ho:=h.ob.setCell hml (y:=b') (j:=j) hj (u:=u) (by rw[hb2];exact hu);exact h.chgB (Chg.setCell _ _ _ rfl) ho
theorem VG.cellE {g c n:Nat}(h:VG w bZ G tv cv inp role s bv sv (.slice (some ⟨g,0,none⟩) n c)){k:Nat}(hk:k<s.ends.length):(∃ v,w.cell? ⟨g,k,none⟩=some v)∧w.frozen? ⟨g,k,none⟩=false:=by
 rcases h.oe.2 with ⟨hv,_⟩|⟨g',cap,cur,hv,hb,hh,r1,r2,r3,r4⟩
 ·cases hv
 ·cases hv
  have hb2:Blk w g bf.e cur.toList:=by unfold Blk;rw[hh]
  have hl:k<cur.toList.length:=by
   have:cur.size=c*bf.n:=r3;have h2:bf.n=1:=rfl;rw[h2]at this;simp;omega
  exact⟨⟨_,hb2.cell (List.getElem?_eq_getElem hl)⟩,hb2.free hl⟩
theorem VG.cellB {g c n:Nat}(h:VG w bZ G tv cv inp role s (.slice (some ⟨g,0,none⟩) n c) sv ev){k:Nat}(hk:k<s.blocks.length*5):w.frozen? ⟨g,k,none⟩=false:=by
 rcases h.ob.2 with ⟨hv,_⟩|⟨g',cap,cur,hv,hb,hh,r1,r2,r3,r4⟩
 ·cases hv
 ·cases hv
  have hb2:Blk w g kj.e cur.toList:=by unfold Blk;rw[hh]
  have hl:k<cur.toList.length:=by
   have:cur.size=c*kj.n:=r3;have h2:kj.n=5:=rfl;rw[h2]at this;have:s.blocks.length*5≤c*5:=DV _ r1;simp;omega
  exact hb2.free hl
theorem vT (h:VG w bZ G tv cv inp role s bv sv ev)(p a:UInt8)(i:Nat)(hl:s.blocks.length≤1000)(hk:s.kinds.length≤1000)(hne:p=20∨p=21→s.blocks≠[])(hat:∀ b∈s.blocks,b.at_<s.ends.length)(hel:s.ends.length≤1000)(hi:i≤1000):Calls Tryz.prog 218 #[.pointer (some ⟨G,0,none⟩),.int .i64 (i:Int),.agg #[.int .u8 (p.toNat:Int),.int .u8 (a.toNat:Int)]] w fun e w'=>e=.returned (.int .i64 (((turnsV i (p,a) s).1:Nat):Int))∧(∃ bv',VG w' bZ G tv cv inp role (turnsV i (p,a) s).2 bv' sv ev)∧Below bZ w w':=by
 have HH:=zH h;have hgw:G<w.heap.size:=h.blk.lt;have hbw:bZ≤w.heap.size:=DG h.gb (DA hgw);obtain⟨W1,hW1⟩:=ex_ (w.alloc (.cells #[.int .u8 (p.toNat:Int),.int .u8 (a.toNat:Int)] 127));have hb1:=ba_ hW1;have hx:=bm_ hW1;have x0:=hx.cell (k:=0) rfl;have H1:=zH (h.below hb1);have HB1:=zH hb1;have HBW:=zH hbw;have HT:=zH (qI (h.below hb1) hl);have HNE:=zH hne;have HAT:=zH hat;have k1:(s.kinds.length:Int)≤1000:=by omega
 have i1:(i:Int)≤1000:=by omega
 have i0:=nn_ i;clear h hx hb1 hne hat
 by_cases h19:p=19
 ·subst h19
  rw[show(((19:UInt8).toNat:Nat):Int)=19 from rfl]at hW1 x0⊢;go_enter Tryz.func218,Tryz.ntmps218;go_upto_region 1 with fail;rw[←hW1];clear hW1;go_wp2_with fail;refine HT.o.mono ?_;rintro e w2 ⟨htop,hB2⟩;have HTOP:=zH htop;have H2:=zH (H1.o.below hB2);have y0:=C8 hB2 x0;have HB2:=zH (bt HB1.o hB2);clear htop hB2 x0;obtain⟨tp,rfl⟩:∃ tp,e=.returned tp:=by rcases HTOP.o with ⟨_,rfl⟩|⟨_,_,_,_,_,rfl⟩<;>exact⟨_,rfl⟩
  clear HTOP;have c4:=H2.o.cell (k:=4) rfl;go_upto_region 4 with fail;refine ba 15 [(4,.exact _ (.int .u8 19)),(8,.exact _ (.string (bs s.kinds))),(12,.exact _ (.string (bs s.kinds)))] (by kernel_rfl) (by kernel_rfl) ?_;simp only[DQ,DW,DO,DX];refine cG ?_
  repeat(refine gE_ (fun w' G hB hS hG=>?_) (fun K hK=>?_);(have z0:=C8 hB y0;have z1:=C8 hB c4;go_simp;exact hG _ (Bel.refl _));refine cO ?_;clear hK K)
  refine aI ?_;intro w3 hB3 hA3;have H3:=zH (H2.o.below hB3);have HB3:=zH (bt HB2.o hB3);clear hB3 hA3 y0 c4;go_wp2_with fail;refine(oL ⟨19,s.kinds,s.kinds,i,false⟩ H3.o hl).mono ?_;rintro e w4 ⟨⟨v,rfl⟩,⟨bv',hv4⟩,hB4⟩;have H4:=zH hv4;have HB4:=zH ((HB3.o.mono HBW.o).trans hB4);clear hv4 hB4;go_wp2_with fail;go_ret;exact⟨by rw[Cl];rfl,⟨_,by rw[Cl];exact H4.o⟩,HB4.o⟩
 by_cases h22:p=22
 ·subst h22
  rw[show(((22:UInt8).toNat:Nat):Int)=22 from rfl]at hW1 x0⊢;go_enter Tryz.func218,Tryz.ntmps218;go_upto_region 1 with fail;rw[←hW1];clear hW1;go_wp2_with fail;refine HT.o.mono ?_;rintro e w2 ⟨htop,hB2⟩;have HTOP:=zH htop;have H2:=zH (H1.o.below hB2);have y0:=C8 hB2 x0;have HB2:=zH (bt HB1.o hB2);clear htop hB2 x0;obtain⟨tp,rfl⟩:∃ tp,e=.returned tp:=by rcases HTOP.o with ⟨_,rfl⟩|⟨_,_,_,_,_,rfl⟩<;>exact⟨_,rfl⟩
  clear HTOP;have c4:=H2.o.cell (k:=4) rfl;go_upto_region 6 with fail;refine ba 15 [(4,.exact _ (.int .u8 22)),(8,.exact _ (.string (bs s.kinds))),(12,.exact _ (.string (bs s.kinds)))] (by kernel_rfl) (by kernel_rfl) ?_;simp only[DQ,DW,DO,DX];refine cG ?_
  repeat(refine gE_ (fun w' G hB hS hG=>?_) (fun K hK=>?_);(have z0:=C8 hB y0;have z1:=C8 hB c4;go_simp;exact hG _ (Bel.refl _));refine cO ?_;clear hK K)
  refine aI ?_;intro w3 hB3 hA3;have H3:=zH (H2.o.below hB3);have HB3:=zH (bt HB2.o hB3);clear hB3 hA3 y0 c4;go_wp2_with fail;refine(oL ⟨22,s.kinds,s.kinds,i,false⟩ H3.o hl).mono ?_;rintro e w4 ⟨⟨v,rfl⟩,⟨bv',hv4⟩,hB4⟩;have H4:=zH hv4;have HB4:=zH ((HB3.o.mono HBW.o).trans hB4);clear hv4 hB4;have c5:=H4.o.cell (k:=4) rfl;have f5:=H4.o.free (k:=4) (by decide);have hk5:=H4.o.kinds (s.kinds++[84]);have HK5:=zH hk5;clear hk5;go_wp2_with fail;go_ret;exact⟨by rw[Cj];rfl,⟨_,by rw[Cj];exact HK5.o.1⟩,HB4.o.trans HK5.o.2⟩
 by_cases h20:p=20
 ·subst h20
  rw[show(((20:UInt8).toNat:Nat):Int)=20 from rfl]at hW1 x0⊢;go_enter Tryz.func218,Tryz.ntmps218;go_upto_region 1 with fail;rw[←hW1];clear hW1;go_wp2_with fail;refine HT.o.mono ?_;rintro e w2 ⟨htop,hB2⟩;have HTOP:=zH htop;have H2:=zH (H1.o.below hB2);have y0:=C8 hB2 x0;have HB2:=zH (bt HB1.o hB2);clear htop hB2 x0;rcases HTOP.o with ⟨hb,rfl⟩|⟨g,c,m,hv,hm,rfl⟩
  ·exact absurd hb (HNE.o (by decide))
  obtain⟨b,hb,hbm,l0,l1,l2,l3,l4⟩:=H2.o.last hv hm;subst hv;have hbat:b.at_<s.ends.length:=HAT.o b (List.mem_of_getElem? hbm);obtain⟨⟨_,_,_⟩,_,ae,ce,rfl⟩:=H2.o.slices;obtain⟨E,rfl⟩:=H2.o.oe.at0 (by omega);have HBM:=zH hbm;have HBL:=zH hb;have HMM:=zH hm;have HAT2:=zH hbat;have e0:(0:Int)≤(b.at_:Int):=by omega
  have e1:(b.at_:Int)<(s.ends.length:Int):=by omega
  have e2:(s.ends.length:Int)≤1000:=by omega
  have c7:=H2.o.cell (k:=7) rfl;have c4:=H2.o.cell (k:=4) rfl;clear HTOP hb hbm hbat hm;go_upto_region 9 with fail;refine ba 10 [(3,.exact _ (.slice (some ⟨E,0,none⟩) s.ends.length ce)),(7,.exact _ (.int .i64 (b.at_:Int)))] (by kernel_rfl) (by kernel_rfl) ?_;simp only[DQ,DW,DO,DX];refine cG ?_
  repeat(refine gE_ (fun w' G hB hS hG=>?_) (fun K hK=>?_);(have z0:=C8 hB c7;have z1:=C8 hB l3;go_simp;exact hG _ (Bel.refl _));refine cO ?_;clear hK K)
  refine aI ?_;intro w3 hB3 hA3;have h3:=H2.o.below hB3;obtain⟨⟨v3,d3⟩,f3⟩:=h3.cellE HAT2.o;have hs3:=h3.setE HAT2.o (i:Int);have HS3:=zH hs3;have HB3:=zH (bt HB2.o hB3);clear hB3 hA3 h3 hs3 c7 c4 l0 l1 l2 l3 l4;go_upto_region 10 with fail;obtain⟨X,hX⟩:=ex_ (w3.setCell ⟨E,b.at_,none⟩ (.int .i64 (i:Int)));rw[←hX]at HS3⊢;clear hX d3 f3;have hx:=HS3.o.1;obtain⟨_,_,_,l0,l1,l2,l3,l4⟩:=hx.last rfl HMM.o;have c4:=hx.cell (k:=4) rfl;have f1:=hx.cellB (k:=m*5+1) (by have:=HMM.o;show _<s.blocks.length*5;omega);have f3:=hx.cellB (k:=m*5+3) (by have:=HMM.o;show _<s.blocks.length*5;omega);have f4:=hx.cellB (k:=m*5+4) (by have:=HMM.o;show _<s.blocks.length*5;omega);obtain⟨b1,hb1⟩:∃ b1:Vb,b1={ b with want:=s.kinds }:=⟨_,rfl⟩
  obtain⟨b2,hb2⟩:∃ b2:Vb,b2={ b with want:=s.kinds,at_:=i }:=⟨_,rfl⟩
  obtain⟨b3,hb3⟩:∃ b3:Vb,b3={ b with want:=s.kinds,at_:=i,did:=true }:=⟨_,rfl⟩
  have hml:m<s.blocks.length:=by have:=HMM.o;omega
  have s1:=hx.setB HMM.o HBM.o (j:=1) (b':=b1) (u:=.string (bs s.kinds)) (by decide) (by rw[hb1];rfl);have s2:=s1.1.setB (by show(s.blocks.set m b1).length=m+1;rw[DT];exact HMM.o) (by show(s.blocks.set m b1)[m]?=some b1;simp[hml]) (j:=3) (b':=b2) (u:=.int .i64 (i:Int)) (by decide) (by rw[hb1,hb2];rfl);have s3:=s2.1.setB (by show((s.blocks.set m b1).set m b2).length=m+1;rw[DT,DT];exact HMM.o) (by show((s.blocks.set m b1).set m b2)[m]?=some b2;simp[hml]) (j:=4) (b':=b3) (u:=.bool true) (by decide) (by rw[hb2,hb3];rfl);have hbl:((s.blocks.set m b1).set m b2).set m b3=s.blocks.dropLast++[b3]:=by rw[List.set_set,List.set_set];exact yn HMM.o b3
  have HS4:=zH s3;have HSB:=zH ((s1.2.trans s2.2).trans s3.2);have HBL3:=zH hbl;have HB33:=zH hb3;clear hx s1 s2 s3 hbl hb1 hb2 hb3 hml;go_upto_region 11 with fail;obtain⟨Y,hY⟩:=ex_ (((X.setCell ⟨g,m*5+1,none⟩ (.string (bs s.kinds))).setCell ⟨g,m*5+3,none⟩ (.int .i64 (i:Int))).setCell ⟨g,m*5+4,none⟩ (.bool true));rw[←hY]at HS4 HSB⊢;clear hY l0 l1 l2 l3 l4 c4 f1 f3 f4;have hy:=HS4.o.1;obtain⟨b9,hb9,_,_,_,l2,_,_⟩:=hy.last (g:=g) (c:=c) (m:=m) (by show Value.slice (some ⟨g,0,none⟩) s.blocks.length c=Value.slice (some ⟨g,0,none⟩) (((s.blocks.set m b1).set m b2).set m b3).length c;rw[DT,DT,DT]) (by show(((s.blocks.set m b1).set m b2).set m b3).length=m+1;rw[DT,DT,DT];exact HMM.o)
  have hb93:b9=b3:=by
   have e:(((s.blocks.set m b1).set m b2).set m b3).getLast?=some b9:=hb9;rw[HBL3.o]at e;simpa using e.symm
  have ho:b9.opn=b.opn:=by rw[hb93,HB33.o]
  rw[ho]at l2;have c4:=hy.cell (k:=4) rfl;have f4:=hy.free (k:=4) (by decide);have hyk:=hy.kinds b.opn;have HYK:=zH hyk;clear hy hb9 hb93 ho hyk;go_wp2_with fail;go_ret;refine⟨by rw[Ck HBL.o];rfl,⟨.slice (some ⟨g,0,none⟩) s.blocks.length c,?_⟩,(((HB3.o.mono HBW.o).trans HS3.o.2).trans HSB.o).trans HYK.o.2⟩;rw[Ck HBL.o];exact HYK.o.1.as (by show({ kinds:=b.opn,blocks:=((s.blocks.set m b1).set m b2).set m b3,seen:=s.seen,ends:=s.ends.set b.at_ (i:Int),deep:=s.deep }:Vs)=_;rw[HBL3.o,HB33.o])
 by_cases h21:p=21
 ·subst h21
  rw[show(((21:UInt8).toNat:Nat):Int)=21 from rfl]at hW1 x0⊢;go_enter Tryz.func218,Tryz.ntmps218;go_upto_region 1 with fail;rw[←hW1];clear hW1;go_wp2_with fail;refine HT.o.mono ?_;rintro e w2 ⟨htop,hB2⟩;have HTOP:=zH htop;have H2:=zH (H1.o.below hB2);have y0:=C8 hB2 x0;have HB2:=zH (bt HB1.o hB2);clear htop hB2 x0;rcases HTOP.o with ⟨hb,rfl⟩|⟨g,c,m,hv,hm,rfl⟩
  ·exact absurd hb (HNE.o (by decide))
  obtain⟨b,hb,hbm,l0,l1,l2,l3,l4⟩:=H2.o.last hv hm;subst hv;have hbat:b.at_<s.ends.length:=HAT.o b (List.mem_of_getElem? hbm);obtain⟨⟨_,_,_⟩,_,ae,ce,rfl⟩:=H2.o.slices;obtain⟨E,rfl⟩:=H2.o.oe.at0 (by omega);have HBM:=zH hbm;have HBL:=zH hb;have HMM:=zH hm;have HAT2:=zH hbat;have e0:(0:Int)≤(b.at_:Int):=by omega
  have e1:(b.at_:Int)<(s.ends.length:Int):=by omega
  have e2:(s.ends.length:Int)≤1000:=by omega
  have c7:=H2.o.cell (k:=7) rfl;have c4:=H2.o.cell (k:=4) rfl;clear HTOP hb hbm hbat hm
  by_cases hkw:s.kinds=b.want
  ·have q1:(s.kinds==b.want)=true:=by rw[hkw];simp
   have HKW:=zH hkw;clear hkw;go_upto_region 13 with fail;refine rk_ [(3,.exact _ (.string (bs s.kinds))),(7,.exact _ (.string (bs b.want)))] ?_;refine cG ?_
   repeat(refine gE_ (fun w' G hB hS hG=>?_) (fun K hK=>?_);(have z0:=C8 hB c4;have z1:=C8 hB l1;go_simp;exact hG _ (Bel.refl _));refine cO ?_;clear hK K)
   refine aI ?_;intro w6 hB6 hA6;have h6:=zH (H2.o.below hB6);have HB6:=zH (bt HB2.o hB6);have c7':=C8 hB6 c7;have l3':=C8 hB6 l3;clear hB6 hA6 c7 c4 l0 l1 l2 l3 l4;go_upto_region 15 with fail;refine ba 10 [(3,.exact _ (.slice (some ⟨E,0,none⟩) s.ends.length ce)),(7,.exact _ (.int .i64 (b.at_:Int)))] (by kernel_rfl) (by kernel_rfl) ?_;simp only[DQ,DW,DO,DX];refine cG ?_
   repeat(refine gE_ (fun w' G hB hS hG=>?_) (fun K hK=>?_);(have z0:=C8 hB c7';have z1:=C8 hB l3';go_simp;exact hG _ (Bel.refl _));refine cO ?_;clear hK K)
   refine aI ?_;intro w3 hB3 hA3;have h3:=h6.o.below hB3;obtain⟨⟨v3,d3⟩,f3⟩:=h3.cellE HAT2.o;have hs3:=h3.setE HAT2.o (i:Int);have HS3:=zH hs3;have HB3:=zH (bt HB6.o hB3);clear hB3 hA3 h3 hs3 c7' l3';go_upto_region 16 with fail;clear d3 f3;go_wp2_with fail;refine(yk HS3.o.1 hl (by have:=HMM.o;show 0<s.blocks.length;omega)).mono ?_;rintro e w4 ⟨⟨v,rfl⟩,⟨bv',hv4⟩,hB4⟩;have H4:=zH hv4;have HB4:=zH (((HB3.o.mono HBW.o).trans HS3.o.2).trans hB4);clear hv4 hB4;go_wp2_with fail;go_ret;exact⟨by rw[A8 HBL.o HKW.o];rfl,⟨_,by rw[A8 HBL.o HKW.o];exact H4.o⟩,HB4.o⟩
  ·have q1:(s.kinds==b.want)=false:=by simpa using hkw
   have HKW:=zH hkw;clear hkw;go_upto_region 13 with fail;refine rk_ [(3,.exact _ (.string (bs s.kinds))),(7,.exact _ (.string (bs b.want)))] ?_;refine cG ?_
   repeat(refine gE_ (fun w' G hB hS hG=>?_) (fun K hK=>?_);(have z0:=C8 hB c4;have z1:=C8 hB l1;go_simp;exact hG _ (Bel.refl _));refine cO ?_;clear hK K)
   refine aI ?_;intro w6 hB6 hA6;clear hA6 c7 c4 l0 l1 l2 l3 l4;go_wp2_with fail;go_ret;exact⟨by rw[A9 HBL.o HKW.o];rfl,⟨_,by rw[A9 HBL.o HKW.o];exact H2.o.below hB6⟩,(bt HB2.o hB6).mono HBW.o⟩
 have HTU:=zH (tuN (a:=a) (i:=i) (s:=s) h19 h22 h20 h21);have e19:((p.toNat:Int)==19)=false:=aC (k:=19) (by decide) h19;have e22:((p.toNat:Int)==22)=false:=aC (k:=22) (by decide) h22;have e20:((p.toNat:Int)==20)=false:=aC (k:=20) (by decide) h20;have e21:((p.toNat:Int)==21)=false:=aC (k:=21) (by decide) h21;clear h19 h22 h20 h21;go_enter Tryz.func218,Tryz.ntmps218;go_upto_region 1 with fail;rw[←hW1];clear hW1;go_wp2_with fail;refine HT.o.mono ?_;rintro e w2 ⟨htop,hB2⟩;have HTOP:=zH htop;have H2:=zH (H1.o.below hB2);have y0:=C8 hB2 x0;have HB2:=zH (bt HB1.o hB2);clear htop hB2 x0;obtain⟨tp,rfl⟩:∃ tp,e=.returned tp:=by rcases HTOP.o with ⟨_,rfl⟩|⟨_,_,_,_,_,rfl⟩<;>exact⟨_,rfl⟩
 clear HTOP;go_wp2_with fail;go_ret;exact⟨by rw[HTU.o];rfl,⟨_,by rw[HTU.o];exact H2.o⟩,HB2.o.mono HBW.o⟩
end
end
section
attribute [local irreducible] wpG
structure jx (n:Nat) (s:Vs):Prop where
 bl:s.blocks.length≤8
 kl:s.kinds.length≤16
 bs:∀ b∈s.blocks,b.at_<s.ends.length∧b.opn.length≤16
 el:s.ends.length≤256
 sl:s.seen.length≤n
 dl:s.deep≤16
theorem gy {nt inp:Nat}{role:UInt8}{bl:List Vb}{x:VI}(h:thereV nt inp role bl x=0):(x.1=20∨x.1=21→bl≠[])∧(x.1=19∨x.1=22→bl.length<8):=by
 unfold thereV at h
 split at h
 ·cases h
 split at h
 ·cases h
 split at h
 ·cases h
 rename_i h20
 split at h
 ·cases h
 rename_i h21
 split at h
 ·cases h
 rename_i h8;refine⟨?_,fun e=>?_⟩
 ·rintro (e|e) hb
  ·exact h20 ⟨e,by rw[hb];rfl⟩
  ·exact h21 ⟨e,hb⟩
 ·rcases Nat.lt_or_ge bl.length 8 with h1|h1
  ·exact h1
  ·exact absurd ⟨e,h1⟩ h8
theorem iI {k:LU_}{x:VI}(hk:k.length≤16):(aF k x).2.length≤16∧((aF k x).1=0→x.1=22→(aF k x).2.length<16):=by
 unfold aF
 split
 ·exact⟨hk,fun h=>by cases h⟩
 split
 ·exact⟨hk,fun h=>by cases h⟩
 split
 ·exact⟨hk,fun h=>by cases h⟩
 rename_i h;obtain⟨r,hr⟩:=ex_ (k.take (k.length-(bG x).1.length)++bw (k.drop (k.length-(bG x).1.length)) (bG x).2);rw[←hr]at h⊢;refine⟨?_,fun _ e=>?_⟩
 ·show r.length≤16
  omega
 ·show r.length<16
  have hc:¬16≤r.length:=fun h'=>h (.inl ⟨e,h'⟩);omega
theorem jx.one {nt inp:Nat}{role:UInt8}{i n:Nat}{x:VI}{s:Vs}(h:jx n s)(hi:i<s.ends.length)(h0:(bI nt inp role i x s).1=0):jx (n+1) (bI nt inp role i x s).2∧(bI nt inp role i x s).2.ends.length=s.ends.length:=by
 have ht:=ij h0;obtain⟨h2,h3⟩:=gy ht;unfold bI at h0⊢;rw[if_neg (by rw[ht];simp)]at h0⊢
 split at h0
 ·rename_i hv
  exact absurd h0 hv
 rename_i hv;rw[if_neg hv];have hv0:(aF s.kinds x).1=0:=by simpa using hv
 obtain⟨hvl,hv22⟩:=iI (x:=x) h.kl;have hv22:=hv22 hv0;clear h0 hv hv0;obtain⟨k',hk'⟩:∃ k',k'=(aF s.kinds x).2:=⟨_,rfl⟩
 simp only[←hk'];rw[←hk']at hvl hv22;have hsl:(s.seen++[s.kinds]).length≤n+1:=by have:=h.sl;simp;omega
 have hd:=h.dl;have hlast:∀ b,s.blocks.getLast?=some b→b∈s.blocks:=fun b hb=>List.mem_of_getLast? hb;unfold turnsV
 split
 ·rename_i e
  refine⟨⟨by have:=h3 (.inl e);simp;omega,hvl,fun b hb=>?_,h.el,hsl,by show max s.deep k'.length≤16;omega⟩,rfl⟩;rcases DM.1 hb with hb|hb
  ·exact h.bs b hb
  ·rw[DZ]at hb;subst hb;exact⟨hi,hvl⟩
 ·split
  ·rename_i e
   have h16:=hv22 e;refine⟨⟨by have:=h3 (.inr e);simp;omega,by show(k'++[84]).length≤16;simp;omega,fun b hb=>?_,h.el,hsl,by show max s.deep (k'++[84]).length≤16;simp;omega⟩,rfl⟩;rcases DM.1 hb with hb|hb
   ·exact h.bs b hb
   ·rw[DZ]at hb;subst hb;exact⟨hi,hvl⟩
  ·split
   ·cases hb:s.blocks.getLast? with
    | none=>exact⟨⟨h.bl,hvl,h.bs,h.el,hsl,by show max s.deep k'.length≤16;omega⟩,rfl⟩
    | some b =>
     have hbm:=h.bs b (hlast b hb);refine⟨⟨?_,hbm.2,fun b' hb'=>?_,by show(s.ends.set _ _).length≤256;rw[DT];exact h.el,hsl,by show max s.deep b.opn.length≤16;have:=hbm.2;omega⟩,by show(s.ends.set _ _).length=_;rw[DT]⟩
     ·show(s.blocks.dropLast++[_]).length≤8
      have:=h.bl;have hne:s.blocks≠[]:=by rintro e;rw[e]at hb;cases hb
      have:0<s.blocks.length:=List.length_pos_iff.2 hne;simp;omega
     ·show b'.at_<(s.ends.set _ _).length∧_
      rw[DT];rcases DM.1 hb' with h'|h'
      ·exact h.bs b' ((List.dropLast_subset _ h'))
      ·rw[DZ]at h';subst h';exact⟨hi,hbm.2⟩
   ·split
    ·cases hb:s.blocks.getLast? with
     | none=>exact⟨⟨h.bl,hvl,h.bs,h.el,hsl,by show max s.deep k'.length≤16;omega⟩,rfl⟩
     | some b =>
      simp only
      split
      ·refine⟨⟨by show s.blocks.dropLast.length≤8;have:=h.bl;rw[List.length_dropLast];omega,hvl,fun b' hb'=>?_,by show(s.ends.set _ _).length≤256;rw[DT];exact h.el,hsl,by show max s.deep k'.length≤16;omega⟩,by show(s.ends.set _ _).length=_;rw[DT]⟩
       show b'.at_<(s.ends.set _ _).length∧_;rw[DT];exact h.bs b' ((List.dropLast_subset _ hb'))
      ·exact⟨⟨h.bl,hvl,h.bs,h.el,hsl,by show max s.deep k'.length≤16;omega⟩,rfl⟩
    ·exact⟨⟨h.bl,hvl,h.bs,h.el,hsl,by show max s.deep k'.length≤16;omega⟩,rfl⟩
theorem qE {k:LU_}{x:VI}(h:(aF k x).1≠0):(aF k x).2=k:=by
 unfold aF at h⊢
 split
 ·rfl
 split
 ·rfl
 split
 ·rfl
 rename_i h1 h2 h3;rw[if_neg h1,if_neg h2,if_neg h3]at h;exact absurd rfl h
theorem lr (i:Nat)(x:VI)(s:Vs):(turnsV i x s).2.deep=s.deep:=by
 unfold turnsV
 split
 ·rfl
 split
 ·rfl
 split
 ·cases s.blocks.getLast?<;>rfl
 split
 ·cases s.blocks.getLast? with
  | none=>rfl
  | some b=>simp only;split<;>rfl
 ·rfl
theorem jZ {i:Nat}{x:VI}{s:Vs}(hb:∀ b∈s.blocks,b.opn.length≤16)(hk:s.kinds.length≤16):(turnsV i x s).2.kinds.length≤17:=by
 unfold turnsV
 split
 ·exact D8 hk
 split
 ·show(s.kinds++[84]).length≤17
  simp;omega
 split
 ·cases h:s.blocks.getLast? with
  | none=>exact D8 hk
  | some b=>exact D8 (hb b (List.mem_of_getLast? h))
 split
 ·cases h:s.blocks.getLast? with
  | none=>exact D8 hk
  | some b=>simp only;split<;>exact D8 hk
 ·exact D8 hk
section
variable {w:World}{bZ G:Nat}{cv bv sv ev:Value}{inp:Nat}{role:UInt8}{s:Vs}{nt ct n:Nat}{at_:Option Addr}
theorem uT (h:VG w bZ G (.slice at_ nt ct) cv inp role s bv sv ev)(hE:jy w)(hg:1<bZ)(p a:UInt8)(i:Nat)(hp:p.toNat<24)(hI:jx n s)(hn:n≤1000)(hnt:nt≤1000)(hinp:inp≤1000)(hi:i≤1000):Calls Tryz.prog 192 #[.pointer (some ⟨G,0,none⟩),.int .i64 (i:Int),.agg #[.int .u8 (p.toNat:Int),.int .u8 (a.toNat:Int)]] w fun e w'=>e=.returned (.int .i64 (((bI nt inp role i (p,a) s).1:Nat):Int))∧(∃ bv' sv',VG w' bZ G (.slice at_ nt ct) cv inp role (bI nt inp role i (p,a) s).2 bv' sv' ev)∧Below bZ w w':=by
 have HH:=zH h;have hgw:G<w.heap.size:=h.blk.lt;have hbw:bZ≤w.heap.size:=DG h.gb (DA hgw);obtain⟨W1,hW1⟩:=ex_ (w.alloc (.cells #[.int .u8 (p.toNat:Int),.int .u8 (a.toNat:Int)] 127));have hb1:=ba_ hW1;have hx:=bm_ hW1;have h1:=h.below hb1;have h1d:=h1.below (b_drew W1);obtain⟨_,⟨a3,cs,rfl⟩,_⟩:=h.slices;obtain⟨x0,x1⟩:=cl2 hx;have c6:=h1.cell (k:=6) rfl;have c4:=h1.cell (k:=4) rfl;have hG1:G<W1.heap.size:=h1.blk.lt;have hwl:w.heap.size<W1.heap.size:=aD x0;have hgb:bZ≤W1.drew.heap.size:=DG h1d.gb (DA h1d.blk.lt);have hby:(s.seen.length+1)*16≤140737488355328:=by have:=hI.sl;omega
 have hod:=h1d.os;have H1D:=zH h1d;have HB1:=zH hb1;have HBW:=zH hbw;have HE:=zH hE;have HI:=zH hI;have HW1:=zH hW1;have hws:w.heap.size<W1.drew.heap.size:=hwl;clear h h1 h1d hx hb1 hE hI;go_enter Tryz.func192,Tryz.ntmps192;go_upto_region 1 with fail;rw[←hW1];clear hW1
 go_cut [] (fun wx=>∃ sv',Hid (VG wx bZ G (.slice at_ nt ct) cv inp role { s with seen:=s.seen++[s.kinds] } bv sv' ev)∧Hid (Below bZ w wx)∧wx.cell? ⟨w.heap.size,0,none⟩=some (.int .u8 (p.toNat:Int))∧wx.cell? ⟨w.heap.size,1,none⟩=some (.int .u8 (a.toNat:Int)))
 case first =>
  go_region_law (refine aK.step_append1V W1.drew s.kinds rfl _ _ 22 rfl Tryz.underlying22 bZ (.slice a3 s.seen.length cs) s.seen rfl hod _ rfl _ rfl _ rfl hby hgb ?_;intro g gc w3 hown3 hc3 hg3;have hn3:=H1D.o.newS (sv':=.slice (some ⟨g,0,none⟩) (s.seen.length+1) gc) hc3 (fun k hk=>by cases hk;exact hg3) hown3;have hb3:Blk w3 G 281 _:=H1D.o.blk.chg hc3 (fun e=>(H1D.o.a2 G e).1 rfl);have f6:=hb3.free (k:=6) (by simp);have c6':=hb3.cell (k:=6) rfl;have HN:=zH hn3;have HC3:=zH hc3;clear hn3 hb3 hown3 hc3 hg3)
  all_goals
   go_wp2_with fail
   go_meet
   case rel =>
    have hnb:¬((Value.slice a3 s.seen.length cs).ownBlock=some w.heap.size):=fun e=>by
     have:=(HH.o.os.ltV _ e).2;omega
    have hbl:=HC3.o
    have hbk:∀ k v,W1.cell? ⟨w.heap.size,k,none⟩=some v→(w3.setCell ⟨G,6,none⟩ (.slice (some ⟨g,0,none⟩) (s.seen.length+1) gc)).cell? ⟨w.heap.size,k,none⟩=some v:=fun k v hv =>
     Chg.cell (X:=fun k=>k=G) (Chg.setCell _ _ _ rfl) (Chg.cell hbl ((World.cell?_of_block (by rfl)).trans hv) hnb) (fun e=>by have:w.heap.size=G:=e;omega)
    exact⟨_,HN.o.1,((bt HB1.o (b_drew W1)).mono HBW.o).trans HN.o.2,hbk 0 _ x0,hbk 1 _ x1⟩
 case rest =>
  obtain⟨sv',HG,HBA,y0,y1⟩:=hcut;have hbl8:=HI.o.bl;obtain⟨q,hq⟩:=ex_ (thereV nt inp role s.blocks (p,a));have HTH:=zH (vU HG.o p a (by show s.blocks.length≤1000;omega) hnt hinp);go_wp2_with fail;refine HTH.o.mono ?_;rintro e w2 ⟨rfl,hB2⟩;rw[show thereV nt inp role ({ s with seen:=s.seen++[s.kinds] }:Vs).blocks (p,a)=q from hq.symm];have z0:=C8 hB2 y0;have z1:=C8 hB2 y1;have H2:=zH (HG.o.below hB2);have hbs2:bZ≤wc.heap.size:=DG HBW.o HBA.o.size;have HB2:=zH (HBA.o.trans (hB2.mono hbs2));have HQ:=zH hq;clear hB2 hbs2 y0 y1 hq HTH hbl8
  by_cases hq0:q=0
  ·have q1:((q:Int) != 0)=false:=by rw[hq0];rfl
   have HT0:=zH (show thereV nt inp role s.blocks (p,a)=0 by rw[←HQ.o,hq0]);clear hq0;obtain⟨x,hx⟩:=ex_ (aF s.kinds (p,a));have HVV:=zH (sZ H2.o (HE.o.below HB2.o hg) hg p a hp (by show s.kinds.length≤1000;have:=HI.o.kl;omega));go_wp2_with fail;refine HVV.o.mono ?_;rintro e w3 ⟨rfl,hv3,hC3⟩;rw[show aF ({ s with seen:=s.seen++[s.kinds] }:Vs).kinds (p,a)=x from hx.symm]at hv3⊢;have hGn:∀ k,¬((⟨w.heap.size,k,none⟩:Addr).block=G):=fun k e=>by have:w.heap.size=G:=e;omega
   have u0:=hC3.cell z0 (hGn 0);have u1:=hC3.cell z1 (hGn 1);have H3:=zH hv3;have HB3:=zH (HB2.o.trans (hC3.below (fun k hk=>by rw[hk];exact HH.o.gb) (DG HBW.o HB2.o.size)));have HX:=zH hx;clear hv3 hC3 hx z0 z1 hGn
   by_cases hx0:x.1=0
   ·have q2:((x.1:Int) != 0)=false:=by rw[hx0];rfl
    have HV0:=zH (show(aF s.kinds (p,a)).1=0 by rw[←HX.o,hx0]);have HTB:=zH (gy HT0.o);have hxl:=(iI (x:=(p,a)) HI.o.kl).1;rw[←HX.o]at hxl;obtain⟨r,hr⟩:=ex_ (turnsV i (p,a) { s with seen:=s.seen++[s.kinds],kinds:=x.2 });have HTU:=zH (vT H3.o p a i (by show s.blocks.length≤1000;have:=HI.o.bl;omega) (by show x.2.length≤1000;omega) HTB.o.1 (fun b hb=>(HI.o.bs b hb).1) (by show s.ends.length≤1000;have:=HI.o.el;omega) hi)
    have HON:=zH (show bI nt inp role i (p,a) s=(r.1,{ r.2 with deep:=max s.deep r.2.kinds.length }) by
     unfold bI;rw[HT0.o,HV0.o,←HX.o,←hr]
     rfl)
    have HRD:=zH (show r.2.deep=s.deep by rw[hr,lr]);have hkr:r.2.kinds.length≤17:=by rw[hr];exact jZ (fun b hb=>(HI.o.bs b hb).2) hxl
    go_wp2_with fail;refine HTU.o.mono ?_;rintro e w4 ⟨rfl,⟨bv',hv4⟩,hB4⟩;rw[←hr]at hv4⊢;have c8:=hv4.cell (k:=8) rfl;have c4:=hv4.cell (k:=4) rfl;have H4:=zH hv4;have HB4:=zH (HB3.o.trans hB4);have d1:(s.deep:Int)≤16:=by have:=HI.o.dl;omega
    have d2:(r.2.kinds.length:Int)≤17:=by omega
    rw[HRD.o]at c8;clear hv4 hB4 hr u0 u1 hx0 hxl hkr;go_upto_region 9 with fail;refine ba 13 [(4,.exact _ (.int .i64 (s.deep:Int))),(8,.exact _ (.string (bs r.2.kinds)))] (by kernel_rfl) (by kernel_rfl) ?_;simp only[DQ,DW,DO,DX];refine cG ?_
    repeat(refine gE_ (fun w' G hB hS hG=>?_) (fun K hK=>?_);(have v0:=C8 hB c8;have v1:=C8 hB c4;go_simp;exact hG _ (Bel.refl _));refine cO ?_;clear hK K)
    refine aI ?_;intro w5 hB5 hA5;have h5:=H4.o.below hB5;have f8:=h5.free (k:=8) (by decide);have c8':=h5.cell (k:=8) rfl;have hd5:=h5.deep (max s.deep r.2.kinds.length);have HD5:=zH hd5;have HB5:=zH (HB4.o.trans (hB5.mono (DG HBW.o HB4.o.size)));clear h5 hd5 hB5 hA5 c8 c4;rw[show(max (s.deep:Int) (r.2.kinds.length:Int))=((max s.deep r.2.kinds.length:Nat):Int) by omega];go_wp2;go_ret;exact⟨by rw[HON.o];rfl,⟨_,_,by rw[HON.o];exact HD5.o.1⟩,HB5.o.trans HD5.o.2⟩
   ·have q2:((x.1:Int) != 0)=true:=by rw[bne_iff_ne];omega
    have hxk:x.2=s.kinds:=by rw[HX.o];exact qE (by rw[←HX.o];exact hx0)
    have HON:=zH (show bI nt inp role i (p,a) s=(x.1,{ s with seen:=s.seen++[s.kinds] }) by unfold bI;rw[HT0.o,←HX.o,if_neg (by simp),if_pos hx0]);rw[hxk]at H3;clear hx0 hxk;go_wp2_with fail;go_ret;exact⟨by rw[HON.o];rfl,⟨_,_,by rw[HON.o];exact H3.o⟩,HB3.o⟩
  ·have q1:((q:Int) != 0)=true:=by rw[bne_iff_ne];omega
   have HON:=zH (show bI nt inp role i (p,a) s=(q,{ s with seen:=s.seen++[s.kinds] }) by unfold bI;rw[←HQ.o,if_pos hq0]);clear hq0;go_wp2_with fail;go_ret;exact⟨by rw[HON.o];rfl,⟨_,_,by rw[HON.o];exact H2.o⟩,HB2.o⟩
theorem EC {T:Prop} (h:T:=by
 go_enter Tryz.func193,Tryz.ntmps193;go_wp2_with fail;refine HL.o.mono ?_;rintro e w1 ⟨rfl,rfl⟩;go_wp2_with fail;go_ret;exact⟨by rw[HO.o];rfl,rfl⟩
):T:=h
theorem ED {T:Prop} (h:T:=by
 have b1:(0:Int)<(s.blocks.length:Int):=by omega
 have HO:=zH (show overV role s=132 by unfold overV;rw[if_pos hb]);clear hb hr;exact EC
):T:=h
theorem rI {tv:Value}(h:VG w bZ G tv cv inp role s bv sv ev)(hl:s.blocks.length≤1000)(hk:s.kinds.length≤1000):Calls Tryz.prog 193 #[.pointer (some ⟨G,0,none⟩)] w fun e w'=>e=.returned (.int .i64 ((overV role s:Nat):Int))∧w'=w:=by
 have HL:=zH (qN h);have c3:=h.cell (k:=3) rfl;have c4:=h.cell (k:=4) rfl;have l1:(s.blocks.length:Int)≤1000:=by omega
 have l2:(s.kinds.length:Int)≤1000:=by omega
 clear h
 by_cases hr:role=1
 ·have r1:((role.toNat:Int)==1)=true:=by rw[hr];rfl
  by_cases hb:0<s.blocks.length
  ·exact ED
  ·have b1:¬(0:Int)<(s.blocks.length:Int):=by omega
   by_cases hk0:s.kinds.length=0
   ·have k1:((s.kinds.length:Int) != 0)=false:=by rw[hk0];rfl
    have hke:s.kinds=[]:=DD hk0;have k2:(s.kinds==[])=true:=by rw[hke];rfl
    have HO:=zH (show overV role s=0 by unfold overV eY;rw[if_neg hb,if_pos hr,hke];simp);clear hb hr hk0 hke;exact EC
   ·have k1:((s.kinds.length:Int) != 0)=true:=by rw[bne_iff_ne];omega
    have HO:=zH (show overV role s=130 by unfold overV eY;rw[if_neg hb,if_pos hr,if_pos (by simpa using hk0)]);clear hb hr hk0;exact EC
 ·have r1:((role.toNat:Int)==1)=false:=aC (k:=1) (by decide) hr
  by_cases hb:0<s.blocks.length
  ·exact ED
  ·have b1:¬(0:Int)<(s.blocks.length:Int):=by omega
   by_cases hk0:s.kinds.length=1
   ·have k1:((s.kinds.length:Int) != 1)=false:=by rw[hk0];rfl
    by_cases hke:s.kinds=[84]
    ·have k2:(s.kinds==[84])=true:=by rw[hke];rfl
     have HO:=zH (show overV role s=0 by unfold overV eY;rw[if_neg hb,if_neg hr,hke];simp);clear hb hr hk0 hke;exact EC
    ·have k2:(s.kinds==[84])=false:=by simpa using hke
     have HO:=zH (show overV role s=131 by unfold overV eY;rw[if_neg hb,if_neg hr,if_neg (by rw[hk0];simp),if_pos hke]);clear hb hr hk0 hke;exact EC
   ·have k1:((s.kinds.length:Int) != 1)=true:=by rw[bne_iff_ne];omega
    have HO:=zH (show overV role s=130 by unfold overV eY;rw[if_neg hb,if_neg hr,if_pos (by simpa using hk0)]);clear hb hr hk0;exact EC
end
end
section
attribute [local irreducible] wpG
theorem EF {T:Prop} (h:T:=by
 go_enter Tryz.func227,Tryz.ntmps227;go_wp2;go_ret;exact⟨rfl,rfl⟩
):T:=h
theorem zE (p:UInt8)(w:World):Calls Tryz.prog 227 #[.int .u8 (p.toNat:Int)] w fun e w'=>e=.returned (.bool (io p))∧w'=w:=by
 by_cases h1:p=1
 ·subst h1
  rw[show(((1:UInt8).toNat:Nat):Int)=1 from rfl];exact EF
 by_cases h2:p=2
 ·subst h2
  rw[show(((2:UInt8).toNat:Nat):Int)=2 from rfl];exact EF
 by_cases h3:p=3
 ·subst h3
  rw[show(((3:UInt8).toNat:Nat):Int)=3 from rfl];exact EF
 by_cases h17:p=17
 ·subst h17
  rw[show(((17:UInt8).toNat:Nat):Int)=17 from rfl];exact EF
 by_cases h18:p=18
 ·subst h18
  rw[show(((18:UInt8).toNat:Nat):Int)=18 from rfl];exact EF
 by_cases h22:p=22
 ·subst h22
  rw[show(((22:UInt8).toNat:Nat):Int)=22 from rfl];exact EF
 have q1:((p.toNat:Int)==1)=false:=aC (by decide) h1;have q2:((p.toNat:Int)==2)=false:=aC (by decide) h2;have q3:((p.toNat:Int)==3)=false:=aC (by decide) h3;have q17:((p.toNat:Int)==17)=false:=aC (by decide) h17;have q18:((p.toNat:Int)==18)=false:=aC (by decide) h18;have q22:((p.toNat:Int)==22)=false:=aC (by decide) h22;have HE:=zH (show io p=false by unfold io;simp[h1,h2,h3,h17,h18,h22]);go_enter Tryz.func227,Tryz.ntmps227;go_wp2;go_ret;exact⟨by rw[HE.o];rfl,rfl⟩
theorem EG {T:Prop} (h:T:=by
 go_enter Tryz.func212,Tryz.ntmps212;go_wp2;go_ret;exact⟨rfl,rfl⟩
):T:=h
theorem yQ (p:UInt8)(w:World):Calls Tryz.prog 212 #[.int .u8 (p.toNat:Int)] w fun e w'=>e=.returned (.bool (io p))∧w'=w:=by
 by_cases h1:p=1
 ·subst h1
  rw[show(((1:UInt8).toNat:Nat):Int)=1 from rfl];exact EG
 by_cases h2:p=2
 ·subst h2
  rw[show(((2:UInt8).toNat:Nat):Int)=2 from rfl];exact EG
 by_cases h3:p=3
 ·subst h3
  rw[show(((3:UInt8).toNat:Nat):Int)=3 from rfl];exact EG
 by_cases h17:p=17
 ·subst h17
  rw[show(((17:UInt8).toNat:Nat):Int)=17 from rfl];exact EG
 by_cases h18:p=18
 ·subst h18
  rw[show(((18:UInt8).toNat:Nat):Int)=18 from rfl];exact EG
 by_cases h22:p=22
 ·subst h22
  rw[show(((22:UInt8).toNat:Nat):Int)=22 from rfl];exact EG
 have q1:((p.toNat:Int)==1)=false:=aC (by decide) h1;have q2:((p.toNat:Int)==2)=false:=aC (by decide) h2;have q3:((p.toNat:Int)==3)=false:=aC (by decide) h3;have q17:((p.toNat:Int)==17)=false:=aC (by decide) h17;have q18:((p.toNat:Int)==18)=false:=aC (by decide) h18;have q22:((p.toNat:Int)==22)=false:=aC (by decide) h22;have HE:=zH (show io p=false by unfold io;simp[h1,h2,h3,h17,h18,h22]);go_enter Tryz.func212,Tryz.ntmps212;go_wp2;go_ret;exact⟨by rw[HE.o];rfl,rfl⟩
theorem GM {T:Prop} (h:T:=by
 go_upto_region 1 with fail;rw[←hW1];clear hW1;go_wp2_with fail;go_ret;exact⟨by rw[HE.o];rfl,HB1.o⟩
):T:=h
theorem EE {T:Prop} (h:T:=by
 exact GM
):T:=h
theorem EH {T:Prop} (h:T:=by
 go_upto_region 1 with fail;rw[←hW1];clear hW1;go_wp2_with fail;refine(HC.o _).mono ?_;rintro e w3 ⟨rfl,rfl⟩;go_wp2_with fail;go_ret;exact⟨by rw[HE.o];rfl,HB1.o⟩
):T:=h
theorem zD (x:VI)(w:World):Calls Tryz.prog 210 #[.agg #[.int .u8 (x.1.toNat:Int),.int .u8 (x.2.toNat:Int)]] w fun e w'=>e=.returned (.bool (aZ x))∧Bw_ w w':=by
 obtain⟨p,a⟩:=x;show Calls Tryz.prog 210 #[.agg #[.int .u8 (p.toNat:Int),.int .u8 (a.toNat:Int)]] w _;obtain⟨W1,hW1⟩:=ex_ (w.alloc (.cells #[.int .u8 (p.toNat:Int),.int .u8 (a.toNat:Int)] 127));have hb1:=ba_ hW1;have hx:=bm_ hW1;obtain⟨x0,x1⟩:=cl2 hx;have HB1:=zH hb1;clear hx hb1
 by_cases h1:1≤p.toNat
 ·have q1:(1:Int)≤(p.toNat:Int):=by omega
  by_cases h2:p.toNat≤23
  ·have q2:(p.toNat:Int)≤23:=by omega
   by_cases h3:a=0
   ·subst h3
    rw[show(((0:UInt8).toNat:Nat):Int)=0 from rfl]at hW1 x1⊢;have HE:=zH (show aZ (p,0)=true by unfold aZ;simp[h1,h2]);go_enter Tryz.func210,Tryz.ntmps210;exact EE
   ·have q3:((a.toNat:Int)==0)=false:=aC (by decide) h3
    obtain⟨q,hq⟩:=ex_ (io p);have HC:=zH (fun w'=>zE p w');rw[←hq]at HC;have HE:=zH (show aZ (p,a)=q by unfold aZ;rw[hq];simp[h1,h2,h3]);clear hq;go_enter Tryz.func210,Tryz.ntmps210;exact EH
  ·have q2:¬(p.toNat:Int)≤23:=by omega
   have HE:=zH (show aZ (p,a)=false by unfold aZ;simp[h2]);go_enter Tryz.func210,Tryz.ntmps210;exact EE
 ·have q1:¬(1:Int)≤(p.toNat:Int):=by omega
  have HE:=zH (show aZ (p,a)=false by unfold aZ;simp[h1]);go_enter Tryz.func210,Tryz.ntmps210;exact EE
theorem yP (x:VI)(w:World):Calls Tryz.prog 182 #[.agg #[.int .u8 (x.1.toNat:Int),.int .u8 (x.2.toNat:Int)]] w fun e w'=>e=.returned (.bool (aZ x))∧Bw_ w w':=by
 obtain⟨p,a⟩:=x;show Calls Tryz.prog 182 #[.agg #[.int .u8 (p.toNat:Int),.int .u8 (a.toNat:Int)]] w _;obtain⟨W1,hW1⟩:=ex_ (w.alloc (.cells #[.int .u8 (p.toNat:Int),.int .u8 (a.toNat:Int)] 127));have hb1:=ba_ hW1;have hx:=bm_ hW1;obtain⟨x0,x1⟩:=cl2 hx;have HB1:=zH hb1;clear hx hb1
 by_cases h1:1≤p.toNat
 ·have q1:(1:Int)≤(p.toNat:Int):=by omega
  by_cases h2:p.toNat≤23
  ·have q2:(p.toNat:Int)≤23:=by omega
   by_cases h3:a=0
   ·subst h3
    rw[show(((0:UInt8).toNat:Nat):Int)=0 from rfl]at hW1 x1⊢;have HE:=zH (show aZ (p,0)=true by unfold aZ;simp[h1,h2]);go_enter Tryz.func182,Tryz.ntmps182;exact EE
   ·have q3:((a.toNat:Int)==0)=false:=aC (by decide) h3
    obtain⟨q,hq⟩:=ex_ (io p);have HC:=zH (fun w'=>yQ p w');rw[←hq]at HC;have HE:=zH (show aZ (p,a)=q by unfold aZ;rw[hq];simp[h1,h2,h3]);clear hq;go_enter Tryz.func182,Tryz.ntmps182;exact EH
  ·have q2:¬(p.toNat:Int)≤23:=by omega
   have HE:=zH (show aZ (p,a)=false by unfold aZ;simp[h2]);go_enter Tryz.func182,Tryz.ntmps182;exact EE
 ·have q1:¬(1:Int)≤(p.toNat:Int):=by omega
  have HE:=zH (show aZ (p,a)=false by unfold aZ;simp[h1]);go_enter Tryz.func182,Tryz.ntmps182;exact EE
def eN (s:LU_):Bool:=decide (s.length≤64)
theorem EI {T:Prop} (h:T:=by
 clear h;go_enter Tryz.func208,Tryz.ntmps208;go_wp2;go_ret;exact⟨by rw[HE.o];rfl,DF _ _⟩
):T:=h
theorem zj (s:LU_)(w:World)(hs:s.length≤140737488355328):Calls Tryz.prog 208 #[.string (bs s)] w fun e w'=>e=.returned (.bool (!eN s))∧Bw_ w w':=by
 have h63:(s.length:Int)≤140737488355328:=by omega
 by_cases h:s.length≤64
 ·have h1:¬(64:Int)<(s.length:Int):=by omega
  have HE:=zH (show eN s=true by unfold eN;simp[h]);exact EI
 ·have h1:(64:Int)<(s.length:Int):=by omega
  have HE:=zH (show eN s=false by unfold eN;simp[h]);exact EI
theorem uy (x:VI)(w:World):Calls Tryz.prog 209 #[.agg #[.int .u8 (x.1.toNat:Int),.int .u8 (x.2.toNat:Int)]] w fun e w'=>e=.returned (.bool (!aZ x))∧Bw_ w w':=by
 have HC:=zH (zD x);obtain⟨q,hq⟩:=ex_ (aZ x);rw[←hq]at HC⊢;clear hq;obtain⟨W1,hW1⟩:=ex_ (w.alloc (.cells #[.int .u8 (x.1.toNat:Int),.int .u8 (x.2.toNat:Int)] 127));have hb1:=ba_ hW1;have hx:=bm_ hW1;obtain⟨x0,x1⟩:=cl2 hx;have HB1:=zH hb1;clear hx hb1;go_enter Tryz.func209,Tryz.ntmps209;go_upto_region 1 with fail;rw[←hW1];clear hW1;go_wp2_with fail;refine(HC.o _).mono ?_;rintro e w3 ⟨rfl,hB3⟩;have HB3:=zH (bt HB1.o hB3);clear hB3;go_wp2_with fail;go_ret;exact⟨rfl,HB3.o⟩
end
