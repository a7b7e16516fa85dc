/- Lemmas for MapperTells: walks, plain laws. -/
import Derived.Test.YtckhfapcmjlmbaaGreatDoorMapperTellsK10
set_option linter.unusedSimpArgs false
set_option linter.unusedVariables false
set_option maxRecDepth 100000
set_option maxHeartbeats 16000000
namespace Go.Proofs.YtckhfapcmjlmbaaGreatDoor
open Go.RowKit Oct
section
attribute [local irreducible] wpG
theorem AL:∀ k,k<24→(50∈(dj.getD k ([],[])).2→(dj.getD k ([],[])).1.length=2):=by decide
theorem AT (x:VI)(hx:x.1.toNat<24)(h:50∈(bG x).2):(bG x).1.length=2:=by
 have hl:∀ s:LU_,(dX s (gC x.2)).length=s.length:=fun s=>by
  unfold dX
  split
  ·rename_i h;rw[h];rcases regV_two x.2 with e|e<;>rw[e]<;>rfl
  ·rfl
 unfold bG at h⊢;rw[hl];rcases replV_mem h with h|⟨_,h⟩
 ·exact AL _ hx h
 ·exact GT
theorem vP {k:LU_}{x:VI}(h:k.length<(bG x).1.length):aF k x=(130,k):=by unfold aF;rw[if_pos h]
theorem vO {k:LU_}{x:VI}(h:¬k.length<(bG x).1.length)(hf:mb (bG x).1 (k.drop (k.length-(bG x).1.length))=false):aF k x=(131,k):=by unfold aF;rw[if_neg h,if_pos hf]
theorem vN {k:LU_}{x:VI}(h:¬k.length<(bG x).1.length)(hf:mb (bG x).1 (k.drop (k.length-(bG x).1.length))=true){r:LU_}(hr:r=k.take (k.length-(bG x).1.length)++bw (k.drop (k.length-(bG x).1.length)) (bG x).2)(hm:(x.1=22∧16≤r.length)∨16<r.length):aF k x=(130,k):=by
 unfold aF;rw[if_neg h,if_neg (by rw[hf];decide),←hr,if_pos hm]
theorem vM {k:LU_}{x:VI}(h:¬k.length<(bG x).1.length)(hf:mb (bG x).1 (k.drop (k.length-(bG x).1.length))=true){r:LU_}(hr:r=k.take (k.length-(bG x).1.length)++bw (k.drop (k.length-(bG x).1.length)) (bG x).2)(hm:¬((x.1=22∧16≤r.length)∨16<r.length)):aF k x=(0,r):=by
 unfold aF;rw[if_neg h,if_neg (by rw[hf];decide),←hr,if_neg hm]
section
variable {w:World}{bZ G:Nat}{tv cv bv sv ev:Value}{role:UInt8}{s:Vs}
theorem E2 {T:Prop} (h:T:=by
 go_upto_region 8 with fail;go_quiet (fail);go_wp2_with fail;go_roundw
 case rel=>exact⟨i+1,by go_num,by omega,HN.o,bt HBr.o (C9 _ _)⟩
 case measure=>simp[intOf];omega
):T:=h
theorem E3 {T:Prop} (h:T:=by
 clear h22 hm;go_wp2_with fail;go_ret;have hk:=HR6.o.kinds r;exact⟨by rw[HV.o];rfl,(fun _=>by rw[HV.o];exact hk.1),(HBW.o.mono hGb).trans hk.2⟩
):T:=h
theorem E4 {T:Prop} (h:T:=by
 clear h22 hm;go_wp2_with fail;go_ret;exact⟨by rw[HV.o];rfl,(fun e=>by rw[HV.o]at e;cases e),HBW.o.mono hGb⟩
):T:=h
theorem rp (x:VI)(hxo:x.1.toNat<24)(h:RG w bZ G tv cv role s bv sv ev)(hl:s.kinds.length≤1000):Calls Tryz.prog 138 #[.pointer (some ⟨G,0,none⟩),.agg #[.int .u8 (x.1.toNat:Int),.int .u8 (x.2.toNat:Int)]] w fun e w'=>e=.returned (.int .i64 ((aF s.kinds x).1:Int))∧((aF s.kinds x).1=0→RG w' bZ G tv cv role { s with kinds:=(aF s.kinds x).2 } bv sv ev)∧Below bZ w w':=by
 obtain⟨F1,F2,F3,F4,F5,F6⟩:=pw x hxo;have F7:=AT x hxo;have HEF:=zH (rA x);have VA:=zH (@vP s.kinds x);have VB:=zH (@vO s.kinds x);have VC:=zH (@vN s.kinds x);have VD:=zH (@vM s.kinds x);obtain⟨t,ht⟩:=ex_ ((bG x).1);obtain⟨gv,hgv⟩:=ex_ ((bG x).2);obtain⟨k,hk⟩:=ex_ s.kinds;rw[←ht]at HEF VA VB VC VD F1 F3 F4 F5 F7;rw[←hgv]at HEF VC VD F2 F3 F4 F6 F7;rw[←hk]at VA VB VC VD hl⊢;have HK:=zH hk;obtain⟨W1,hW1⟩:=ex_ (w.alloc (.cells #[.int .u8 (x.1.toNat:Int),.int .u8 (x.2.toNat:Int)] 127));have hb1:=ba_ hW1;have hx:=bm_ hW1;obtain⟨x0,x1⟩:=cl2 hx;have HX:=zH hx;have HB1:=zH hb1;have HH:=zH h;have hGb:=DG h.gb (DA h.blk.lt);have k1:(k.length:Int)≤1000:=by omega
 have t1:(t.length:Int)≤3:=by omega
 have g1:(gv.length:Int)≤2:=by omega
 have HF2:=zH F2;have HF3:=zH F3;have HF7:=zH F7;clear h hb1 hx ht hgv hk F1 F2 F3 F4 F7;go_enter Tryz.func138,Tryz.ntmps138;go_upto_region 1 with fail;rw[←hW1];clear hW1;go_upto_region 2 with(go_at_call 185;refine(HEF.o _).mono ?_;rintro e w2 ⟨rfl,hB2⟩;have HB2:=zH (bt HB1.o hB2);have HC2:=zH hB2;clear hB2);have h2:=HH.o.below HB2.o;have g3:=h2.cell (k:=3) rfl;rw[←HK.o]at g3;have H2:=zH h2;clear h2 x0 x1
 by_cases hA:k.length<t.length
 ·have tt:(k.length:Int)<(t.length:Int):=by omega
  have HV:=zH (VA.o hA);go_wp2_with fail;go_ret;exact⟨by rw[HV.o];rfl,(fun e=>by rw[HV.o]at e;cases e),HB2.o.mono hGb⟩
 ·have tt:¬(k.length:Int)<(t.length:Int):=by omega
  obtain⟨n,hn⟩:=ex_ (k.length-t.length);have hn1:(k.length:Int)-(t.length:Int)=(n:Int):=by omega
  have hn2:(n:Int)≤(k.length:Int):=by omega
  have hn3:=nn_ n;have VB:=zH (VB.o hA);have VC:=zH (@(VC.o hA));have VD:=zH (@(VD.o hA));rw[←hn]at VB VC VD;have hlen:(k.drop n).length=t.length:=by rw[D7];omega
  clear hA hn VA;go_upto_region 4 with fail;go_quiet (fail);obtain⟨w3,hw3⟩:∃ W,W=w2.drewN nq:=⟨_,rfl⟩
  rw[←hw3];have hBq:Below w2.heap.size w2 w3:=by rw[hw3];exact C9 _ _
  have HB3:=zH (bt HB2.o hBq);have HC3:=zH (bt HC2.o hBq);clear hw3 hBq nq g3;obtain⟨top,htop⟩:=ex_ (k.drop n);obtain⟨r0,hr0⟩:=ex_ (k.take n);have hr0l:r0.length≤1000:=by rw[hr0,DU];omega
  rw[←htop]at hlen VB VC VD;rw[←hr0]at VC VD;have HTOP:=zH htop;have HR0:=zH hr0;have HLEN:=zH hlen;have tl:(top.length:Int)=(t.length:Int):=by omega
  have HB3w:=zH HB3.o.size;clear htop hr0 hlen;go_wp2_with fail;rw[←HTOP.o,←HR0.o]
  go_loopw [9] (fun v wr=>∃ i:Nat,v=.int .i64 (i:Int)∧i≤t.length∧Hid (∀ j (hj:j<t.length) (hj':j<top.length),j<i→t[j]=63∨t[j]=top[j])∧Hid (Below W1.heap.size W1 wr)) (fun v _=>t.length-(intOf v).toNat)
  case atStart=>exact⟨0,rfl,D6 _,fun j _ _ h=>absurd h (by omega),HC3.o⟩
  case round =>
   obtain⟨i,rfl,hi,HFI,HBr⟩:=hrel
   by_cases h0:i<t.length
   ·have h0':i<top.length:=by rw[HLEN.o];exact h0
    have kk0:=nn_ i;have kk1:(i:Int)<(t.length:Int):=by omega
    have kk2:(i:Int)<(top.length:Int):=by omega
    by_cases h63:t[i]=63
    ·have e1:((t[i].toNat:Int) != 63)=false:=by rw[h63];rfl
     have HN:=zH (show ∀ j (hj:j<t.length) (hj':j<top.length),j<i+1→t[j]=63∨t[j]=top[j] from fun j hj hj' hlt=>by
      by_cases e:j=i
      ·subst e;exact .inl h63
      ·exact HFI.o j hj hj' (by omega))
     clear h63 HFI;exact E2
    ·have e1:((t[i].toNat:Int) != 63)=true:=by rw[bne,show((t[i].toNat:Int)==63)=false from aC (by decide) h63];rfl
     by_cases hq:t[i]=top[i]
     ·have e2:((t[i].toNat:Int) != (top[i].toNat:Int))=false:=by rw[hq];simp
      have HN:=zH (show ∀ j (hj:j<t.length) (hj':j<top.length),j<i+1→t[j]=63∨t[j]=top[j] from fun j hj hj' hlt=>by
       by_cases e:j=i
       ·subst e;exact .inr hq
       ·exact HFI.o j hj hj' (by omega))
      clear h63 hq HFI;exact E2
     ·have e2:((t[i].toNat:Int) != (top[i].toNat:Int))=true:=by rw[bne_iff_ne];intro e;exact hq (UInt8.toNat_inj.1 (by omega))
      have HV:=zH (VB.o (by
       cases hft:mb t top with
       | false=>rfl
       | true =>
        rcases(fitV_iff t top (by rw[HLEN.o];exact DC _)).1 hft i h0 h0' with e|e
        ·exact absurd e h63
        ·exact absurd e hq))
      clear h63 hq HFI;go_upto_region 8 with fail;go_quiet (fail);go_wp2_with fail;go_ret;exact⟨by rw[HV.o];rfl,(fun e=>by rw[HV.o]at e;cases e),(bt (bt HB1.o HBr.o) (C9 _ _)).mono hGb⟩
   ·obtain rfl:i=t.length:=by omega
    have hfit:mb t top=true:=(fitV_iff t top (by rw[HLEN.o];exact DC _)).2 (fun j hj hj'=>HFI.o j hj hj' hj);have HC:=zH (VC.o hfit rfl);have HD:=zH (VD.o hfit rfl);have e0:¬(t.length:Int)<(t.length:Int):=by omega
    clear hfit HFI h0 VB VC VD;go_wp2_with fail
    go_loop [7,10] (fun vr vi=>∃ (i:Nat) (r:LU_),vr=.string (bs r)∧vi=.int .i64 (i:Int)∧i≤gv.length∧r.length≤1000+3*i∧Hid (r=r0++bw top (gv.take i))) (fun _ vi=>gv.length-(intOf vi).toNat)
    case atStart=>exact⟨0,r0,rfl,rfl,D6 _,by omega,by unfold Hid;simp[bw]⟩
    case round =>
     obtain⟨i,r,rfl,rfl,hi,hrl,HRI⟩:=hrel
     by_cases h0:i<gv.length
     ·have kk0:=nn_ i
      have kk1:(i:Int)<(gv.length:Int):=by omega
      have HS:=zH (fh (top:=top) h0);have hmem:=DY h0;have hr1:(r.length:Int)≤1006:=by omega
      have tp3:(top.length:Int)≤3:=by omega
      by_cases h49:gv[i]=49
      ·have e1:((gv[i].toNat:Int)==49)=true:=by rw[h49];rfl
       have hp1:1≤top.length:=by rw[HLEN.o];exact HF3.o (h49▸hmem)
       have hp2:(1:Int)≤(top.length:Int):=by omega
       have HQ:=zH (show r0++bw top (gv.take (i+1))=r++top.take 1 by rw[HS.o,if_pos h49,←DK,HRI.o]);have hlt:(top.take 1).length=1:=by rw[DU];omega
       clear h49 hmem;go_wp2_with fail
       go_round
       case rel=>exact⟨i+1,r++top.take 1,rfl,by go_num,by omega,by rw[DL,hlt];omega,HQ.o.symm⟩
       case measure=>simp[intOf];omega
      ·have e1:((gv[i].toNat:Int)==49)=false:=aC (by decide) h49
       by_cases h50:gv[i]=50
       ·have e2:((gv[i].toNat:Int)==50)=true:=by rw[h50];rfl
        have hp1:top.length=2:=by rw[HLEN.o];exact HF7.o (h50▸hmem)
        have hp2:(top.length:Int)=2:=by omega
        have hdl:(top.tail.take 1).length=1:=by rw[DU,List.length_tail];omega
        have HQ:=zH (show r0++bw top (gv.take (i+1))=r++top.tail.take 1 by rw[HS.o,if_neg h49,if_pos h50,←DK,←HRI.o,List.drop_one]);clear h49 h50 hmem;go_wp2_with fail
        go_round
        case rel=>exact⟨i+1,r++top.tail.take 1,rfl,by go_num,by omega,by rw[DL,hdl];omega,HQ.o.symm⟩
        case measure=>simp[intOf];omega
       ·have e2:((gv[i].toNat:Int)==50)=false:=aC (by decide) h50
        have HQ:=zH (show r0++bw top (gv.take (i+1))=r++[gv[i]] by rw[HS.o,if_neg h49,if_neg h50,←DK,←HRI.o]);have hi1:(0:Int)≤(i:Int)+1:=by omega
        have hi2:(i:Int)+1≤(gv.length:Int):=by omega
        have hi3:(i:Int)≤(i:Int)+1:=by omega
        clear h49 h50 hmem;have hd1:(gv.drop i).take 1=[gv[i]]:=by rw[Dw h0];rfl
        have HD1:=zH hd1;clear hd1;go_wp2_with fail;rw[HD1.o];refine⟨⟨i+1,r++[gv[i]],rfl,by go_num,by omega,by rw[DL,Ea];omega,HQ.o.symm⟩,by simp[intOf];omega⟩
     ·obtain rfl:i=gv.length:=by omega
      have hrr:=HRI.o;rw[List.take_length]at hrr;rw[←hrr]at HC HD;have hbw:=bt HB1.o HBr.o;have hr6:=HH.o.below hbw;have f3:=hr6.free (k:=3) (by decide);have c3:=hr6.cell (k:=3) rfl;have hxr:=HX.o.below HBr.o;have x0:=hxr.cell (k:=0) rfl;have r6:(r.length:Int)≤1006:=by omega
      have e9:¬(gv.length:Int)<(gv.length:Int):=by omega
      have HR6:=zH hr6;have HBW:=zH hbw;clear hrr h0 HRI hxr hr6 hbw
      by_cases h22:x.1=22
      ·have u22:((x.1.toNat:Int)==22)=true:=by rw[h22];rfl
       by_cases hm:16≤r.length
       ·have hm1:(16:Int)<(r.length:Int)+1:=by omega
        have HV:=zH (HC.o (.inl ⟨h22,hm⟩));exact E4
       ·have hm1:¬(16:Int)<(r.length:Int)+1:=by omega
        have HV:=zH (HD.o (by rintro (h|h)<;>omega));exact E3
      ·have u22:((x.1.toNat:Int)==22)=false:=aC (by decide) h22
       by_cases hm:16<r.length
       ·have hm1:(16:Int)<(r.length:Int):=by omega
        have HV:=zH (HC.o (.inr hm));exact E4
       ·have hm1:¬(16:Int)<(r.length:Int):=by omega
        have HV:=zH (HD.o (by rintro (h|h);exact h22 h.1;exact hm h));exact E3
end
end
section
attribute [local irreducible] wpG
section
variable {α:Type}
def dR (R:Rec α)(bZ:Nat)(xs:List α)(p:α)(w w':World):Prop :=
 Below bZ w w'∧(∀ v,R.Own w bZ v xs→R.Own w' bZ v xs)∧(∀ v,R.Own w bZ v (xs++[p])→R.Own w' bZ v (xs++[p])) ∧
  ∀ b:Nat,w.heap[b]?=some (.cells (R.cell p).toArray R.e (0,0))→w'.heap[b]?=some (.cells (R.cell p).toArray R.e (0,0))
variable {R:Rec α}{bZ:Nat}{xs:List α}{p:α}
theorem dR.refl (w:World):dR R bZ xs p w w:=⟨DF _ _,fun _ h=>h,fun _ h=>h,fun _ h=>h⟩
theorem Dg {w w':World}(hb:bZ≤w.heap.size)(h:Bel w w'):dR R bZ xs p w w' :=
 ⟨Below.mono h hb,fun _ ho=>bD ho h,fun _ ho=>bD ho h,fun b hh=>(h.block b (Array.getElem?_eq_some_iff.1 hh).1).trans hh⟩
def iT (R:Rec α)(bZ:Nat)(xs:List α)(p:α):bn (dR R bZ xs p) :=
 ⟨Option Addr×Nat,fun x=>.slice x.1 xs.length x.2,fun x=>some fun w=>R.Own w bZ (.slice x.1 xs.length x.2) xs,fun _ _ h _ _ hφ hB=>by cases h;exact hB.2.1 _ hφ⟩
@[go_sem] theorem Ca (a:Option Addr) (c:Nat):(iT R bZ xs p).val (a,c)=.slice a xs.length c:=rfl
def iS (R:Rec α)(bZ:Nat)(xs:List α)(p:α):bn (dR R bZ xs p) :=
 ⟨Option Addr×Nat,fun x=>.slice x.1 (xs.length+1) x.2,fun x=>some fun w=>R.Own w bZ (.slice x.1 (xs.length+1) x.2) (xs++[p]),fun _ _ h _ _ hφ hB=>by cases h;exact hB.2.2.1 _ hφ⟩
@[go_sem] theorem B9 (a:Option Addr) (c:Nat):(iS R bZ xs p).val (a,c)=.slice a (xs.length+1) c:=rfl
def gQ (R:Rec α)(bZ:Nat)(xs:List α)(p:α):bn (dR R bZ xs p) :=
 ⟨Nat,fun b=>.slice (some ⟨b,0,none⟩) 1 1,fun b=>some fun w=>w.heap[b]?=some (.cells (R.cell p).toArray R.e (0,0)),fun _ _ h _ _ hφ hB=>by cases h;exact hB.2.2.2 _ hφ⟩
@[go_sem] theorem Cb (b:Nat):(gQ R bZ xs p).val b=.slice (some ⟨b,0,none⟩) 1 1:=rfl
theorem wT {w w':World}{v:Value}{l:List α}(h:R.Own w bZ v l)(h4:∀ k,k<w.heap.size→w'.heap[k]?=w.heap[k]?):R.Own w' bZ v l:=yX h h4
theorem Rec.grow_app1 (R:Rec α){o:Oper}{a:Act}{w:World}{G:Value→World→Prop}(s x:Operand)(t:TypeId)(ho:o.op=.call { callee:=.builtin .append,args:=#[s,x],argTypes:=#[t,t] })(ht:Tryz.prog.underlying t=some (.slice R.e))(bZ:Nat)(v:Value)(xs:List α)(p:α)(hown:R.Own w bZ v xs)(hs:a.eval s=v)(b:Nat)(hx:a.eval x=.slice (some ⟨b,0,none⟩) 1 1)(hb:w.heap[b]?=some (.cells (R.cell p).toArray R.e (0,0)))(hbytes:(xs.length+1)*R.bytes≤140737488355328)(hbase:bZ≤w.heap.size)(h:∀ A C w',R.Own w' bZ (.slice A (xs.length+1) C) (xs++[p])→dR R bZ xs p w w'→G (.slice A (xs.length+1) C) w'):dc Tryz.prog o a w G:=by
 obtain⟨i,hi,hz,hi1,hi2⟩:=info_parts R.info;have hle:xs.length+1≤140737488355328:=by have:=Nat.le_mul_of_pos_right (xs.length+1) R.bpos;omega
 obtain⟨v',w',h1,h2,h3,h4⟩:=lD (P:=Tryz.prog) w bZ t o.type R.e i R.z R.n R.bytes ht hi hz hi1 hi2 R.zs R.pos v xs.length (R.cells xs) hown ⟨b,0,none⟩ 1 1 (R.cell p) (by rw[Nat.one_mul];exact R.len p) (by
  intro j u hj;rw[Addr.add_lit,DE];simp[World.cell?,hb,hj]) (R.one p) (by unfold maxLen;omega) hbytes hbase
 have h2':R.Own w' bZ v' (xs++[p]):=by
  unfold Rec.Own;rw[R.cells_append,DL,Rec.cells,Rec.cells,DR];exact h2
 have key:∀ (l:List α),(l=xs∨l=xs++[p])→∀ u,R.Own w bZ u l→R.Own w' bZ u l:=by
  intro l hl u hu;rcases h4 with h4|⟨g,cap',cur,cur',rfl,hg,hg',hsz,htk,hoth⟩
  ·exact wT hu h4
  ·refine⟨hu.1,?_⟩
   rcases hu.2 with h5|⟨g2,c2,cur2,rfl,hb2,hh2,hn2,hm2,hs2,ht2⟩
   ·exact .inl h5
   ·by_cases hgg:g2=g
    ·subst hgg
     rw[hg]at hh2;obtain rfl:cur=cur2:=by simp only[Option.some.injEq,Obj.cells.injEq]at hh2;exact hh2.1
     refine .inr ⟨g2,c2,cur',rfl,hb2,hg',hn2,hm2,by rw[hsz];exact hs2,?_⟩;rcases hl with rfl|rfl
     ·have h6:cur'.toList.take (l.length*R.n)=(cur'.toList.take ((l.length+1)*R.n)).take (l.length*R.n):=by
       rw[List.take_take,Nat.min_eq_left (DV _ (by omega))]
      rw[h6,htk,←R.cells_length l];exact List.take_left
     ·rw[DL,Ea,htk,R.cells_append,Rec.cells,Rec.cells,DR]
    ·exact .inr ⟨g2,c2,cur2,rfl,hb2,by rw[hoth g2 hgg];exact hh2,hn2,hm2,hs2,ht2⟩
 have hrel:dR R bZ xs p w w':=by
  refine⟨(DF bZ w).grown h3 hbase (fun k hk=>(Rec.Own.ltV hown k hk).1),key xs (.inl rfl),key _ (.inr rfl),?_⟩;intro b' hb';rcases h4 with h4|⟨g,cap',cur,cur',rfl,hg,hg',hsz,htk,hoth⟩
  ·rw[h4 b' (Array.getElem?_eq_some_iff.1 hb').1];exact hb'
  ·by_cases hgg:b'=g
   ·subst hgg
    rw[hg]at hb';obtain rfl:cur=(R.cell p).toArray:=by simp only[Option.some.injEq,Obj.cells.injEq]at hb';exact hb'.1
    rw[hg'];have hl1:=congrArg List.length htk;have hcl:cur'.toList.length=R.n:=by rw[show cur'.toList.length=cur'.size from Array.length_toList,hsz,List.size_toArray,R.len]
    rw[DU,DL,R.cells_length,R.len,hcl]at hl1;have hp:=R.pos
    have hx0:xs.length*R.n=0:=by
     have:=Nat.min_le_right ((xs.length+1)*R.n) R.n;omega
    have hx1:xs.length=0:=by
     rcases Nat.mul_eq_zero.1 hx0 with e|e
     ·exact e
     ·omega
    obtain rfl:xs=[]:=DD hx1;rw[Rec.cells,D5,Eb,DE,Nat.one_mul,DB (by rw[hcl];exact DC _)]at htk;rw[←htk,Array.toArray_toList]
   ·rw[hoth b' hgg];exact hb'
 obtain⟨A,C,rfl⟩:=ap h2;unfold dc execOp;simp only[ho,resolve,invoke,builtin,Sem.run_bind,Sem.run_pure,Result.andThen_ok,List.map_toArray,List.map_cons,List.map_nil,hs,hx,h1];exact h A C w' h2' hrel
theorem iP {w':World}{G:Value→World→Prop}{cs:Array Value}(hG:∀ x w'',dR R bZ xs p w' w''→(∀ φ,(gQ R bZ xs p).fact x=some φ→φ w'')→G ((gQ R bZ xs p).val x) w'')(hcs:cs=(R.cell p).toArray)(hb:bZ≤w'.heap.size):G (.slice (some ⟨w'.heap.size,0,none⟩) 1 1) (w'.alloc (.cells cs R.e)):=by
 subst hcs;exact hG w'.heap.size _ (Dg hb (af w' _)) (fun φ h=>by cases h;exact heap_alloc_last w' _)
theorem fb {id:Nat}{Q:Exit→Act→World→Prop}{a:Act}{w:World}{l:List Oper}(R:Rec α)(xs:List α)(p:α)(n:Nat)(L:List (Nat×bn (dR R w.heap.size xs p)))(hm:Tryz.prog.follows .mixedOrders=true)(hB:jJ l.toArray n=true)(h:wpG Tryz.prog l.toArray (Bel w) (dR R w.heap.size xs p) (gp L) (fun S a'=>∀ w',Bel w w'→S.all w'→wpList Tryz.prog l.toArray Q (l.drop n) a' w') 0 (l.take n) aB.none a):(Code.region id l.toArray true).wp Tryz.prog Q a w :=
 fk (gp L) n hm hB (fun _ _ h k=>h.trans k.1) (b_drew w) h
end
theorem dm {P:Program}{ops:Array Oper}{C:World→Prop}{R:World→World→Prop}{F:Nat→Option (bn R)}{Q:aB→Act→Prop}{k:Nat}{S:aB}{a:Act}(h:Q S a):wpG P ops C R F Q k [] S a:=by unfold wpG;exact h
section
variable {w:World}{bZ G:Nat}{tv cv bv sv ev:Value}{role:UInt8}{s:Vs}
theorem RG.freshB {w3:World}{b0:Nat}{bv':Value}{l:List Vb}(h:RG w bZ G tv cv role s bv sv ev)(hB:Below w.heap.size w w3)(hb0:w.heap.size≤b0)(ho:bF.Own w3 b0 bv' l):RG (w3.setCell ⟨G,4,none⟩ bv') bZ G tv cv role { s with blocks:=l } bv' sv ev∧Below bZ w (w3.setCell ⟨G,4,none⟩ bv'):=by
 have hGb:=DG h.gb (DA h.blk.lt);refine h.newB (l:=l) ⟨hB.os,hB.tape,hB.output,hB.size,fun j hj _=>hB.block j hj⟩ (fun k hk=>.inr (DG hb0 (Rec.Own.ltV ho k hk).1)) (ho.baseLe (DG hGb hb0))
theorem yK (b:Vb)(h:RG w bZ G tv cv role s bv sv ev)(hl:s.blocks.length≤1000)(h0:0<s.blocks.length):Calls Tryz.prog 186 #[.pointer (some ⟨G,0,none⟩),rbV b] w fun e w'=>(∃ v,e=.returned v)∧(∃ bv',RG w' bZ G tv cv role { s with blocks:=s.blocks.dropLast++[b] } bv' sv ev)∧Chg (fun x=>x=G) w w':=by
 obtain⟨⟨ab,cb,rfl⟩,_,_⟩:=h.slices;obtain⟨m,hm⟩:∃ m,s.blocks.length=m+1:=⟨s.blocks.length-1,by omega⟩
 obtain⟨g,rfl⟩:=h.ob.at0 h0;have hm1:(s.blocks.length:Int)-1=(m:Int):=by omega
 have hm2:(m:Int)<(s.blocks.length:Int):=by omega
 have hm3:=nn_ m;have hm4:(s.blocks.length:Int)≤1000:=by omega
 have hd:s.blocks.dropLast=s.blocks.take m:=by rw[List.dropLast_eq_take];congr 1;omega
 have HD:=zH hd;have hrun:=h.ob.shortRun 215 Tryz.underlying215 (by intro wx;kernel_rfl) m (by omega);obtain⟨W1,hW1⟩:=ex_ (w.alloc (.cells #[.int .u8 (b.op.toNat:Int),.string (bs b.opn),.string (bs (fS b)),.bool b.did,.int .i64 (b.at_:Int)] 263));have hb1:=ba_ hW1;have hx:=bm_ hW1;have h1:=h.below hb1;have c4:=h1.cell (k:=4) rfl;have HX:=zH hx;have HB1:=zH hb1;have H1:=zH h1;have HH:=zH h;obtain⟨xs,hxs⟩:=ex_ (s.blocks.take m);have hxl:xs.length=m:=by rw[hxs,DU];omega
 have HXS:=zH hxs;have HSH:=zH (show bF.Own W1 bZ (.slice (some ⟨g,0,none⟩) m cb) xs from by rw[hxs];exact h1.ob.short m (by omega));have HXL:=zH hxl;have hm5:m≤1000:=by omega
 clear h h1 h0 hm hd hb1 hx hxs hxl;unfold rbV;go_enter Tryz.func186,Tryz.ntmps186;go_upto_region 1 with fail;rw[←hW1];clear hW1;refine rk_ [(3,.exact _ (.slice (some ⟨g,0,none⟩) s.blocks.length cb)),(7,.exact _ (.slice (some ⟨g,0,none⟩) s.blocks.length cb)),(11,rY bF W1.heap.size xs)] ?_;refine cG ?_;refine gE_ (fun w' G hB hS hG=>?_) (fun K hK=>?_)
 ·have y:=C8 hB c4
  go_simp;exact hG _ (Bel.refl _)
 refine cO ?_;clear hK K;refine gE_ (fun w' G hB hS hG=>?_) (fun K hK=>?_)
 ·have y:=C8 hB c4
  go_simp;exact hG _ (Bel.refl _)
 refine cO ?_;clear hK K;refine gk_ (rY bF W1.heap.size xs) (fun w' G hB hS hG=>?_) (fun x K hK=>?_)
 ·refine bF.grow_copy _ _ 215 rfl Tryz.underlying215 W1.heap.size rfl _ xs (show bF.Row w' (.slice (some ⟨g,0,none⟩) m cb) xs from(HSH.o.below hB).row) rfl (by show xs.length*56≤_;rw[HXL.o];omega) hB.size (fun A C w'' ho hb=>hG (A,C) w'' hb (fun φ h=>by cases h;exact ho))
 obtain⟨ad,c⟩:=x;refine cO ?_;clear hK K;refine dm ?_;intro w5 hB5 hA5;have HO:=zH (show bF.Own w5 W1.heap.size (.slice ad xs.length c) xs from oA hA5);have hx5:=HX.o.below hB5;obtain⟨x0,x1,x2,x3,x4⟩:=cl5 hx5;have HB5:=zH hB5;have HW5:=zH (bt HB1.o hB5);have hsz:W1.heap.size≤w5.heap.size:=hB5.size;clear hB5 hA5 hx5 c4;rw[HXL.o]at HO⊢;go_wp2_with (at_builtin;go_must (refine bF.append1V _ b rfl _ _ 215 rfl Tryz.underlying215 W1.heap.size _ xs (HO.o.below (af _ _)) rfl _ rfl (Rec.Row.new (R:=bF) w5 [b] _).1 (by show(xs.length+1)*56≤_;rw[HXL.o];omega) (DG hsz (af _ _).size) ?_);go_must (intro g3 gc w6 hown3 hc3 _;have hb6:Below w.heap.size w w6:=(by have e1:Below W1.heap.size w5 (w5.alloc (.cells (bF.cells [b]).toArray 263)):=(af _ _).mono hsz;have e2:=hc3.below (B:=W1.heap.size) (fun k hk=>(Rec.Own.ltV HO.o k hk).1) (DG hsz (af _ _).size);exact HW5.o.trans ((e1.trans e2).mono HB1.o.size));have h6:=HH.o.below hb6;have c4:=h6.cell (k:=4) rfl;have f4:=h6.free (k:=4) (by decide);have HN:=zH (HH.o.freshB hb6 HB1.o.size hown3);have HC6:=zH ((Da (X:=fun x=>x=G) hb6).trans (Chg.set1R (k:=4) (v:=.slice (some ⟨g3,0,none⟩) (xs.length+1) gc)));clear h6 hb6 hown3 hc3));refine bodyPost_end (results_none rfl _ _ _) rfl ?_;rw[HD.o,←HXS.o];exact⟨⟨_,rfl⟩,⟨_,HN.o.1⟩,HC6.o⟩
end
end
section
attribute [local irreducible] wpG
theorem Rec.Own.freeR {α:Type}{R:Rec α}{w:World}{bZ g n c:Nat}{l:List α}(h:R.Own w bZ (.slice (some ⟨g,0,none⟩) n c) l){k:Nat}(hk:k<l.length*R.n):(∃ v,w.cell? ⟨g,k,none⟩=some v)∧w.frozen? ⟨g,k,none⟩=false:=by
 obtain⟨_,h2⟩:=h;rcases h2 with ⟨hv,_⟩|⟨g',cap,cur,hv,hb,hh,r1,r2,r3,r4⟩
 ·cases hv
 ·obtain⟨rfl,rfl,rfl⟩:g=g'∧n=l.length∧c=cap:=by simpa using hv
  have hlt:k<cur.size:=by
   rw[r3];exact Dv hk (DV _ r1)
  exact⟨⟨cur[k],by simp[World.cell?,hh,hlt]⟩,by simp[World.frozen?,hh]⟩
section
variable {w:World}{bZ G:Nat}{tv cv bv sv ev:Value}{role:UInt8}{s:Vs}{n:Nat}
theorem Fs {T:Prop} (h:T:=by
 have:=H3.o.oe.setCell (k:=q.at_) hqa (y:=(i:Int)) (j:=0) (by decide) (u:=.int .i64 (i:Int)) rfl;rw[show q.at_*bf.n+0=q.at_ from by show q.at_*1+0=q.at_;omega,←hW4]at this;exact this
):T:=h
theorem Fo {T:Prop} (h:T:=by
 rw[hd]at y3;clear hd hkw
 by_cases hw:s.kinds=q.want
 ·have tt:(s.kinds != q.want)=false:=by rw[hw];simp
  have tt2:(s.kinds==q.want)=true:=by rw[hw];simp
  have HV:=zH (show turnsV i (p,a) s=(0,{ s with ends:=s.ends.set q.at_ (i:Int),blocks:=s.blocks.dropLast }) by unfold turnsV;rw[hlast];simp[h21,hw]);obtain⟨m,hm⟩:∃ m,s.blocks.length=m+1:=⟨s.blocks.length-1,by omega⟩
  have hd':s.blocks.dropLast=s.blocks.take m:=by rw[List.dropLast_eq_take];congr 1;omega
  have HD:=zH hd';have hm1:(s.blocks.length:Int)-1=(m:Int):=by omega
  have hm2:(m:Int)<(s.blocks.length:Int):=by omega
  have hm3:=nn_ m;obtain⟨gb,rfl⟩:=H3.o.ob.at0 hb0;have hrun:=H3.o.ob.shortRun 215 Tryz.underlying215 (by intro wx;kernel_rfl) m (by omega);obtain⟨ge,rfl⟩:=H3.o.oe.at0 (by omega);have hge:=HH.o.oe.ltV ge rfl;have hgn:=fun e=>HH.o.a3 ge rfl e;obtain⟨⟨v0,e0⟩,ef⟩:=H3.o.oe.freeR (k:=q.at_) (by show q.at_<s.ends.length*1;omega);have c5:=H3.o.cell (k:=6) rfl;have y4:=HY3.o.cell (k:=4) rfl;have q0:(0:Int)≤(q.at_:Int):=by omega
  have q1:(q.at_:Int)<(s.ends.length:Int):=by omega
  have q2:(s.ends.length:Int)≤256:=by omega
  have hml:m≤s.blocks.length:=by omega
  clear hlast hqm h21 hbn hd' hw hm;go_upto_region 18 with fail;go_region;obtain⟨W4,hW4⟩:=ex_ (W3.setCell ⟨ge,q.at_,none⟩ (.int .i64 (i:Int)));have hc4:Chg (fun k=>k=ge) W3 W4:=by rw[hW4];exact Chg.setCell _ _ _ rfl
  have ho4:bf.Own W4 bZ (.slice (some ⟨ge,0,none⟩) s.ends.length ce) (s.ends.set q.at_ (i:Int)):=by
   exact Fs
  have h4:=H3.o.chgE (l:=s.ends.set q.at_ (i:Int)) (hc4.mono (fun k (hk:k=ge)=>by rw[hk];rfl)) ho4;rw[←hW4];have hB34:Below bZ W3 W4.drew:=h4.2.trans ((b_drew W4).mono (DG (DG hGb hG3) hc4.size));have H4:=zH (h4.1.below (b_drew W4));have HY4:=zH ((HY3.o.chg hc4 (by show ¬(C=ge);omega)).below (b_drew W4));have HB4:=zH ((HB3.o.mono hGb).trans hB34);clear hW4 hc4 ho4 h4 hB34 e0 c5 ef;obtain⟨W5,hW5⟩:=ex_ W4.drew;rw[←hW5]at H4 HY4 HB4;rw[←hW5];clear hW5 x0 y1 y2 y3 y4 c3;have c4:=H4.o.cell (k:=4) rfl;have f4:=H4.o.free (k:=4) (by decide);go_upto_region 19 with fail;go_region;have h9:=H4.o.newB (bv':=.slice (some ⟨gb,0,none⟩) m cb) (l:=s.blocks.take m) (Chg.refl _ _) (fun k hk=>by cases hk;exact .inl rfl) (H4.o.ob.short m hml);obtain⟨W9,hW9⟩:=ex_ (W5.setCell ⟨G,4,none⟩ (.slice (some ⟨gb,0,none⟩) m cb));rw[←hW9]at h9⊢;have H9:=zH (h9.1.below (b_drew W9));have HB9:=zH ((HB4.o.trans h9.2).trans ((b_drew W9).mono (DG h9.1.gb (DA h9.1.blk.lt))));clear h9 hW9 c4 f4;go_wp2_with fail;go_ret;exact⟨by rw[HV.o];rfl,(fun _=>⟨_,by rw[HV.o,HD.o];exact H9.o⟩),HB9.o⟩
 ·have tt:(s.kinds != q.want)=true:=by simpa using hw
  have tt2:(s.kinds==q.want)=false:=by simpa using hw
  have HV:=zH (show turnsV i (p,a) s=(132,s) by unfold turnsV;rw[hlast];simp[h21,hw]);clear hlast hqm h21 hbn hw;go_wp2_with fail;go_ret;exact⟨by rw[HV.o];rfl,(fun e=>by rw[HV.o]at e;cases e),HB3.o.mono hGb⟩
):T:=h
theorem Fp {T:Prop} (h:T:=by
 have hown:bF.Own w' W3.heap.size (.slice ad s.blocks.length c) s.blocks:=at1 hS (by kernel_rfl);have hone:w'.heap[bb]?=some (.cells (bF.cell nb).toArray bF.e (0,0)):=at0 hS (by kernel_rfl);exact bF.grow_app1 _ _ 215 rfl Tryz.underlying215 W3.heap.size _ s.blocks nb hown rfl bb rfl hone (by show(s.blocks.length+1)*56≤_;omega) hB.size (fun A C w'' ho hr=>hG (A,C) w'' hr (fun φ h=>by cases h;exact ho))
):T:=h
theorem Fq {T:Prop} (h:T:=by
 refine bF.grow_copy _ _ 215 rfl Tryz.underlying215 W3.heap.size rfl _ s.blocks (HSH.o.below hB).row rfl (by show s.blocks.length*56≤_;omega) hB.size (fun A C w'' ho hb=>hG (A,C) w'' (Dg hB.size hb) (fun φ h=>by cases h;exact ho))
):T:=h
theorem Fr {T:Prop} (h:T:=by
 rw[HQ.o];unfold nx
 cases hb:s.blocks.getLast? with
 | none=>exact absurd (List.getLast?_eq_none_iff.1 hb) hbn
 | some b=>rfl
):T:=h
theorem wM (i:Nat)(x:VI)(h:RG w bZ G tv cv role s bv sv ev)(hI:jx n s)(hi:i≤1000)(hwd:∀ b∈s.blocks,b.did=false→b.want=b.opn)(hne:x.1=20∨x.1=21→s.blocks≠[]):Calls Tryz.prog 139 #[.pointer (some ⟨G,0,none⟩),.int .i64 (i:Int),.agg #[.int .u8 (x.1.toNat:Int),.int .u8 (x.2.toNat:Int)]] w fun e w'=>e=.returned (.int .i64 ((turnsV i x s).1:Int))∧((turnsV i x s).1=0→∃ bv',RG w' bZ G tv cv role (turnsV i x s).2 bv' sv ev)∧Below bZ w w':=by
 obtain⟨p,a⟩:=x;have hGb:=DG h.gb (DA h.blk.lt);have hGw:=h.blk.lt;have hl:s.blocks.length≤1000:=DG hI.bl (by decide);have hkl:=hI.kl;have hIb:=hI.bs;have hIe:=hI.el;have hbl:=hI.bl;obtain⟨⟨ab,cb,rfl⟩,_,⟨ae,ce,rfl⟩⟩:=h.slices;obtain⟨W1,hW1⟩:=ex_ (w.alloc (.cells #[.int .u8 (p.toNat:Int),.int .u8 (a.toNat:Int)] 127));have hb1:=ba_ hW1;have hx:=bm_ hW1;have HB1:=zH hb1;have HX:=zH hx;have HH:=zH h;have HLST:=zH (fun w' (hB:Below w.heap.size w w')=>oY (h.below hB) hl);have i0:=nn_ i;have l1:(s.blocks.length:Int)≤8:=by omega
 have k16:(s.kinds.length:Int)≤16:=by omega
 obtain⟨q,hq⟩:=ex_ (nx s.blocks);obtain⟨is_,his⟩:=ex_ (s.blocks.getLast?.isSome);have HIS:=zH his;have HQ:=zH hq;have HLQ:=zH (show rbV (s.blocks.getLast?.getD Au)=.agg #[.int .u8 (q.op.toNat:Int),.string (bs q.opn),.string (bs (fS q)),.bool q.did,.int .i64 (q.at_:Int)] by rw[hq];rfl);have HWD:=zH hwd;have HNE:=zH hne;have HIB:=zH hIb;clear h hb1 hx hq his hwd hne hIb hI;go_enter Tryz.func139,Tryz.ntmps139;go_upto_region 1 with fail;rw[←hW1];clear hW1;go_upto_region 2 with(go_at_call 183;refine(HLST.o _ HB1.o).mono ?_;rintro e w2 ⟨rfl,hB2⟩;rw[HLQ.o,←HIS.o];have HB2:=zH (bt HB1.o hB2);have HX2:=zH (HX.o.below hB2);clear hB2);obtain⟨W3,hW3⟩:=ex_ (w2.alloc (.cells #[.int .u8 (q.op.toNat:Int),.string (bs q.opn),.string (bs (fS q)),.bool q.did,.int .i64 (q.at_:Int)] 263));have hb23:=ba_ hW3;have hy:=bm_ hW3;rw[←hW3];have hb3:=bt HB2.o hb23;have h3:=HH.o.below hb3;have hx3:=HX2.o.below hb23;have x0:=hx3.cell (k:=0) rfl;obtain⟨C,hC⟩:=ex_ w2.heap.size;have hCw:w.heap.size≤C:=by rw[hC];exact HB2.o.size
 have hCx:C≠w.heap.size:=by
  have:=aD (HX2.o.cell (k:=0) rfl);have h':w.heap.size<w2.heap.size:=this;omega
 rw[←hC]at hy⊢;have HY3:=zH hy;have HX3:=zH hx3;have H3:=zH h3;have HB3:=zH hb3;have hG3:w.heap.size≤W3.heap.size:=hb3.size;clear hW3 hy hb23 hb3 h3 hx3 HB2 HX2 hC
 by_cases h19:p=19
 ·have u19:((p.toNat:Int)==19)=true:=by rw[h19];rfl
  have HV:=zH (show turnsV i (p,a) s=(0,{ s with blocks:=s.blocks++[⟨19,s.kinds,s.kinds,i,false⟩] }) by unfold turnsV;simp[h19]);have c3:=H3.o.cell (k:=3) rfl;have c4:=H3.o.cell (k:=4) rfl;obtain⟨nb,hnb⟩:∃ nb:Vb,nb=⟨p,s.kinds,s.kinds,i,false⟩:=⟨_,rfl⟩
  have HNB:=zH hnb;have hc:(bF.cell nb)=[.int .u8 (p.toNat:Int),.string (bs s.kinds),.string ⟨#[]⟩,.bool false,.int .i64 (i:Int)]:=by rw[hnb];rfl
  have HC:=zH hc;have HSH:=zH H3.o.ob;have HP:=zH h19;clear hnb hc h19;go_upto_region 5 with fail;refine fb bF s.blocks nb 18 [(4,.exact _ (.slice ab s.blocks.length cb)),(5,iT bF W3.heap.size s.blocks nb),(7,.exact _ (.int .u8 (p.toNat:Int))),(11,.exact _ (.string (bs s.kinds))),(14,gQ bF W3.heap.size s.blocks nb),(15,iS bF W3.heap.size s.blocks nb)] (by kernel_rfl) (by kernel_rfl) ?_;simp only[DQ,DW,DO,DX];refine cG ?_;refine gE_ (fun w' G hB hS hG=>?_) (fun K hK=>?_)
  ·have y:=C8 hB c4
   go_simp;exact hG _ (dR.refl _)
  refine cO ?_;clear hK K;refine gk_ (iT bF W3.heap.size s.blocks nb) (fun w' G hB hS hG=>?_) (fun x K hK=>?_)
  ·exact Fq
  obtain⟨ad,c⟩:=x;refine cO ?_;clear hK K;refine gE_ (fun w' G hB hS hG=>?_) (fun K hK=>?_)
  ·have y:=C8 hB x0
   go_simp;exact hG _ (dR.refl _)
  refine cO ?_;clear hK K;refine gE_ (fun w' G hB hS hG=>?_) (fun K hK=>?_)
  ·have y:=C8 hB c3
   go_simp;exact hG _ (dR.refl _)
  refine cO ?_;clear hK K;refine gk_ (gQ bF W3.heap.size s.blocks nb) (fun w' G hB hS hG=>?_) (fun (bb:Nat) K hK=>?_)
  ·go_simp;exact iP hG (by rw[HC.o]) hB.size
  refine cO ?_;clear hK K;refine gk_ (iS bF W3.heap.size s.blocks nb) (fun w' G hB hS hG=>?_) (fun y K hK=>?_)
  ·exact Fp
  obtain⟨ad2,c2⟩:=y;refine cO ?_;clear hK K;refine dm ?_;intro w5 hB5 hA5;have ho5:bF.Own w5 W3.heap.size (.slice ad2 (s.blocks.length+1) c2) (s.blocks++[nb]):=oA hA5;have h5:=H3.o.below hB5;have c4:=h5.cell (k:=4) rfl;have f4:=h5.free (k:=4) (by decide);have hn5:=H3.o.freshB hB5 (DC _) ho5;obtain⟨W7,hW7⟩:=ex_ (w5.setCell ⟨G,4,none⟩ (.slice ad2 (s.blocks.length+1) c2));have hc7:Chg (fun x=>x=G) w5 W7:=by rw[hW7];exact Chg.set1R
  have hx5:=HX3.o.below hB5;have hx7:=hx5.chg hc7 (by show ¬(w.heap.size=G);omega);have x0:=hx7.cell (k:=0) rfl;rw[←hW7]at hn5;have H7:=zH hn5.1;have c3:=hn5.1.cell (k:=3) rfl;have f3:=hn5.1.free (k:=3) (by decide);have HB7:=zH ((HB3.o.mono hGb).trans (hn5.2.mono (DC _)));have HW7:=zH hW7;clear hB5 hA5 ho5 h5 hn5 hc7 hx5 hx7 hW7;go_upto_region 6 with fail;rw[←HW7.o];clear c4 f4;go_wp2_with fail;go_ret;exact⟨by rw[HV.o];rfl,(fun _=>⟨_,by rw[HV.o];have:=H7.o;rw[HNB.o,HP.o]at this;exact this⟩),HB7.o⟩
 by_cases h22:p=22
 ·have u19:((p.toNat:Int)==19)=false:=aC (by decide) h19
  have u22:((p.toNat:Int)==22)=true:=by rw[h22];rfl
  have HV:=zH (show turnsV i (p,a) s=(0,{ s with blocks:=s.blocks++[⟨22,s.kinds,s.kinds,i,false⟩],kinds:=s.kinds++[84] }) by unfold turnsV;simp[h22]);have c3:=H3.o.cell (k:=3) rfl;have c4:=H3.o.cell (k:=4) rfl;obtain⟨nb,hnb⟩:∃ nb:Vb,nb=⟨p,s.kinds,s.kinds,i,false⟩:=⟨_,rfl⟩
  have HNB:=zH hnb;have hc:(bF.cell nb)=[.int .u8 (p.toNat:Int),.string (bs s.kinds),.string ⟨#[]⟩,.bool false,.int .i64 (i:Int)]:=by rw[hnb];rfl
  have HC:=zH hc;have HSH:=zH H3.o.ob;have HP:=zH h22;clear hnb hc h22;go_upto_region 5 with fail;refine fb bF s.blocks nb 18 [(4,.exact _ (.slice ab s.blocks.length cb)),(5,iT bF W3.heap.size s.blocks nb),(7,.exact _ (.int .u8 (p.toNat:Int))),(11,.exact _ (.string (bs s.kinds))),(14,gQ bF W3.heap.size s.blocks nb),(15,iS bF W3.heap.size s.blocks nb)] (by kernel_rfl) (by kernel_rfl) ?_;simp only[DQ,DW,DO,DX];refine cG ?_;refine gE_ (fun w' G hB hS hG=>?_) (fun K hK=>?_)
  ·have y:=C8 hB c4
   go_simp;exact hG _ (dR.refl _)
  refine cO ?_;clear hK K;refine gk_ (iT bF W3.heap.size s.blocks nb) (fun w' G hB hS hG=>?_) (fun x K hK=>?_)
  ·exact Fq
  obtain⟨ad,c⟩:=x;refine cO ?_;clear hK K;refine gE_ (fun w' G hB hS hG=>?_) (fun K hK=>?_)
  ·have y:=C8 hB x0
   go_simp;exact hG _ (dR.refl _)
  refine cO ?_;clear hK K;refine gE_ (fun w' G hB hS hG=>?_) (fun K hK=>?_)
  ·have y:=C8 hB c3
   go_simp;exact hG _ (dR.refl _)
  refine cO ?_;clear hK K;refine gk_ (gQ bF W3.heap.size s.blocks nb) (fun w' G hB hS hG=>?_) (fun (bb:Nat) K hK=>?_)
  ·go_simp;exact iP hG (by rw[HC.o]) hB.size
  refine cO ?_;clear hK K;refine gk_ (iS bF W3.heap.size s.blocks nb) (fun w' G hB hS hG=>?_) (fun y K hK=>?_)
  ·exact Fp
  obtain⟨ad2,c2⟩:=y;refine cO ?_;clear hK K;refine dm ?_;intro w5 hB5 hA5;have ho5:bF.Own w5 W3.heap.size (.slice ad2 (s.blocks.length+1) c2) (s.blocks++[nb]):=oA hA5;have h5:=H3.o.below hB5;have c4:=h5.cell (k:=4) rfl;have f4:=h5.free (k:=4) (by decide);have hn5:=H3.o.freshB hB5 (DC _) ho5;obtain⟨W7,hW7⟩:=ex_ (w5.setCell ⟨G,4,none⟩ (.slice ad2 (s.blocks.length+1) c2));have hc7:Chg (fun x=>x=G) w5 W7:=by rw[hW7];exact Chg.set1R
  have hx5:=HX3.o.below hB5;have hx7:=hx5.chg hc7 (by show ¬(w.heap.size=G);omega);have x0:=hx7.cell (k:=0) rfl;rw[←hW7]at hn5;have H7:=zH hn5.1;have c3:=hn5.1.cell (k:=3) rfl;have f3:=hn5.1.free (k:=3) (by decide);have HB7:=zH ((HB3.o.mono hGb).trans (hn5.2.mono (DC _)));have HW7:=zH hW7;clear hB5 hA5 ho5 h5 hn5 hc7 hx5 hx7 hW7;go_upto_region 6 with fail;rw[←HW7.o];clear c4 f4;go_wp2_with fail;go_ret;have h9:=H7.o.kinds (s.kinds++[84]);exact⟨by rw[HV.o];rfl,(fun _=>⟨_,by rw[HV.o];have:=h9.1;rw[HNB.o,HP.o]at this;exact this⟩),HB7.o.trans h9.2⟩
 by_cases h20:p=20
 ·have u19:((p.toNat:Int)==19)=false:=aC (by decide) h19
  have u22:((p.toNat:Int)==22)=false:=aC (by decide) h22;have u20:((p.toNat:Int)==20)=true:=by rw[h20];rfl
  have hbn:=HNE.o (.inl h20)
  have hlast:s.blocks.getLast?=some q:=by
   exact Fr
  have hqm:q∈s.blocks:=List.mem_of_getLast? hlast;have hqa:=(HIB.o q hqm).1;have hb0:0<s.blocks.length:=List.length_pos_of_mem hqm;obtain⟨nb,hnb⟩:∃ nb:Vb,nb={ q with want:=s.kinds,at_:=i,did:=true }:=⟨_,rfl⟩
  have HV:=zH (show turnsV i (p,a) s=(0,{ s with ends:=s.ends.set q.at_ (i:Int),blocks:=s.blocks.dropLast++[nb],kinds:=q.opn }) by unfold turnsV;rw[hlast,hnb];simp[h20]);have HNB:=zH (show rbV nb=.agg #[.int .u8 (q.op.toNat:Int),.string (bs q.opn),.string (bs s.kinds),.bool true,.int .i64 (i:Int)] by rw[hnb];rfl);obtain⟨ge,rfl⟩:=H3.o.oe.at0 (by omega);have hge:=HH.o.oe.ltV ge rfl;have hgn:=fun e=>HH.o.a3 ge rfl e;obtain⟨⟨v0,e0⟩,ef⟩:=H3.o.oe.freeR (k:=q.at_) (by show q.at_<s.ends.length*1;omega);have c5:=H3.o.cell (k:=6) rfl;have y4:=HY3.o.cell (k:=4) rfl;have q0:(0:Int)≤(q.at_:Int):=by omega
  have q1:(q.at_:Int)<(s.ends.length:Int):=by omega
  have q2:(s.ends.length:Int)≤256:=by omega
  clear hnb hlast hqm h20 hbn;go_upto_region 9 with fail;go_region;obtain⟨W4,hW4⟩:=ex_ (W3.setCell ⟨ge,q.at_,none⟩ (.int .i64 (i:Int)));have hc4:Chg (fun k=>k=ge) W3 W4:=by rw[hW4];exact Chg.setCell _ _ _ rfl
  have ho4:bf.Own W4 bZ (.slice (some ⟨ge,0,none⟩) s.ends.length ce) (s.ends.set q.at_ (i:Int)):=by
   exact Fs
  have h4:=H3.o.chgE (l:=s.ends.set q.at_ (i:Int)) (hc4.mono (fun k (hk:k=ge)=>by rw[hk];rfl)) ho4;rw[←hW4];have hB34:Below bZ W3 W4.drew:=h4.2.trans ((b_drew W4).mono (DG (DG hGb hG3) hc4.size));have H4:=zH (h4.1.below (b_drew W4));have HY4:=zH ((HY3.o.chg hc4 (by show ¬(C=ge);omega)).below (b_drew W4));have HB4:=zH ((HB3.o.mono hGb).trans hB34);clear hW4 hc4 ho4 h4 hB34 e0 c5 ef;obtain⟨W5,hW5⟩:=ex_ W4.drew;rw[←hW5]at H4 HY4 HB4;rw[←hW5];clear hW5 x0 y4;have c3:=H4.o.cell (k:=3) rfl;obtain⟨y0,y1⟩:=cl2 HY4.o;go_upto_region 10 with fail;refine ba 11 [(2,.exact _ (.int .u8 (q.op.toNat:Int))),(4,.exact _ (.string (bs q.opn))),(8,.exact _ (.string (bs s.kinds)))] (by kernel_rfl) (by kernel_rfl) ?_;simp only[DQ,DW,DO,DX];refine cG ?_;refine gE_ (fun w' G hB hS hG=>?_) (fun K hK=>?_)
  ·have y:=C8 hB y0
   go_simp;exact hG _ (Bel.refl _)
  refine cO ?_;clear hK K;refine gE_ (fun w' G hB hS hG=>?_) (fun K hK=>?_)
  ·have y:=C8 hB y1
   go_simp;exact hG _ (Bel.refl _)
  refine cO ?_;clear hK K;refine gE_ (fun w' G hB hS hG=>?_) (fun K hK=>?_)
  ·have y:=C8 hB c3
   go_simp;exact hG _ (Bel.refl _)
  refine cO ?_;clear hK K;refine dm ?_;intro w6 hB6 hA6;have h6:=H4.o.below hB6;have HSET:=zH (yK nb h6 hl hb0);rw[HNB.o]at HSET;have HY6:=zH (HY4.o.below hB6);have HB6:=zH (HB4.o.trans (hB6.mono (DG hGb HB4.o.size)));clear hB6 hA6 h6 c3 y0 y1;go_upto_region 11 with(go_at_call 186;refine HSET.o.mono ?_;rintro e w7 ⟨⟨vv,rfl⟩,⟨bv7,h7⟩,hc7⟩;have H7:=zH h7;have HY7:=zH (HY6.o.chg hc7 (show ¬(C=G) by omega));have HC7:=zH hc7;clear h7 hc7);have y1:=HY7.o.cell (k:=1) rfl;have c3:=H7.o.cell (k:=3) rfl;have f3:=H7.o.free (k:=3) (by decide);have hbb:bZ≤w6.heap.size:=DG hGb HB6.o.size;go_wp2_with fail;go_ret;have h9:=H7.o.kinds q.opn;exact⟨by rw[HV.o];rfl,(fun _=>⟨_,by rw[HV.o];exact h9.1⟩),(HB6.o.trans (HC7.o.below (fun x (hx:x=G)=>by have:=H7.o.gb;omega) hbb)).trans h9.2⟩
 by_cases h21:p=21
 ·have u19:((p.toNat:Int)==19)=false:=aC (by decide) h19
  have u22:((p.toNat:Int)==22)=false:=aC (by decide) h22;have u20:((p.toNat:Int)==20)=false:=aC (by decide) h20;have u21:((p.toNat:Int)==21)=true:=by rw[h21];rfl
  have hbn:=HNE.o (.inr h21)
  have hlast:s.blocks.getLast?=some q:=by
   exact Fr
  have hqm:q∈s.blocks:=List.mem_of_getLast? hlast;have hqa:=(HIB.o q hqm).1;have hb0:0<s.blocks.length:=List.length_pos_of_mem hqm;have y1:=HY3.o.cell (k:=1) rfl;have y2:=HY3.o.cell (k:=2) rfl;have y3:=HY3.o.cell (k:=3) rfl;have c3:=H3.o.cell (k:=3) rfl
  by_cases hd:q.did=true
  ·have hkw:fS q=q.want:=by unfold fS;rw[if_pos hd]
   rw[hkw]at y2;exact Fo
  ·have hd:q.did=false:=by simpa using hd
   have hkw:q.opn=q.want:=(HWD.o q hqm hd).symm;rw[hkw]at y1;exact Fo
 have u19:((p.toNat:Int)==19)=false:=aC (by decide) h19;have u22:((p.toNat:Int)==22)=false:=aC (by decide) h22;have u20:((p.toNat:Int)==20)=false:=aC (by decide) h20;have u21:((p.toNat:Int)==21)=false:=aC (by decide) h21;have HV:=zH (show turnsV i (p,a) s=(0,s) by unfold turnsV;simp[h19,h22,h20,h21]);clear h19 h22 h20 h21;go_wp2_with fail;go_ret;exact⟨by rw[HV.o];rfl,(fun _=>⟨_,by rw[HV.o];exact H3.o⟩),HB3.o.mono hGb⟩
end
end
section
attribute [local irreducible] wpG
theorem wZ {texts:LL_}{code:List VI}(h:16<texts.length):cK texts code=false:=by unfold cK;rw[decide_eq_false (by omega)];simp
theorem xc {texts:LL_}{code:List VI}(h:256<code.length):cK texts code=false:=by unfold cK;rw[decide_eq_false (show ¬code.length≤256 by omega)];simp
theorem wY {texts:LL_}{code:List VI}(k:Nat)(h:k<texts.length)(h1:64<texts[k].length):cK texts code=false:=by
 have:texts.all (fun s=>decide (s.length≤64))=false:=js k h (decide_eq_false (by omega));unfold cK;rw[this];simp
theorem zd {texts:LL_}{code:List VI}(k:Nat)(h:k<code.length)(h1:aZ code[k]=false):cK texts code=false:=by
 have:code.all aZ=false:=js k h h1;unfold cK;rw[this];simp
theorem AA {texts:LL_}{code:List VI}(h1:texts.length≤16)(h2:code.length≤256)(h3:∀ k (h:k<texts.length),texts[k].length≤64)(h4:∀ k (h:k<code.length),aZ code[k]=true):cK texts code=true:=by
 have e3:texts.all (fun s=>decide (s.length≤64))=true:=kS (fun k h=>decide_eq_true (h3 k h));have e4:code.all aZ=true:=kS h4;unfold cK;rw[e3,e4,decide_eq_true h1,decide_eq_true h2];rfl
theorem Ft {T:Prop} (h:T:=by
 go_enter Tryz.func135,Tryz.ntmps135;go_upto_region 1 with fail;rw[←hW1];clear hW1;go_wp2_with fail;go_ret;exact⟨by rw[HV.o];rfl,HB1.o⟩
):T:=h
theorem tK (tv cv:Value)(texts:LL_)(code:List VI)(w:World)(ht:aK.Row w tv texts)(hc:bp.Row w cv code)(hlt:texts.length≤140737488355328)(hlc:code.length≤140737488355328)(hm:∀ s∈texts,s.length≤140737488355328):Calls Tryz.prog 135 #[.agg #[tv,cv]] w fun e w'=>e=.returned (.bool (cK texts code))∧Bw_ w w':=by
 obtain⟨at_,ct,rfl,-,hct⟩:=an ht;obtain⟨ac,cc,rfl,-,hcc⟩:=ag hc;have HM:=zH hm;have HCT:=zH hct;have HCC:=zH hcc;obtain⟨W1,hW1⟩:=ex_ (w.alloc (.cells #[.slice at_ texts.length ct,.slice ac code.length cc] 25));have hb1:=ba_ hW1;have hx:=bm_ hW1;obtain⟨x0,x1⟩:=cl2 hx;have HB1:=zH hb1;have HX:=zH hx;obtain⟨mv,hmv⟩:=ex_ (cK texts code);have HMV:=zH hmv;have lt1:(texts.length:Int)≤140737488355328:=by omega
 have lc1:(code.length:Int)≤140737488355328:=by omega
 rw[←hmv];clear ht hc hct hcc hm hb1 hx hmv
 by_cases h16:16<texts.length
 ·have t1:(16:Int)<(texts.length:Int):=by omega
  have HV:=zH (HMV.o.trans (wZ h16));clear h16;exact Ft
 ·have t1:¬(16:Int)<(texts.length:Int):=by omega
  by_cases h256:256<code.length
  ·have t2:(256:Int)<(code.length:Int):=by omega
   have HV:=zH (HMV.o.trans (xc h256));clear h16 h256;exact Ft
  ·have t2:¬(256:Int)<(code.length:Int):=by omega
   have hOK:=AA (texts:=texts) (code:=code) (by omega) (by omega);have HOK:=zH hOK;clear hOK;go_enter Tryz.func135,Tryz.ntmps135;go_upto_region 1 with fail;rw[←hW1];clear hW1;go_wp2_with fail
   go_loop [3] (fun v=>∃ i:Nat,v=.int .i64 (i:Int)∧i≤texts.length∧Hid (∀ k (h:k<texts.length),k<i→texts[k].length≤64)) (fun v=>texts.length-(intOf v).toNat)
   case atStart=>exact⟨0,rfl,D6 _,fun k _ h=>absurd h (by omega)⟩
   case round =>
    obtain⟨i,rfl,hi,HTI⟩:=hrel
    by_cases h0:i<texts.length
    ·obtain⟨b,off,rfl,d0⟩:=HCT.o i h0
     have d0:=C8 HB1.o d0;have ii0:=nn_ i;have ii1:(i:Int)<(texts.length:Int):=by omega
     have hsl:=HM.o texts[i] (DY h0)
     by_cases h64:64<texts[i].length
     ·have t3:(64:Int)<(texts[i].length:Int):=by omega
      have HV:=zH (HMV.o.trans (wY i h0 h64));clear h64;go_wp2_with fail;go_ret;exact⟨by rw[HV.o];rfl,HB1.o⟩
     ·have t3:¬(64:Int)<(texts[i].length:Int):=by omega
      have HN:=zH (show ∀ k (h:k<texts.length),k<i+1→texts[k].length≤64 from fun k h hk=>by
       by_cases e:k=i
       ·subst e;omega
       ·exact HTI.o k h (by omega))
      clear h64 HTI;go_wp2_with fail
      go_round
      case rel=>exact⟨i+1,by go_num,by omega,HN.o⟩
      case measure=>simp[intOf];omega
    ·obtain rfl:i=texts.length:=by omega
     have e0:¬(texts.length:Int)<(texts.length:Int):=by omega
     clear h0;go_wp2_with fail
     go_loopw [4] (fun v wr=>∃ i:Nat,v=.int .i64 (i:Int)∧i≤code.length∧Hid (∀ k (h:k<code.length),k<i→aZ code[k]=true)∧Hid (Below W1.heap.size W1 wr)) (fun v _=>code.length-(intOf v).toNat)
     case atStart=>exact⟨0,rfl,D6 _,fun k _ h=>absurd h (by omega),DF _ _⟩
     case round =>
      obtain⟨i,rfl,hi,HCI,HBr⟩:=hrel;have x1:=(HX.o.below HBr.o).cell (k:=1) rfl
      by_cases h0:i<code.length
      ·obtain⟨b,off,rfl,d0,d1⟩:=HCC.o i h0
       have d0:=C8 (bt HB1.o HBr.o) d0;have d1:=C8 (bt HB1.o HBr.o) d1;have ii0:=nn_ i;have ii1:(i:Int)<(code.length:Int):=by omega
       have HIN:=zH (yP code[i] wr);obtain⟨q,hq⟩:=ex_ (aZ code[i]);rw[←hq]at HIN;have HQ:=zH hq;clear hq
       cases q with
       | false =>
        have HV:=zH (HMV.o.trans (zd i h0 HQ.o.symm));go_wp2_with fail;refine HIN.o.mono ?_;rintro e w2 ⟨rfl,hB2⟩;have HB2:=zH (bt HBr.o hB2);clear hB2;go_wp2_with fail;go_ret;exact⟨by rw[HV.o];rfl,bt HB1.o HB2.o⟩
       | true =>
        have HN:=zH (show ∀ k (h:k<code.length),k<i+1→aZ code[k]=true from fun k h hk=>by
         by_cases e:k=i
         ·subst e;exact HQ.o.symm
         ·exact HCI.o k h (by omega))
        go_wp2_with fail;refine HIN.o.mono ?_;rintro e w2 ⟨rfl,hB2⟩;have HB2:=zH (bt HBr.o hB2);clear hB2;go_wp2_with fail;go_roundw
        case rel=>exact⟨i+1,by go_num,by omega,HN.o,HB2.o⟩
        case measure=>simp[intOf];omega
      ·obtain rfl:i=code.length:=by omega
       have e1:¬(code.length:Int)<(code.length:Int):=by omega
       have HV:=zH (HMV.o.trans (HOK.o (fun k h=>HTI.o k h h) (fun k h=>HCI.o k h h)));clear h0;go_wp2_with fail;go_ret;exact⟨by rw[HV.o];rfl,bt HB1.o HBr.o⟩
end
section
attribute [local irreducible] wpG
def WD (s:Vs):Prop:=∀ b∈s.blocks,b.did=false→b.want=b.opn
theorem WD.one {nt inp:Nat}{role:UInt8}{i n:Nat}{x:VI}{s:Vs}(h:WD s)(hI:jx n s)(h0:(bI nt inp role i x s).1=0):WD (bI nt inp role i x s).2:=by
 obtain⟨hs,-,-⟩:=jk hI.kl h0;intro b hb hd;rcases hs with ⟨_,k,_,hbl,_⟩|⟨_,r,c,hl,hbl,_⟩|⟨_,r,c,hl,_,hbl,_⟩|⟨_,hbl,_⟩<;>rw[hbl]at hb
 ·rcases DM.1 hb with hb|hb
  ·exact h b hb hd
  ·rw[DZ]at hb;subst hb;rfl
 ·rcases DM.1 hb with hb|hb
  ·exact h b (by rw[hl];exact DM.2 (.inl hb)) hd
  ·rw[DZ]at hb;subst hb;cases hd
 ·exact h b (by rw[hl];exact DM.2 (.inl hb)) hd
 ·exact h b hb hd
section
variable {w w3:World}{bZ G:Nat}{tv cv bv sv ev:Value}{role:UInt8}{s:Vs}
theorem RG.start (w:World)(tv cv:Value)(role:UInt8)(bZ:Nat)(hb:bZ≤w.heap.size):RG (w.alloc (.cells #[tv,cv,.int .u8 (role.toNat:Int),.string ⟨#[]⟩,.slice none 0 0,.slice none 0 0,.slice none 0 0,.int .i64 0] 217)) bZ w.heap.size tv cv role ⟨[],[],[],[],0⟩ (.slice none 0 0) (.slice none 0 0) (.slice none 0 0) :=
 ⟨Blk.new w ([tv,cv,.int .u8 (role.toNat:Int),.string ⟨#[]⟩,.slice none 0 0,.slice none 0 0,.slice none 0 0,.int .i64 0]:List Value) _,Rec.Own.nil _ _,Rec.Own.nil _ _,Rec.Own.nil _ _,hb,(fun b hb=>by cases hb),(fun b hb=>by cases hb),(fun b hb=>by cases hb)⟩
theorem RG.freshE {b0:Nat}{ev':Value}{l:List Int}(h:RG w bZ G tv cv role s bv sv ev)(hB:Below w.heap.size w w3)(hb0:w.heap.size≤b0)(ho:bf.Own w3 b0 ev' l):RG (w3.setCell ⟨G,6,none⟩ ev') bZ G tv cv role { s with ends:=l } bv sv ev'∧Below bZ w (w3.setCell ⟨G,6,none⟩ ev'):=by
 have hGb:=DG h.gb (DA h.blk.lt);have hlt:=h.blk.lt;have h3:=h.below hB;have hs:Chg (fun k=>k=G) w3 (w3.setCell ⟨G,6,none⟩ ev'):=Chg.setCell _ _ _ rfl;have nb:∀ b,ev'.ownBlock=some b→w.heap.size≤b:=fun b hb=>DG hb0 (Rec.Own.ltV ho b hb).1;refine⟨⟨h3.blk.set 6 ev',h3.ob.chgV hs (fun k hk=>(h.a1 k hk).1),h3.os.chgV hs (fun k hk=>(h.a2 k hk).1),(ho.chgV hs (fun k hk=>by have:=nb k hk;omega)).baseLe (DG hGb hb0),h.gb,?_,?_,?_⟩,?_⟩
 ·intro b hb
  refine⟨(h.a1 b hb).1,(h.a1 b hb).2.1,fun e=>?_⟩;have:=nb b e;have:=(h.ob.ltV b hb).2;omega
 ·intro b hb
  refine⟨(h.a2 b hb).1,fun e=>?_⟩;have:=nb b e;have:=(h.os.ltV b hb).2;omega
 ·intro b hb
  have:=nb b hb;omega
 ·exact(hB.mono hGb).trans (hs.below (fun k hk=>by have:=h.gb;omega) (DG hGb hB.size))
theorem jx.mid {n:Nat}{x:VI}(h:jx n s):jx (n+1) { s with seen:=s.seen++[s.kinds],kinds:=(aF s.kinds x).2 } :=
 ⟨h.bl,(iI (x:=x) h.kl).1,h.bs,h.el,by show(s.seen++[s.kinds]).length≤n+1;have:=h.sl;simp;omega,h.dl⟩
end
def GoR (w':World)(tv cv:Value)(role:UInt8)(T:Nat×Nat×Vs)(e:Ending):Prop :=
 ∃ G bZ bv sv ev,e=.returned (.tuple #[.pointer (some ⟨G,0,none⟩),.int .i64 (T.1:Int),.int .i64 (T.2.1:Int)])∧(T.2.1=0→RG w' bZ G tv cv role T.2.2 bv sv ev)
theorem Fv {T:Prop} (h:T:=by
 go_wp2_with fail;go_ret3;exact⟨⟨G,0,.slice none 0 0,.slice none 0 0,.slice none 0 0,by rw[HE.o];rfl,(fun e=>by rw[HE.o]at e;cases e)⟩,bt HB1.o HB.o⟩
):T:=h
theorem Fw {T:Prop} (h:T:=by
 have HE:=zH (HT.o.trans (eS HOK.o (r:=(code.length,0,s)) (by rw[HR1.o,HO.o]) rfl));clear hr hb hk hke;go_wp2_with fail;go_ret3;exact⟨⟨G,_,_,_,_,by rw[HE.o];rfl,(fun _=>by rw[HE.o];exact HV.o)⟩,bt HB1.o HB.o⟩
):T:=h
theorem Fx {T:Prop} (h:T:=by
 go_ret3;exact⟨⟨G,0,.slice none 0 0,.slice none 0 0,.slice none 0 0,by rw[HE.o];rfl,(fun e=>by rw[HE.o]at e;cases e)⟩,bt HB1.o HB3.o⟩
):T:=h
theorem Fy {T:Prop} (h:T:=by
 have v1:(0:Int)<(s.blocks.length:Int):=by omega
 have HO:=zH (show overV role s=132 by unfold overV;rw[if_pos hb]);have HE:=zH (HT.o.trans (bE HOK.o (r:=(code.length,132,s)) (by rw[HR1.o,HO.o]) (fun e=>by cases e)));clear hr hb;exact Fv
):T:=h
theorem Fz {T:Prop} (h:T:=by
 have HE:=zH (HT.o.trans (bE HOK.o (r:=(code.length,130,s)) (by rw[HR1.o,HO.o]) (fun e=>by cases e)));clear hr hb hk;exact Fv
):T:=h
theorem kv (tv cv:Value)(texts:LL_)(code:List VI)(role:UInt8)(w:World)(ht:aK.Row w tv texts)(hc:bp.Row w cv code)(hlt:texts.length≤1000)(hlc:code.length≤5000)(hm:∀ s∈texts,s.length≤140737488355328):Calls Tryz.prog 95 #[.agg #[tv,cv],.int .u8 (role.toNat:Int)] w fun e w'=>GoR w' tv cv role (aq texts code role) e∧Bw_ w w':=by
 have HMY:=zH (fun w' (hB:Below w.heap.size w w')=>tK tv cv texts code w' (ht.below hB) (hc.below hB) (by omega) (by omega) hm);obtain⟨at_,ct,rfl,-,-⟩:=an ht;obtain⟨ac,cc,rfl,-,hci⟩:=ag hc;have HCI:=zH hci;clear ht hc hci hm;obtain⟨W1,hW1⟩:=ex_ (w.alloc (.cells #[.slice at_ texts.length ct,.slice ac code.length cc] 25));have hb1:=ba_ hW1;have hx:=bm_ hW1;obtain⟨W2,hW2⟩:=ex_ (W1.alloc (.cells #[.slice at_ texts.length ct,.slice ac code.length cc,.int .u8 (role.toNat:Int),.string ⟨#[]⟩,.slice none 0 0,.slice none 0 0,.slice none 0 0,.int .i64 0] 217));obtain⟨G,hG⟩:=ex_ W1.heap.size;have hv2:RG W2 W1.heap.size G (.slice at_ texts.length ct) (.slice ac code.length cc) role ⟨[],[],[],[],0⟩ (.slice none 0 0) (.slice none 0 0) (.slice none 0 0):=by rw[hW2,hG];exact RG.start W1 _ _ role _ (DC _)
 have hb2:=ba_ hW2;have HX:=zH hx;obtain⟨x0,x1⟩:=cl2 hx;have HB1:=zH hb1;have HB2:=zH hb2;have H2:=zH hv2;have hGx:w.heap.size<G:=by rw[hG];exact aD x0
 have hmk:=p7 code.length (by omega);obtain⟨E0,hE0⟩:=ex_ ((bf.cells (List.replicate code.length 0)).toArray);rw[←hE0]at hmk;have HE0:=zH hE0;clear hE0;clear hb1 hb2 hv2 hx;obtain⟨T,hT⟩:=ex_ (aq texts code role);rw[←hT];have HT:=zH hT;have HRO:=zH (wI role);clear hT;go_enter Tryz.func95,Tryz.ntmps95;go_upto_region 1 with fail;rw[←hW1];clear hW1;go_upto_region 2 with fail;rw[←hW2,←hG];have HGE:=zH hG;clear hW2 hG;have x0:=C8 HB2.o x0;have x1:=C8 HB2.o x1
 by_cases hmv:cK texts code=true
 ·rw[hmv]at HMY
  by_cases hro:cY role=true
  ·rw[hro]at HRO
   have HOK:=zH (show(cK texts code&&cY role)=true by rw[hmv,hro];rfl);obtain⟨h16,h256,hni⟩:=zr hmv;have HNI:=zH hni;clear hmv hro hni;go_upto_region 4 with(first|(go_at_call 135;refine(HMY.o _ (bt HB1.o HB2.o)).mono ?_;rintro e w3 ⟨rfl,hB3⟩;have H3:=zH (H2.o.below hB3);have HX3:=zH ((HX.o.below HB2.o).below hB3);have HB3:=zH (bt HB2.o hB3);clear hB3)|(go_at_call 136;refine(HRO.o _).mono ?_;rintro e w4 ⟨rfl,rfl⟩));have hk4:=H3.o.below (af w4 (.cells E0 3));have c6:=hk4.cell (k:=6) rfl;have f6:=hk4.free (k:=6) (by decide);have x1:=HX3.o.cell (k:=1) rfl;have x4:=(HX3.o.below (af w4 (.cells E0 3))).cell (k:=1) rfl;have hw5:=H3.o.freshE (af w4 (.cells E0 3)) (DC _) (by have:=ns w4 code.length w4.heap.size (by omega) (DC _);rw[←HE0.o]at this;exact this);have hc5:Chg (fun x=>x=G) w4 ((w4.alloc (.cells E0 3)).setCell ⟨G,6,none⟩ (.slice (some ⟨w4.heap.size,0,none⟩) code.length code.length)):=(Chg.alloc _ _ _).trans Chg.set1R;have hx5:=HX3.o.chg hc5 (by show ¬(w.heap.size=G);omega);go_upto_region 5 with fail;obtain⟨w5,hW5⟩:=ex_ ((w4.alloc (.cells E0 3)).setCell ⟨G,6,none⟩ (.slice (some ⟨w4.heap.size,0,none⟩) code.length code.length));obtain⟨ev,hev⟩:∃ ev:Value,ev=.slice (some ⟨w4.heap.size,0,none⟩) code.length code.length:=⟨_,rfl⟩
   rw[←hW5]at hw5 hx5⊢;rw[←hev]at hw5;have H5:=zH hw5.1;have HB5:=zH (HB3.o.trans hw5.2);have HX5:=zH hx5;clear hk4 c6 f6 x0 x1 x4 hw5 hc5 hx5 hW5 hev hmk H3 HX3 HB3 H2 HB2 HMY HRO;go_wp2_with fail
   go_loopw [8] (fun t wr=>∃ (i:Nat) (s:Vs) (bv sv:Value),t=.int .i64 (i:Int)∧i≤code.length∧Hid (ep texts.length (inputsV role) role i (code.drop i) s=ep texts.length (inputsV role) role 0 code (aS code.length))∧Hid (RG wr W1.heap.size G (.slice at_ texts.length ct) (.slice ac code.length cc) role s bv sv ev)∧Hid (jx i s)∧Hid (WD s)∧Hid (s.ends.length=code.length)∧Hid (Below W1.heap.size W1 wr)) (fun t _=>code.length-(intOf t).toNat)
   case atStart=>exact⟨0,aS _,_,_,rfl,D6 _,rfl,H5.o,kV _ h256,(fun b hb=>by simp[aS]at hb),by simp[aS,Hid],HB5.o⟩
   case round =>
    obtain⟨i,s,bv,sv,rfl,hi,HR,HV,HIV,HWD,HEL,HB⟩:=hrel;have x1:=(HX.o.below HB.o).cell (k:=1) rfl
    by_cases h0:i<code.length
    ·obtain⟨⟨ab,cb,hbv⟩,⟨a3,cs,hsv⟩,_⟩:=HV.o.slices
     subst hbv hsv;obtain⟨b,off,rfl,d0,d1⟩:=HCI.o i h0;have kk0:=nn_ i;have kk1:(i:Int)<(code.length:Int):=by omega
     have HP:=zH (HNI.o i h0);have HD0:=zH d0;have HD1:=zH d1;have HDR:=zH (Dw h0);have hvd:=HV.o.below (b_drew wr);have hgb:W1.heap.size≤wr.drew.heap.size:=DG HB.o.size (b_drew wr).size;have hby:(s.seen.length+1)*16≤140737488355328:=by have:=HIV.o.sl;omega
     have hod:=hvd.os;have hGw:G<wr.heap.size:=HV.o.blk.lt;have c5:=HV.o.cell (k:=5) rfl;have c3:=HV.o.cell (k:=3) rfl;have HVD:=zH hvd;clear hvd d0 d1;go_upto_region 8 with fail
     go_cut [] (fun wx=>∃ sv',Hid (RG wx W1.heap.size G (.slice at_ texts.length ct) (.slice (some ⟨b,off,none⟩) code.length cc) role { s with seen:=s.seen++[s.kinds] } (.slice ab s.blocks.length cb) sv' ev)∧Hid (Below W1.heap.size W1 wx))
     case first =>
      go_region_law (refine aK.step_append1V wr.drew s.kinds rfl _ _ 22 rfl Tryz.underlying22 W1.heap.size (.slice a3 s.seen.length cs) s.seen rfl hod _ rfl _ rfl _ rfl hby hgb ?_;intro g gc w3 hown3 hc3 hg3;have hn3:=HVD.o.newS (sv':=.slice (some ⟨g,0,none⟩) (s.seen.length+1) gc) hc3 (fun k hk=>by cases hk;exact hg3) hown3;have hb3:Blk w3 G 217 _:=HVD.o.blk.chg hc3 (fun e=>(HVD.o.a2 G e).1 rfl);have f5:=hb3.free (k:=5) (by simp);have c5':=hb3.cell (k:=5) rfl;have HN:=zH hn3;clear hn3 hb3 hown3 hc3 hg3)
      all_goals
       go_wp2_with fail
       go_meet
       case rel=>exact⟨_,HN.o.1,((HB.o.trans ((b_drew wr).mono HB.o.size))).trans HN.o.2⟩
     case rest =>
      obtain⟨sv',HG,HBA⟩:=hcut;clear c5 c3 hod hgb hby;have hbw:=bt HB1.o HBA.o;have e0:=C8 hbw HD0.o;have e1:=C8 hbw HD1.o;have x1:=(HX.o.below HBA.o).cell (k:=1) rfl;have hbl8:=HIV.o.bl;obtain⟨q,hq⟩:=ex_ (thereV texts.length (inputsV role) role s.blocks code[i]);have HAH:=zH (tO code[i] texts.length ct at_ HG.o (by show s.blocks.length≤1000;omega) (by omega));rw[show thereV texts.length (inputsV role) role ({ s with seen:=s.seen++[s.kinds] }:Vs).blocks code[i]=q from hq.symm]at HAH;have HQ:=zH hq;clear hq hbw;go_wp2_with fail;refine HAH.o.mono ?_;rintro e w2 ⟨rfl,hB2⟩;have e0:=C8 hB2 e0;have e1:=C8 hB2 e1;have x1:=C8 hB2 x1;have H2:=zH (HG.o.below hB2);have HB2:=zH (bt HBA.o hB2);clear hB2 HAH
      by_cases hq0:q=0
      ·have q1:((q:Int)==0)=true:=by rw[hq0];rfl
       have HT0:=zH (show thereV texts.length (inputsV role) role s.blocks code[i]=0 by rw[←HQ.o,hq0]);clear hq0;obtain⟨x,hx⟩:=ex_ (aF s.kinds code[i]);have HVV:=zH (rp code[i] HP.o H2.o (by show s.kinds.length≤1000;have:=HIV.o.kl;omega));rw[show aF ({ s with seen:=s.seen++[s.kinds] }:Vs).kinds code[i]=x from hx.symm]at HVV;have HX2:=zH hx;clear hx;go_wp2_with fail;refine HVV.o.mono ?_;rintro e w3 ⟨rfl,hv3,hB3⟩;have HB3:=zH (HB2.o.trans hB3);have hbw:=HB1.o.trans (HB3.o.mono HB1.o.size);have e0:=C8 hbw HD0.o;have e1:=C8 hbw HD1.o;have x1:=(HX.o.below HB3.o).cell (k:=1) rfl;have H3:=zH hv3;clear hv3 hB3 hbw HVV
       by_cases hx0:x.1=0
       ·have q2:((x.1:Int)==0)=true:=by rw[hx0];rfl
        have HV0:=zH (show(aF s.kinds code[i]).1=0 by rw[←HX2.o,hx0]);have HTB:=zH (gy HT0.o);have HMID:=zH (HIV.o.mid (x:=code[i]));rw[←HX2.o]at HMID;obtain⟨r,hr⟩:=ex_ (turnsV i code[i] { s with seen:=s.seen++[s.kinds],kinds:=x.2 });have HTU:=zH (wM i code[i] (H3.o hx0) HMID.o (by omega) HWD.o HTB.o.1);rw[←hr]at HTU
        have HON:=zH (show bI texts.length (inputsV role) role i code[i] s=(r.1,{ r.2 with deep:=max s.deep r.2.kinds.length }) by
         unfold bI;rw[HT0.o,HV0.o,←HX2.o,←hr]
         rfl)
        have HRD:=zH (show r.2.deep=s.deep by rw[hr,lr]);have hkr:r.2.kinds.length≤17:=by rw[hr];exact jZ (fun b hb=>(HIV.o.bs b hb).2) (by show x.2.length≤16;exact HMID.o.kl)
        clear hr hx0;go_wp2_with fail;refine HTU.o.mono ?_;rintro e w4 ⟨rfl,hv4,hB4⟩;have HB4:=zH (HB3.o.trans hB4);clear hB4 HTU e0 e1 x1
        by_cases hr0:r.1=0
        ·have q3:((r.1:Int) != 0)=false:=by rw[hr0];rfl
         obtain⟨bv4,hv4⟩:=hv4 hr0;have c7:=hv4.cell (k:=7) rfl;have c3:=hv4.cell (k:=3) rfl;have H4:=zH hv4;have HONE:=zH (jx.one (nt:=texts.length) (inp:=inputsV role) (role:=role) (x:=code[i]) HIV.o (by rw[HEL.o];exact h0) (by rw[HON.o];exact hr0));have HWD1:=zH (HWD.o.one (nt:=texts.length) (inp:=inputsV role) (role:=role) (i:=i) (x:=code[i]) HIV.o (by rw[HON.o];exact hr0));rw[HON.o]at HONE HWD1;have HR1:=zH (show ep texts.length (inputsV role) role (i+1) (code.drop (i+1)) { r.2 with deep:=max s.deep r.2.kinds.length }=ep texts.length (inputsV role) role 0 code (aS code.length) by rw[←HR.o,HDR.o,mj (by rw[HON.o];exact hr0),HON.o]);have d1:(s.deep:Int)≤16:=by have:=HIV.o.dl;omega
         have d2:(r.2.kinds.length:Int)≤17:=by omega
         rw[HRD.o]at c7;clear hv4 hr0 hkr HR HDR;go_upto_region 16 with fail;refine ba 13 [(4,.exact _ (.int .i64 (s.deep:Int))),(8,.exact _ (.string (bs r.2.kinds)))] (by kernel_rfl) (by kernel_rfl) ?_;simp only[DQ,DW,DO,DX];refine cG ?_
         repeat(refine gE_ (fun w' G hB hS hG=>?_) (fun K hK=>?_);(have v0:=C8 hB c7;have v1:=C8 hB c3;go_simp;exact hG _ (Bel.refl _));refine cO ?_;clear hK K)
         refine dm ?_;intro w5 hB5 hA5;have h5:=H4.o.below hB5;have f7:=h5.free (k:=7) (by decide);have c7':=h5.cell (k:=7) rfl;have hd5:=h5.deep (max s.deep r.2.kinds.length);have HD5:=zH hd5;have HB5:=zH (HB4.o.trans (hB5.mono HB4.o.size));clear h5 hd5 hB5 hA5 c7 c3;rw[show(max (s.deep:Int) (r.2.kinds.length:Int))=((max s.deep r.2.kinds.length:Nat):Int) by omega];go_wp2_with fail;go_roundw
         case rel=>exact⟨i+1,_,_,_,by go_num,by omega,HR1.o,HD5.o.1,HONE.o.1,HWD1.o,HONE.o.2.trans HEL.o,HB5.o.trans HD5.o.2⟩
         case measure=>simp[intOf];omega
        ·have q3:((r.1:Int) != 0)=true:=by rw[bne_iff_ne];omega
         have HE:=zH (HT.o.trans (bE HOK.o (r:=(i,r.1,{ r.2 with deep:=max s.deep r.2.kinds.length })) (by rw[←HR.o,HDR.o,gK (by rw[HON.o];exact hr0),HON.o]) hr0));have HR0:=zH hr0;clear hr0 hv4 hkr HR HDR;go_wp2_with fail;go_ret3;exact⟨⟨G,0,.slice none 0 0,.slice none 0 0,.slice none 0 0,by rw[HE.o];rfl,(fun e=>by rw[HE.o]at e;exact absurd e HR0.o)⟩,HB1.o.trans (HB4.o.mono HB1.o.size)⟩
       ·have q2:((x.1:Int)==0)=false:=by rw[beq_eq_false_iff_ne];omega
        have q3:((x.1:Int) != 0)=true:=by rw[bne_iff_ne];omega
        have HON:=zH (show bI texts.length (inputsV role) role i code[i] s=(x.1,{ s with seen:=s.seen++[s.kinds] }) by unfold bI;rw[HT0.o,←HX2.o,if_neg (by simp),if_pos hx0]);have HE:=zH (HT.o.trans (bE HOK.o (r:=(i,x.1,{ s with seen:=s.seen++[s.kinds] })) (by rw[←HR.o,HDR.o,gK (by rw[HON.o];exact hx0),HON.o]) hx0));have HR0:=zH hx0;clear hx0 HR HDR;go_wp2_with fail;go_ret3;exact⟨⟨G,0,.slice none 0 0,.slice none 0 0,.slice none 0 0,by rw[HE.o];rfl,(fun e=>by rw[HE.o]at e;exact absurd e HR0.o)⟩,HB1.o.trans (HB3.o.mono HB1.o.size)⟩
      ·have q1:((q:Int)==0)=false:=by rw[beq_eq_false_iff_ne];omega
       have q3:((q:Int) != 0)=true:=by rw[bne_iff_ne];omega
       have HON:=zH (show bI texts.length (inputsV role) role i code[i] s=(q,{ s with seen:=s.seen++[s.kinds] }) by unfold bI;rw[←HQ.o,if_pos hq0]);have HE:=zH (HT.o.trans (bE HOK.o (r:=(i,q,{ s with seen:=s.seen++[s.kinds] })) (by rw[←HR.o,HDR.o,gK (by rw[HON.o];exact hq0),HON.o]) hq0));have HR0:=zH hq0;clear hq0 HR HDR;go_wp2_with fail;go_ret3;exact⟨⟨G,0,.slice none 0 0,.slice none 0 0,.slice none 0 0,by rw[HE.o];rfl,(fun e=>by rw[HE.o]at e;exact absurd e HR0.o)⟩,HB1.o.trans (HB2.o.mono HB1.o.size)⟩
    ·obtain rfl:i=code.length:=by omega
     have HR1:=zH (show ep texts.length (inputsV role) role 0 code (aS code.length)=(code.length,overV role s,s) by rw[←HR.o,List.drop_length,kf]);obtain⟨⟨ab,cb,hbv⟩,_,_⟩:=HV.o.slices;subst hbv;have c4:=HV.o.cell (k:=4) rfl;have c3:=HV.o.cell (k:=3) rfl;have k16:(s.kinds.length:Int)≤16:=by have:=HIV.o.kl;omega
     have b8:(s.blocks.length:Int)≤8:=by have:=HIV.o.bl;omega
     have n0:¬(code.length:Int)<(code.length:Int):=by omega
     clear h0 HR
     by_cases hr:role=1
     ·have u1:((role.toNat:Int)==1)=true:=by rw[hr];rfl
      by_cases hb:0<s.blocks.length
      ·exact Fy
      ·have v1:¬(0:Int)<(s.blocks.length:Int):=by omega
       by_cases hk:s.kinds.length=0
       ·have v2:((s.kinds.length:Int) != 0)=false:=by rw[hk];rfl
        have hke:s.kinds=[]:=DD hk;have HO:=zH (show overV role s=0 by unfold overV eY;rw[if_neg hb,if_pos hr,hke];simp);exact Fw
       ·have v2:((s.kinds.length:Int) != 0)=true:=by rw[bne_iff_ne];omega
        have HO:=zH (show overV role s=130 by unfold overV eY;rw[if_neg hb,if_pos hr,if_pos (by simpa using hk)]);exact Fz
     ·have u1:((role.toNat:Int)==1)=false:=aC (by decide) hr
      by_cases hb:0<s.blocks.length
      ·exact Fy
      ·have v1:¬(0:Int)<(s.blocks.length:Int):=by omega
       by_cases hk:s.kinds.length=1
       ·have v2:((s.kinds.length:Int) != 1)=false:=by rw[hk];rfl
        by_cases hke:s.kinds=[84]
        ·have v3:(s.kinds != [84])=false:=by rw[hke];rfl
         have v4:(s.kinds==[84])=true:=by rw[hke];rfl
         have HO:=zH (show overV role s=0 by unfold overV eY;rw[if_neg hb,if_neg hr,if_neg (by rw[hk];decide),if_neg (by rw[hke];simp)]);exact Fw
        ·have v3:(s.kinds != [84])=true:=by simpa using hke
         have v4:(s.kinds==[84])=false:=by simpa using hke
         have HO:=zH (show overV role s=131 by unfold overV eY;rw[if_neg hb,if_neg hr,if_neg (by rw[hk];decide),if_pos hke]);have HE:=zH (HT.o.trans (bE HOK.o (r:=(code.length,131,s)) (by rw[HR1.o,HO.o]) (fun e=>by cases e)));clear hr hb hk hke;exact Fv
       ·have v2:((s.kinds.length:Int) != 1)=true:=by rw[bne_iff_ne];omega
        have HO:=zH (show overV role s=130 by unfold overV eY;rw[if_neg hb,if_neg hr,if_pos (by simpa using hk)]);exact Fz
  ·have HE:=zH (HT.o.trans (fa (texts:=texts) (code:=code) (role:=role) (by simp[hro])))
   have hrf:cY role=false:=by simpa using hro
   rw[hrf]at HRO;clear hmv hro hrf;go_wp2_with (first|(go_at_call 135;refine(HMY.o _ (bt HB1.o HB2.o)).mono ?_;rintro e w3 ⟨rfl,hB3⟩;have HB3:=zH (bt HB2.o hB3);clear hB3)|(go_at_call 136;refine(HRO.o _).mono ?_;rintro e w4 ⟨rfl,rfl⟩));exact Fx
 ·have HE:=zH (HT.o.trans (fa (texts:=texts) (code:=code) (role:=role) (by simp[hmv])))
  have hmf:cK texts code=false:=by simpa using hmv
  rw[hmf]at HMY;clear hmv hmf;go_wp2_with (go_at_call 135;refine(HMY.o _ (bt HB1.o HB2.o)).mono ?_;rintro e w3 ⟨rfl,hB3⟩;have HB3:=zH (bt HB2.o hB3);clear hB3);exact Fx
end
