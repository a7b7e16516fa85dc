/- Lemmas for MapperTells: walks, plain laws. -/
import Derived.Recover
import Derived.Lib.QuietBelow
import Derived.Test.YtckhfapcmjlmbaaGreatDoorMapperTellsK17
import Derived.Test.YtckhfapcmjlmbaaGreatDoorMapperTellsK19
set_option linter.unusedSimpArgs false
set_option linter.unusedVariables false
set_option maxRecDepth 100000
set_option maxHeartbeats 16000000
namespace Go.Proofs.YtckhfapcmjlmbaaGreatDoor
open Go.RowKit Oct
section
attribute [local irreducible] wpG
theorem o4 (J:Nat)(w:World):Calls Tryz.prog 104 #[.pointer (some ⟨J,0,none⟩)] w fun e w'=>(∃ D t,e=.returned (.slice (some ⟨D,0,none⟩) 3 3)∧w.heap.size≤D∧Blk w' D t [.int .u8 1,.pointer (some ⟨J,0,none⟩),.int .u8 2,.pointer (some ⟨J,2,none⟩),.int .u8 3,.pointer (some ⟨J,4,none⟩)])∧Bw_ w w':=by
 go_enter Tryz.func104,Tryz.ntmps104;go_upto_region 1 with fail;go_region;go_wp2_with fail;go_ret;exact⟨⟨w.heap.size,_,rfl,DC _,(Blk.new w _ _).below (b_drew _)⟩,bt (af _ _) (b_drew _)⟩
theorem FH {T:Prop} (h:T:=by
 clear hbad;go_wp2_with fail;go_ret3;rw[HZ.o];exact⟨rfl,HBW.o⟩
):T:=h
theorem FJ {T:Prop} (h:T:=by
 go_wp2_with fail;go_ret3;rw[HZ.o];exact⟨rfl,bt HBW.o HB7.o⟩
):T:=h
theorem im (t1 c1 t2 c2 t3 c3:Value)(j:Jb)(w:World)(h:dH w t1 c1 t2 c2 t3 c3 j):Calls Tryz.prog 61 #[bM t1 c1 t2 c2 t3 c3 j] w fun e w'=>e=.returned (.tuple #[.int .u8 ((br j).1:Int),.int .i64 ((br j).2.1:Int),.int .i64 ((br j).2.2:Int)])∧Bw_ w w':=by
 have HA:=zH (fun w' (hB:Below w.heap.size w w')=>jf t1 c1 j.mt j.mc 1 w' (h.a.below hB));have HB:=zH (fun w' (hB:Below w.heap.size w w')=>jf t2 c2 j.jt j.jc 2 w' (h.b.below hB));have HC:=zH (fun w' (hB:Below w.heap.size w w')=>jf t3 c3 j.tt j.tc 3 w' (h.c.below hB));obtain⟨ta,tc,ca,cc,ta2,tc2,ca2,cc2,ta3,tc3,ca3,cc3,rfl,rfl,rfl,rfl,rfl,rfl⟩:=jo_ h.a.t h.a.c h.b.t h.b.c h.c.t h.c.c;unfold bM;have p0:=h.p0;have p1:=h.p1;have f0:=h.f0;have f1:=h.f1;clear h;obtain⟨P,hP⟩:=ex_ j.parts;obtain⟨Fu,hFu⟩:=ex_ j.fuel;have HP:=zH hP;have HFu:=zH hFu;rw[←hP]at p0 p1⊢;rw[←hFu]at f0 f1⊢;clear hP hFu;go_enter Tryz.func61,Tryz.ntmps61;go_upto_region 1 with fail;obtain⟨W1,hW1⟩:=ex_ (w.alloc (.cells #[.slice ta j.mt.length tc,.slice ca j.mc.length cc,.slice ta2 j.jt.length tc2,.slice ca2 j.jc.length cc2,.slice ta3 j.tt.length tc3,.slice ca3 j.tc.length cc3,.int .i64 P,.int .i64 Fu] 27));have hb1:=ba_ hW1;obtain⟨J,hJ⟩:=ex_ w.heap.size;have hx:=bn_ hJ hW1;obtain⟨x0,x1,x2,x3,x4,x5,x6,x7⟩:=cl8 hx;rw[←hW1,←hJ];have HB1:=zH hb1;have HX:=zH hx;clear hW1 hb1 hx hJ;go_upto_region 2 with fail;obtain⟨H,hH⟩:=ex_ W1.heap.size;obtain⟨W2,hW2⟩:=ex_ (W1.alloc (.cells #[.slice ta j.mt.length tc,.slice ca j.mc.length cc,.slice ta2 j.jt.length tc2,.slice ca2 j.jc.length cc2,.slice ta3 j.tt.length tc3,.slice ca3 j.tc.length cc3,.int .i64 P,.int .i64 Fu] 168));have hb2:=ba_ hW2;have hh:=bn_ hH hW2;rw[←hW2,←hH];have HX1:=zH (HX.o.below hb2);have HH1:=zH hh;have HB0:=zH (bt HB1.o hb2);clear x0 x1 x2 x3 x4 x5 x6 x7 hW2 hH hb2 hh HX
 go_upto_region 3 with(first|(go_at_call 104;refine(o4 H W2).mono ?_;rintro e w3 ⟨⟨D,t,rfl,hDl,hd⟩,hB3⟩;have HX2:=zH (HX1.o.below hB3);have HH:=zH (HH1.o.below hB3);have HD:=zH hd;have HB2:=zH (bt HB0.o hB3);clear hDl hd hB3)|fail)
 go_loopw [16] (fun t wr=>∃ k:Nat,k≤3∧t=.int .i64 k∧Hid (Below w3.heap.size w3 wr)∧Hid ((1≤k→e1J j=0)∧(2≤k→e2J j=0)∧(3≤k→e3J j=0))) (fun t _=>3-(intOf t).toNat)
 case atStart=>exact⟨0,by omega,rfl,DF _ _,fun h=>by omega,fun h=>by omega,fun h=>by omega⟩
 case round =>
  obtain⟨k,hk,rfl,HBR,HEK⟩:=hrel;have hd:=HD.o.below HBR.o;have HBW:=zH (bt HB2.o HBR.o);rcases(by omega:k=0∨k=1∨k=2∨k=3) with rfl|rfl|rfl|rfl
  ·obtain⟨d0,d1⟩:=cl2 hd
   obtain⟨ec,hec⟩:=ex_ ((aq j.mt j.mc 1).2.1);obtain⟨ac,hac⟩:=ex_ ((aq j.mt j.mc 1).1);have HEQ:=zH hec;have HAQ:=zH hac;clear hec hac;go_wp2_with fail;go_upto_region 5 with fail;obtain⟨T,hT⟩:=ex_ wr.heap.size;obtain⟨U,hU⟩:=ex_ (wr.alloc (.cells #[.int .u8 1,.pointer (some ⟨H,0,none⟩)] 172));have hbU:=ba_ hU;have hu:=bn_ hT hU;have hhU:=(HH.o.below HBR.o).below hbU;obtain⟨u0,u1⟩:=cl2 hu;obtain⟨v0,v1⟩:=cl2 hhU;have hTl:T<U.heap.size:=aD u0;have hHl:H<U.heap.size:=aD v0;have HG:=zH (HA.o U.drew (bt (bt HBW.o hbU) (b_drew U)));have HBU:=zH hbU;rw[←hU,←hT];clear hd d0 d1 hU hT hbU hu hhU
   by_cases hz:ec=0
   ·have t1:((ec:Int) != 0)=false:=by rw[hz];rfl
    have HZ:=zH (show e1J j=0 by rw[←hz,HEQ.o];rfl);clear hz;go_region_law (refine aL rfl 105 #[.agg #[.slice ta j.mt.length tc,.slice ca j.mc.length cc],.int .u8 1] (by go_simp) HG.o ?_;rintro e w7 ⟨rfl,hB7⟩;rw[←HEQ.o,←HAQ.o];have u0:=C8 (bt (b_drew U) hB7) u0;have HB7:=zH (bt HBU.o (bt (b_drew U) hB7));clear hB7)
    all_goals
     go_wp2_with fail;go_roundw
     case rel=>exact⟨1,by omega,rfl,bt HBR.o HB7.o,fun _=>HZ.o,fun h=>by omega,fun h=>by omega⟩
     case measure=>decide
   ·have t1:((ec:Int) != 0)=true:=by rw[bne_iff_ne];omega
    have HZ:=zH (show br j=(1,ac,ec) by rw[HEQ.o,HAQ.o];exact sC (fun h=>hz (by rw[HEQ.o];exact h)));clear hz;go_region_law (refine aL rfl 105 #[.agg #[.slice ta j.mt.length tc,.slice ca j.mc.length cc],.int .u8 1] (by go_simp) HG.o ?_;rintro e w7 ⟨rfl,hB7⟩;rw[←HEQ.o,←HAQ.o];have u0:=C8 (bt (b_drew U) hB7) u0;have HB7:=zH (bt HBU.o (bt (b_drew U) hB7));clear hB7)
    all_goals
     exact FJ
  ·have d0:=hd.cell (k:=2) rfl
   have d1:=hd.cell (k:=3) rfl;obtain⟨ec,hec⟩:=ex_ ((aq j.jt j.jc 2).2.1);obtain⟨ac,hac⟩:=ex_ ((aq j.jt j.jc 2).1);have HEQ:=zH hec;have HAQ:=zH hac;clear hec hac;go_wp2_with fail;go_upto_region 5 with fail;obtain⟨T,hT⟩:=ex_ wr.heap.size;obtain⟨U,hU⟩:=ex_ (wr.alloc (.cells #[.int .u8 2,.pointer (some ⟨H,2,none⟩)] 172));have hbU:=ba_ hU;have hu:=bn_ hT hU;have hhU:=(HH.o.below HBR.o).below hbU;obtain⟨u0,u1⟩:=cl2 hu;have v0:=hhU.cell (k:=2) rfl;have v1:=hhU.cell (k:=3) rfl;have hTl:T<U.heap.size:=aD u0;have hHl:H<U.heap.size:=aD v0;have HG:=zH (HB.o U.drew (bt (bt HBW.o hbU) (b_drew U)));have HBU:=zH hbU;rw[←hU,←hT];clear hd d0 d1 hU hT hbU hu hhU
   by_cases hz:ec=0
   ·have t1:((ec:Int) != 0)=false:=by rw[hz];rfl
    have HZ:=zH (show e2J j=0 by rw[←hz,HEQ.o];rfl);clear hz;go_region_law (refine aL rfl 105 #[.agg #[.slice ta2 j.jt.length tc2,.slice ca2 j.jc.length cc2],.int .u8 2] (by go_simp) HG.o ?_;rintro e w7 ⟨rfl,hB7⟩;rw[←HEQ.o,←HAQ.o];have u0:=C8 (bt (b_drew U) hB7) u0;have HB7:=zH (bt HBU.o (bt (b_drew U) hB7));clear hB7)
    all_goals
     go_wp2_with fail;go_roundw
     case rel=>exact⟨2,by omega,rfl,bt HBR.o HB7.o,fun _=>HEK.o.1 (by omega),fun _=>HZ.o,fun h=>by omega⟩
     case measure=>decide
   ·have t1:((ec:Int) != 0)=true:=by rw[bne_iff_ne];omega
    have HZ:=zH (show br j=(2,ac,ec) by rw[HEQ.o,HAQ.o];exact sB (HEK.o.1 (by omega)) (fun h=>hz (by rw[HEQ.o];exact h)));clear hz;go_region_law (refine aL rfl 105 #[.agg #[.slice ta2 j.jt.length tc2,.slice ca2 j.jc.length cc2],.int .u8 2] (by go_simp) HG.o ?_;rintro e w7 ⟨rfl,hB7⟩;rw[←HEQ.o,←HAQ.o];have u0:=C8 (bt (b_drew U) hB7) u0;have HB7:=zH (bt HBU.o (bt (b_drew U) hB7));clear hB7)
    all_goals
     exact FJ
  ·have d0:=hd.cell (k:=4) rfl
   have d1:=hd.cell (k:=5) rfl;obtain⟨ec,hec⟩:=ex_ ((aq j.tt j.tc 3).2.1);obtain⟨ac,hac⟩:=ex_ ((aq j.tt j.tc 3).1);have HEQ:=zH hec;have HAQ:=zH hac;clear hec hac;go_wp2_with fail;go_upto_region 5 with fail;obtain⟨T,hT⟩:=ex_ wr.heap.size;obtain⟨U,hU⟩:=ex_ (wr.alloc (.cells #[.int .u8 3,.pointer (some ⟨H,4,none⟩)] 172));have hbU:=ba_ hU;have hu:=bn_ hT hU;have hhU:=(HH.o.below HBR.o).below hbU;obtain⟨u0,u1⟩:=cl2 hu;have v0:=hhU.cell (k:=4) rfl;have v1:=hhU.cell (k:=5) rfl;have hTl:T<U.heap.size:=aD u0;have hHl:H<U.heap.size:=aD v0;have HG:=zH (HC.o U.drew (bt (bt HBW.o hbU) (b_drew U)));have HBU:=zH hbU;rw[←hU,←hT];clear hd d0 d1 hU hT hbU hu hhU
   by_cases hz:ec=0
   ·have t1:((ec:Int) != 0)=false:=by rw[hz];rfl
    have HZ:=zH (show e3J j=0 by rw[←hz,HEQ.o];rfl);clear hz;go_region_law (refine aL rfl 105 #[.agg #[.slice ta3 j.tt.length tc3,.slice ca3 j.tc.length cc3],.int .u8 3] (by go_simp) HG.o ?_;rintro e w7 ⟨rfl,hB7⟩;rw[←HEQ.o,←HAQ.o];have u0:=C8 (bt (b_drew U) hB7) u0;have HB7:=zH (bt HBU.o (bt (b_drew U) hB7));clear hB7)
    all_goals
     go_wp2_with fail;go_roundw
     case rel=>exact⟨3,by omega,rfl,bt HBR.o HB7.o,fun _=>HEK.o.1 (by omega),fun _=>HEK.o.2.1 (by omega),fun _=>HZ.o⟩
     case measure=>decide
   ·have t1:((ec:Int) != 0)=true:=by rw[bne_iff_ne];omega
    have HZ:=zH (show br j=(3,ac,ec) by rw[HEQ.o,HAQ.o];exact sA (HEK.o.1 (by omega)) (HEK.o.2.1 (by omega)) (fun h=>hz (by rw[HEQ.o];exact h)));clear hz;go_region_law (refine aL rfl 105 #[.agg #[.slice ta3 j.tt.length tc3,.slice ca3 j.tc.length cc3],.int .u8 3] (by go_simp) HG.o ?_;rintro e w7 ⟨rfl,hB7⟩;rw[←HEQ.o,←HAQ.o];have u0:=C8 (bt (b_drew U) hB7) u0;have HB7:=zH (bt HBU.o (bt (b_drew U) hB7));clear hB7)
    all_goals
     exact FJ
  ·have hx:=HX2.o.below HBR.o
   have x6:=hx.cell (k:=6) rfl;have x7:=hx.cell (k:=7) rfl;have H4:=zH (sz (HEK.o.1 (by omega)) (HEK.o.2.1 (by omega)) (HEK.o.2.2 (by omega)));rw[←HP.o,←HFu.o]at H4;clear hx hd;have hbad:(P<1∨16<P∨Fu<1∨65536<Fu)→Hid (br j=(0,0,2)):=fun hc=>H4.o.trans (if_pos hc)
   by_cases q1:P<1
   ·have HZ:=hbad (.inl q1)
    exact FH
   ·by_cases q2:16<P
    ·have HZ:=hbad (.inr (.inl q2))
     exact FH
    ·by_cases q3:Fu<1
     ·have HZ:=hbad (.inr (.inr (.inl q3)))
      exact FH
     ·by_cases q4:65536<Fu
      ·have HZ:=hbad (.inr (.inr (.inr q4)))
       exact FH
      ·have HZ:=zH (show br j=(0,0,0) from H4.o.trans (if_neg (by rintro (h|h|h|h)<;>omega)))
       exact FH
theorem r5 (t1 c1 t2 c2 t3 c3:Value)(j:Jb)(w:World)(h:dH w t1 c1 t2 c2 t3 c3 j):Calls Tryz.prog 125 #[bM t1 c1 t2 c2 t3 c3 j] w fun e w'=>e=.returned (.bool (bJ j))∧Bw_ w w':=by
 have HCK:=zH (fun w' (hB:Below w.heap.size w w')=>im t1 c1 t2 c2 t3 c3 j w' (h.below hB));obtain⟨ta,tc,ca,cc,ta2,tc2,ca2,cc2,ta3,tc3,ca3,cc3,rfl,rfl,rfl,rfl,rfl,rfl⟩:=jo_ h.a.t h.a.c h.b.t h.b.c h.c.t h.c.c;unfold bM at HCK⊢;clear h;obtain⟨W1,hW1⟩:=ex_ (w.alloc (.cells #[.slice ta j.mt.length tc,.slice ca j.mc.length cc,.slice ta2 j.jt.length tc2,.slice ca2 j.jc.length cc2,.slice ta3 j.tt.length tc3,.slice ca3 j.tc.length cc3,.int .i64 j.parts,.int .i64 j.fuel] 27));have hb1:=ba_ hW1;obtain⟨J,hJ⟩:=ex_ w.heap.size;have hx:=bn_ hJ hW1;obtain⟨x0,x1,x2,x3,x4,x5,x6,x7⟩:=cl8 hx;have HB1:=zH hb1;go_enter Tryz.func125,Tryz.ntmps125;go_upto_region 1 with fail;rw[←hW1,←hJ];obtain⟨m,hm⟩:=ex_ (bJ j);have hmq:(((br j).2.2:Int)==0)=m:=by rw[hm];unfold bJ;cases h:(br j).2.2<;>rfl
 have HM:=zH hm;clear hW1 hJ hb1 hx hm;go_wp2_with (go_at_call 61;refine(HCK.o _ HB1.o).mono ?_;rintro e w3 ⟨rfl,hB3⟩;have HB3:=zH hB3;clear hB3);go_ret;exact⟨by rw[←HM.o];rfl,bt HB1.o HB3.o⟩
end
section
abbrev b8 (n:Nat):UInt8:=UInt8.ofNat n
theorem zL {n:Nat}(h:n<256):(b8 n).toNat=n:=by unfold b8;rw[UInt8.toNat_ofNat'];omega
def gO (t:LL_):LU_:=t.flatMap (fun s=>b8 s.length::s)
def jA (c:List VI):LU_:=c.flatMap (fun x=>[x.1,x.2])
def gd (t:LL_)(c:List VI):LU_:=b8 t.length::(gO t++(b8 c.length::b8 (c.length / 256)::jA c))
theorem nk {t:LL_}{c:List VI}(h:cK t c=true):t.length≤16∧c.length≤256∧∀ s∈t,s.length≤64:=by
 unfold cK at h;simp only[DS,decide_eq_true_eq,List.all_eq_true]at h;exact⟨h.1.1.1,h.1.1.2,h.1.2⟩
end
section
attribute [local irreducible] wpG
def cP:Rec UInt8 where
 cell c:=[.int .u8 (c.toNat:Int)]
 e:=5
 n:=1
 bytes:=1
 z:=.int .u8 0
 len:=fun _=>rfl
 one:=by intro x u h;simp at h;subst h;rfl
 info:=by kernel_rfl
 zs:=rfl
 pos:=by decide
 bpos:=by decide
theorem yC:∀ l:LU_,Lib.strCells (bs l)=cP.cells l:=by
 intro l;unfold Lib.strCells;rw[show(bs l).data.toList=l by simp[bs]]
 induction l with
 | nil=>rfl
 | cons x l ih=>rw[List.map_cons,ih];rfl
theorem ri (w:World)(l:LU_)(hl:l.length≤1000):cP.Own (w.alloc (.cells (cP.cells l).toArray cP.e)) w.heap.size (.slice (some ⟨w.heap.size,0,none⟩) l.length l.length) l:=by
 refine⟨by rw[Rec.cells_length],.inr ⟨w.heap.size,l.length,(cP.cells l).toArray,rfl,DC _,World.alloc_heap_new w _,DC _,DG hl (by decide),?_,?_⟩⟩
 ·rw[List.size_toArray,Rec.cells_length]
 ·show(cP.cells l).take (l.length*cP.n)=_
  rw[DB (by rw[Rec.cells_length];exact DC _)]
theorem ve {ops:Array Oper}{rest:List Oper}{o:Oper}{a:Act}{Q:Exit→Act→World→Prop}(w:World)(hgd:o.guard=none)(s x:Operand)(t u:TypeId)(ho:o.op=.call { callee:=.builtin .append,args:=#[s,x],argTypes:=#[t,u] })(ht:Tryz.prog.underlying t=some (.slice cP.e))(hu:Tryz.prog.underlying u=some .string)(bZ:Nat)(v:Value)(l:LU_)(hown:cP.Own w bZ v l)(hs:a.eval s=v)(y:LU_)(hx:a.eval x=.string (bs y))(hlen:l.length+y.length≤140737488355328)(hbase:bZ≤w.heap.size)(h:∀ A C w',cP.Own w' bZ (.slice A (l.length+y.length) C) (l++y)→Chg (fun k=>v.ownBlock=some k) w w'→wpList Tryz.prog ops Q rest (a.put o.dst (.slice A (l.length+y.length) C)) w'):wpList Tryz.prog ops Q (o::rest) a w:=by
 obtain⟨i,hi,hz,hi1,hi2⟩:=info_parts cP.info;refine Lib.wpList_append_own_string _ hgd s x t u ho bZ cP.e i ht hu hi hz hi1 hi2 v l.length (cP.cells l) hs hown (bs y) hx (by rw[bA];exact DG hlen (by decide)) (by rw[bA];exact hlen) hbase ?_;intro v' w' h2 h3 _;rw[bA,yC]at h2;have h2':cP.Own w' bZ v' (l++y):=by unfold Rec.Own;rw[cP.cells_append,DL];exact h2
 have hB:Below bZ w w':=(DF bZ w).grown h3 hbase (fun k hk=>(Rec.Own.ltV hown k hk).1);obtain⟨A,C,rfl⟩:=ap h2;exact h A C w' h2' ⟨hB.os,hB.tape,hB.output,hB.size,fun j hj hne=>h3.block j hj (fun e=>hne e.symm)⟩
theorem nV {n:Nat}(h:n≤255):((b8 n).toNat:Int)=(n:Int)∧IntKind.u8.wrap (n:Int)=(n:Int)∧(n:Int)%256=(n:Int):=by
 refine⟨by rw[zL (by omega)],?_,by omega⟩;simp[IntKind.wrap,IntKind.bits,IntKind.signed];omega
theorem mP {t:LL_}{k:Nat}(h:k<t.length):gO (t.take (k+1))=gO (t.take k)++(b8 t[k].length::t[k]):=by
 unfold gO;rw[Dz h,List.flatMap_append];simp
theorem mS {c:List VI}{k:Nat}(h:k<c.length):jA (c.take (k+1))=jA (c.take k)++[c[k].1,c[k].2]:=by
 unfold jA;rw[Dz h,List.flatMap_append];simp
theorem wO (t:LL_)(h:∀ s∈t,s.length≤64):(gO t).length≤65*t.length:=by
 induction t with
 | nil=>simp[gO]
 | cons s t ih =>
  have hs:=h s (by simp);have:=ih (fun x hx=>h x (by simp[hx]));unfold gO at this⊢;rw[List.flatMap_cons,DL,Du,Du];omega
theorem wP (c:List VI):(jA c).length=2*c.length:=by
 induction c with
 | nil=>rfl
 | cons x c ih =>
  unfold jA at ih⊢;rw[List.flatMap_cons,DL,ih,Du];simp;omega
theorem rj (w:World){n:Nat}(h:n≤255)(e:TypeId):aJ (w.alloc (.cells #[.int .u8 (n:Int)] e)) (.slice (some ⟨w.heap.size,0,none⟩) 1 1) 1 (cP.cell (b8 n)):=by
 have hc:cP.cell (b8 n)=[.int .u8 (n:Int)]:=by show [Value.int .u8 ((b8 n).toNat:Int)]=_;rw[(nV h).1]
 have:=(Rec.Row.new (R:=cP) w [b8 n] e).1;rw[show cP.cells [b8 n]=[.int .u8 (n:Int)] from by show cP.cell _++[]=_;rw[hc];rfl]at this;rw[hc];exact this
theorem rh (w:World)(x y:UInt8)(e:TypeId):cP.Row (w.alloc (.cells #[.int .u8 (x.toNat:Int),.int .u8 (y.toNat:Int)] e)) (.slice (some ⟨w.heap.size,0,none⟩) 2 2) [x,y]:=Rec.Row.new (R:=cP) w [x,y] e
theorem oT (w:World){n:Nat}(h:n≤65535)(e:TypeId):cP.Row (w.alloc (.cells #[.int .u8 ((n:Int)%256),.int .u8 ((n:Int) / 256)] e)) (.slice (some ⟨w.heap.size,0,none⟩) 2 2) [b8 n,b8 (n / 256)]:=by
 have h1:((b8 n).toNat:Int)=(n:Int)%256:=by unfold b8;rw[UInt8.toNat_ofNat'];omega
 have h2:((b8 (n / 256)).toNat:Int)=(n:Int) / 256:=by unfold b8;rw[UInt8.toNat_ofNat'];omega
 have:=rh w (b8 n) (b8 (n / 256)) e;rw[h1,h2]at this;exact this
theorem mM:∀ l:LU_,cP.cells l=aM l
 | []=>rfl
 | x::l=>by rw[Rec.cells,mM l];rfl
theorem oU {w:World}{bZ:Nat}{v:Value}{l:LU_}(h:cP.Own w bZ v l):(convert 132 9 v).run Tryz.prog w=.ok (.string (bs l)) w:=by
 refine nL _ _ 5 Tryz.underlying132 Tryz.underlying5 Tryz.underlying9 w bZ v l.length l ?_;have:w.ownsRow bZ cP.e cP.n v l.length (cP.cells l):=h;rw[mM]at this;exact this
def rC (t:LL_)(c:List VI):Value:=if cK t c=true then .tuple #[.string (bs (gd t c)),.int .i64 0] else .tuple #[.string (bs []),.int .i64 2]
theorem Gq {T:Prop} (h:T:=by
 refine⟨⟨k+1,A2,C2,(l++[b8 texts[k].length])++texts[k],?_,by go_num,by omega,?_,?_,?_,HM.o.2⟩,by simp[intOf];omega⟩
 ·rw[DL,DL,Ea]
 ·rw[DL,DL,Ea];omega
 ·unfold Hid
  rw[HT.o,HL.o,DK]
  rfl
 ·have:=HM.o.1
  rw[←DL]at this;exact this
):T:=h
theorem Gx {T:Prop} (h:T:=by
 rw[show cP.cells [b8 texts.length]=[.int .u8 (texts.length:Int)] from by show [Value.int .u8 ((b8 texts.length).toNat:Int)]=_;rw[q1]]at h;rw[hw3];exact h
):T:=h
theorem qq (tv cv:Value)(texts:LL_)(code:List VI)(w:World)(ht:aK.Row w tv texts)(hc:bp.Row w cv code)(hlt:texts.length≤140737488355328)(hlc:code.length≤140737488355328)(hm:∀ s∈texts,s.length≤140737488355328):Calls Tryz.prog 127 #[.agg #[tv,cv]] w fun e w'=>e=.returned (rC texts code)∧Bw_ w w':=by
 have HCK:=zH (fun w' (hB:Below w.heap.size w w')=>nX tv cv texts code w' (ht.below hB) (hc.below hB) hlt hlc hm);obtain⟨at_,ct,rfl,-,hct⟩:=an ht;obtain⟨ac,cc,rfl,-,hcc⟩:=ag hc;have HCT:=zH hct;have HCC:=zH hcc;obtain⟨W1,hW1⟩:=ex_ (w.alloc (.cells #[.slice at_ texts.length ct,.slice ac code.length cc] 25));have hb1:=ba_ hW1;have hx:=bm_ hW1;obtain⟨x0,x1⟩:=cl2 hx;have HB1:=zH hb1;have HX:=zH hx;clear ht hc hct hcc hb1 hx hm
 by_cases hmv:cK texts code=true
 ·obtain⟨h16,h256,h64⟩:=nk hmv
  rw[if_pos hmv]at HCK;have HR:=zH (show rC texts code=.tuple #[.string (bs (gd texts code)),.int .i64 0] by unfold rC;rw[if_pos hmv]);have H64:=zH h64;clear hmv h64;go_enter Tryz.func127,Tryz.ntmps127;go_upto_region 1 with fail;rw[←hW1];clear hW1;go_wp2_with fail;refine(HCK.o _ HB1.o).mono ?_;rintro e w2 ⟨rfl,hB⟩;have HB2:=zH (bt HB1.o hB);have HX2:=zH (HX.o.below hB);clear hB x0 x1;have x0:=HX2.o.cell (k:=0) rfl;obtain⟨q1,q2,q3⟩:=nV (n:=texts.length) (by omega);go_upto_region 5 with fail;obtain⟨w3,hw3⟩:=ex_ (w2.alloc (.cells #[.int .u8 (texts.length:Int)] 5));have hb3:=ba_ hw3
  have ho3:cP.Own w3 w2.heap.size (.slice (some ⟨w2.heap.size,0,none⟩) 1 1) [b8 texts.length]:=by
   have h:=ri w2 [b8 texts.length] (by simp);exact Gx
  have x0:=(HX2.o.below hb3).cell (k:=0) rfl;rw[←hw3];have HB3:=zH (bt HB2.o hb3);have HO3:=zH ho3;have HC3:=zH hb3;have hsz:w2.heap.size≤w3.heap.size:=hb3.size;have hsz0:w.heap.size≤w2.heap.size:=HB2.o.size;clear hw3 hb3 ho3 q1 q2 q3;go_wp2_with fail;clear x0
  go_loopw [5,23] (fun vb vi wr=>∃ (k:Nat) (A:Option Addr) (C:Nat) (l:LU_),vb=.slice A l.length C∧vi=.int .i64 (k:Int)∧k≤texts.length∧l.length≤1+65*k∧Hid (l=b8 texts.length::gO (texts.take k))∧Hid (cP.Own wr w2.heap.size (.slice A l.length C) l)∧Hid (Below w2.heap.size w2 wr)) (fun _ vi _=>texts.length-(intOf vi).toNat)
  case atStart=>exact⟨0,_,_,[b8 texts.length],rfl,rfl,D6 _,by simp,by unfold Hid;simp[gO],HO3.o,HC3.o⟩
  case round =>
   obtain⟨k,A,C,l,rfl,rfl,hk,hl,HL,HO,HB⟩:=hrel
   by_cases h0:k<texts.length
   ·obtain⟨b,off,rfl,d0⟩:=HCT.o k h0
    have d0:=C8 (bt HB2.o HB.o) d0;have kk0:=nn_ k;have kk1:(k:Int)<(texts.length:Int):=by omega
    have ht64:=H64.o texts[k] (DY h0);obtain⟨q1,q2,q3⟩:=nV (n:=texts[k].length) (by omega);have HT:=zH (mP h0);have hbw:w2.heap.size≤wr.heap.size:=HB.o.size;clear q1;go_wp2_with (first|(at_builtin;refine cP.append1V _ (b8 texts[k].length) rfl _ _ 132 rfl Tryz.underlying132 w2.heap.size _ l (HO.o.below (af _ _)) rfl _ rfl (rj wr (by omega) _) (by show(l.length+1)*1≤_;omega) (DG hbw (af _ _).size) ?_;intro g gc wn hon hcn _;have HN:=zH (And.intro hon (And.intro hcn ((HB.o.trans ((af wr (.cells #[.int .u8 (texts[k].length:Int)] 5)).mono hbw)).trans (hcn.below (fun j hj=>(Rec.Own.ltV HO.o j hj).1) (DG hbw (af _ _).size)))));clear hon hcn)|(at_builtin;refine ve _ rfl _ _ 132 9 rfl Tryz.underlying132 Tryz.underlying9 w2.heap.size _ (l++[b8 texts[k].length]) HN.o.1 rfl texts[k] rfl (by rw[DL,Ea];omega) HN.o.2.2.size ?_;intro A2 C2 wm hom hcm;have HM:=zH (And.intro hom (HN.o.2.2.trans (hcm.below (fun j hj=>(Rec.Own.ltV HN.o.1 j hj).1) HN.o.2.2.size)));clear hom hcm));exact Gq
   ·obtain rfl:k=texts.length:=by omega
    have hl2:=HL.o;rw[List.take_length]at hl2;have HL2:=zH hl2;have x1:=(HX2.o.below HB.o).cell (k:=1) rfl;have e0:¬(texts.length:Int)<(texts.length:Int):=by omega
    have hbw:w2.heap.size≤wr.heap.size:=HB.o.size;have hl3:l.length≤1041:=by omega
    have lc1:(code.length:Int)≤256:=by omega
    clear hl2 h0 HL;go_upto_region 11 with(at_builtin;refine cP.appendNV _ rfl _ _ 132 rfl Tryz.underlying132 w2.heap.size _ l (HO.o.below (af _ _)) rfl _ [b8 code.length,b8 (code.length / 256)] (oT wr (by omega) _) rfl (by show(l.length+2)*1≤_;omega) (DG hbw (af _ _).size) ?_;intro A3 C3 wn hon hcn;have HN:=zH (And.intro hon ((HB.o.trans ((af wr (.cells #[.int .u8 ((code.length:Int)%256),.int .u8 ((code.length:Int) / 256)] 5)).mono hbw)).trans (hcn.below (fun j hj=>(Rec.Own.ltV HO.o j hj).1) (DG hbw (af _ _).size))));clear hon hcn);obtain⟨l2,hl2⟩:=ex_ (l++[b8 code.length,b8 (code.length / 256)]);have hlen2:l2.length=l.length+2:=by rw[hl2,DL];rfl
    rw[←hl2]at HN;rw[←hlen2];have hl2l:l2.length≤1043:=by rw[hl2,DL];simp;omega
    have HLL:=zH (show l2=b8 texts.length::(gO texts++[b8 code.length,b8 (code.length / 256)]) by rw[hl2,HL2.o];rfl);have HN1:=zH HN.o.1;have HN2:=zH HN.o.2;have x1:=(HX2.o.below HN2.o).cell (k:=1) rfl;clear hl2 hlen2 HN HO HB hbw hl hl3 HL2 e0;go_wp2_with fail;clear x1
    go_loopw [5,51] (fun vb vi wr=>∃ (k:Nat) (A:Option Addr) (C:Nat) (l:LU_),vb=.slice A l.length C∧vi=.int .i64 (k:Int)∧k≤code.length∧l.length≤1043+2*k∧Hid (l=l2++jA (code.take k))∧Hid (cP.Own wr w2.heap.size (.slice A l.length C) l)∧Hid (Below w2.heap.size w2 wr)) (fun _ vi _=>code.length-(intOf vi).toNat)
    case atStart=>exact⟨0,_,_,l2,rfl,rfl,D6 _,by omega,by unfold Hid;simp[jA],HN1.o,HN2.o⟩
    case round =>
     obtain⟨k,A,C,l,rfl,rfl,hk,hl,HL,HO,HB⟩:=hrel;have hbw:w2.heap.size≤wr.heap.size:=HB.o.size
     by_cases h0:k<code.length
     ·obtain⟨b,off,rfl,d0,d1⟩:=HCC.o k h0
      have d0:=C8 (bt HB2.o HB.o) d0;have d1:=C8 (bt HB2.o HB.o) d1;have kk0:=nn_ k;have kk1:(k:Int)<(code.length:Int):=by omega
      have HT:=zH (mS h0);go_upto_region 14 with fail;obtain⟨wa,hwa⟩:=ex_ (wr.alloc (.cells #[.int .u8 (code[k].1.toNat:Int),.int .u8 (code[k].2.toNat:Int)] 127));have hba:=ba_ hwa;have hblk:=bm_ hwa;rw[←hwa];obtain⟨g0,g1⟩:=cl2 hblk;have HOA:=zH (HO.o.below hba);have HBA:=zH (HB.o.trans (hba.mono hbw));have hbwa:w2.heap.size≤wa.heap.size:=HBA.o.size;clear hwa hba hblk d0 d1 HO HB;go_wp2_with (at_builtin;refine cP.appendNV _ rfl _ _ 132 rfl Tryz.underlying132 w2.heap.size _ l (HOA.o.below (af _ _)) rfl _ [code[k].1,code[k].2] (rh wa _ _ _) rfl (by show(l.length+2)*1≤_;omega) (DG hbwa (af _ _).size) ?_;intro A3 C3 wn hon hcn;have HN:=zH (And.intro hon ((HBA.o.trans ((af wa (.cells #[.int .u8 (code[k].1.toNat:Int),.int .u8 (code[k].2.toNat:Int)] 5)).mono hbwa)).trans (hcn.below (fun j hj=>(Rec.Own.ltV HOA.o j hj).1) (DG hbwa (af _ _).size))));clear hon hcn);refine⟨⟨k+1,A3,C3,l++[code[k].1,code[k].2],?_,by go_num,by omega,?_,?_,HN.o.1,HN.o.2⟩,by simp[intOf];omega⟩
      ·rw[DL];rfl
      ·rw[DL];simp;omega
      ·unfold Hid
       rw[HT.o,HL.o,DK]
     ·obtain rfl:k=code.length:=by omega
      have hcv:=oU HO.o;have hfl:=HL.o;rw[List.take_length,HLL.o]at hfl;have HF:=zH (show l=gd texts code by rw[hfl];unfold gd;simp);have e0:¬(code.length:Int)<(code.length:Int):=by omega
      clear hfl h0;go_wp2_with fail;go_ret2;exact⟨by rw[HR.o,←HF.o];rfl,bt HB2.o HB.o⟩
 ·rw[if_neg hmv]at HCK
  have HR:=zH (show rC texts code=.tuple #[.string (bs []),.int .i64 2] by unfold rC;rw[if_neg hmv]);clear hmv;go_enter Tryz.func127,Tryz.ntmps127;go_upto_region 1 with fail;rw[←hW1];clear hW1;go_wp2_with fail;refine(HCK.o _ HB1.o).mono ?_;rintro e w2 ⟨rfl,hB⟩;have HB2:=zH (bt HB1.o hB);clear hB x0 x1;go_wp2_with fail;go_ret2;exact⟨by rw[HR.o];rfl,HB2.o⟩
theorem kJ (n:Nat)(w:World)(hn:n<4294967296):Calls Tryz.prog 126 #[.int .i64 n] w fun e w'=>e=.returned (.string (bs (num n 4)))∧Bw_ w w':=by
 have hp:=tP (n:Int) 4 (by decide) (by decide) (by simpa using hn)
 have HP:=zH (show Calls Tryz.prog 80 #[.int .u64 (n:Int),.int .i64 4] w fun e w'=>e=.returned (.tuple #[.string (bs (num n 4)),.int .i64 0])∧Below w.heap.size w w' by
  have h:=pE (n:Int) 4 w (by omega) (by omega);rw[hp]at h;simpa using h)
 have aw:IntKind.u64.wrap (n:Int)=(n:Int):=by simp[IntKind.wrap,IntKind.bits,IntKind.signed];omega
 clear hp;go_enter Tryz.func126,Tryz.ntmps126;go_wp2_with (go_at_call 80;refine HP.o.mono ?_;rintro e w1 ⟨rfl,hB1⟩;have HB1:=zH hB1;clear hB1);go_ret;exact⟨rfl,HB1.o⟩
def fd (t:LL_)(c:List VI):LU_:=num (gd t c).length 4++gd t c
def fV (j:Jb):LU_:=UInt8.ofNat j.parts.toNat::num j.fuel.toNat 4
def gD (j:Jb):LU_:=fV j++fd j.mt j.mc++fd j.jt j.jc++fd j.tt j.tc
theorem dr {t:LL_}{c:List VI}(h:cK t c=true):(gd t c).length≤2000:=by
 unfold cK at h;simp only[DS,decide_eq_true_eq,List.all_eq_true]at h;obtain⟨⟨⟨h1,h2⟩,h3⟩,-⟩:=h;have e1:=wO t (fun s hs=>h3 s hs);have e2:=wP c;unfold gd;simp only[Du,DL];omega
theorem nn {j:Jb}(h:bJ j=true):cK j.mt j.mc=true∧cK j.jt j.jc=true∧cK j.tt j.tc=true:=by
 obtain⟨⟨h1,h2,h3⟩,-⟩:=mn h;exact⟨(dU h1).1,(dU h2).1,(dU h3).1⟩
theorem fB {t:LL_}{c:List VI}(h:cK t c=true):(fd t c).length≤2004:=by
 have:=dr h;unfold fd;rw[DL,aX];omega
theorem uR {w:World}{a:Option Addr}{c:Nat}{x:UInt8}(h:aJ w (.slice a 1 c) 1 [.int .u8 (x.toNat:Int)]):(convert 132 9 (.slice a 1 c)).run Tryz.prog w=.ok (.string (bs [x])) w:=by
 obtain⟨a',cap,hv,_,hc⟩:=h;injection hv with e1 _ e3
 subst e1 e3;obtain⟨b,off,rfl,h0⟩:=hc 0 _ rfl;refine run_convert_bytes_back w 132 9 5 ⟨b,off,none⟩ c [x] Tryz.underlying132 Tryz.underlying5 Tryz.underlying9 (fun j hj=>?_);obtain rfl:j=0:=by simp at hj;omega
 simpa[Addr.add] using h0

def rB (j:Jb):Value:=if bJ j=true then .tuple #[.string (bs (gD j)),.int .i64 0] else .tuple #[.string (bs []),.int .i64 2]
def psJ (j:Jb):Nat→LU_
 | 0=>fV j
 | 1=>fV j++fd j.mt j.mc
 | 2=>fV j++fd j.mt j.mc++fd j.jt j.jc
 | _=>gD j
theorem GF {T:Prop} (h:T:=by
 have hrd:aJ w' (.slice ad 1 c) 1 [.int .u8 P]:=at0 hS (by kernel_rfl);have e:=HCV.o w' _ _ hrd;go_simp;exact hG _ (Bel.refl _)
):T:=h
theorem r7 (t1 c1 t2 c2 t3 c3:Value)(j:Jb)(w:World)(h:dH w t1 c1 t2 c2 t3 c3 j):Calls Tryz.prog 79 #[bM t1 c1 t2 c2 t3 c3 j] w fun e w'=>e=.returned (rB j)∧Bw_ w w':=by
 have HMAY:=zH (fun w' (hB:Below w.heap.size w w')=>r5 t1 c1 t2 c2 t3 c3 j w' (h.below hB));have HPM:=zH (fun w' (hB:Below w.heap.size w w')=>qq t1 c1 j.mt j.mc w' (h.below hB).a.t (h.below hB).a.c (DG h.a.lt (by decide)) (DG h.a.lc (by decide)) h.a.m);have HPJ:=zH (fun w' (hB:Below w.heap.size w w')=>qq t2 c2 j.jt j.jc w' (h.below hB).b.t (h.below hB).b.c (DG h.b.lt (by decide)) (DG h.b.lc (by decide)) h.b.m);have HPT:=zH (fun w' (hB:Below w.heap.size w w')=>qq t3 c3 j.tt j.tc w' (h.below hB).c.t (h.below hB).c.c (DG h.c.lt (by decide)) (DG h.c.lc (by decide)) h.c.m);obtain⟨ta,tc,ca,cc,ta2,tc2,ca2,cc2,ta3,tc3,ca3,cc3,rfl,rfl,rfl,rfl,rfl,rfl⟩:=jo_ h.a.t h.a.c h.b.t h.b.c h.c.t h.c.c;unfold bM at HMAY⊢;obtain⟨P,hP⟩:=ex_ j.parts;obtain⟨F,hF⟩:=ex_ j.fuel;have HP:=zH hP;have HF:=zH hF;rw[←hP,←hF]at HMAY⊢;clear hP hF;obtain⟨W1,hW1⟩:=ex_ (w.alloc (.cells #[.slice ta j.mt.length tc,.slice ca j.mc.length cc,.slice ta2 j.jt.length tc2,.slice ca2 j.jc.length cc2,.slice ta3 j.tt.length tc3,.slice ca3 j.tc.length cc3,.int .i64 P,.int .i64 F] 27));have hb1:=ba_ hW1;obtain⟨J,hJ⟩:=ex_ w.heap.size;have hx:=bn_ hJ hW1;obtain⟨x0,x1,x2,x3,x4,x5,x6,x7⟩:=cl8 hx;have HB1:=zH hb1;have HX:=zH hx;go_enter Tryz.func79,Tryz.ntmps79;go_upto_region 1 with fail;rw[←hW1,←hJ];clear hW1 hJ hb1 hx h
 by_cases hm:bJ j=true
 ·have HRES:=zH (show rB j=.tuple #[.string (bs (gD j)),.int .i64 0] from if_pos hm)
  rw[hm]at HMAY;obtain⟨m1,m2,m3⟩:=nn hm;obtain⟨-,hp1,hp2,hf1,hf2⟩:=mn hm;rw[←HP.o]at hp1 hp2;rw[←HF.o]at hf1 hf2;have l1:=dr m1;have l2:=dr m2;have l3:=dr m3;have HR1:=zH (show rC j.mt j.mc=.tuple #[.string (bs (gd j.mt j.mc)),.int .i64 0] from if_pos m1);have HR2:=zH (show rC j.jt j.jc=.tuple #[.string (bs (gd j.jt j.jc)),.int .i64 0] from if_pos m2);have HR3:=zH (show rC j.tt j.tc=.tuple #[.string (bs (gd j.tt j.tc)),.int .i64 0] from if_pos m3);have HPL:=zH (show(fV j).length=5∧(fd j.mt j.mc).length≤2004∧(fd j.jt j.jc).length≤2004∧(fd j.tt j.tc).length≤2004 from⟨by unfold fV;simp,fB m1,fB m2,fB m3⟩);have HL1:=zH l1;have HL2:=zH l2;have HL3:=zH l3;clear hm m1 m2 m3 l1 l2 l3;go_upto_region 3 with(go_at_call 125;refine(HMAY.o _ HB1.o).mono ?_;rintro e w2 ⟨rfl,hB2⟩;have HX2:=zH (HX.o.below hB2);have HB2:=zH (bt HB1.o hB2);clear hB2 x0 x1 x2 x3 x4 x5 x6 x7);obtain⟨pb,hpb⟩:∃ pb:UInt8,(pb.toNat:Int)=P:=⟨UInt8.ofNat P.toNat,by rw[UInt8.toNat_ofNat'];omega⟩
  obtain⟨fn,hfn⟩:∃ fn:Nat,(fn:Int)=F:=⟨F.toNat,by omega⟩
  have hfl:fn<4294967296:=by omega
  have HPB:=zH (show fV j=pb::num fn 4 by
   unfold fV;rw[←HP.o,←HF.o,←hpb,←hfn];simp)
  have aw:IntKind.u8.wrap (P:Int)=(pb.toNat:Int):=by rw[←hpb];have:=pb.toNat_lt;simp[IntKind.wrap,IntKind.bits,IntKind.signed];omega
  have x6:=HX2.o.cell (k:=6) rfl;have x7:=HX2.o.cell (k:=7) rfl;have HNU:=zH (fun w'=>show Calls Tryz.prog 126 #[.int .i64 F] w' fun e w''=>e=.returned (.string (bs (num fn 4)))∧Below w'.heap.size w' w'' by rw[←hfn];exact kJ fn w' hfl);have HCV:=zH (fun w' (a:Option Addr) (c:Nat) (h:aJ w' (.slice a 1 c) 1 [.int .u8 P])=>show(convert 132 9 (.slice a 1 c)).run Tryz.prog w'=.ok (.string (bs [pb])) w' by rw[←hpb]at h;exact uR h);obtain⟨nf,hnf⟩:=ex_ (num fn 4);have hnl:(nf.length:Int)=4:=by rw[hnf,aX];rfl
  rw[←hnf]at HNU HPB;clear aw hpb hfn hfl hnf;refine rk_ [(1,.exact _ (.int .i64 P)),(3,eP 1 [.int .u8 P]),(4,.exact _ (.string (bs [pb]))),(6,.exact _ (.int .i64 F)),(7,.exact _ (.string (bs nf)))] ?_;refine cG ?_;refine gE_ (fun w' G hB hS hG=>?_) (fun K hK=>?_)
  ·have y:=C8 hB x6
   go_simp;exact hG _ (Bel.refl _)
  refine cO ?_;clear hK K;refine gk_ (eP 1 [.int .u8 P]) (fun w' G hB hS hG=>?_) (fun x K hK=>?_)
  ·go_simp
   exact gN hG rfl
  obtain⟨ad,c⟩:=x;refine cO ?_;clear hK K;refine gE_ (fun w' G hB hS hG=>?_) (fun K hK=>?_)
  ·exact GF
  refine cO ?_;clear hK K;refine gE_ (fun w' G hB hS hG=>?_) (fun K hK=>?_)
  ·have y:=C8 hB x7
   go_simp;exact hG _ (Bel.refl _)
  refine cO ?_;clear hK K;refine gE_ (fun w' G hB hS hG=>?_) (fun K hK=>?_)
  ·have hu:=HNU.o w'
   go_simp;exact aO hG hu
  refine cO ?_;clear hK K;refine dm ?_;intro w3 hB3 hA3;have HX3:=zH (HX2.o.below hB3);have HB3:=zH (bt HB2.o hB3);clear hA3 hB3 x6 x7;obtain⟨x0,x1,x2,x3,x4,x5,x6,x7⟩:=cl8 HX3.o;go_upto_region 5 with fail;obtain⟨H,hH⟩:=ex_ w3.heap.size;obtain⟨W4,hW4⟩:=ex_ (w3.alloc (.cells #[.slice ta j.mt.length tc,.slice ca j.mc.length cc,.slice ta2 j.jt.length tc2,.slice ca2 j.jc.length cc2,.slice ta3 j.tt.length tc3,.slice ca3 j.tc.length cc3,.int .i64 P,.int .i64 F] 168));have hb4:=ba_ hW4;have hh:=bn_ hH hW4;rw[←hW4,←hH];have HH1:=zH hh;have HB4:=zH (bt HB3.o hb4);clear x0 x1 x2 x3 x4 x5 x6 x7 hW4 hH hb4 hh;go_upto_region 6 with(first|(go_at_call 104;refine(o4 H W4).mono ?_;rintro e w5 ⟨⟨D,t,rfl,hDl,hd⟩,hB5⟩;have HH:=zH (HH1.o.below hB5);have HD:=zH hd;have HB5:=zH (bt HB4.o hB5);clear hDl hd hB5)|fail);have HS0:=zH (show psJ j 0=pb::nf by rw[←HPB.o];rfl)
  go_loopw [4,28] (fun s i wr=>∃ k:Nat,k≤3∧i=.int .i64 k∧s=.string (bs (psJ j k))∧Hid (Below w5.heap.size w5 wr)) (fun _ i _=>3-(intOf i).toNat)
  case atStart=>exact⟨0,by omega,rfl,by rw[HS0.o],DF _ _⟩
  case round =>
   obtain⟨k,hk,rfl,rfl,HBR⟩:=hrel;have hd:=HD.o.below HBR.o;have hhr:=HH.o.below HBR.o;have HBW:=zH (bt HB5.o HBR.o);rcases(by omega:k=0∨k=1∨k=2∨k=3) with rfl|rfl|rfl|rfl
   ·obtain⟨M,hM⟩:=ex_ (gd j.mt j.mc)
    obtain⟨S,hS⟩:=ex_ (psJ j 0);obtain⟨NM,hNM⟩:=ex_ (num M.length 4);have hml:M.length≤2000:=by rw[hM];exact HL1.o
    have hsl:S.length≤10000:=by rw[hS];have:=HPL.o;show(fV j).length≤10000;omega
    have HNX:=zH (show psJ j (0+1)=S++(NM++M) by rw[hNM,hM,hS];rfl)
    have HCP:=zH (fun w' (hB:Below w.heap.size w w')=>show Calls Tryz.prog 127 #[.agg #[.slice ta j.mt.length tc,.slice ca j.mc.length cc]] w' fun e w''=>e=.returned (.tuple #[.string (bs M),.int .i64 0])∧Below w'.heap.size w' w'' by
     have h:=HPM.o w' hB;rw[HR1.o,←hM]at h;exact h)
    have HNM:=zH (fun w'=>show Calls Tryz.prog 126 #[.int .i64 (M.length:Int)] w' fun e w''=>e=.returned (.string (bs NM))∧Below w'.heap.size w' w'' by rw[hNM];exact kJ M.length w' (by omega));have i1:(M.length:Int)≤2000:=by omega
    have i2:(S.length:Int)≤10000:=by omega
    have i3:(NM.length:Int)=4:=by rw[hNM,aX];rfl
    rw[←hS];clear hM hS hNM hml hsl;obtain⟨d0,d1⟩:=cl2 hd;go_upto_region 8 with fail;obtain⟨T,hT⟩:=ex_ wr.heap.size;obtain⟨U,hU⟩:=ex_ (wr.alloc (.cells #[.int .u8 1,.pointer (some ⟨H,0,none⟩)] 172));have hbU:=ba_ hU;have hu:=bn_ hT hU;have hhU:=hhr.below hbU;obtain⟨u0,u1⟩:=cl2 hu;obtain⟨v0,v1⟩:=cl2 hhU;have hTl:T<U.heap.size:=aD u0;have hHl:H<U.heap.size:=aD v0;have HBU:=zH hbU;rw[←hU,←hT];clear hd d0 d1 hU hT hbU hu hhU hhr;go_wp2_with (first|(go_at_call 126;refine(HNM.o _).mono ?_;rintro e w8 ⟨rfl,hB8⟩;have HB8:=zH (bt HB7.o hB8);clear hB8)|(go_at_call 127;refine(HCP.o _ (bt HBW.o HBU.o)).mono ?_;rintro e w7 ⟨rfl,hB7⟩;have HB7:=zH (bt HBU.o hB7);clear hB7));go_roundw
    case rel=>exact⟨0+1,by omega,rfl,by rw[HNX.o],bt HBR.o HB8.o⟩
    case measure=>decide
   ·obtain⟨M,hM⟩:=ex_ (gd j.jt j.jc)
    obtain⟨S,hS⟩:=ex_ (psJ j 1);obtain⟨NM,hNM⟩:=ex_ (num M.length 4);have hml:M.length≤2000:=by rw[hM];exact HL2.o
    have hsl:S.length≤10000:=by rw[hS];have:=HPL.o;show(fV j++fd j.mt j.mc).length≤10000;rw[DL];omega
    have HNX:=zH (show psJ j (1+1)=S++(NM++M) by rw[hNM,hM,hS];rfl)
    have HCP:=zH (fun w' (hB:Below w.heap.size w w')=>show Calls Tryz.prog 127 #[.agg #[.slice ta2 j.jt.length tc2,.slice ca2 j.jc.length cc2]] w' fun e w''=>e=.returned (.tuple #[.string (bs M),.int .i64 0])∧Below w'.heap.size w' w'' by
     have h:=HPJ.o w' hB;rw[HR2.o,←hM]at h;exact h)
    have HNM:=zH (fun w'=>show Calls Tryz.prog 126 #[.int .i64 (M.length:Int)] w' fun e w''=>e=.returned (.string (bs NM))∧Below w'.heap.size w' w'' by rw[hNM];exact kJ M.length w' (by omega));have i1:(M.length:Int)≤2000:=by omega
    have i2:(S.length:Int)≤10000:=by omega
    have i3:(NM.length:Int)=4:=by rw[hNM,aX];rfl
    rw[←hS];clear hM hS hNM hml hsl;have d0:=hd.cell (k:=2) rfl;have d1:=hd.cell (k:=3) rfl;go_upto_region 8 with fail;obtain⟨T,hT⟩:=ex_ wr.heap.size;obtain⟨U,hU⟩:=ex_ (wr.alloc (.cells #[.int .u8 2,.pointer (some ⟨H,2,none⟩)] 172));have hbU:=ba_ hU;have hu:=bn_ hT hU;have hhU:=hhr.below hbU;obtain⟨u0,u1⟩:=cl2 hu;have v0:=hhU.cell (k:=2) rfl;have v1:=hhU.cell (k:=3) rfl;have hTl:T<U.heap.size:=aD u0;have hHl:H<U.heap.size:=aD v0;have HBU:=zH hbU;rw[←hU,←hT];clear hd d0 d1 hU hT hbU hu hhU hhr;go_wp2_with (first|(go_at_call 126;refine(HNM.o _).mono ?_;rintro e w8 ⟨rfl,hB8⟩;have HB8:=zH (bt HB7.o hB8);clear hB8)|(go_at_call 127;refine(HCP.o _ (bt HBW.o HBU.o)).mono ?_;rintro e w7 ⟨rfl,hB7⟩;have HB7:=zH (bt HBU.o hB7);clear hB7));go_roundw
    case rel=>exact⟨1+1,by omega,rfl,by rw[HNX.o],bt HBR.o HB8.o⟩
    case measure=>decide
   ·obtain⟨M,hM⟩:=ex_ (gd j.tt j.tc)
    obtain⟨S,hS⟩:=ex_ (psJ j 2);obtain⟨NM,hNM⟩:=ex_ (num M.length 4);have hml:M.length≤2000:=by rw[hM];exact HL3.o
    have hsl:S.length≤10000:=by rw[hS];have:=HPL.o;show(fV j++fd j.mt j.mc++fd j.jt j.jc).length≤10000;rw[DL,DL];omega
    have HNX:=zH (show psJ j (2+1)=S++(NM++M) by rw[hNM,hM,hS];rfl)
    have HCP:=zH (fun w' (hB:Below w.heap.size w w')=>show Calls Tryz.prog 127 #[.agg #[.slice ta3 j.tt.length tc3,.slice ca3 j.tc.length cc3]] w' fun e w''=>e=.returned (.tuple #[.string (bs M),.int .i64 0])∧Below w'.heap.size w' w'' by
     have h:=HPT.o w' hB;rw[HR3.o,←hM]at h;exact h)
    have HNM:=zH (fun w'=>show Calls Tryz.prog 126 #[.int .i64 (M.length:Int)] w' fun e w''=>e=.returned (.string (bs NM))∧Below w'.heap.size w' w'' by rw[hNM];exact kJ M.length w' (by omega));have i1:(M.length:Int)≤2000:=by omega
    have i2:(S.length:Int)≤10000:=by omega
    have i3:(NM.length:Int)=4:=by rw[hNM,aX];rfl
    rw[←hS];clear hM hS hNM hml hsl;have d0:=hd.cell (k:=4) rfl;have d1:=hd.cell (k:=5) rfl;go_upto_region 8 with fail;obtain⟨T,hT⟩:=ex_ wr.heap.size;obtain⟨U,hU⟩:=ex_ (wr.alloc (.cells #[.int .u8 3,.pointer (some ⟨H,4,none⟩)] 172));have hbU:=ba_ hU;have hu:=bn_ hT hU;have hhU:=hhr.below hbU;obtain⟨u0,u1⟩:=cl2 hu;have v0:=hhU.cell (k:=4) rfl;have v1:=hhU.cell (k:=5) rfl;have hTl:T<U.heap.size:=aD u0;have hHl:H<U.heap.size:=aD v0;have HBU:=zH hbU;rw[←hU,←hT];clear hd d0 d1 hU hT hbU hu hhU hhr;go_wp2_with (first|(go_at_call 126;refine(HNM.o _).mono ?_;rintro e w8 ⟨rfl,hB8⟩;have HB8:=zH (bt HB7.o hB8);clear hB8)|(go_at_call 127;refine(HCP.o _ (bt HBW.o HBU.o)).mono ?_;rintro e w7 ⟨rfl,hB7⟩;have HB7:=zH (bt HBU.o hB7);clear hB7));go_roundw
    case rel=>exact⟨2+1,by omega,rfl,by rw[HNX.o],bt HBR.o HB8.o⟩
    case measure=>decide
   ·clear hd hhr
    go_wp2_with fail;go_ret2;rw[HRES.o];exact⟨rfl,HBW.o⟩
 ·have HRES:=zH (show rB j=.tuple #[.string (bs []),.int .i64 2] from if_neg hm)
  have hno:bJ j=false:=by cases q:bJ j with
   | false=>rfl
   | true=>exact absurd q hm
  rw[hno]at HMAY;clear hm;go_wp2_with (go_at_call 125;refine(HMAY.o _ HB1.o).mono ?_;rintro e w2 ⟨rfl,hB2⟩;have HB2:=zH (bt HB1.o hB2);clear hB2);go_ret2;rw[HRES.o];exact⟨rfl,HB2.o⟩

theorem da {P:Program}{fn:Func}{p q:Tmp}{ty tq:TypeId}{tmps:Array Value}{w:World}{v u:Value}{b c:Nat}(hr:fn.results=#[.cell p ty,.cell q tq])(hp:tmps.getD p undef=.pointer (some ⟨b,0,none⟩))(hq:tmps.getD q undef=.pointer (some ⟨c,0,none⟩))(hl:(loadVar ty ⟨b,0,none⟩).run P w=.ok v w)(hl2:(loadVar tq ⟨c,0,none⟩).run P w=.ok u w):(results fn tmps).run P w=.ok (.tuple #[v,u]) w:=by
 simp only[Array.getD_eq_getD_getElem?]at hp hq⊢;simp[results,hr,Sem.run_bind,Result.andThen,hp,hq,asAddr,hl,hl2]
theorem fO {w:World}{b:Nat}{v0:Value}(h0:w.cell? ⟨b,0,none⟩=some v0):(loadVar 37 ⟨b,0,none⟩).run Tryz.prog w=.ok v0 w:=by
 go_simp
end
section
attribute [local irreducible] wpG
def sd (d:Bool)(v u:Value):Value:=bif d then v else u
@[go_sem] theorem CV (v u:Value):sd true v u=v:=rfl
@[go_sem] theorem Ct (v u:Value):sd false v u=u:=rfl
section
variable {w wx w':World}{B:Nat}{tv tv':Value}{r r':LU_}{acc acc':LL_}
end
section
variable {w wx w':World}{B C:Nat}{tv cv cv':Value}{r r':LU_}{t:LL_}{acc acc':List VI}
end
section
variable {w wx:World}{B C:Nat}{tv cv:Value}{r:LU_}{t:LL_}{acc:List VI}
end
end
section
attribute [local irreducible] wpG


theorem Bz {α:Type}(R:Rec α)(w:World)(l:List α)(cs:Array Value)(hcs:cs=(R.cells l).toArray)(n:Nat)(hn:n=l.length)(hm:n≤1000):R.Row (w.alloc (.cells cs R.e)) (.slice (some ⟨w.heap.size,0,none⟩) n n) l:=by
 subst hn hcs;refine Rec.Own.row (bZ:=w.heap.size) ⟨by rw[Rec.cells_length],.inr ⟨w.heap.size,l.length,(R.cells l).toArray,rfl,DC _,?_,DC _,DG hm (by decide),?_,?_⟩⟩
 ·show(w.heap.push _)[w.heap.size]?=_
  rw[Array.getElem?_push_size]
 ·rw[List.size_toArray,Rec.cells_length]
 ·show(R.cells l).take (l.length*R.n)=_
  rw[DB (by rw[Rec.cells_length];exact DC _)]

theorem Rec.step_appendLV {α:Type}{ops:Array Oper}{o:Oper}{a:Act}{K:Act→World→Prop}{Q:Exit→Act→World→Prop}{E:Prop}(R:Rec α)(wr:World)(ys:List α)(hgd:o.guard=none)(s x:Operand)(t:TypeId)(ho:o.op=.call { callee:=.builtin .append,args:=#[s,x],argTypes:=#[t,t] })(ht:Tryz.prog.underlying t=some (.slice R.e))(bZ:Nat)(v:Value)(xs:List α)(hs:a.eval s=v)(hown:R.Own wr bZ v xs)(n c:Nat)(hn:n=ys.length)(hx:a.eval x=.slice (some ⟨wr.heap.size,0,none⟩) n c)(cs:Array Value)(hcs:cs=(R.cells ys).toArray)(e:TypeId)(he:e=R.e)(hpos:0<ys.length)(hbytes:(xs.length+ys.length)*R.bytes≤140737488355328)(hbase:bZ≤wr.heap.size)(h:∀ g cap w',R.Own w' bZ (.slice (some ⟨g,0,none⟩) (xs.length+ys.length) cap) (xs++ys)→Chg (fun k=>v.ownBlock=some k) wr w'→(v.ownBlock=some g∨wr.heap.size≤g)→K (a.put o.dst (.slice (some ⟨g,0,none⟩) (xs.length+ys.length) cap)) w'):if Region.wanted o (yielded ops a.tmps)=true then Oper.wp Tryz.prog o a (wr.alloc (.cells cs e)) K Q else E:=by
 subst hcs he hn;obtain⟨i,hi,hz,hi1,hi2⟩:=info_parts R.info;have hn:xs.length+ys.length≤(xs.length+ys.length)*R.bytes:=Nat.le_mul_of_pos_right _ R.bpos;refine step_append_lies _ hgd s x t ho bZ R.e i R.z R.n R.bytes ht hi hz hi1 hi2 R.zs R.pos v xs.length (R.cells xs) hs (World.ownsRow.alloc hown _) ⟨wr.heap.size,0,none⟩ ys.length c (R.cells ys) hx (R.cells_length ys) ?_ (R.cells_one ys) hpos (by unfold maxLen;omega) hbytes (by simp;omega) _ rfl ?_
 ·intro j u hj
  have:j<(R.cells ys).length:=by
   rcases Nat.lt_or_ge j (R.cells ys).length with h|h
   ·exact h
   ·simp[List.getElem?_eq_none h]at hj
  exact GX
 ·intro g cap w' h2 h3 h4 h5
  have hB:Below bZ wr w':=((DF bZ wr).alloc hbase _).grown h3 (by simp;omega) (fun k hk=>(Rec.Own.ltV hown k hk).1);refine h g cap w' ?_ ⟨hB.os,hB.tape,hB.output,hB.size,fun j hj hne=>?_⟩ ?_
  ·unfold Rec.Own;rw[R.cells_append,DL];exact h2
  ·rw[h3.block j (by simp;omega) (fun e=>hne e.symm)]
   exact Below.heap_alloc _ _ _ hj
  ·rcases h4 with h4|h4
   ·exact .inl h4
   ·exact .inr (by simp at h4;omega)
theorem mO (tv cv:Value)(texts:LL_)(code:List VI)(w:World)(ht:aK.Row w tv texts)(hc:bp.Row w cv code)(hmv:cK texts code=true):Calls Tryz.prog 132 #[.agg #[tv,cv]] w fun e w'=>e=.returned (.string (bs (gd texts code)))∧Bw_ w w':=by
 obtain⟨at_,ct,rfl,-,hct⟩:=an ht;obtain⟨ac,cc,rfl,-,hcc⟩:=ag hc;have HCT:=zH hct;have HCC:=zH hcc;obtain⟨W1,hW1⟩:=ex_ (w.alloc (.cells #[.slice at_ texts.length ct,.slice ac code.length cc] 25));have hb1:=ba_ hW1;have hx:=bm_ hW1;have HB1:=zH hb1;have HX:=zH hx;obtain⟨h16,h256,h64⟩:=nk hmv;have H64:=zH h64;clear ht hc hct hcc hb1 hx hmv h64;go_enter Tryz.func132,Tryz.ntmps132;go_upto_region 1 with fail;rw[←hW1];clear hW1;have x0:=HX.o.cell (k:=0) rfl;obtain⟨q1,q2,q3⟩:=nV (n:=texts.length) (by omega);go_upto_region 2 with fail;obtain⟨w3,hw3⟩:=ex_ (W1.alloc (.cells #[.int .u8 (texts.length:Int)] 5));have hb3:=ba_ hw3
 have ho3:cP.Own w3 W1.heap.size (.slice (some ⟨W1.heap.size,0,none⟩) 1 1) [b8 texts.length]:=by
  have h:=ri W1 [b8 texts.length] (by simp);exact Gx
 rw[←hw3];have HO3:=zH ho3;have HC3:=zH hb3;have hsz:W1.heap.size≤w3.heap.size:=hb3.size;have hsz0:w.heap.size<W1.heap.size:=HX.o.lt;clear hw3 hb3 ho3 q1 q2 q3 x0;go_wp2_with fail
 go_loopw [3,4] (fun vb vi wr=>∃ (k:Nat) (A:Option Addr) (C:Nat) (l:LU_),vb=.slice A l.length C∧vi=.int .i64 (k:Int)∧k≤texts.length∧l.length≤1+65*k∧Hid (l=b8 texts.length::gO (texts.take k))∧Hid (cP.Own wr W1.heap.size (.slice A l.length C) l)∧Hid (Below W1.heap.size W1 wr)) (fun _ vi _=>texts.length-(intOf vi).toNat)
 case atStart=>exact⟨0,_,_,[b8 texts.length],rfl,rfl,D6 _,by simp,by unfold Hid;simp[gO],HO3.o,HC3.o⟩
 case round =>
  obtain⟨k,A,C,l,rfl,rfl,hk,hl,HL,HO,HB⟩:=hrel;have hbw:W1.heap.size≤wr.heap.size:=HB.o.size;have x0:=(HX.o.below HB.o).cell (k:=0) rfl
  by_cases h0:k<texts.length
  ·obtain⟨b,off,rfl,d0⟩:=HCT.o k h0
   have D0:=zH (fun w' (hB:Below W1.heap.size W1 w')=>C8 (bt HB1.o hB) d0);clear d0;have d0:=D0.o _ HB.o;have kk0:=nn_ k;have kk1:(k:Int)<(texts.length:Int):=by omega
   have ht64:=H64.o texts[k] (DY h0);obtain⟨q1,q2,q3⟩:=nV (n:=texts[k].length) (by omega);have HT:=zH (mP h0);clear q1;go_wp2_with (first|(at_builtin;refine cP.append1V _ (b8 texts[k].length) rfl _ _ 132 rfl Tryz.underlying132 W1.heap.size _ l (HO.o.below (af _ _)) rfl _ rfl (rj wr (by omega) _) (by show(l.length+1)*1≤_;omega) (DG hbw (af _ _).size) ?_;intro g gc wn hon hcn _;have HN:=zH (And.intro hon (And.intro hcn ((HB.o.trans ((af wr (.cells #[.int .u8 (texts[k].length:Int)] 5)).mono hbw)).trans (hcn.below (fun j hj=>(Rec.Own.ltV HO.o j hj).1) (DG hbw (af _ _).size)))));have x0:=(HX.o.below HN.o.2.2).cell (k:=0) rfl;have d0:=D0.o _ HN.o.2.2;clear hon hcn)|(at_builtin;refine ve _ rfl _ _ 132 9 rfl Tryz.underlying132 Tryz.underlying9 W1.heap.size _ (l++[b8 texts[k].length]) HN.o.1 rfl texts[k] rfl (by rw[DL,Ea];omega) HN.o.2.2.size ?_;intro A2 C2 wm hom hcm;have HM:=zH (And.intro hom (HN.o.2.2.trans (hcm.below (fun j hj=>(Rec.Own.ltV HN.o.1 j hj).1) HN.o.2.2.size)));clear hom hcm));exact Gq
  ·obtain rfl:k=texts.length:=by omega
   have hl2:=HL.o;rw[List.take_length]at hl2;have HL2:=zH hl2;have x1:=(HX.o.below HB.o).cell (k:=1) rfl;have e0:¬(texts.length:Int)<(texts.length:Int):=by omega
   have hl3:l.length≤1041:=by omega
   have lc1:(code.length:Int)≤256:=by omega
   clear hl2 h0 HL;go_upto_region 8 with(at_builtin;refine cP.appendNV _ rfl _ _ 132 rfl Tryz.underlying132 W1.heap.size _ l (HO.o.below (af _ _)) rfl _ [b8 code.length,b8 (code.length / 256)] (oT wr (by omega) _) rfl (by show(l.length+2)*1≤_;omega) (DG hbw (af _ _).size) ?_;intro A3 C3 wn hon hcn;have HN:=zH (And.intro hon ((HB.o.trans ((af wr (.cells #[.int .u8 ((code.length:Int)%256),.int .u8 ((code.length:Int) / 256)] 5)).mono hbw)).trans (hcn.below (fun j hj=>(Rec.Own.ltV HO.o j hj).1) (DG hbw (af _ _).size))));clear hon hcn);obtain⟨l2,hl2⟩:=ex_ (l++[b8 code.length,b8 (code.length / 256)]);have hlen2:l2.length=l.length+2:=by rw[hl2,DL];rfl
   rw[←hl2]at HN;rw[←hlen2];have hl2l:l2.length≤1043:=by rw[hl2,DL];simp;omega
   have HLL:=zH (show l2=b8 texts.length::(gO texts++[b8 code.length,b8 (code.length / 256)]) by rw[hl2,HL2.o];rfl);have HN1:=zH HN.o.1;have HN2:=zH HN.o.2;clear hl2 hlen2 HN HO HB hbw hl hl3 HL2 e0 x0 x1;go_wp2_with fail
   go_loopw [3,5] (fun vb vi wr=>∃ (k:Nat) (A:Option Addr) (C:Nat) (l:LU_),vb=.slice A l.length C∧vi=.int .i64 (k:Int)∧k≤code.length∧l.length≤1043+2*k∧Hid (l=l2++jA (code.take k))∧Hid (cP.Own wr W1.heap.size (.slice A l.length C) l)∧Hid (Below W1.heap.size W1 wr)) (fun _ vi _=>code.length-(intOf vi).toNat)
   case atStart=>exact⟨0,_,_,l2,rfl,rfl,D6 _,by omega,by unfold Hid;simp[jA],HN1.o,HN2.o⟩
   case round =>
    obtain⟨k,A,C,l,rfl,rfl,hk,hl,HL,HO,HB⟩:=hrel;have hbw:W1.heap.size≤wr.heap.size:=HB.o.size;have x1:=(HX.o.below HB.o).cell (k:=1) rfl;have lx1:w.heap.size<wr.heap.size:=by omega
    by_cases h0:k<code.length
    ·obtain⟨b,off,rfl,d0,d1⟩:=HCC.o k h0
     have d0:=C8 (bt HB1.o HB.o) d0;have d1:=C8 (bt HB1.o HB.o) d1;have lb:=aD d0;have kk0:=nn_ k;have kk1:(k:Int)<(code.length:Int):=by omega
     have HT:=zH (mS h0);have HOD:=zH (HO.o.below (b_drew wr));have hbd:W1.heap.size≤wr.drew.heap.size:=DG hbw (b_drew wr).size;have HBD:=zH (HB.o.trans ((b_drew wr).mono hbw));go_upto_region 11 with fail;go_region_law (refine cP.step_appendLV wr.drew [code[k].1,code[k].2] rfl _ _ 132 rfl Tryz.underlying132 W1.heap.size (.slice A l.length C) l rfl HOD.o _ _ rfl rfl _ rfl _ rfl (by simp) (by show(l.length+2)*1≤_;omega) hbd ?_;intro g gc wn hon hcn _;have HN:=zH (And.intro hon (HBD.o.trans (hcn.below (fun j hj=>(Rec.Own.ltV HOD.o j hj).1) hbd)));clear hon hcn)
     all_goals
      (try dsimp only)
      (try go_frame)
      go_wp2;refine⟨⟨k+1,some ⟨g,0,none⟩,gc,l++[code[k].1,code[k].2],?_,by go_num,by omega,?_,?_,?_,HN.o.2⟩,by simp[intOf];omega⟩
      ·rw[DL];rfl
      ·rw[DL];simp;omega
      ·unfold Hid
       rw[HT.o,HL.o,DK]
      ·have:=HN.o.1
       rw[←DL]at this;exact this
    ·obtain rfl:k=code.length:=by omega
     have hcv:=oU HO.o;have hfl:=HL.o;rw[List.take_length,HLL.o]at hfl;have HF:=zH (show l=gd texts code by rw[hfl];unfold gd;simp);have e0:¬(code.length:Int)<(code.length:Int):=by omega
     clear hfl h0;go_wp2_with fail;go_ret;exact⟨by rw[←HF.o];rfl,bt HB1.o HB.o⟩

def gF (j:Jb)(texts:LL_)(code:List VI)(role:UInt8)(ins:LL_):Nat×List (LU_×LU_)×LU_:=if bJ j=true then vmV texts code role ins j.fuel else (2,[],[])
def CZ (B:Nat)(r:Nat×List (LU_×LU_)×LU_)(e:Ending)(w:World):Prop :=
 ∃ a c n,e=.returned (.tuple #[.agg #[.slice a r.2.1.length c,.string (bs r.2.2),.int .i64 n],.int .i64 (r.1:Int)])∧recKv.Row w (.slice a r.2.1.length c) r.2.1∧∀ k,(Value.slice a r.2.1.length c).ownBlock=some k→B≤k
theorem rZ (J:Nat)(tt:TypeId)(t1 c1 t2 c2 t3 c3 tv cv iv:Value)(j:Jb)(texts:LL_)(code:List VI)(role:UInt8)(ins:LL_)(w:World)(h:dH w t1 c1 t2 c2 t3 c3 j)(hJ:Blk w J tt [t1,c1,t2,c2,t3,c3,.int .i64 j.parts,.int .i64 j.fuel])(hA:mh w tv cv texts code)(hi:aK.Row w iv ins)(hil:ins.length≤10)(his:∀ s∈ins,s.length≤140737488355328)(hdo:de w):Calls Tryz.prog 107 #[.pointer (some ⟨J,0,none⟩),.agg #[tv,cv],.int .u8 (role.toNat:Int),iv] w fun e w'=>CZ w.heap.size (gF j texts code role ins) e w'∧Bw_ w w':=by
 have HMAY:=zH (fun w' (hB:Below w.heap.size w w')=>r5 t1 c1 t2 c2 t3 c3 j w' (h.below hB));have HRUN:=zH (fun w' (hB:Below w.heap.size w w')=>A4 tv cv iv texts code role ins j.fuel w' (hA.below hB) (hi.below hB) hil hA.lc his h.f0 h.f1 (h.g.below hB) (hdo.below hB));obtain⟨ta,tc,ca,cc,ta2,tc2,ca2,cc2,ta3,tc3,ca3,cc3,rfl,rfl,rfl,rfl,rfl,rfl⟩:=jo_ h.a.t h.a.c h.b.t h.b.c h.c.t h.c.c;obtain⟨at_,ct,rfl,-,-⟩:=an hA.t;obtain⟨ac,cc',rfl,-,-⟩:=ag hA.c;obtain⟨ai,ci,rfl,-,-⟩:=an hi;unfold bM at HMAY;have HJR:=zH (show bJ j=true→gF j texts code role ins=vmV texts code role ins j.fuel from fun h=>if_pos h);have HJN:=zH (show ¬bJ j=true→gF j texts code role ins=(2,[],[]) from fun h=>if_neg h);obtain⟨B4,hB4⟩:=ex_ w.heap.size;obtain⟨W1,hW1⟩:=ex_ ((w.alloc (.cells #[.slice at_ texts.length ct,.slice ac code.length cc'] 25)).alloc (.cells #[.slice none 0 0,.string ⟨#[]⟩,.int .i64 0] 178));have hb1:Below w.heap.size w W1:=by rw[hW1];exact bt (af _ _) (af _ _)
 have hs1:(w.alloc (.cells #[.slice at_ texts.length ct,.slice ac code.length cc'] 25)).heap.size=B4+1:=by rw[hB4];exact bo _ _
 have hx:Blk W1 B4 25 [.slice at_ texts.length ct,.slice ac code.length cc']:=by rw[hB4,hW1];exact(Blk.new w _ _).below (af _ _)
 have hy:Blk W1 (B4+1) 178 [.slice none 0 0,.string ⟨#[]⟩,.int .i64 0]:=by rw[hW1,←hs1];exact Blk.new _ _ _
 have hsz:W1.heap.size=B4+2:=by rw[hW1,bo,hs1]
 have hj1:=hJ.below hb1;obtain⟨j0,j1,j2,j3,j4,j5,j6,j7⟩:=cl8 hj1;have HB1:=zH hb1;have HX:=zH hx;have HY:=zH hy;have HB4:=zH hB4;have HSZ:=zH hsz;have HJ1:=zH hj1;go_enter Tryz.func107,Tryz.ntmps107;go_upto_region 1 with fail;rw[←hW1,←hB4];clear hW1 hB4 h hJ hA hi hb1 hx hy hs1 hsz his hdo hj1
 by_cases hyes:bJ j=true
 ·have HRV:=zH (HJR.o hyes)
  rw[hyes]at HMAY;obtain⟨V,hV⟩:=ex_ (vmV texts code role ins j.fuel);rw[←hV]at HRUN HRV;clear hyes hV HJR HJN;go_upto_region 3 with(go_at_call 125;refine(HMAY.o _ HB1.o).mono ?_;rintro e w2 ⟨rfl,hB2⟩);have HB2:=zH (bt HB1.o hB2);have HY2:=zH (HY.o.below hB2);have HS2:=zH (show B4+2≤w2.heap.size by rw[←HSZ.o];exact hB2.size);have x0:=(HX.o.below hB2).cell (k:=0) rfl;have x1:=(HX.o.below hB2).cell (k:=1) rfl;have j7:=(HJ1.o.below hB2).cell (k:=7) rfl;have hJl:J<w2.heap.size:=(HJ1.o.below hB2).lt;have hBl:B4<w2.heap.size:=aD x0;have HG:=zH (HRUN.o w2.drew (bt HB2.o (b_drew _)));clear j0 j1 j2 j3 j4 j5 j6 hB2 HY HX HJ1 HMAY HRUN;go_region_law (refine aL rfl 153 #[.agg #[.slice at_ texts.length ct,.slice ac code.length cc'],.int .u8 (role.toNat:Int),.slice ai ins.length ci,.int .i64 j.fuel] (by go_simp) HG.o ?_;rintro e w7 ⟨⟨pv,n,rfl,hrow,hown⟩,hB7⟩;obtain⟨pa,pc,rfl,-,-⟩:=Rec.Row.open hrow;have hyU:=HY2.o.below (bt (b_drew w2) hB7);obtain⟨y0,y1,y2⟩:=cl3 hyU;obtain⟨k0,k1,k2⟩:=fr3 hyU;have HYU:=zH hyU;have HROW:=zH hrow;have HOWN:=zH hown;have HB7:=zH (bt HB2.o (bt (b_drew w2) hB7));clear hB7 hyU hrow hown)
  all_goals
   go_wp2_with fail;obtain⟨hy3,hc3⟩:=cq HYU.o (.slice pa V.2.1.length pc) (.string (bs V.2.2)) (.int .i64 n);refine bodyPost_ret (bz rfl rfl (di (hy3.cell (k:=0) rfl) (hy3.cell (k:=1) rfl) (hy3.cell (k:=2) rfl))) rfl ?_;rw[HRV.o];refine⟨⟨_,_,_,rfl,HROW.o.chgN hc3 (fun b hb e=>?_),fun k hk=>DG HB2.o.size (HOWN.o k hk)⟩,HB7.o.trans (hc3.below (fun k hk=>by rw[show k=B4+1 from hk,HB4.o];exact Nat.le_succ _) HB7.o.size)⟩;have h1:w2.heap.size≤b:=HOWN.o b hb;rw[show b=B4+1 from e]at h1;have:=HS2.o;omega
 ·have HN:=zH (HJN.o hyes)
  have hno:bJ j=false:=by cases h:bJ j with
   | false=>rfl
   | true=>exact absurd h hyes
  rw[hno]at HMAY;clear hyes hno HRUN HJR HJN;go_wp2_with (go_at_call 125;refine(HMAY.o _ HB1.o).mono ?_;rintro e w2 ⟨rfl,hB2⟩;have hyU:=HY.o.below hB2;obtain⟨y0,y1,y2⟩:=cl3 hyU;obtain⟨k0,k1,k2⟩:=fr3 hyU;have HYU:=zH hyU;have HB2:=zH (bt HB1.o hB2);clear hyU hB2);exact Gi
theorem zq (t1 c1 t2 c2 t3 c3:Value)(j:Jb)(s:LU_)(w:World)(h:dH w t1 c1 t2 c2 t3 c3 j)(hdo:de w)(hs:s.length≤140737488355328):Calls Tryz.prog 63 #[bM t1 c1 t2 c2 t3 c3 j,.string (bs s)] w fun e w'=>(∃ pv,e=.returned (.tuple #[pv,.int .i64 ((gF j j.mt j.mc 1 [s]).1:Int)])∧recKv.Row w' pv (gF j j.mt j.mc 1 [s]).2.1)∧Bw_ w w':=by
 have HR:=zH (fun w' (H:Nat) (ty:TypeId) iv (hB:Below w.heap.size w w') (hH:Blk w' H ty [t1,c1,t2,c2,t3,c3,.int .i64 j.parts,.int .i64 j.fuel]) (hi:aK.Row w' iv [s])=>rZ H ty t1 c1 t2 c2 t3 c3 t1 c1 iv j j.mt j.mc 1 [s] w' (h.below hB) hH (h.below hB).a hi (by simp) (fun x hx=>by rw[DZ.1 hx];exact hs) (hdo.below hB));obtain⟨ta,tc,ca,cc,ta2,tc2,ca2,cc2,ta3,tc3,ca3,cc3,rfl,rfl,rfl,rfl,rfl,rfl⟩:=jo_ h.a.t h.a.c h.b.t h.b.c h.c.t h.c.c;unfold bM;obtain⟨V,hV⟩:=ex_ (gF j j.mt j.mc 1 [s]);rw[←hV]at HR⊢;clear hV h hdo;go_enter Tryz.func63,Tryz.ntmps63;go_upto_region 1 with fail;obtain⟨W1,hW1⟩:=ex_ (w.alloc (.cells #[.slice ta j.mt.length tc,.slice ca j.mc.length cc,.slice ta2 j.jt.length tc2,.slice ca2 j.jc.length cc2,.slice ta3 j.tt.length tc3,.slice ca3 j.tc.length cc3,.int .i64 j.parts,.int .i64 j.fuel] 27));have hb1:=ba_ hW1;have hx:=bm_ hW1;obtain⟨x0,x1,x2,x3,x4,x5,x6,x7⟩:=cl8 hx;have hbl:w.heap.size<W1.heap.size:=hx.lt;rw[←hW1];have HB1:=zH hb1;have HX:=zH hx;clear hW1 hb1 hx;go_upto_region 2 with fail;obtain⟨H,hH⟩:=ex_ W1.heap.size;obtain⟨W2,hW2⟩:=ex_ (W1.alloc (.cells #[.slice ta j.mt.length tc,.slice ca j.mc.length cc,.slice ta2 j.jt.length tc2,.slice ca2 j.jc.length cc2,.slice ta3 j.tt.length tc3,.slice ca3 j.tc.length cc3,.int .i64 j.parts,.int .i64 j.fuel] 168));have hb2:=ba_ hW2;have hh:=bn_ hH hW2;have hx2:=HX.o.below hb2;replace x0:=hx2.cell (k:=0) rfl;replace x1:=hx2.cell (k:=1) rfl;have hbl2:w.heap.size<W2.heap.size:=hx2.lt;rw[←hW2,←hH];have HB2:=zH (bt HB1.o hb2);have HH:=zH hh
 clear hW2 hH hb2 hh hx2 x2 x3 x4 x5 x6 x7;go_wp2_with (go_at_call 107;refine(HR.o _ H 168 _ (bt HB2.o (af _ _)) (HH.o.below (af _ _)) (Rec.Row.new (R:=aK) W2 [s] 9)).mono ?_;rintro e w3 ⟨⟨pa,pc,n,rfl,hrow,-⟩,hB3⟩;have HROW:=zH hrow;have HB3:=zH (bt (bt HB2.o (af _ _)) hB3);clear hrow hB3);go_ret2;exact⟨⟨_,rfl,HROW.o.below (af _ _)⟩,bt HB3.o (af _ _)⟩
theorem xn (t1 c1 t2 c2 t3 c3:Value)(j:Jb)(s s2:LU_)(w:World)(h:dH w t1 c1 t2 c2 t3 c3 j)(hdo:de w)(hs:s.length≤140737488355328)(hs2:s2.length≤140737488355328):Calls Tryz.prog 144 #[bM t1 c1 t2 c2 t3 c3 j,.string (bs s),.string (bs s2)] w fun e w'=>e=.returned (.tuple #[.string (bs (gF j j.jt j.jc 2 [s,s2]).2.2),.int .i64 ((gF j j.jt j.jc 2 [s,s2]).1:Int)])∧Bw_ w w':=by
 have HR:=zH (fun w' (H:Nat) (ty:TypeId) iv (hB:Below w.heap.size w w') (hH:Blk w' H ty [t1,c1,t2,c2,t3,c3,.int .i64 j.parts,.int .i64 j.fuel]) (hi:aK.Row w' iv [s,s2])=>rZ H ty t1 c1 t2 c2 t3 c3 t2 c2 iv j j.jt j.jc 2 [s,s2] w' (h.below hB) hH (h.below hB).b hi (by simp) (fun x hx=>by rcases List.mem_cons.1 hx with rfl|hx;exact hs;rw[DZ.1 hx];exact hs2) (hdo.below hB));obtain⟨ta,tc,ca,cc,ta2,tc2,ca2,cc2,ta3,tc3,ca3,cc3,rfl,rfl,rfl,rfl,rfl,rfl⟩:=jo_ h.a.t h.a.c h.b.t h.b.c h.c.t h.c.c;unfold bM;obtain⟨V,hV⟩:=ex_ (gF j j.jt j.jc 2 [s,s2]);rw[←hV]at HR⊢;clear hV h hdo;go_enter Tryz.func144,Tryz.ntmps144;go_upto_region 1 with fail;obtain⟨W1,hW1⟩:=ex_ (w.alloc (.cells #[.slice ta j.mt.length tc,.slice ca j.mc.length cc,.slice ta2 j.jt.length tc2,.slice ca2 j.jc.length cc2,.slice ta3 j.tt.length tc3,.slice ca3 j.tc.length cc3,.int .i64 j.parts,.int .i64 j.fuel] 27));have hb1:=ba_ hW1;have hx:=bm_ hW1;obtain⟨x0,x1,x2,x3,x4,x5,x6,x7⟩:=cl8 hx;have hbl:w.heap.size<W1.heap.size:=hx.lt;rw[←hW1];have HB1:=zH hb1;have HX:=zH hx;clear hW1 hb1 hx;go_upto_region 2 with fail;obtain⟨H,hH⟩:=ex_ W1.heap.size;obtain⟨W2,hW2⟩:=ex_ (W1.alloc (.cells #[.slice ta j.mt.length tc,.slice ca j.mc.length cc,.slice ta2 j.jt.length tc2,.slice ca2 j.jc.length cc2,.slice ta3 j.tt.length tc3,.slice ca3 j.tc.length cc3,.int .i64 j.parts,.int .i64 j.fuel] 168));have hb2:=ba_ hW2;have hh:=bn_ hH hW2;have hx2:=HX.o.below hb2;have x0:=hx2.cell (k:=2) rfl;have x1:=hx2.cell (k:=3) rfl;have hbl2:w.heap.size<W2.heap.size:=hx2.lt
 rw[←hW2,←hH];have HB2:=zH (bt HB1.o hb2);have HH:=zH hh;clear hW2 hH hb2 hh hx2 x2 x3 x4 x5 x6 x7;go_wp2_with (go_at_call 107;refine(HR.o _ H 168 _ (bt HB2.o (af _ _)) (HH.o.below (af _ _)) (Rec.Row.new (R:=aK) W2 [s,s2] 9)).mono ?_;rintro e w3 ⟨⟨pa,pc,n,rfl,hrow,-⟩,hB3⟩;have HROW:=zH hrow;have HB3:=zH (bt (bt HB2.o (af _ _)) hB3);clear hrow hB3);go_ret2;exact⟨rfl,bt HB3.o (af _ _)⟩
end
section
theorem ny {j:Jb}(h:bJ j=true)(texts:LL_)(code:List VI)(role:UInt8)(ins:LL_):gF j texts code role ins=vmV texts code role ins j.fuel:=if_pos h
theorem qB (texts:LL_)(code:List VI)(role:UInt8)(ins:LL_)(fuel:Int):(vmV texts code role ins fuel).2.2.length≤1024:=by
 cases hy:cn texts code role ins fuel with
 | false=>rw[mB hy];simp
 | true =>
  rw[jW hy];obtain⟨h1,h2,-,-,h5⟩:=dG hy;obtain⟨hg,-⟩:=fg h1 h2 h5;unfold l8
  split
  ·rename_i h0
   obtain⟨hok,-⟩:=kg hg fuel.toNat aY fA h0;dsimp only
   split
   ·simp
   ·cases hst:(cJ ⟨texts,code,ins,(aq texts code role).2.2.ends⟩ fuel.toNat aY).2.st with
    | nil=>simp
    | cons v r =>
     have hv:=hok.sv v (by rw[hst];simp);exact hv.2.2
  ·simp
end
section
attribute [local irreducible] wpG
end
section
def i8 (p:Int):Jb:=⟨[],[(3,0),(2,1),(8,0),(23,0)],[],[(3,0),(7,0),(3,1),(7,0),(9,0),(8,0)],[],[(3,0),(3,1),(4,0)],p,100⟩
end
