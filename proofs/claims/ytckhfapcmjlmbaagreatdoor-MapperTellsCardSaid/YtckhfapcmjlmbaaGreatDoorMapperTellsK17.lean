/- Lemmas for MapperTells: walks, plain laws. -/
import Derived.Test.YtckhfapcmjlmbaaGreatDoorMapperTellsK16
set_option linter.unusedSimpArgs false
set_option linter.unusedVariables false
set_option maxRecDepth 100000
set_option maxHeartbeats 16000000
namespace Go.Proofs.YtckhfapcmjlmbaaGreatDoor
open Go.RowKit Oct
section
attribute [local irreducible] wpG
def gh (code:List VI)(ends:List Int):Nat→List Int
 | 0=>List.replicate code.length 0
 | k+1=>if 0<ends.getD k 0∧(code.getD (ends.getD k 0).toNat (0,0)).1=21 then (gh code ends k).set (ends.getD k 0).toNat (k:Int) else gh code ends k
theorem k7 (code:List VI)(ends:List Int)(k:Nat):gh code ends (k+1)=if 0<ends.getD k 0∧(code.getD (ends.getD k 0).toNat (0,0)).1=21 then (gh code ends k).set (ends.getD k 0).toNat (k:Int) else gh code ends k:=rfl
theorem gP (code:List VI)(ends:List Int):∀ k,(gh code ends k).length=code.length
 | 0=>by unfold gh;rw[D9]
 | k+1=>by
  rw[k7]
  split
  ·rw[DT,gP code ends k]
  ·exact gP code ends k
theorem Ar {nt inp:Nat}{role:UInt8}{E:Me}(G:ek nt inp role E):Bm E (gh E.code E.ends E.code.length):=by
 refine⟨gP _ _ _,fun i hi ho=>?_⟩;obtain⟨j,b,hji,h22,hoj,hej,hu,-,-,-⟩:=qn G hi ho;have hrun:=G.run (DC _)
 have key:∀ k,k≤E.code.length→j<k→(gh E.code E.ends k).getD i 0=(j:Int):=by
  intro k
  induction k with
  | zero=>intro _ h;omega
  | succ k ih =>
   intro hk hjk;rw[k7]
   by_cases hjk2:k=j
   ·subst hjk2
    have hi2:(E.code.getD ((i:Int)).toNat (0,0)).1=21:=by rw[DI];exact ho
    rw[hej,if_pos ⟨by omega,hi2⟩,DI];exact gr (by rw[gP];exact hi)
   ·have h2:=ih (by omega) (by omega)
    split
    ·rename_i hc
     have hne:(E.ends.getD k 0).toNat≠i:=by
      intro e;have hek:E.ends.getD k 0=(i:Int):=by have:=hc.1;omega
      have hop:opensV (opV E.code k)=true:=by
       rcases hrun.inv.en k (by omega) with ⟨h0,-⟩|⟨-,h,-⟩
       ·have h0':E.ends.getD k 0=0:=by rw[G.ends];exact h0
        omega
       ·exact h
      exact hjk2 (hu k (by omega) hop hek)
     rw[fi hne];exact h2
    ·exact h2
 refine⟨j,key _ (DC _) (by omega),by omega,?_⟩;rw[il hu (by omega) hej];exact beq_iff_eq.symm
theorem Rec.Row.lowN {α:Type}{R:Rec α}{w w':World}{v:Value}{l:List α}{bZ:Nat}(h:R.Row w v l)(hB:Below bZ w w')(hX:∀ b,v.ownBlock=some b→b<bZ):R.Row w' v l:=by
 obtain⟨⟨a,cap,rfl,hn,hu⟩,h2⟩:=h;refine⟨⟨a,cap,rfl,hn,fun j u hj=>?_⟩,h2⟩;obtain⟨b,off,rfl,hcell⟩:=hu j u hj;refine⟨b,off,rfl,?_⟩;have hk:=hB.block b (hX b rfl);unfold World.cell? at hcell⊢;rw[hk];exact hcell
theorem ti {bZ:Nat}{w:World}{G:Nat}{cs:List Value}{t:TypeId}(hG:bZ≤G)(hb:Blk w G t cs):Sep bZ w [az G hG t cs,ownPt aN (.slice none 0 0) [],ownPt bH (.slice none 0 0) [],fP [],ownPt recKq (.slice none 0 0) []]:=by
 refine⟨fun p hp=>?_,?_⟩
 ·simp only[List.mem_cons,List.not_mem_nil,or_false]at hp
  rcases hp with rfl|rfl|rfl|rfl|rfl
  ·exact hb
  ·exact Rec.Own.nil _ _
  ·exact Rec.Own.nil _ _
  ·exact⟨fun e he=>absurd he (List.not_mem_nil),List.Pairwise.nil⟩
  ·exact Rec.Own.nil _ _
 ·have hn:∀ {α:Type} (R:Rec α) (k:Nat),¬(ownPt (bZ:=bZ) R (.slice none 0 0) []).fp k:=fun R k hk=>by cases hk
  have hx:∀ k,¬(fP (bZ:=bZ) []).fp k:=fun k hk=>by obtain⟨e,he,_⟩:=hk;cases he
  refine List.Pairwise.cons (fun q hq k hk hk'=>?_) (List.Pairwise.cons (fun q _ k hk=>absurd hk (hn _ k)) (List.Pairwise.cons (fun q _ k hk=>absurd hk (hn _ k)) (List.Pairwise.cons (fun q _ k hk=>absurd hk (hx k)) (List.pairwise_singleton _ _))));simp only[List.mem_cons,List.not_mem_nil,or_false]at hq;rcases hq with rfl|rfl|rfl|rfl
  ·exact hn _ k hk'
  ·exact hn _ k hk'
  ·exact hx k hk'
  ·exact hn _ k hk'
def rgN (k:Nat):List RV:=(List.range 8).map fun i=>(decide (4≤i∧i<k),0,[])
theorem yx (k:Nat):(rgN k).map (·.2)=List.replicate 8 (0,[]):=by unfold rgN;rw[List.map_map];rfl
theorem ig (f:Rf)(a:Int)(sv lv prv:Value){rg:List RV}(h:rg.length=8):(bP f a sv rg lv prv).length=33:=by
 obtain⟨x0,x1,x2,x3,x4,x5,x6,x7,rfl⟩:=fq h
 rfl
theorem ki (k:Nat):(rgN k).length=8:=by unfold rgN;rw[Ed,List.length_range]
theorem AI {l:List Int}{i:Nat}(h:i<l.length):l.getD i 0=l[i]:=by rw[List.getD_eq_getElem?_getD,List.getElem?_eq_getElem h];rfl
theorem zZ {l:List VI}{i:Nat}(h:i<l.length):l.getD i (0,0)=l[i]:=by rw[List.getD_eq_getElem?_getD,List.getElem?_eq_getElem h];rfl
theorem dY {w:World}{b:Nat}{t:TypeId}{cs:List Value}(hx:Blk w b t cs)(k:Nat)(v0 v1 v2:Value):Blk (((w.setCell ⟨b,k,none⟩ v0).setCell ⟨b,k+1,none⟩ v1).setCell ⟨b,k+2,none⟩ v2) b t (((cs.set k v0).set (k+1) v1).set (k+2) v2)∧Chg (fun x=>x=b) w (((w.setCell ⟨b,k,none⟩ v0).setCell ⟨b,k+1,none⟩ v1).setCell ⟨b,k+2,none⟩ v2) :=
 ⟨((hx.set k v0).set (k+1) v1).set (k+2) v2,Chg.trans (Chg.trans (Chg.setCell w ⟨b,k,none⟩ v0 rfl) (Chg.setCell _ ⟨b,k+1,none⟩ v1 rfl)) (Chg.setCell _ ⟨b,k+2,none⟩ v2 rfl)⟩
theorem zz {texts:LL_}{code:List VI}{role:UInt8}(h:(aq texts code role).2.1=0){j:Nat}(hj:j<code.length)(h0:0<(aq texts code role).2.2.ends.getD j 0):(aq texts code role).2.2.ends.getD j 0<(code.length:Int):=by
 have hg:=(fg (texts:=texts) (code:=code) (role:=role) h (ins:=List.replicate (inputsV role) []) (by simp) (fun s hs=>by rw[(List.mem_replicate.1 hs).2];simp)).1;have hE:(aq texts code role).2.2.ends=(stV texts.length (inputsV role) role code code.length).ends:=hg.ends;have hr:=(hg.run (DC _)).inv.en j hj;rw[hE]at h0⊢;rcases hr with ⟨h1,-⟩|⟨-,-,-,h2,-⟩
 ·have h1:(stV texts.length (inputsV role) role code code.length).ends.getD j 0=0:=h1
  omega
 ·exact h2
theorem FA {T:Prop} (h:T:=by
 go_wp2_with fail;go_quiet (fail);go_wp2_with fail;have hbd:Below wr.heap.size wr (wr.drewN nq):=C9 _ _;have HBD:=zH hbd;clear hbd;go_roundw
 case rel=>exact⟨q+1,by omega,by go_num,by rw[HS2.o];exact HOU.o.below HBD.o,HBU.o.trans (HBD.o.mono (by have:=HBU.o.size;have:=HO.o;omega)),HGU.o.below HBD.o⟩
 case measure=>simp[intOf];omega
):T:=h
theorem yO (tv cv iv:Value)(texts:LL_)(code:List VI)(role:UInt8)(ins:LL_)(fuel:Int)(w:World)(ht:aK.Row w tv texts)(hc:bp.Row w cv code)(hi:aK.Row w iv ins)(hlt:texts.length≤1000)(hcl:code.length≤5000)(hm:∀ s∈texts,s.length≤140737488355328)(hGl:cU w)(hyes:cn texts code role ins fuel=true):Calls Tryz.prog 198 #[.agg #[tv,cv],.int .u8 (role.toNat:Int),iv] w fun e w'=>(∃ G ev ow,e=.returned (.pointer (some ⟨G,0,none⟩))∧w.heap.size≤G∧RS G w' G ⟨tv,cv,iv,ev,ow⟩ [] (stS 0 [] (List.replicate 8 (0,[])) [] []) ∧∀ w'',Below G w' w''→CU w'' ⟨texts,code,ins,(aq texts code role).2.2.ends⟩ tv cv iv ev ow (gh code (aq texts code role).2.2.ends code.length))∧Bw_ w w':=by
 have HGO:=zH (fun w' (hB:Below w.heap.size w w')=>kv tv cv texts code role w' (ht.below hB) (hc.below hB) hlt hcl hm);have hno:=(dG hyes).1;obtain⟨hel,hein⟩:=u5 (texts:=texts) (code:=code) (role:=role) hno hcl;obtain⟨at_,ct,rfl,-,-⟩:=an ht;obtain⟨ac,cc,rfl,-,hcc⟩:=ag hc;obtain⟨ai,ci,rfl,-,-⟩:=an hi;have HT:=zH ht;have HC:=zH hc;have HI:=zH hi;have HG:=zH hGl;have HCC:=zH hcc;obtain⟨B4,hB4⟩:=ex_ w.heap.size;obtain⟨W1,hW1⟩:=ex_ (w.alloc (.cells #[.slice at_ texts.length ct,.slice ac code.length cc] 25));have hb1:=ba_ hW1;have hx:=bn_ hB4 hW1;obtain⟨x0,x1⟩:=cl2 hx;obtain⟨ends,hends⟩:∃ x,x=(aq texts code role).2.2.ends:=⟨_,rfl⟩
 rw[←hends]at hel hein;have HNO:=zH hno;have HB1:=zH hb1;have HX:=zH hx;have HB4:=zH hB4;have HEL:=zH hel;have HEI:=zH hein;have HENDS:=zH hends;have j5:(code.length:Int)≤5000:=by omega
 go_enter Tryz.func198,Tryz.ntmps198;go_upto_region 1 with fail;rw[←hW1,←hB4];clear hW1 hB4 hno hb1 hx hel hein hends ht hc hi hGl hyes hcc hm;go_upto_region 2 with(go_at_call 95;refine(HGO.o _ HB1.o).mono ?_;rintro e w2 ⟨⟨Gg,gb,bv,sv,ev,rfl,hrg⟩,hB2⟩;replace hrg:=hrg HNO.o);have hoe:bf.Row w2 ev ends:=by rw[HENDS.o];exact hrg.oe.row
 obtain⟨ae,ce,rfl,-,hec⟩:=wA hoe;rw[HEL.o]at hrg hoe;have c6:=hrg.cell (k:=6) rfl;have x0:=C8 hB2 x0;have x1:=C8 hB2 x1;have HOE:=zH hoe;have HEC:=zH hec;have HB2:=zH hB2;have hmk:=fun w=>p7 code.length (by omega) w;have hGl:Gg<w2.heap.size:=aD c6;have hBl:B4<w2.heap.size:=aD x0;clear hrg hoe hec hB2 HGO;go_region;go_upto_region 3 with fail;obtain⟨O,hO⟩:=ex_ w2.heap.size;obtain⟨W0,hW0⟩:=ex_ (w2.alloc (.cells (bf.cells (List.replicate code.length 0)).toArray 3));obtain⟨cs,hcs⟩:∃ cs:List Value,cs=[.slice at_ texts.length ct,.slice ac code.length cc,.slice ai ins.length ci,.slice ae code.length ce,.slice (some ⟨O,0,none⟩) code.length code.length,.int .i64 0,.slice none 0 0,.bool false,.int .i64 0,.string ⟨#[]⟩,.bool false,.int .i64 0,.string ⟨#[]⟩,.bool false,.int .i64 0,.string ⟨#[]⟩,.bool false,.int .i64 0,.string ⟨#[]⟩,.bool false,.int .i64 0,.string ⟨#[]⟩,.bool false,.int .i64 0,.string ⟨#[]⟩,.bool false,.int .i64 0,.string ⟨#[]⟩,.bool false,.int .i64 0,.string ⟨#[]⟩,.slice none 0 0,.slice none 0 0]:=⟨_,rfl⟩
 obtain⟨W3,hW3⟩:=ex_ ((W0.alloc (.cells cs.toArray 302)).drew);have hs0:W0.heap.size=O+1:=by rw[hW0,hO];exact bo _ _
 have ho3:bf.Own W3 O (.slice (some ⟨O,0,none⟩) code.length code.length) (List.replicate code.length 0):=by
  have h1:=ns w2 code.length O (by omega) (by omega);rw[←hW0,←hO]at h1;rw[hW3];exact(h1.below (af _ _)).below (b_drew _)
 have hb3:Blk W3 (O+1) 302 cs:=by rw[hW3,←hs0];exact(Blk.new W0 _ _).below (b_drew _)
 have hB3:Below O w2 W3:=by
  have h1:=ba_ hW0;rw[hO,hW3];exact bt (bt h1 (af _ _)) (b_drew _)
 have hcm:cs=bP ⟨.slice at_ texts.length ct,.slice ac code.length cc,.slice ai ins.length ci,.slice ae code.length ce,.slice (some ⟨O,0,none⟩) code.length code.length⟩ 0 (.slice none 0 0) (rgN 4) (.slice none 0 0) (.slice none 0 0):=by rw[hcs];rfl
 rw[←hO,←hW0];have hg3:(W0.alloc (.cells #[.slice at_ texts.length ct,.slice ac code.length cc,.slice ai ins.length ci,.slice ae code.length ce,.slice (some ⟨O,0,none⟩) code.length code.length,.int .i64 0,.slice none 0 0,.bool false,.int .i64 0,.string ⟨#[]⟩,.bool false,.int .i64 0,.string ⟨#[]⟩,.bool false,.int .i64 0,.string ⟨#[]⟩,.bool false,.int .i64 0,.string ⟨#[]⟩,.bool false,.int .i64 0,.string ⟨#[]⟩,.bool false,.int .i64 0,.string ⟨#[]⟩,.bool false,.int .i64 0,.string ⟨#[]⟩,.bool false,.int .i64 0,.string ⟨#[]⟩,.slice none 0 0,.slice none 0 0] 302)).drew=W3:=by rw[hW3,hcs]
 have hGo:(O+1=W0.heap.size):=hs0.symm;rw[hg3];have HO:=zH hO;have HO3:=zH ho3;have HG3:=zH hb3;have HB3:=zH hB3;have HCM:=zH hcm
 have HEL2:Hid (∀ j,j<code.length→0<ends.getD j 0→ends.getD j 0<(code.length:Int)):=by
  intro j hj h0;have e:=HENDS.o;rw[e]at h0⊢;exact zz HNO.o hj h0
 have HX0:=zH x0;have HX1:=zH x1;have HC6:=zH c6;clear hmk hO hW0 hcs hW3 hs0 ho3 hb3 hB3 hcm hg3 hGo x0 x1 c6 hGl hBl;go_wp2_with fail
 go_loopw [11] (fun t wr=>∃ k:Nat,k≤code.length∧t=.int .i64 k∧Hid (bf.Own wr O (.slice (some ⟨O,0,none⟩) code.length code.length) (gh code ends k))∧Hid (Below O w2 wr)∧Hid (Blk wr (O+1) 302 cs)) (fun t _=>code.length-(intOf t).toNat)
 case atStart=>exact⟨0,by omega,rfl,HO3.o,HB3.o,HG3.o⟩
 case round =>
  obtain⟨q,hq,rfl,HOU,HBU,HGU⟩:=hrel;have hBw:Below w2.heap.size w2 wr:=by rw[←HO.o];exact HBU.o
  have HBW:=zH hBw;have x0:=C8 hBw HX0.o;have x1:=C8 hBw HX1.o;have c6:=C8 hBw HC6.o;clear hBw
  by_cases h1:q<code.length
  ·have i0:=nn_ q
   have i1:(q:Int)<(code.length:Int):=by omega
   have hqe:q<ends.length:=by rw[HEL.o];exact h1
   obtain⟨be,oe,rfl,g1⟩:=HEC.o q hqe;replace g1:=C8 HBW.o g1;have hge:=AI hqe;have hein:=HEI.o q h1;have helt:=HEL2.o q h1;have HSU:=zH (k7 code ends q);obtain⟨v,hv⟩:=ex_ (ends[q]);rw[←hv]at g1 hge;rw[hge]at HSU hein helt;have HEIN:=zH hein;have HELT:=zH helt;have HQ:=zH hqe;clear hv hge hein helt hqe
   by_cases h0:v=0
   ·subst h0
    have HS2:=zH (show gh code ends (q+1)=gh code ends q by rw[HSU.o,if_neg (fun h=>absurd h.1 (by decide))]);clear HSU HEIN HELT;exact FA
   ·have hv0:0<v:=by have:=HEIN.o;omega
    obtain⟨e,rfl⟩:∃ e:Nat,v=(e:Int):=⟨v.toNat,by omega⟩
    have hel:e<code.length:=by have:=HELT.o hv0;omega
    have hv1:0<e:=by omega
    have e0:=nn_ e;have e1:(e:Int)<(code.length:Int):=by omega
    obtain⟨ac',cc',hcv,-,hcc⟩:=ag ((HC.o.below (bt (bt HB1.o HB2.o) HBW.o)));obtain⟨b,off,rfl,d0,d1⟩:=hcc e hel;injection hcv with e1' e2' e3'
    subst e1' e3';have hgd:=zZ hel;obtain⟨op,hop⟩:=ex_ (code[e].1);rw[←hop]at d0
    have HSU2:=zH (show gh code ends (q+1)=if op=21 then (gh code ends q).set e (q:Int) else gh code ends q by
     rw[HSU.o,DI,hgd,←hop]
     by_cases hp:op=21
     ·rw[if_pos ⟨hv0,hp⟩,if_pos hp]
     ·rw[if_neg (fun h=>hp h.2),if_neg hp])
    have HH0:=zH h0;clear hcc hgd hop HSU HEIN HELT d1 h0 e2'
    by_cases hp:op=21
    ·have t5:((op.toNat:Int)==21)=true:=by rw[hp];rfl
     have HS2:=zH (show gh code ends (q+1)=(gh code ends q).set e (q:Int) by rw[HSU2.o,if_pos hp]);clear HSU2 hp;go_wp2_with fail;go_quiet (fail);obtain⟨U,hU⟩:=ex_ (wr.drewN nq);have hbd:Below wr.heap.size wr U:=by rw[hU];exact C9 _ _
     rw[←hU];replace x1:=C8 hbd x1;replace c6:=C8 hbd c6;replace g1:=C8 hbd g1;replace d0:=C8 hbd d0;have hOU:=HOU.o.below hbd;have hGU:=HGU.o.below hbd;have hBU:=HBU.o.trans (hbd.mono (by have:=HBU.o.size;have:=HO.o;omega));have g4:=hGU.cell (k:=4) (v:=.slice (some ⟨O,0,none⟩) code.length code.length) (by rw[HCM.o];rfl);obtain⟨⟨v0,z0⟩,zf⟩:=hOU.freeR (k:=e) (by show e<(gh code ends q).length*1;rw[gP];omega);have HOW:=zH hOU;have HGW:=zH hGU;have HBX:=zH hBU;have hgO:¬O+1=O:=by omega
     clear hU hbd hOU hGU hBU HOU HGU HBU;go_upto_region 7 with fail;go_region;have hc4:Chg (fun k=>k=O) U (U.setCell ⟨O,e,none⟩ (.int .i64 (q:Int))):=Chg.setCell _ _ _ rfl
     have ho4:bf.Own (U.setCell ⟨O,e,none⟩ (.int .i64 (q:Int))) O (.slice (some ⟨O,0,none⟩) code.length code.length) (gh code ends (q+1)):=by
      have h4:=HOW.o.setCell (k:=e) (by rw[gP];exact hel) (y:=(q:Int)) (j:=0) (by decide) (u:=.int .i64 (q:Int)) rfl;rw[show e*bf.n+0=e from by show e*1+0=e;omega]at h4;rw[HS2.o];exact h4
     have hg4:=HGW.o.chg hc4 (by omega);have hsz:O≤U.heap.size:=by have:=HBX.o.size;have:=HO.o;omega
     have hb4:=HBX.o.trans (hc4.below (fun k hk=>by rw[show k=O from hk];exact DC _) hsz);have HSZ4:=zH (DG hsz hc4.size);obtain⟨W4,hW4⟩:=ex_ (U.setCell ⟨O,e,none⟩ (.int .i64 (q:Int)));rw[←hW4]at hc4 ho4 hg4 hb4 HSZ4⊢;have HO4:=zH (ho4.below (b_drew W4));have HG4:=zH (hg4.below (b_drew W4));have HB4:=zH (hb4.trans ((b_drew W4).mono HSZ4.o));clear hc4 ho4 hg4 hb4 hsz hW4 z0 zf g4 c6 g1 d0 x0 x1;go_wp2_with fail;go_roundw
     case rel=>exact⟨q+1,by omega,by go_num,HO4.o,HB4.o,HG4.o⟩
     case measure=>simp[intOf];omega
    ·have t5:((op.toNat:Int)==21)=false:=by
      rw[beq_eq_false_iff_ne];intro h;exact hp (UInt8.toNat_inj.1 (by show op.toNat=21;omega))
     have HS2:=zH (show gh code ends (q+1)=gh code ends q by rw[HSU2.o,if_neg hp]);clear HSU2 hp;exact FA
  ·obtain⟨V,hV⟩:=ex_ wr
   subst hV;obtain rfl:q=code.length:=by omega
   have i1:¬(code.length:Int)<(code.length:Int):=by omega
   have HG0:=zH (HCM.o▸HGU.o);go_wp2_with fail
   go_loopw [12] (fun t wr=>∃ k:Nat,4≤k∧k≤8∧t=.int .i64 k∧Hid (Blk wr (O+1) 302 (bP ⟨.slice at_ texts.length ct,.slice ac code.length cc,.slice ai ins.length ci,.slice ae code.length ce,.slice (some ⟨O,0,none⟩) code.length code.length⟩ 0 (.slice none 0 0) (rgN k) (.slice none 0 0) (.slice none 0 0)))∧Hid (Below (O+1) V wr)) (fun t _=>8-(intOf t).toNat)
   case atStart=>exact⟨4,by omega,by omega,rfl,HG0.o,DF _ _⟩
   case round =>
    obtain⟨k,hk4,hk8,rfl,HGR,HBR⟩:=hrel;rcases(by omega:k=4∨k=5∨k=6∨k=7∨k=8) with rfl|rfl|rfl|rfl|rfl
    ·have HF:=zH (fun j (hj:j<33)=>HGR.o.free (k:=j) (by rw[ig _ _ _ _ _ (ki _)];exact hj))
     have g0:=HGR.o.cell (k:=19) (v:=.bool false) rfl;have f0:=HF.o 19 (by decide);have g1:=HGR.o.cell (k:=20) (v:=.int .i64 0) rfl;have f1:=HF.o 20 (by decide);have g2:=HGR.o.cell (k:=21) (v:=.string ⟨#[]⟩) rfl;have f2:=HF.o 21 (by decide);clear x0 x1 c6;go_wp2_with fail;go_roundw
     case rel=>exact⟨5,by omega,by omega,rfl,(dY HGR.o 19 (.bool true) (.int .i64 0) (.string ⟨#[]⟩)).1,HBR.o.trans ((dY HGR.o 19 (.bool true) (.int .i64 0) (.string ⟨#[]⟩)).2.below (fun k hk=>by rw[show k=O+1 from hk];exact DC _) (DA HGR.o.lt))⟩
     case measure=>decide
    ·have HF:=zH (fun j (hj:j<33)=>HGR.o.free (k:=j) (by rw[ig _ _ _ _ _ (ki _)];exact hj))
     have g0:=HGR.o.cell (k:=22) (v:=.bool false) rfl;have f0:=HF.o 22 (by decide);have g1:=HGR.o.cell (k:=23) (v:=.int .i64 0) rfl;have f1:=HF.o 23 (by decide);have g2:=HGR.o.cell (k:=24) (v:=.string ⟨#[]⟩) rfl;have f2:=HF.o 24 (by decide);clear x0 x1 c6;go_wp2_with fail;go_roundw
     case rel=>exact⟨6,by omega,by omega,rfl,(dY HGR.o 22 (.bool true) (.int .i64 0) (.string ⟨#[]⟩)).1,HBR.o.trans ((dY HGR.o 22 (.bool true) (.int .i64 0) (.string ⟨#[]⟩)).2.below (fun k hk=>by rw[show k=O+1 from hk];exact DC _) (DA HGR.o.lt))⟩
     case measure=>decide
    ·have HF:=zH (fun j (hj:j<33)=>HGR.o.free (k:=j) (by rw[ig _ _ _ _ _ (ki _)];exact hj))
     have g0:=HGR.o.cell (k:=25) (v:=.bool false) rfl;have f0:=HF.o 25 (by decide);have g1:=HGR.o.cell (k:=26) (v:=.int .i64 0) rfl;have f1:=HF.o 26 (by decide);have g2:=HGR.o.cell (k:=27) (v:=.string ⟨#[]⟩) rfl;have f2:=HF.o 27 (by decide);clear x0 x1 c6;go_wp2_with fail;go_roundw
     case rel=>exact⟨7,by omega,by omega,rfl,(dY HGR.o 25 (.bool true) (.int .i64 0) (.string ⟨#[]⟩)).1,HBR.o.trans ((dY HGR.o 25 (.bool true) (.int .i64 0) (.string ⟨#[]⟩)).2.below (fun k hk=>by rw[show k=O+1 from hk];exact DC _) (DA HGR.o.lt))⟩
     case measure=>decide
    ·have HF:=zH (fun j (hj:j<33)=>HGR.o.free (k:=j) (by rw[ig _ _ _ _ _ (ki _)];exact hj))
     have g0:=HGR.o.cell (k:=28) (v:=.bool false) rfl;have f0:=HF.o 28 (by decide);have g1:=HGR.o.cell (k:=29) (v:=.int .i64 0) rfl;have f1:=HF.o 29 (by decide);have g2:=HGR.o.cell (k:=30) (v:=.string ⟨#[]⟩) rfl;have f2:=HF.o 30 (by decide);clear x0 x1 c6;go_wp2_with fail;go_roundw
     case rel=>exact⟨8,by omega,by omega,rfl,(dY HGR.o 28 (.bool true) (.int .i64 0) (.string ⟨#[]⟩)).1,HBR.o.trans ((dY HGR.o 28 (.bool true) (.int .i64 0) (.string ⟨#[]⟩)).2.below (fun k hk=>by rw[show k=O+1 from hk];exact DC _) (DA HGR.o.lt))⟩
     case measure=>decide
    ·obtain⟨Z,hZ⟩:=ex_ wr
     subst hZ;clear x0 x1 c6;go_wp2_with fail;go_ret;have hVs:Below w.heap.size w V:=bt (bt HB1.o HB2.o) HBW.o;have hws:w.heap.size≤O:=by have:=(bt HB1.o HB2.o).size;have:=HO.o;omega
     have hVz:Below w.heap.size w Z:=hVs.trans (HBR.o.mono (by omega));rw[←HENDS.o];refine⟨⟨O+1,_,_,rfl,by omega,⟨0,[],rgN 8,[],[],_,_,_,⟨DC _,ki 8,ti (DC _) HGR.o⟩,rfl,rfl,yx 8,rfl,rfl⟩,fun w'' hB=>?_⟩,hVz⟩;have hVw:Below w.heap.size w w'':=hVz.trans (hB.mono (by omega));have hVB:=HBR.o.trans hB;have hw2:Below w2.heap.size w2 w'':=HBW.o.trans (hVB.mono (by have:=HO.o;omega));exact⟨HT.o.below hVw,HC.o.below hVw,HI.o.below hVw,HOE.o.below hw2,HOU.o.row.lowN hVB (fun b hb=>by cases hb;exact Nat.lt_succ_self O),HG.o.below hVw⟩
theorem RM.newX {bZ G:Nat}{w w3:World}{f:Rf}{at_:Int}{st rg:List RV}{los:List Lo}{pr:List (LU_×LU_)}{sv lv prv trv trv':Value}{tr l:List Int}(h:RM bZ w G f at_ st rg los pr sv lv prv [ownPt bf trv tr])(hc:Chg (fun k=>trv.ownBlock=some k) w w3)(hg:∀ k,trv'.ownBlock=some k→trv.ownBlock=some k∨w.heap.size≤k)(ho:bf.Own w3 bZ trv' l):RM bZ w3 G f at_ st rg los pr sv lv prv [ownPt bf trv' l]∧Below bZ w w3 :=
 ⟨⟨h.gb,h.rl,h.sep.upd (i:=5) rfl hc (fun k hk=>hk) (ownPt bf trv' l) ho hg⟩,h.sep.updB (i:=5) rfl hc (fun k hk=>hk) h.size⟩
theorem RM.addX {bZ G:Nat}{w:World}{f:Rf}{at_:Int}{st rg:List RV}{los:List Lo}{pr:List (LU_×LU_)}{sv lv prv:Value}(h:RM bZ w G f at_ st rg los pr sv lv prv []):RM bZ w G f at_ st rg los pr sv lv prv [ownPt bf (.slice none 0 0) []] :=
 ⟨h.gb,h.rl,h.sep.snoc (DF _ _) (ownPt bf (.slice none 0 0) []) (Rec.Own.nil _ _) (fun k hk=>by cases hk)⟩
theorem cZ {P:Program}{fn:Func}{p u u2:Tmp}{ty:TypeId}{tmps:Array Value}{w:World}{v:Value}{b:Nat}(hr:fn.results=#[.cell p ty,.tmp u,.tmp u2])(hp:tmps.getD p undef=.pointer (some ⟨b,0,none⟩))(hl:(loadVar ty ⟨b,0,none⟩).run P w=.ok v w):(results fn tmps).run P w=.ok (.tuple #[v,tmps.getD u undef,tmps.getD u2 undef]) w:=by
 simp only[Array.getD_eq_getD_getElem?]at hp⊢;simp[results,hr,Sem.run_bind,Result.andThen,hp,asAddr,hl]
def CY (B:Nat)(r:Nat×List (LU_×LU_)×LU_)(e:Ending)(w:World):Prop :=
 ∃ pv n tr,e=.returned (.tuple #[.agg #[pv,.string (bs r.2.2),.int .i64 n],tr,.int .i64 (r.1:Int)])∧recKq.Row w pv r.2.1∧∀ k,pv.ownBlock=some k→B≤k
theorem FB {T:Prop} (h:T:=by
 obtain⟨hy3,hc3⟩:=cq HYU.o (.slice none 0 0) (.string ⟨#[]⟩) (.int .i64 0);refine bodyPost_ret (cZ rfl rfl (di (hy3.cell (k:=0) rfl) (hy3.cell (k:=1) rfl) (hy3.cell (k:=2) rfl))) rfl ?_;rw[HRV.o];exact⟨⟨_,_,_,rfl,Rec.Row.nil _,fun k hk=>by cases hk⟩,HBA.o.trans (hc3.below (fun k hk=>by rw[show k=B4+1 from hk,HB4.o];exact Nat.le_succ _) HBA.o.size)⟩
):T:=h
theorem yL (tv cv iv:Value)(texts:LL_)(code:List VI)(role:UInt8)(ins:LL_)(F:Nat)(w:World)(ht:aK.Row w tv texts)(hc:bp.Row w cv code)(hi:aK.Row w iv ins)(hlt:texts.length≤1000)(hcl:code.length≤5000)(hm:∀ s∈texts,s.length≤140737488355328)(hGl:cU w)(hyes:cn texts code role ins (F:Int)=true):Calls Tryz.prog 156 #[.agg #[tv,cv],.int .u8 (role.toNat:Int),iv,.int .i64 (F:Int)] w fun e w'=>CY w.heap.size (vmV texts code role ins (F:Int)) e w'∧Bw_ w w':=by
 have HNEW:=zH (fun w' (hB:Below w.heap.size w w')=>yO tv cv iv texts code role ins (F:Int) w' (ht.below hB) (hc.below hB) (hi.below hB) hlt hcl hm (hGl.below hB) hyes);obtain⟨a1,a2,a3,a4,a5⟩:=dG hyes;have hg:=(fg a1 a2 a5).1;have hF6:F≤65536:=by omega
 have hc256:code.length≤256:=by
  exact GU
 have HV:=zH (jW hyes);rw[DI]at HV;have HST:=zH (oX hyes F);have hown:=Ar hg;obtain⟨E,hE⟩:∃ E:Me,E=⟨texts,code,ins,(aq texts code role).2.2.ends⟩:=⟨_,rfl⟩
 have hEc:E.code=code:=by rw[hE]
 have hEe:E.ends=(aq texts code role).2.2.ends:=by rw[hE]
 rw[←hE,←hEe]at HNEW;rw[←hE]at hg HV HST hown;rw[hEc]at hown;obtain⟨at_,ct,rfl,-,-⟩:=an ht;obtain⟨ac,cc,rfl,-,-⟩:=ag hc;obtain⟨ai,ci,rfl,-,-⟩:=an hi;obtain⟨B4,hB4⟩:=ex_ w.heap.size;obtain⟨W1,hW1⟩:=ex_ ((w.alloc (.cells #[.slice at_ texts.length ct,.slice ac code.length cc] 25)).alloc (.cells #[.slice none 0 0,.string ⟨#[]⟩,.int .i64 0] 178));have hb1:Below w.heap.size w W1:=by rw[hW1];exact bt (af _ _) (af _ _)
 have hs1:(w.alloc (.cells #[.slice at_ texts.length ct,.slice ac code.length cc] 25)).heap.size=B4+1:=by rw[hB4];exact bo _ _
 have hx:Blk W1 B4 25 [.slice at_ texts.length ct,.slice ac code.length cc]:=by rw[hB4,hW1];exact(Blk.new w _ _).below (af _ _)
 have hy:Blk W1 (B4+1) 178 [.slice none 0 0,.string ⟨#[]⟩,.int .i64 0]:=by rw[hW1,←hs1];exact Blk.new _ _ _
 have hsz:W1.heap.size=B4+2:=by rw[hW1,bo,hs1]
 obtain⟨x0,x1⟩:=cl2 hx;have HB1:=zH hb1;have HX:=zH hx;have HY:=zH hy;have HB4:=zH hB4;have HSZ:=zH hsz;have HG:=zH hg;have HOWN:=zH hown;have HE:=zH hE;have HEC:=zH hEc;go_enter Tryz.func156,Tryz.ntmps156;go_upto_region 1 with fail;rw[←hW1,←hB4];clear hW1 hB4 ht hc hi hGl hb1 hx hy hs1 hsz hyes hm a1 a2 a3 a4 a5 hg hE hEc hEe hown;go_upto_region 2 with(go_at_call 198;refine(HNEW.o _ HB1.o).mono ?_;rintro e w2 ⟨⟨G,ev,ow,rfl,hle,hRS,hEnv⟩,hB2⟩);have HB2:=zH (bt HB1.o hB2);have hle:B4+2≤G:=by rw[←HSZ.o];exact hle
 have HX2:=zH (HX.o.below hB2);have HY2:=zH (HY.o.below hB2);have HENV:=zH hEnv
 have H0:Hid (RS G w2 G ⟨.slice at_ texts.length ct,.slice ac code.length cc,.slice ai ins.length ci,ev,ow⟩ [ownPt bf (.slice none 0 0) []] (stS 0 [] (List.replicate 8 (0,[])) [] [])):=by
  obtain⟨a,s,r,l,p,sv,lv,prv,h1,h2⟩:=hRS;exact⟨a,s,r,l,p,sv,lv,prv,h1.addX,h2⟩
 have HLE:=zH hle;have HGS:=zH hRS.size;clear HNEW hB2 hEnv hRS hle x0 x1 HX HY;go_wp2_with fail
 go_loopw [12] (fun t wr=>∃ (m:Mc) (tr:List Int) (ta:Option Addr) (tc:Nat),t=.slice ta tr.length tc∧Hid (tr.length≤F)∧Hid (RS G wr G ⟨.slice at_ texts.length ct,.slice ac code.length cc,.slice ai ins.length ci,ev,ow⟩ [ownPt bf (.slice ta tr.length tc) tr] (stS (m.pc:Int) m.st m.rg m.op m.pr)) ∧
  Hid (OkM (sM texts.length (inputsV role) role E) E m)∧Hid (cJ E (F-tr.length) m=cJ E F aY)∧Hid (Below G w2 wr)) (fun t _=>F-Bb (some t))
 case atStart=>exact⟨aY,[],none,0,rfl,D6 _,H0.o,fA,rfl,DF _ _⟩
 case round =>
  obtain⟨m,tr,ta,tc,rfl,HTR,HRS,HOK,HRUN,HBW⟩:=hrel;obtain⟨pc,st,rg,op,pr⟩:=m;dsimp only at HRS;obtain⟨_,s0,r0,los,pr,sv,lv,prv,hm,rfl,hs,hr,hl,rfl⟩:=HRS.o;have c5:wr.cell? ⟨G,5,none⟩=some (.int .i64 (pc:Int)):=hm.cell (k:=5) rfl;have x1:=(HX2.o.low HBW.o (by have:=HLE.o;omega)).cell (k:=1) rfl;have i1:(code.length:Int)≤256:=by omega
  have i2:(pc:Int)≤(code.length:Int):=by have:=HOK.o.pc;rw[HEC.o]at this;show(pc:Int)≤_;simp at this;omega
  have i3:(tr.length:Int)≤65536:=by have:=HTR.o;omega
  have HM:=zH hm;have HY3:=zH (HY2.o.low HBW.o (by have:=HLE.o;omega));have HSS:=zH hs;have HRR:=zH hr;have HLL:=zH hl;have HWR:=zH (show Below w.heap.size w wr from HB2.o.trans (HBW.o.mono (by have:=HLE.o;have:=HB4.o;omega)));have HHI:=zH hlt;have HC6:=zH hc256;clear hm hs hr hl
  by_cases hpc:pc<code.length
  ·have i4:(pc:Int)<(code.length:Int):=by omega
   have HPC:=zH (show pc<E.code.length by rw[HEC.o];exact hpc)
   by_cases hf:F≤tr.length
   ·have i5:(F:Int)≤(tr.length:Int):=by omega
    have HD:=zH (show(cJ E F aY).1=140 by
     have:=HRUN.o;rw[show F-tr.length=0 by omega,kW _ HPC.o]at this;rw[←this])
    have HRV:=zH (show vmV texts code role ins (F:Int)=(140,[],[]) by rw[HV.o];unfold l8;rw[HD.o];rfl);go_wp2_with fail;go_quiet (fail);obtain⟨U,hU⟩:=ex_ (wr.drewN nq);have hbd:Below wr.heap.size wr U:=by rw[hU];exact C9 _ _
    rw[←hU];have hyU:=HY3.o.below hbd;obtain⟨y0,y1,y2⟩:=cl3 hyU;obtain⟨k0,k1,k2⟩:=fr3 hyU;have HYU:=zH hyU;have HBA:=zH (HWR.o.trans (hbd.mono HWR.o.size));clear hyU hbd hU c5 x1;go_wp2_with fail;exact FB
   ·have i5:¬(F:Int)≤(tr.length:Int):=by omega
    go_wp2_with fail;go_quiet (fail);go_upto_region 6 with fail;obtain⟨U,hU⟩:=ex_ (wr.drewN nq);have hbd:Below wr.heap.size wr U:=by rw[hU];exact C9 _ _
    rw[←hU];have hmU:=HM.o.below hbd;have c5:U.cell? ⟨G,5,none⟩=some (.int .i64 (pc:Int)):=hmU.cell (k:=5) rfl;have hot:bf.Own U G (.slice ta tr.length tc) tr:=hmU.loc (p:=ownPt bf (.slice ta tr.length tc) tr) (by simp);have hgb:G≤U.heap.size:=hmU.size;have hGl:G<U.heap.size:=hmU.blk.lt;have hby:(tr.length+1)*8≤140737488355328:=by omega
    have HMU:=zH (hmU.below (af U (.cells (bf.cells [(pc:Int)]).toArray 3)));have HOT:=zH hot;have HBU:=zH ((HBW.o.trans (hbd.mono HM.o.size)).trans ((af U (.cells (bf.cells [(pc:Int)]).toArray 3)).mono hgb));clear hU hbd hmU hot x1 HBW;go_upto_region 7 with(at_builtin;go_must (refine bf.append1V _ (pc:Int) rfl _ _ 98 rfl Tryz.underlying98 G (.slice ta tr.length tc) tr (HOT.o.below (af _ _)) rfl _ rfl (Rec.Row.new (R:=bf) U [(pc:Int)] _).1 hby (DG hgb (af _ _).size) ?_);intro g gc w6 hown hc6 hg6;have hn:=HMU.o.newX hc6 (fun k hk=>by cases hk;exact hg6) hown;have HN:=zH hn;clear hown hc6 hg6 hn);have HB6:=zH (HBU.o.trans HN.o.2);have hst6:RS G w6 G ⟨.slice at_ texts.length ct,.slice ac code.length cc,.slice ai ins.length ci,ev,ow⟩ [ownPt bf (.slice (some ⟨g,0,none⟩) (tr.length+1) gc) (tr++[(pc:Int)])] (stS (pc:Int) st rg op pr):=⟨_,s0,r0,los,pr,sv,lv,prv,HN.o.1,rfl,HSS.o,HRR.o,HLL.o,rfl⟩
    have hST:=wd HG.o hlt (by unfold inputsV;split<;>omega) (by rw[HEC.o];exact hc256) HOK.o HPC.o rfl rfl hst6 (fun w' hB=>HENV.o _ (HB6.o.trans hB)) HOWN.o;have hdM:doM E (xM E ⟨pc,st,rg,op,pr⟩) ⟨pc,st,rg,op,pr⟩=doN E (E.code.getD pc (0,0)).1.toNat (E.code.getD pc (0,0)).2 pc st rg op pr:=rfl;have hok2:=uu HG.o HOK.o HPC.o;rw[hdM]at hok2;have hrun2:=HRUN.o;rw[show F-tr.length=(F-(tr.length+1))+1 by omega]at hrun2;obtain⟨R,hR⟩:=ex_ (doN E (E.code.getD pc (0,0)).1.toNat (E.code.getD pc (0,0)).2 pc st rg op pr);rw[←hR]at hST hdM hok2;have HST6:=zH hST;have HDM:=zH hdM;have HOK2:=zH hok2;have HRUN2:=zH hrun2;clear hST hdM hok2 hrun2 hR hst6 c5 hgb hGl hby HMU HOT HBU
    by_cases h0:R.1=0
    ·have HOK3:=zH (HOK2.o.2 h0)
     have HRUN3:=zH (show cJ E (F-(tr.length+1)) R.2=cJ E F aY by
      have:=HRUN2.o
      rwa [pS HPC.o (by rw[HDM.o];exact h0),HDM.o]at this)
     rw[h0]at HST6;have HME:=zH (show F-(tr.length+1)<F-tr.length by omega);clear h0 HRUN2 HOK2 HDM;go_wp2_with (go_at_call 199;refine HST6.o.mono ?_;rintro r w7 ⟨rfl,hst7,hB7⟩;have HST7:=zH (hst7 (by trivial));have HB7:=zH (HB6.o.trans hB7);clear hst7 hB7);go_roundw
     case rel=>exact⟨R.2,tr++[(pc:Int)],some ⟨g,0,none⟩,gc,by rw[DL];rfl,by rw[DL,Ea];show tr.length+1≤F;omega,by rw[DL];exact HST7.o,HOK3.o,by rw[DL,Ea];exact HRUN3.o,HB7.o⟩
     case measure=>exact HME.o
    ·have h1:((R.1:Int) != 0)=true:=by rw[bne_iff_ne];omega
     obtain⟨c,hc⟩:=ex_ R.1
     have HD:=zH (show(cJ E F aY).1=c by
      have:=HRUN2.o;rw[mJ HPC.o (by rw[HDM.o];exact h0),HDM.o]at this;rw[←this,hc])
     rw[←hc]at h1 HST6;have HC0:=zH (show ¬c=0 by rw[hc];exact h0);have HRV:=zH (show vmV texts code role ins (F:Int)=(c,[],[]) by rw[HV.o];unfold l8;rw[HD.o,if_neg HC0.o]);clear hc h0;go_wp2_with (go_at_call 199;refine HST6.o.mono ?_;rintro r w7 ⟨rfl,-,hB7⟩;have hB7w:=HB6.o.trans hB7;have hyU:=HY2.o.low hB7w (by have:=HLE.o;omega);have HBA:=zH (show Below w.heap.size w w7 from HB2.o.trans (hB7w.mono (by have:=HLE.o;have:=HB4.o;omega)));obtain⟨y0,y1,y2⟩:=cl3 hyU;obtain⟨k0,k1,k2⟩:=fr3 hyU;have HYU:=zH hyU;clear hyU hB7 hB7w);exact FB
  ·have i4:¬(pc:Int)<(code.length:Int):=by omega
   have HD:=zH (show cJ E F aY=(0,⟨pc,st,rg,op,pr⟩) by rw[←HRUN.o];exact mI _ _ (by rw[HEC.o];exact hpc));obtain⟨hsl,-⟩:=HST.o (by rw[HD.o]);rw[HD.o]at hsl;dsimp only at hsl;have HRV:=zH (show vmV texts code role ins (F:Int)=(0,pr,if role=1 then [] else (st.headD (0,[])).2) by rw[HV.o];unfold l8;rw[HD.o];rfl);have HSL:=zH hsl;clear hsl hpc;obtain⟨_,_,⟨pa,pc',rfl⟩⟩:=HM.o.slices;go_wp2_with fail;go_quiet (fail);go_upto_region 10 with fail;obtain⟨U,hU⟩:=ex_ (wr.drewN nq);have hbd:Below wr.heap.size wr U:=by rw[hU];exact C9 _ _
   rw[←hU];have hmU:=HM.o.below hbd;have c32:=hmU.cellR (k:=1) (v:=.slice pa pr.length pc') rfl;have hGl:G<U.heap.size:=hmU.blk.lt;have HMU:=zH hmU;have HYU:=zH (HY3.o.below hbd);have HBU:=zH (HWR.o.trans (hbd.mono HWR.o.size));clear hU hbd hmU c5 x1;go_upto_region 11 with fail;obtain⟨T,hT⟩:=ex_ U.heap.size;obtain⟨Z,hZ⟩:=ex_ (U.alloc (.cells #[.slice pa pr.length pc',.string ⟨#[]⟩,.int .i64 (tr.length:Int)] 178));have hTb:G≤T:=by rw[hT];exact HMU.o.size
   have hmZ:RM G Z G ⟨.slice at_ texts.length ct,.slice ac code.length cc,.slice ai ins.length ci,ev,ow⟩ (pc:Int) s0 r0 los pr sv lv (.slice pa pr.length pc') ([ownPt bf (.slice ta tr.length tc) tr]++[az T hTb 178 [.slice pa pr.length pc',.string ⟨#[]⟩,.int .i64 (tr.length:Int)]]):=by
    subst hT;rw[hZ];exact HMU.o.add [.slice pa pr.length pc',.string ⟨#[]⟩,.int .i64 (tr.length:Int)] 178
   have hbZ:=ba_ hZ;rw[←hZ,←hT];have HYZ:=zH (HYU.o.below hbZ);have HBZ:=zH (HBU.o.trans (hbZ.mono HBU.o.size));have HMZ:=zH hmZ;have hgT:¬T=B4+1:=by have:=HLE.o;omega
   have hgT':¬B4+1=T:=fun e=>hgT e.symm;clear hZ hT hbZ hmZ c32 hGl HMU HYU HBU
   by_cases hr:role=1
   ·have t1:((role.toNat:Int) != 1)=false:=by rw[hr];rfl
    have HRV2:=zH (show vmV texts code role ins (F:Int)=(0,pr,[]) by rw[HRV.o,if_pos hr]);have hbl:=HMZ.o.loc (p:=az T hTb 178 [.slice pa pr.length pc',.string ⟨#[]⟩,.int .i64 (tr.length:Int)]) (by simp);have hbl:Blk Z T 178 [.slice pa pr.length pc',.string ⟨#[]⟩,.int .i64 (tr.length:Int)]:=hbl;obtain⟨z0,z1,z2⟩:=cl3 hbl;obtain⟨y0,y1,y2⟩:=cl3 HYZ.o;obtain⟨k0,k1,k2⟩:=fr3 HYZ.o;clear hr hbl;go_wp2_with fail;obtain⟨hy3,hc3⟩:=cq HYZ.o (.slice pa pr.length pc') (.string (bs [])) (.int .i64 (tr.length:Int));refine bodyPost_ret (cZ rfl rfl (di (hy3.cell (k:=0) rfl) (hy3.cell (k:=1) rfl) (hy3.cell (k:=2) rfl))) rfl ?_;rw[HRV2.o];refine⟨⟨_,_,_,rfl,(HMZ.o.op.chgV hc3 (fun k hk e=>?_)).row,fun k hk=>by have:=(HMZ.o.op.ltV k hk).1;have:=HLE.o;have:=HB4.o;omega⟩,HBZ.o.trans (hc3.below (fun k hk=>by rw[show k=B4+1 from hk,HB4.o];exact Nat.le_succ _) HBZ.o.size)⟩;have h9:=(HMZ.o.op.ltV k hk).1;rw[show k=B4+1 from e]at h9;have:=HLE.o;omega
   ·have t1:((role.toNat:Int) != 1)=true:=by
     rw[bne_iff_ne];exact GH
    obtain⟨v,rfl⟩:∃ v,s0=[v]:=by
     have h1:=HSL.o;unfold eY at h1;rw[if_neg hr,←HSS.o,Ed]at h1
     match s0,h1 with
     | [v],_=>exact⟨v,rfl⟩
    have HRV2:=zH (show vmV texts code role ins (F:Int)=(0,pr,v.2.2) by rw[HRV.o,if_neg hr,←HSS.o];rfl);have HP:=zH (aT v HMZ.o (by simp));clear hr HSL HRV;go_wp2_with (go_at_call 200;refine HP.o.mono ?_;rintro r w5 ⟨rfl,⟨sv5,hm5⟩,hB5⟩;unfold rvV;have hbl:Blk w5 T 178 [.slice pa pr.length pc',.string ⟨#[]⟩,.int .i64 (tr.length:Int)]:=hm5.loc (p:=az T hTb 178 [.slice pa pr.length pc',.string ⟨#[]⟩,.int .i64 (tr.length:Int)]) (by simp);obtain⟨z0,z1,z2⟩:=cl3 hbl;have f1:=hbl.free (k:=1) (by simp);have hy5:=HYZ.o.low hB5 (by have:=HLE.o;omega);obtain⟨y0,y1,y2⟩:=cl3 hy5;obtain⟨k0,k1,k2⟩:=fr3 hy5;have HM5:=zH hm5;have HBL:=zH hbl;have HY5:=zH hy5;have HB5:=zH hB5;clear hm5 hy5 hB5 hbl);have hc5:Chg (fun k=>k=T) w5 (w5.setCell ⟨T,1,none⟩ (.string (bs v.2.2))):=Chg.setCell _ _ _ rfl;have hy6:=HY5.o.chg hc5 hgT';obtain⟨hm6,hb6⟩:=HM5.o.updX (i:=1) rfl hc5 (fun k hk=>hk) (az T hTb 178 [.slice pa pr.length pc',.string (bs v.2.2),.int .i64 (tr.length:Int)]) (HBL.o.set 1 _) (fun k hk=>hk);obtain⟨hy3,hc3⟩:=cq hy6 (.slice pa pr.length pc') (.string (bs v.2.2)) (.int .i64 (tr.length:Int));refine bodyPost_ret (cZ rfl rfl (di (hy3.cell (k:=0) rfl) (hy3.cell (k:=1) rfl) (hy3.cell (k:=2) rfl))) rfl ?_;rw[HRV2.o];have hball:Below w.heap.size w (w5.setCell ⟨T,1,none⟩ (.string (bs v.2.2))):=HBZ.o.trans ((HB5.o.trans hb6).mono (by have:=HLE.o;have:=HB4.o;omega));refine⟨⟨_,_,_,rfl,(hm6.op.chgV hc3 (fun k hk e=>?_)).row,fun k hk=>by have:=(hm6.op.ltV k hk).1;have:=HLE.o;have:=HB4.o;omega⟩,hball.trans (hc3.below (fun k hk=>by rw[show k=B4+1 from hk,HB4.o];exact Nat.le_succ _) hball.size)⟩
    have h9:=(hm6.op.ltV k hk).1;rw[show k=B4+1 from e]at h9;have:=HLE.o;omega
theorem FC {T:Prop} (h:T:=by
 go_ret;exact⟨(congrArg (fun b=>Ending.returned (Value.bool b)) HF.o).symm,HB2.o⟩
):T:=h
theorem FE {T:Prop} (h:T:=by
 clear k1 k2;go_wp2_with (go_at_call 184;refine(HIN.o _).mono ?_;rintro r w3 ⟨rfl,rfl⟩);exact FC
):T:=h
theorem FD {T:Prop} (h:T:=by
 have HF:=zH (bS (texts:=texts) (code:=code) (role:=role) (ins:=ins) (fuel:=fuel) (fun h=>by omega));exact FE
):T:=h
theorem tJ (tv cv iv:Value)(texts:LL_)(code:List VI)(role:UInt8)(ins:LL_)(fuel:Int)(w:World)(ht:aK.Row w tv texts)(hc:bp.Row w cv code)(hi:aK.Row w iv ins)(hlt:texts.length≤1000)(hcl:code.length≤5000)(hm:∀ s∈texts,s.length≤140737488355328)(hil:ins.length≤10)(his:∀ s∈ins,s.length≤140737488355328)(hf0:-9223372036854775808≤fuel)(hf1:fuel≤9223372036854775807):Calls Tryz.prog 155 #[.agg #[tv,cv],.int .u8 (role.toNat:Int),iv,.int .i64 fuel] w fun e w'=>e=.returned (.bool (cn texts code role ins fuel))∧Bw_ w w':=by
 have HGO:=zH (fun w' (hB:Below w.heap.size w w')=>kv tv cv texts code role w' (ht.below hB) (hc.below hB) hlt hcl hm);obtain⟨at_,ct,rfl,-,-⟩:=an ht;obtain⟨ac,cc,rfl,-,-⟩:=ag hc;obtain⟨ai,ci,rfl,-,-⟩:=an hi;have HI:=zH hi;have HIS:=zH his;obtain⟨B4,hB4⟩:=ex_ w.heap.size;obtain⟨W1,hW1⟩:=ex_ (w.alloc (.cells #[.slice at_ texts.length ct,.slice ac code.length cc] 25));have hb1:=ba_ hW1;have hx:=bn_ hB4 hW1;obtain⟨x0,x1⟩:=cl2 hx;have HB1:=zH hb1;go_enter Tryz.func155,Tryz.ntmps155;go_upto_region 1 with fail;rw[←hW1,←hB4];clear hW1 hB4 ht hc hi hm his hb1 hx;go_upto_region 2 with(go_at_call 95;refine(HGO.o _ HB1.o).mono ?_;rintro e w2 ⟨⟨Gg,gb,bv,sv,ev,rfl,-⟩,hB2⟩);obtain⟨e0,he0⟩:=ex_ ((aq texts code role).2.1);have HE0:=zH he0;rw[←he0];have HB2:=zH (bt HB1.o hB2);obtain⟨N,hN⟩:=ex_ (inputsV role);have HN:=zH hN;have HIN:=zH (fun w'=>iM role w');rw[←hN]at HIN;clear hB2 he0 hN x0 x1
 by_cases k1:e0=0
 ·have t1:((e0:Int) != 0)=false:=by rw[k1];rfl
  by_cases k2:ins.length=N
  ·have t2:((ins.length:Int) != (N:Int))=false:=Bj k2
   by_cases k3:fuel<0
   ·exact FD
   ·by_cases k4:65536<fuel
    ·exact FD
    ·have K1:=zH k1
     have K2:=zH k2;have K3:=zH k3;have K4:=zH k4;have j1:(ins.length:Int)≤10:=by omega
     clear k1 k2;obtain⟨V,hV⟩:=ex_ w2;subst hV;go_wp2_with (go_at_call 184;refine(HIN.o _).mono ?_;rintro r w3 ⟨rfl,hw3⟩;obtain rfl:V=w3:=hw3.symm)
     go_loopw [12] (fun t wr=>∃ k:Nat,k≤ins.length∧t=.int .i64 k∧wr=V∧Hid (∀ j (hj:j<ins.length),j<k→ins[j].length≤1024)) (fun t _=>ins.length-(intOf t).toNat)
     case atStart=>exact⟨0,by omega,rfl,rfl,fun j _ h=>by omega⟩
     case round =>
      obtain⟨k,hk,rfl,hwr,HH⟩:=hrel;obtain rfl:V=wr:=hwr.symm
      by_cases h0:k<ins.length
      ·obtain⟨ai',ci',hiv,-,hic⟩:=an (HI.o.below HB2.o)
       obtain⟨b,off,rfl,d0⟩:=hic k h0;injection hiv with e1 e2 e3
       subst e1 e3;have i0:=nn_ k;have i1:(k:Int)<(ins.length:Int):=by omega
       have hsl:=HIS.o _ (DY h0);obtain⟨s,hs⟩:=ex_ (ins[k]);rw[←hs]at d0 hsl;have HS:=zH hs;have hsl':(s.length:Int)≤140737488355328:=by omega
       clear hic hs
       by_cases hl:1024<s.length
       ·have t5:(1024:Int)<(s.length:Int):=by omega
        have HF:=zH (bS (texts:=texts) (code:=code) (role:=role) (ins:=ins) (fuel:=fuel) (fun h=>by have:=h.2.2.2.2 _ (DY h0);rw[←HS.o]at this;omega));go_wp2_with fail;exact FC
       ·exact Gm
      ·have HAL:=zH (fun s (hs:s∈ins)=>show s.length≤1024 by
        obtain⟨j,hj,rfl⟩:=List.getElem_of_mem hs;exact HH.o j hj (by omega))
       have HF:=zH (pA (texts:=texts) (code:=code) (role:=role) (ins:=ins) (fuel:=fuel) (by rw[←HE0.o];exact K1.o) (by rw[←HN.o];exact K2.o) (by have:=K3.o;omega) (by have:=K4.o;omega) HAL.o);have i1:¬(k:Int)<(ins.length:Int):=by omega
       go_wp2_with fail;exact FC
  ·have t2:((ins.length:Int) != (N:Int))=true:=Bi k2
   have HF:=zH (bS (texts:=texts) (code:=code) (role:=role) (ins:=ins) (fuel:=fuel) (fun h=>by have:=HN.o;omega));exact FE
 ·have t1:((e0:Int) != 0)=true:=by rw[bne_iff_ne];omega
  have HF:=zH (bS (texts:=texts) (code:=code) (role:=role) (ins:=ins) (fuel:=fuel) (fun h=>by have:=HE0.o;omega));clear k1;go_wp2_with fail;exact FC
def R15 (B:Nat)(r:Nat×List (LU_×LU_)×LU_)(e:Ending)(w:World):Prop :=
 ∃ a c n,e=.returned (.tuple #[.agg #[.slice a r.2.1.length c,.string (bs r.2.2),.int .i64 n],.int .i64 (r.1:Int)])∧recKq.Row w (.slice a r.2.1.length c) r.2.1∧∀ k,(Value.slice a r.2.1.length c).ownBlock=some k→B≤k
theorem Gi {T:Prop} (h:T:=by
 obtain⟨hy3,hc3⟩:=cq HYU.o (.slice none 0 0) (.string ⟨#[]⟩) (.int .i64 0);refine bodyPost_ret (bz rfl rfl (di (hy3.cell (k:=0) rfl) (hy3.cell (k:=1) rfl) (hy3.cell (k:=2) rfl))) rfl ?_;rw[HN.o];exact⟨⟨_,_,_,rfl,Rec.Row.nil _,fun k hk=>by cases hk⟩,HB2.o.trans (hc3.below (fun k hk=>by rw[show k=B4+1 from hk,HB4.o];exact Nat.le_succ _) HB2.o.size)⟩
):T:=h
theorem mK (tv cv iv:Value)(texts:LL_)(code:List VI)(role:UInt8)(ins:LL_)(fuel:Int)(w:World)(ht:aK.Row w tv texts)(hc:bp.Row w cv code)(hi:aK.Row w iv ins)(hlt:texts.length≤1000)(hcl:code.length≤5000)(hm:∀ s∈texts,s.length≤140737488355328)(hil:ins.length≤10)(his:∀ s∈ins,s.length≤140737488355328)(hf0:-9223372036854775808≤fuel)(hf1:fuel≤9223372036854775807)(hGl:cU w):Calls Tryz.prog 109 #[.agg #[tv,cv],.int .u8 (role.toNat:Int),iv,.int .i64 fuel] w fun e w'=>R15 w.heap.size (vmV texts code role ins fuel) e w'∧Bw_ w w':=by
 have HMAY:=zH (fun w' (hB:Below w.heap.size w w')=>tJ tv cv iv texts code role ins fuel w' (ht.below hB) (hc.below hB) (hi.below hB) hlt hcl hm hil his hf0 hf1);have HRUN:=zH (fun (F:Nat) (hF:cn texts code role ins (F:Int)=true) w' (hB:Below w.heap.size w w')=>yL tv cv iv texts code role ins F w' (ht.below hB) (hc.below hB) (hi.below hB) hlt hcl hm (hGl.below hB) hF);obtain⟨at_,ct,rfl,-,-⟩:=an ht;obtain⟨ac,cc,rfl,-,-⟩:=ag hc;obtain⟨ai,ci,rfl,-,-⟩:=an hi;obtain⟨B4,hB4⟩:=ex_ w.heap.size;obtain⟨W1,hW1⟩:=ex_ ((w.alloc (.cells #[.slice at_ texts.length ct,.slice ac code.length cc] 25)).alloc (.cells #[.slice none 0 0,.string ⟨#[]⟩,.int .i64 0] 178));have hb1:Below w.heap.size w W1:=by rw[hW1];exact bt (af _ _) (af _ _)
 have hs1:(w.alloc (.cells #[.slice at_ texts.length ct,.slice ac code.length cc] 25)).heap.size=B4+1:=by rw[hB4];exact bo _ _
 have hx:Blk W1 B4 25 [.slice at_ texts.length ct,.slice ac code.length cc]:=by rw[hB4,hW1];exact(Blk.new w _ _).below (af _ _)
 have hy:Blk W1 (B4+1) 178 [.slice none 0 0,.string ⟨#[]⟩,.int .i64 0]:=by rw[hW1,←hs1];exact Blk.new _ _ _
 have hsz:W1.heap.size=B4+2:=by rw[hW1,bo,hs1]
 obtain⟨x0,x1⟩:=cl2 hx;have HB1:=zH hb1;have HX:=zH hx;have HY:=zH hy;have HB4:=zH hB4;have HSZ:=zH hsz;go_enter Tryz.func109,Tryz.ntmps109;go_upto_region 1 with fail;rw[←hW1,←hB4];clear hW1 hB4 ht hc hi hGl hb1 hx hy hs1 hsz hm his
 by_cases hyes:cn texts code role ins fuel=true
 ·obtain⟨-,-,a3,-,-⟩:=dG hyes
  obtain⟨F,rfl⟩:∃ F:Nat,fuel=(F:Int):=⟨fuel.toNat,by omega⟩
  have HR:=zH (HRUN.o F hyes);rw[hyes]at HMAY;obtain⟨V,hV⟩:=ex_ (vmV texts code role ins (F:Int));rw[←hV]at HR;have HV:=zH hV;clear hyes a3 hV HRUN;go_upto_region 3 with(go_at_call 155;refine(HMAY.o _ HB1.o).mono ?_;rintro e w2 ⟨rfl,hB2⟩);have x0:=C8 hB2 x0;have x1:=C8 hB2 x1;have HB2:=zH (bt HB1.o hB2);have HY2:=zH (HY.o.below hB2);have HS2:=zH (show B4+2≤w2.heap.size by rw[←HSZ.o];exact hB2.size);clear hB2 HY HMAY;go_upto_region 4 with(go_at_call 156;refine(HR.o _ HB2.o).mono ?_;rintro e w3 ⟨⟨pv,n,tr,rfl,hrow,hown⟩,hB3⟩;obtain⟨pa,pc,rfl,-,-⟩:=Rec.Row.open hrow);obtain⟨T,hT⟩:=ex_ w3.heap.size;obtain⟨Z,hZ⟩:=ex_ (w3.alloc (.cells #[.slice pa V.2.1.length pc,.string (bs V.2.2),.int .i64 n] 178));have hbZ:=ba_ hZ;have hbl:=bn_ hT hZ;have hyZ:=HY2.o.below (bt hB3 hbZ);have HROW:=zH (hrow.below hbZ);have HOWN:=zH hown;have HBZ:=zH (bt HB2.o (bt hB3 hbZ));have hgT:¬T=B4+1:=by have:=HS2.o;have:=hB3.size;omega
  obtain⟨z0,z1,z2⟩:=cl3 hbl;obtain⟨y0,y1,y2⟩:=cl3 hyZ;obtain⟨k0,k1,k2⟩:=fr3 hyZ;have HYZ:=zH hyZ;rw[←hZ,←hT];clear hZ hT hbZ hbl hyZ hrow hown hB3 x0 x1;go_wp2_with fail;obtain⟨hy3,hc3⟩:=cq HYZ.o (.slice pa V.2.1.length pc) (.string (bs V.2.2)) (.int .i64 n);refine bodyPost_ret (bz rfl rfl (di (hy3.cell (k:=0) rfl) (hy3.cell (k:=1) rfl) (hy3.cell (k:=2) rfl))) rfl ?_;rw[←HV.o];refine⟨⟨_,_,_,rfl,HROW.o.chgN hc3 (fun b hb e=>?_),fun k hk=>DG HB2.o.size (HOWN.o k hk)⟩,HBZ.o.trans (hc3.below (fun k hk=>by rw[show k=B4+1 from hk,HB4.o];exact Nat.le_succ _) HBZ.o.size)⟩;have h1:=HOWN.o b hb;rw[show b=B4+1 from e]at h1;have:=HS2.o;omega
 ·have hno:cn texts code role ins fuel=false:=by cases h:cn texts code role ins fuel with
   | false=>rfl
   | true=>exact absurd h hyes
  have HN:=zH (mB hno);rw[hno]at HMAY;clear hyes hno HRUN;go_wp2_with (go_at_call 155;refine(HMAY.o _ HB1.o).mono ?_;rintro e w2 ⟨rfl,hB2⟩;have hyU:=HY.o.below hB2;obtain⟨y0,y1,y2⟩:=cl3 hyU;obtain⟨k0,k1,k2⟩:=fr3 hyU;have HYU:=zH hyU;have HB2:=zH (bt HB1.o hB2);clear hyU hB2);exact Gi
structure dH (w:World) (t1 c1 t2 c2 t3 c3:Value) (j:Jb):Prop where
 a:mh w t1 c1 j.mt j.mc
 b:mh w t2 c2 j.jt j.jc
 c:mh w t3 c3 j.tt j.tc
 p0:-9223372036854775808≤j.parts
 p1:j.parts≤9223372036854775807
 f0:-9223372036854775808≤j.fuel
 f1:j.fuel≤9223372036854775807
 g:cU w
theorem dH.below {w w':World}{t1 c1 t2 c2 t3 c3:Value}{j:Jb}(h:dH w t1 c1 t2 c2 t3 c3 j)(hB:Below w.heap.size w w'):dH w' t1 c1 t2 c2 t3 c3 j :=
 ⟨h.a.below hB,h.b.below hB,h.c.below hB,h.p0,h.p1,h.f0,h.f1,h.g.below hB⟩
def bM (t1 c1 t2 c2 t3 c3:Value)(j:Jb):Value:=.agg #[t1,c1,t2,c2,t3,c3,.int .i64 j.parts,.int .i64 j.fuel]
theorem tM (t1 c1 t2 c2 t3 c3:Value)(j:Jb)(s:LU_)(w:World)(h:dH w t1 c1 t2 c2 t3 c3 j)(hs:s.length≤140737488355328):Calls Tryz.prog 66 #[bM t1 c1 t2 c2 t3 c3 j,.string (bs s)] w fun e w'=>(∃ pv,e=.returned (.tuple #[pv,.int .i64 ((vmV j.mt j.mc 1 [s] j.fuel).1:Int)])∧recKq.Row w' pv (vmV j.mt j.mc 1 [s] j.fuel).2.1)∧Bw_ w w':=by
 have HR:=zH (fun w' iv (hB:Below w.heap.size w w') (hi:aK.Row w' iv [s])=>mK t1 c1 iv j.mt j.mc 1 [s] j.fuel w' (h.a.below hB).t (h.a.below hB).c hi h.a.lt h.a.lc h.a.m (by simp) (fun x hx=>by rw[DZ.1 hx];exact hs) h.f0 h.f1 (h.g.below hB));obtain⟨ta,tc,ca,cc,ta2,tc2,ca2,cc2,ta3,tc3,ca3,cc3,rfl,rfl,rfl,rfl,rfl,rfl⟩:=jo_ h.a.t h.a.c h.b.t h.b.c h.c.t h.c.c;unfold bM;obtain⟨V,hV⟩:=ex_ (vmV j.mt j.mc 1 [s] j.fuel);rw[←hV]at HR⊢;clear hV h;go_enter Tryz.func66,Tryz.ntmps66;go_upto_region 1 with fail;obtain⟨W1,hW1⟩:=ex_ (w.alloc (.cells #[.slice ta j.mt.length tc,.slice ca j.mc.length cc,.slice ta2 j.jt.length tc2,.slice ca2 j.jc.length cc2,.slice ta3 j.tt.length tc3,.slice ca3 j.tc.length cc3,.int .i64 j.parts,.int .i64 j.fuel] 27));have hb1:=ba_ hW1;have hx:=bm_ hW1;obtain⟨x0,x1⟩:=cl2 hx;have x7:=hx.cell (k:=7) rfl;have hbl:w.heap.size<W1.heap.size:=hx.lt;rw[←hW1];have HB1:=zH hb1;clear hW1 hb1 hx;go_wp2_with (go_at_call 109;refine(HR.o _ _ (bt HB1.o (af _ _)) (Rec.Row.new (R:=aK) W1 [s] 9)).mono ?_;rintro e w3 ⟨⟨pa,pc,n,rfl,hrow,-⟩,hB3⟩;have HROW:=zH hrow;have HB3:=zH (bt (bt HB1.o (af _ _)) hB3);clear hrow hB3);go_ret2;exact⟨⟨_,rfl,HROW.o.below (af _ _)⟩,bt HB3.o (af _ _)⟩
theorem ry (t1 c1 t2 c2 t3 c3:Value)(j:Jb)(s s2:LU_)(w:World)(h:dH w t1 c1 t2 c2 t3 c3 j)(hs:s.length≤140737488355328)(hs2:s2.length≤140737488355328):Calls Tryz.prog 160 #[bM t1 c1 t2 c2 t3 c3 j,.string (bs s),.string (bs s2)] w fun e w'=>e=.returned (.tuple #[.string (bs (vmV j.jt j.jc 2 [s,s2] j.fuel).2.2),.int .i64 ((vmV j.jt j.jc 2 [s,s2] j.fuel).1:Int)])∧Bw_ w w':=by
 have HR:=zH (fun w' iv (hB:Below w.heap.size w w') (hi:aK.Row w' iv [s,s2])=>mK t2 c2 iv j.jt j.jc 2 [s,s2] j.fuel w' (h.b.below hB).t (h.b.below hB).c hi h.b.lt h.b.lc h.b.m (by simp) (fun x hx=>by rcases List.mem_cons.1 hx with rfl|hx;exact hs;rw[DZ.1 hx];exact hs2) h.f0 h.f1 (h.g.below hB));obtain⟨ta,tc,ca,cc,ta2,tc2,ca2,cc2,ta3,tc3,ca3,cc3,rfl,rfl,rfl,rfl,rfl,rfl⟩:=jo_ h.a.t h.a.c h.b.t h.b.c h.c.t h.c.c;unfold bM;obtain⟨V,hV⟩:=ex_ (vmV j.jt j.jc 2 [s,s2] j.fuel);rw[←hV]at HR⊢;clear hV h;go_enter Tryz.func160,Tryz.ntmps160;go_upto_region 1 with fail;obtain⟨W1,hW1⟩:=ex_ (w.alloc (.cells #[.slice ta j.mt.length tc,.slice ca j.mc.length cc,.slice ta2 j.jt.length tc2,.slice ca2 j.jc.length cc2,.slice ta3 j.tt.length tc3,.slice ca3 j.tc.length cc3,.int .i64 j.parts,.int .i64 j.fuel] 27));have hb1:=ba_ hW1;have hx:=bm_ hW1;have x0:=hx.cell (k:=2) rfl;have x1:=hx.cell (k:=3) rfl;have x7:=hx.cell (k:=7) rfl;have hbl:w.heap.size<W1.heap.size:=hx.lt;rw[←hW1];have HB1:=zH hb1;clear hW1 hb1 hx;go_wp2_with (go_at_call 109;refine(HR.o _ _ (bt HB1.o (af _ _)) (Rec.Row.new (R:=aK) W1 [s,s2] 9)).mono ?_;rintro e w3 ⟨⟨pa,pc,n,rfl,-,-⟩,hB3⟩;have HB3:=zH (bt (bt HB1.o (af _ _)) hB3);clear hB3);go_ret2;exact⟨rfl,bt HB3.o (af _ _)⟩
def e1J (j:Jb):Nat:=(aq j.mt j.mc 1).2.1
def e2J (j:Jb):Nat:=(aq j.jt j.jc 2).2.1
def e3J (j:Jb):Nat:=(aq j.tt j.tc 3).2.1
theorem sC {j:Jb}(h:e1J j≠0):br j=(1,(aq j.mt j.mc 1).1,e1J j):=by unfold br;exact if_pos h
theorem sB {j:Jb}(h1:e1J j=0)(h:e2J j≠0):br j=(2,(aq j.jt j.jc 2).1,e2J j):=by unfold br;exact(if_neg (fun q=>q h1)).trans (if_pos h)
theorem sA {j:Jb}(h1:e1J j=0)(h2:e2J j=0)(h:e3J j≠0):br j=(3,(aq j.tt j.tc 3).1,e3J j):=by unfold br;exact(if_neg (fun q=>q h1)).trans ((if_neg (fun q=>q h2)).trans (if_pos h))
theorem sz {j:Jb}(h1:e1J j=0)(h2:e2J j=0)(h3:e3J j=0):br j=if j.parts<1∨16<j.parts∨j.fuel<1∨65536<j.fuel then (0,0,2) else (0,0,0):=by unfold br;exact(if_neg (fun q=>q h1)).trans ((if_neg (fun q=>q h2)).trans (if_neg (fun q=>q h3)))
theorem FF {T:Prop} (h:T:=by
 have HEQ:=zH hec;have HAQ:=zH hac;clear hz hec hac;go_wp2_with (go_at_call 95;refine HG.o.mono ?_;rintro e w3 ⟨⟨Gg,gb,bv,sv,ev,rfl,-⟩,hB3⟩;rw[←HEQ.o,←HAQ.o];have HB3:=zH hB3;clear hB3);go_ret3;rw[HZ.o];exact⟨rfl,bt HBW.o HB3.o⟩
):T:=h
theorem FG {T:Prop} (h:T:=by
 clear hbad;go_wp2_with fail;go_ret3;rw[HZ.o];exact⟨rfl,HBW.o⟩
):T:=h
theorem p4 (t1 c1 t2 c2 t3 c3:Value)(j:Jb)(w:World)(h:dH w t1 c1 t2 c2 t3 c3 j):Calls Tryz.prog 51 #[bM t1 c1 t2 c2 t3 c3 j] w fun e w'=>e=.returned (.tuple #[.int .u8 ((br j).1:Int),.int .i64 ((br j).2.1:Int),.int .i64 ((br j).2.2:Int)])∧Bw_ w w':=by
 have HA:=zH (fun w' (hB:Below w.heap.size w w')=>kv t1 c1 j.mt j.mc 1 w' (h.a.below hB).t (h.a.below hB).c h.a.lt h.a.lc h.a.m);have HB:=zH (fun w' (hB:Below w.heap.size w w')=>kv t2 c2 j.jt j.jc 2 w' (h.b.below hB).t (h.b.below hB).c h.b.lt h.b.lc h.b.m);have HC:=zH (fun w' (hB:Below w.heap.size w w')=>kv t3 c3 j.tt j.tc 3 w' (h.c.below hB).t (h.c.below hB).c h.c.lt h.c.lc h.c.m);obtain⟨ta,tc,ca,cc,ta2,tc2,ca2,cc2,ta3,tc3,ca3,cc3,rfl,rfl,rfl,rfl,rfl,rfl⟩:=jo_ h.a.t h.a.c h.b.t h.b.c h.c.t h.c.c;unfold bM;have p0:=h.p0;have p1:=h.p1;have f0:=h.f0;have f1:=h.f1;clear h;obtain⟨P,hP⟩:=ex_ j.parts;obtain⟨Fu,hFu⟩:=ex_ j.fuel;have HP:=zH hP;have HFu:=zH hFu;rw[←hP]at p0 p1⊢;rw[←hFu]at f0 f1⊢;clear hP hFu;go_enter Tryz.func51,Tryz.ntmps51;go_upto_region 1 with fail;obtain⟨W1,hW1⟩:=ex_ (w.alloc (.cells #[.slice ta j.mt.length tc,.slice ca j.mc.length cc,.slice ta2 j.jt.length tc2,.slice ca2 j.jc.length cc2,.slice ta3 j.tt.length tc3,.slice ca3 j.tc.length cc3,.int .i64 P,.int .i64 Fu] 27));have hb1:=ba_ hW1;obtain⟨J,hJ⟩:=ex_ w.heap.size;have hx:=bn_ hJ hW1;obtain⟨x0,x1,x2,x3,x4,x5⟩:=cl6 hx;rw[←hW1,←hJ];have HB1:=zH hb1;have HX:=zH hx;clear hW1 hb1 hx hJ;go_upto_region 2 with fail;obtain⟨D,hD⟩:=ex_ W1.heap.size;obtain⟨W2,hW2⟩:=ex_ (W1.alloc (.cells #[.slice ta j.mt.length tc,.slice ca j.mc.length cc,.slice ta2 j.jt.length tc2,.slice ca2 j.jc.length cc2,.slice ta3 j.tt.length tc3,.slice ca3 j.tc.length cc3] 25));have hb2:=ba_ hW2;have hd:=bn_ hD hW2;rw[←hW2,←hD];have HX2:=zH (HX.o.below hb2)
 have HD:=zH hd;have HB2:=zH (bt HB1.o hb2);clear x0 x1 x2 x3 x4 x5 hW2 hD hb2 hd HX;go_wp2_with fail
 go_loopw [6] (fun t wr=>∃ k:Nat,k≤3∧t=.int .i64 k∧Hid (Below W2.heap.size W2 wr)∧Hid ((1≤k→e1J j=0)∧(2≤k→e2J j=0)∧(3≤k→e3J j=0))) (fun t _=>3-(intOf t).toNat)
 case atStart=>exact⟨0,by omega,rfl,DF _ _,fun h=>by omega,fun h=>by omega,fun h=>by omega⟩
 case round =>
  obtain⟨k,hk,rfl,HBR,HEK⟩:=hrel;have hd:=HD.o.below HBR.o;have HBW:=zH (bt HB2.o HBR.o);rcases(by omega:k=0∨k=1∨k=2∨k=3) with rfl|rfl|rfl|rfl
  ·obtain⟨d0,d1⟩:=cl2 hd
   obtain⟨ec,hec⟩:=ex_ ((aq j.mt j.mc 1).2.1);obtain⟨ac,hac⟩:=ex_ ((aq j.mt j.mc 1).1);have HG:=zH (HA.o wr HBW.o);clear hd
   by_cases hz:ec=0
   ·have t1:((ec:Int) != 0)=false:=by rw[hz];rfl
    have HZ:=zH (show e1J j=0 by rw[←hz,hec];rfl);have HEQ:=zH hec;have HAQ:=zH hac;clear hz hec hac;go_wp2_with (go_at_call 95;refine HG.o.mono ?_;rintro e w3 ⟨⟨Gg,gb,bv,sv,ev,rfl,-⟩,hB3⟩;rw[←HEQ.o,←HAQ.o];have HB3:=zH hB3;clear hB3);go_roundw
    case rel=>exact⟨1,by omega,rfl,bt HBR.o HB3.o,fun _=>HZ.o,fun h=>by omega,fun h=>by omega⟩
    case measure=>decide
   ·have t1:((ec:Int) != 0)=true:=by rw[bne_iff_ne];omega
    have HZ:=zH (show br j=(1,ac,ec) by rw[hec,hac];exact sC (fun h=>hz (by rw[hec];exact h)));exact FF
  ·have d0:=hd.cell (k:=2) rfl
   have d1:=hd.cell (k:=3) rfl;obtain⟨ec,hec⟩:=ex_ ((aq j.jt j.jc 2).2.1);obtain⟨ac,hac⟩:=ex_ ((aq j.jt j.jc 2).1);have HG:=zH (HB.o wr HBW.o);clear hd
   by_cases hz:ec=0
   ·have t1:((ec:Int) != 0)=false:=by rw[hz];rfl
    have HZ:=zH (show e2J j=0 by rw[←hz,hec];rfl);have HEQ:=zH hec;have HAQ:=zH hac;clear hz hec hac;go_wp2_with (go_at_call 95;refine HG.o.mono ?_;rintro e w3 ⟨⟨Gg,gb,bv,sv,ev,rfl,-⟩,hB3⟩;rw[←HEQ.o,←HAQ.o];have HB3:=zH hB3;clear hB3);go_roundw
    case rel=>exact⟨2,by omega,rfl,bt HBR.o HB3.o,fun _=>HEK.o.1 (by omega),fun _=>HZ.o,fun h=>by omega⟩
    case measure=>decide
   ·have t1:((ec:Int) != 0)=true:=by rw[bne_iff_ne];omega
    have HZ:=zH (show br j=(2,ac,ec) by rw[hec,hac];exact sB (HEK.o.1 (by omega)) (fun h=>hz (by rw[hec];exact h)));exact FF
  ·have d0:=hd.cell (k:=4) rfl
   have d1:=hd.cell (k:=5) rfl;obtain⟨ec,hec⟩:=ex_ ((aq j.tt j.tc 3).2.1);obtain⟨ac,hac⟩:=ex_ ((aq j.tt j.tc 3).1);have HG:=zH (HC.o wr HBW.o);clear hd
   by_cases hz:ec=0
   ·have t1:((ec:Int) != 0)=false:=by rw[hz];rfl
    have HZ:=zH (show e3J j=0 by rw[←hz,hec];rfl);have HEQ:=zH hec;have HAQ:=zH hac;clear hz hec hac;go_wp2_with (go_at_call 95;refine HG.o.mono ?_;rintro e w3 ⟨⟨Gg,gb,bv,sv,ev,rfl,-⟩,hB3⟩;rw[←HEQ.o,←HAQ.o];have HB3:=zH hB3;clear hB3);go_roundw
    case rel=>exact⟨3,by omega,rfl,bt HBR.o HB3.o,fun _=>HEK.o.1 (by omega),fun _=>HEK.o.2.1 (by omega),fun _=>HZ.o⟩
    case measure=>decide
   ·have t1:((ec:Int) != 0)=true:=by rw[bne_iff_ne];omega
    have HZ:=zH (show br j=(3,ac,ec) by rw[hec,hac];exact sA (HEK.o.1 (by omega)) (HEK.o.2.1 (by omega)) (fun h=>hz (by rw[hec];exact h)));exact FF
  ·have hx:=HX2.o.below HBR.o
   have x6:=hx.cell (k:=6) rfl;have x7:=hx.cell (k:=7) rfl;have H4:=zH (sz (HEK.o.1 (by omega)) (HEK.o.2.1 (by omega)) (HEK.o.2.2 (by omega)));rw[←HP.o,←HFu.o]at H4;clear hx hd;have hbad:(P<1∨16<P∨Fu<1∨65536<Fu)→Hid (br j=(0,0,2)):=fun hc=>H4.o.trans (if_pos hc)
   by_cases q1:P<1
   ·have HZ:=hbad (.inl q1)
    exact FG
   ·by_cases q2:16<P
    ·have HZ:=hbad (.inr (.inl q2))
     exact FG
    ·by_cases q3:Fu<1
     ·have HZ:=hbad (.inr (.inr (.inl q3)))
      exact FG
     ·by_cases q4:65536<Fu
      ·have HZ:=hbad (.inr (.inr (.inr q4)))
       exact FG
      ·have HZ:=zH (show br j=(0,0,0) from H4.o.trans (if_neg (by rintro (h|h|h|h)<;>omega)))
       exact FG
theorem ie (t1 c1 t2 c2 t3 c3:Value)(j:Jb)(w:World)(h:dH w t1 c1 t2 c2 t3 c3 j):Calls Tryz.prog 16 #[bM t1 c1 t2 c2 t3 c3 j] w fun e w'=>e=.returned (.bool (bJ j))∧Bw_ w w':=by
 have HCK:=zH (fun w' (hB:Below w.heap.size w w')=>p4 t1 c1 t2 c2 t3 c3 j w' (h.below hB));obtain⟨ta,tc,ca,cc,ta2,tc2,ca2,cc2,ta3,tc3,ca3,cc3,rfl,rfl,rfl,rfl,rfl,rfl⟩:=jo_ h.a.t h.a.c h.b.t h.b.c h.c.t h.c.c;unfold bM at HCK⊢;clear h;obtain⟨W1,hW1⟩:=ex_ (w.alloc (.cells #[.slice ta j.mt.length tc,.slice ca j.mc.length cc,.slice ta2 j.jt.length tc2,.slice ca2 j.jc.length cc2,.slice ta3 j.tt.length tc3,.slice ca3 j.tc.length cc3,.int .i64 j.parts,.int .i64 j.fuel] 27));have hb1:=ba_ hW1;obtain⟨J,hJ⟩:=ex_ w.heap.size;have hx:=bn_ hJ hW1;obtain⟨x0,x1,x2,x3,x4,x5,x6,x7⟩:=cl8 hx;have HB1:=zH hb1;go_enter Tryz.func16,Tryz.ntmps16;go_upto_region 1 with fail;rw[←hW1,←hJ];obtain⟨m,hm⟩:=ex_ (bJ j);have hmq:(((br j).2.2:Int)==0)=m:=by rw[hm];unfold bJ;cases h:(br j).2.2<;>rfl
 have HM:=zH hm;clear hW1 hJ hb1 hx hm;go_wp2_with (go_at_call 51;refine(HCK.o _ HB1.o).mono ?_;rintro e w3 ⟨rfl,hB3⟩;have HB3:=zH hB3;clear hB3);go_ret;exact⟨by rw[←HM.o];rfl,bt HB1.o HB3.o⟩
end
