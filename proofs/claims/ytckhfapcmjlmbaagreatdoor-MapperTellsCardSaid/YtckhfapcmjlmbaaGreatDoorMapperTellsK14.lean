/- Lemmas for MapperTells: walks, plain laws. -/
import Derived.Maps.Own
import Derived.Maps.OwnOps
import Derived.Maps.OwnSet
import Derived.Test.YtckhfapcmjlmbaaGreatDoorMapperTellsK10
import Derived.Test.YtckhfapcmjlmbaaGreatDoorMapperTellsK12
set_option linter.unusedSimpArgs false
set_option linter.unusedVariables false
set_option maxRecDepth 100000
set_option maxHeartbeats 16000000
namespace Go.Proofs.YtckhfapcmjlmbaaGreatDoor
open Go.RowKit Oct
section
open Go.RowKit Oct Go.WideMaps Go.Maps
def cT (code:List VI)(ends:List Int)(k:Nat)(i:Int):Nat:=(List.range k).countP fun j=>(code.getD j (0,0)).1==22&&ends.getD j 0==i
theorem sy (code:List VI)(ends:List Int)(k:Nat)(i:Int):cT code ends (k+1) i=cT code ends k i+(if (code.getD k (0,0)).1=22∧ends.getD k 0=i then 1 else 0):=by
 unfold cT;rw[List.range_succ,List.countP_append,List.countP_singleton]
 by_cases h1:(code.getD k (0,0)).1=22
 ·by_cases h2:ends.getD k 0=i
  ·rw[if_pos (by rw[h1,h2];simp),if_pos ⟨h1,h2⟩]
  ·rw[if_neg (by rw[h1];simpa using h2),if_neg (fun h=>h2 h.2)]
 ·rw[if_neg (by rw[DS,beq_iff_eq];exact fun h=>h1 h.1),if_neg (fun h=>h1 h.1)]
theorem xA (code:List VI)(ends:List Int)(k:Nat)(i:Int):cT code ends k i≤k:=by
 unfold cT;exact DG List.countP_le_length (by simp)
theorem sx (E:Me)(i:Nat):cT E.code E.ends E.code.length (i:Int)=0↔ey E i=false:=by
 unfold cT ey;rw[List.countP_eq_zero,List.any_eq_false]
def iE (w:World)(M:Nat)(n:Nat)(c:Int→Nat):Prop:=∃ D:DataW Unit,w.ownsMap Tryz.prog 3 (plainElem Tryz.prog 3) M n D∧∀ i,D.atKey (.int .i64 i) (.lit (.int .i64 0))=.lit (.int .i64 ((c i:Nat):Int))
theorem iE.block {w w':World}{M n:Nat}{c:Int→Nat}(h:iE w M n c)(hb:w'.heap[M]?=w.heap[M]?):iE w' M n c:=by
 obtain⟨D,⟨es,clock,h1,h2⟩,h3⟩:=h;exact⟨D,⟨es,clock,hb.trans h1,h2⟩,h3⟩
theorem iE.mono {w:World}{M n n':Nat}{c:Int→Nat}(h:iE w M n c)(hn:n≤n'):iE w M n' c:=by
 obtain⟨D,h1,h2⟩:=h;exact⟨D,h1.mono hn,h2⟩
theorem iE.lt {w:World}{M n:Nat}{c:Int→Nat}(h:iE w M n c):M<w.heap.size:=by
 obtain⟨D,h1,_⟩:=h;exact h1.lt
theorem CC:Keyed Tryz.prog 3:=int_keyed Tryz.underlying3
theorem Ch (w:World):(zeroValue 3).run Tryz.prog w=.ok (.int .i64 0) w:=by kernel_rfl
theorem CD {n:Int}(h1:-9223372036854775808≤n)(h2:n≤9223372036854775807):keyOf Tryz.prog 3 (.int .i64 n)=some (.int .i64 n):=keyOf_int_mk Tryz.underlying3 (WalkArith.wf_i64 (by omega))
theorem iE.look {w:World}{M n:Nat}{c:Int→Nat}(h:iE w M n c){i:Int}(h1:-9223372036854775808≤i)(h2:i≤9223372036854775807):(Instr.lookup 285 (.map (some M)) (.int .i64 i) false).run Tryz.prog w=.ok (.int .i64 ((c i:Nat):Int)) w:=by
 obtain⟨D,hown,hat⟩:=h;obtain⟨k,hrun,hk,_⟩:=hown.lookup_int CC Tryz.underlying285 Tryz.underlying3 (Ch w) (CD h1 h2);have h3:=(hat i).symm.trans hk;injection h3 with h3
 injection h3 with _ h3
 rw[hrun,h3]
end
section
attribute [local irreducible] wpG
section
variable {bZ G M:Nat}{w w' w3:World}{f:Mf}{at_:Int}{st rg:List MV}{eos l:List Eo}{pr:List (LU_×LU_)}{tr:List Int}{tv cv iv ev lv stv opv opv' prv trv trv':Value}{X:List (Pt bZ)}{e:Eo}
theorem tA (l:List Eo)(e:Eo):eu.cells (l++[fN e])=eu.cells (l++[e]):=by
 rw[Rec.cells_append,Rec.cells_append];rfl
theorem MR.turnLast (h:MR bZ w G f at_ st rg (l++[e]) pr tr stv opv prv trv X)(hc:Chg (fun k=>k=e.bm∨k=e.bt) w w')(hb:iy bZ w' (fN e)):MR bZ w' G f at_ st rg (l++[fN e]) pr tr stv opv prv trv X∧Below bZ w w':=by
 have hX:∀ k,(k=e.bm∨k=e.bt)→(boxPt (bZ:=bZ) (l++[e])).fp k:=fun k hk=>⟨e,by simp,by rcases hk with rfl|rfl;exact .inl rfl;exact .inr (.inl rfl)⟩
 have hap:=(List.pairwise_append.1 h.ob.2).2.2
 have hP:(boxPt (bZ:=bZ) (l++[fN e])).P w':=by
  refine⟨fun x hx=>?_,?_⟩
  ·rcases DM.1 hx with hx|hx
   ·obtain⟨h1,h2,h3,h4⟩:=h.ob.1 x (by simp[hx])
    have hn:∀ k,ll k x→¬(k=e.bm∨k=e.bt):=fun k hk hk'=>hap x hx e (by simp) k hk (by rcases hk' with rfl|rfl;exact .inl rfl;exact .inr (.inl rfl));exact⟨h1.chg hc (hn _ (.inl rfl)),h2.chg hc (hn _ (.inr (.inl rfl))),h3.chg hc (hn _ (.inr (.inr rfl))),h4⟩
   ·rw[DZ]at hx
    subst hx;exact hb
  ·refine List.pairwise_append.2 ⟨(List.pairwise_append.1 h.ob.2).1,List.pairwise_singleton _ _,fun a ha b hb' k hk hk'=>?_⟩
   rw[DZ]at hb';subst hb';exact hap a ha e (by simp) k hk hk'
 have hf:∀ k,(boxPt (bZ:=bZ) (l++[fN e])).fp k→(boxPt (bZ:=bZ) (l++[e])).fp k:=by
  rintro k ⟨x,hx,hk⟩;rcases DM.1 hx with hx|hx
  ·exact⟨x,by simp[hx],hk⟩
  ·rw[DZ]at hx
   subst hx;exact⟨e,by simp,hk⟩
 have s1:=h.sep.upd (i:=3) rfl hc hX (boxPt (l++[fN e])) hP (fun k hk=>.inl (hf k hk))
 have ho:eu.Own w' bZ opv (l++[fN e]):=by
  have:=s1.get (i:=2) (p:=ownPt eu opv (l++[e])) rfl;have this:eu.Own w' bZ opv (l++[e]):=this;unfold Rec.Own at this⊢;rw[tA];simpa using this
 have s2:=s1.same (i:=2) (p:=ownPt eu opv (l++[e])) rfl (ownPt eu opv (l++[fN e])) ho (fun k hk=>hk);exact⟨⟨h.gb,h.rl,s2⟩,h.sep.updB (i:=3) rfl hc hX h.size⟩
theorem xZ (y:UInt8)(pc n:Nat)(c:Int→Nat)(h:MR bZ w G ⟨tv,cv,iv,ev,.map (some M),[],0⟩ (pc:Int) st rg eos pr tr stv opv prv trv X)(hm:iE w M n c)(hc:c (pc:Int)=0)(hpc:pc≤1000):Calls Tryz.prog 322 #[.pointer (some ⟨G,0,none⟩),.int .u8 (y.toNat:Int)] w fun e w'=>e=.returned (.int .i64 0)∧Bw_ w w':=by
 have hlk:∀ nq,(Instr.lookup 285 (.map (some M)) (.int .i64 (pc:Int)) false).run Tryz.prog (w.drewN nq)=.ok (.int .i64 0) (w.drewN nq):=fun nq=>by
  have:=(hm.block (w':=w.drewN nq) rfl).look (i:=(pc:Int)) (by omega) (by omega);rw[hc]at this;exact this
 have c4:w.cell? ⟨G,4,none⟩=some (.map (some M)):=h.cell (k:=4) rfl;have c5:w.cell? ⟨G,5,none⟩=some (.int .i64 (pc:Int)):=h.cell (k:=5) rfl;clear h hm hc;go_enter Tryz.func322,Tryz.ntmps322;go_wp2_with fail;go_quiet (fail);go_wp2_with fail;go_ret;exact⟨rfl,C9 _ _⟩
theorem vI (y:UInt8)(pc n:Nat)(c:Int→Nat)(h:MR bZ w G ⟨tv,cv,iv,ev,.map (some M),[],0⟩ (pc:Int) st rg (l++[e]) pr tr stv opv prv trv X)(hm:iE w M n c)(hc:c (pc:Int)≠0)(hpc:pc≤1000)(hl:st.length≤900)(he:l.length≤900)(hr:e.rest.length≤1024)(hG:∀ w',Below bZ w w'→cU w'):Calls Tryz.prog 322 #[.pointer (some ⟨G,0,none⟩),.int .u8 (y.toNat:Int)] w fun r w'=>r=.returned (.int .i64 0) ∧((fQ e=[]∧∃ opv',MR bZ w' G ⟨tv,cv,iv,ev,.map (some M),[],0⟩ (pc:Int) st rg l pr tr stv opv' prv trv X) ∨ (∃ p ps,fQ e=p::ps∧∃ stv' e',fQ e'=ps∧e'.at_=e.at_∧e'.rest.length≤1024∧MR bZ w' G ⟨tv,cv,iv,ev,.map (some M),[],0⟩ (e.at_:Int) ((0,p)::st) rg (l++[e']) pr tr stv' opv prv trv X))∧Below bZ w w':=by
 obtain⟨k,hk⟩:=ex_ (c (pc:Int))
 have hlk:∀ nq,(Instr.lookup 285 (.map (some M)) (.int .i64 (pc:Int)) false).run Tryz.prog (w.drewN nq)=.ok (.int .i64 (k:Int)) (w.drewN nq):=fun nq=>by
  have:=(hm.block (w':=w.drewN nq) rfl).look (i:=(pc:Int)) (by omega) (by omega);rw[←hk]at this;exact this
 rw[←hk]at hc;have k0:((k:Int)==0)=false:=by rw[beq_eq_false_iff_ne];omega
 have c4:w.cell? ⟨G,4,none⟩=some (.map (some M)):=h.cell (k:=4) rfl;have c5:w.cell? ⟨G,5,none⟩=some (.int .i64 (pc:Int)):=h.cell (k:=5) rfl;obtain⟨_,⟨oa,oc,hov⟩,_,_⟩:=h.slices;rw[DL,Ea]at hov;subst hov;have HH:=zH h;have HG:=zH hG;clear h hm hc hk hG;go_enter Tryz.func322,Tryz.ntmps322;go_wp2_with fail;go_quiet (fail);go_upto_region 3 with fail;obtain⟨W1,hW1⟩:=ex_ (w.drewN nq);have hb1:Below w.heap.size w W1:=by rw[hW1];exact C9 _ _
 rw[←hW1];have hm1:=HH.o.below hb1;have HB1:=zH (hb1.mono HH.o.size);clear hW1 hb1 hlk c4 c5 k0;have c23:W1.cell? ⟨G,23,none⟩=some (.slice oa (l.length+1) oc):=hm1.cellR (k:=0) rfl;obtain⟨a',cap,hv,-,hcc⟩:=Rec.Row.open hm1.oo.row;obtain⟨b,off,ha,hu⟩:=hcc l.length (by simp);rw[DL,Ea]at hv;injection hv with e1 e2 e3
 subst e1 e3 ha;have hg:(l++[e])[l.length]'(by simp)=e:=by simp
 rw[hg]at hu;have d0:=hu 0 _ rfl;have d1:=hu 1 _ rfl
 change W1.cell? ⟨b,off+l.length*2,none⟩=_ at d0
 change W1.cell? ⟨b,off+l.length*2+1,none⟩=_ at d1
 have hGl:G<W1.heap.size:=hm1.blk.lt;have hbl:b<W1.heap.size:=aD d0;have hl1:((l.length:Int)+1)-1=(l.length:Int):=by omega
 have hl2:(0:Int)≤(l.length:Int):=by omega
 have hl3:(l.length:Int)<(l.length:Int)+1:=by omega
 have hl4:(l.length:Int)≤900:=by omega
 have HM1:=zH hm1;unfold eoF at d1;clear hm1 hu hcc hg;go_region;obtain⟨B,hB⟩:=ex_ W1.heap.size;have hBb:bZ≤B:=by rw[hB];exact HM1.o.size
 obtain⟨W2,hW2⟩:=ex_ ((W1.alloc (.cells #[.int .i64 (e.at_:Int),eoF e] 396)).drew)
 have hm2:MR bZ W2 G ⟨tv,cv,iv,ev,.map (some M),[],0⟩ (pc:Int) st rg (l++[e]) pr tr stv (.slice (some ⟨b,off,none⟩) (l.length+1) oc) prv trv (X++[az B hBb 396 [.int .i64 (e.at_:Int),eoF e]]):=by
  subst hB;rw[hW2];exact(HM1.o.add [.int .i64 (e.at_:Int),eoF e] 396).below (b_drew _)
 have HB2:=zH (show Below bZ w W2 by rw[hW2];exact HB1.o.trans ((bt (af _ _) (b_drew _)).mono HM1.o.size));unfold eoF at hW2;rw[←hW2,←hB];clear hW2 hB HM1 HB1 d0 d1 c23 hGl hbl;obtain⟨g,hgv⟩:=hm2.oo.at0 (by simp);obtain rfl:off=0:=by injection hgv with h1;injection h1
 clear hgv;have hX:=hm2.loc (p:=az B hBb 396 [.int .i64 (e.at_:Int),eoF e]) (by simp);have x1:=Blk.cell (k:=1) hX rfl;have x2:=Blk.lt hX;unfold eoF at x1;have HX:=zH (hm2.ob.1 e (by simp));have HM:=zH hm2;clear hX hm2
 cases hmo:e.more with
 | false =>
  have HLE:=zH (show fQ e=[] by unfold fQ;rw[hmo];rfl);go_wp2_with (go_at_call 329;refine(rN HX.o hmo).mono ?_;rintro r w2 ⟨rfl,rfl⟩);have hm2:=HM.o;have c23:w2.cell? ⟨G,23,none⟩=some (.slice (some ⟨b,0,none⟩) (l.length+1) oc):=hm2.cellR (k:=0) rfl;have f23:=hm2.free (k:=23) (by decide);have hGl:G<w2.heap.size:=hm2.blk.lt;have ho:eu.Own w2 bZ (.slice (some ⟨b,0,none⟩) (l++[e]).length oc) (l++[e]):=by rw[DL,Ea];exact hm2.oo
  have hrun:=ho.shortRun 290 Tryz.underlying290 (by intro wx;kernel_rfl) l.length (by simp);rw[DL,Ea]at hrun
  have hsh:eu.Own w2.drew bZ (.slice (some ⟨b,0,none⟩) l.length oc) l:=by
   have:=(ho.below (b_drew w2)).short l.length (by simp)
   rwa [List.take_append_of_le_length (by simp),DB (by simp)]at this
  have hob:=(hm2.below (b_drew w2)).ob;have hn:=(hm2.below (b_drew w2)).newO (opv':=.slice (some ⟨b,0,none⟩) l.length oc) (l:=l) (Chg.refl _ _) (fun k hk=>by cases hk;exact .inl rfl) hsh ⟨fun x hx=>hob.1 x (by simp[hx]),(List.pairwise_append.1 hob.2).1⟩ (fun x hx k hk=>⟨x,by simp[hx],hk⟩);have HN:=zH hn;clear ho hsh hn hob hm2 x1 x2 hmo;go_region;go_wp2_with fail;go_ret;exact⟨rfl,.inl ⟨HLE.o,_,HN.o.1.drop⟩,(HB2.o.trans ((b_drew w2).mono HM.o.size)).trans HN.o.2.1⟩
 | true =>
  obtain⟨hl1',-,hl3'⟩:=nw hmo;obtain⟨p,hp⟩:=ex_ ((Lib.cut e.rest [e.by_]).1);have HY:=zH (pi HX.o hmo hr (HG.o _ HB2.o).mx);rw[←hp]at HY hl1';have HL1:=zH hl1';have HL3:=zH hl3';clear hl1' hl3' hp hmo;go_wp2_with (first|(go_at_call 325;refine(bL (0,p) (HM2.o.setAt (e.at_:Int)).1 (by omega)).mono ?_;rintro r w5 ⟨rfl,⟨sv5,hm5⟩,hB5⟩;have HM5:=zH hm5;have HB5:=zH ((HB3.o.trans (HM2.o.setAt (e.at_:Int)).2).trans hB5);clear hm5 hB5)|(go_at_call 329;refine HY.o.mono ?_;rintro r w2 ⟨rfl,hbx2,hc2⟩;obtain⟨hm2,hb2⟩:=HM.o.turnLast hc2 hbx2;have hX2:=hm2.loc (p:=az B hBb 396 [.int .i64 (e.at_:Int),eoF e]) (by simp);have x0:=Blk.cell (k:=0) hX2 rfl;have c5:=hm2.cell (k:=5) rfl;have f5:=hm2.free (k:=5) (by decide);have HM2:=zH hm2;have HB3:=zH (HB2.o.trans hb2);clear hm2 hb2 hc2 hbx2 hX2));go_ret;exact⟨rfl,.inr ⟨p,_,HL1.o,sv5,fN e,rfl,rfl,DG HL3.o hr,HM5.o.drop⟩,HB5.o⟩
end
end
section
attribute [local irreducible] wpG
def sm (d:Bool)(v u:Value):Value:=bif d then v else u
@[go_sem] theorem Ad (v u:Value):sm true v u=v:=rfl
@[go_sem] theorem Cs (v u:Value):sm false v u=u:=rfl
def gS {bZ:Nat}(b:Nat)(t:TypeId)(cs:List Value):Pt bZ :=
 ⟨fun k=>k=b,fun w=>bZ≤b∧Blk w b t cs,fun h hc hX=>⟨h.1,h.2.chg hc (hX _ rfl)⟩,fun h k hk=>by subst hk;exact⟨h.1,h.2.lt⟩⟩
def fj (pc M:Nat)(a:MV)(y:UInt8):Eo:=⟨pc,M+2,M,M+1,!a.2.isEmpty,a.2,y⟩
section
variable {bZ G M pc b5:Nat}{w0 w w' w3:World}{f:Mf}{at_:Int}{a:MV}{y:UInt8}{st rg:List MV}{eos l:List Eo}{pr:List (LU_×LU_)}{tr:List Int}{tv cv iv ev lv stv opv opv' prv trv trv':Value}{L L' X Y:List (Pt bZ)}{e:Eo}{d5 d8 d10 d11:Bool}
theorem Sep.perm (h:Sep bZ w L)(hp:L.Perm L'):Sep bZ w L':=⟨fun p hp'=>h.1 p (hp.mem_iff.2 hp'),hp.pairwise h.2 (fun hab k hk hk'=>hab k hk' hk)⟩
theorem MR.perm (h:MR bZ w G f at_ st rg eos pr tr stv opv prv trv X)(hp:X.Perm Y):MR bZ w G f at_ st rg eos pr tr stv opv prv trv Y :=
 ⟨h.gb,h.rl,h.sep.perm ((((((hp.cons _).cons _).cons _).cons _).cons _).cons _)⟩
def lT (bZ pc M b5:Nat)(a:MV)(y:UInt8)(d8 d10 d11:Bool):List (Pt bZ) :=
 (bif d8 then [boxPt [fj pc M a y]] else [])++(bif d10 then [gS b5 396 (bif d11 then [.int .i64 (pc:Int),eoF (fj pc M a y)] else [.int .i64 0,.nilFunc])] else [])
def EB (bZ:Nat)(w0 w:World)(G:Nat)(f:Mf)(pc:Nat)(a:MV)(y:UInt8)(st rg:List MV)(eos:List Eo)(pr:List (LU_×LU_))(tr:List Int)(opv prv trv:Value)(X:List (Pt bZ))(d5 d8 d10 d11:Bool)(M b5:Nat):Prop :=
 (∃ stv,MR bZ w G f (pc:Int) (bif d5 then st else a::st) rg eos pr tr stv opv prv trv (X++lT bZ pc M b5 a y d8 d10 d11))∧Below bZ w0 w∧(d8=true→d5=true)∧(d11=true→d10=true∧d8=true)
theorem rM {d:Bool}(h:d=true→False):d=false:=by cases d<;>simp_all
theorem EB.at5 (h:EB bZ w0 w G f pc a y st rg eos pr tr opv prv trv X d5 d8 d10 d11 M b5):w.cell? ⟨G,5,none⟩=some (.int .i64 (pc:Int)):=by
 obtain⟨⟨sv,h⟩,-⟩:=h;exact h.cell (k:=5) rfl
theorem EB.pop (h:EB bZ w0 w G f pc a y st rg eos pr tr opv prv trv X false d8 d10 d11 M b5)(hl:st.length≤1000):Calls Tryz.prog 197 #[.pointer (some ⟨G,0,none⟩)] w fun r w'=>r=.returned (mvV a)∧EB bZ w0 w' G f pc a y st rg eos pr tr opv prv trv X true d8 d10 d11 M b5:=by
 obtain⟨⟨sv,hm⟩,hB,h8,h11⟩:=h;obtain rfl:=rM (fun e=>Bool.noConfusion (h8 e));obtain rfl:=rM (fun e=>Bool.noConfusion (h11 e).2);refine(dS a hm hl).mono ?_;rintro r w' ⟨hr,hm',hB'⟩;exact⟨hr,hm',hB.trans hB',fun _=>rfl,h11⟩
theorem EB.pieces (h:EB bZ w0 w G f pc a y st rg eos pr tr opv prv trv X true false d10 d11 M b5):Calls Tryz.prog 328 #[.string (bs a.2),.int .u8 (y.toNat:Int)] w fun r w'=>r=.returned (eoF (fj pc w.heap.size a y))∧EB bZ w0 w' G f pc a y st rg eos pr tr opv prv trv X true true d10 d11 w.heap.size b5:=by
 obtain⟨⟨sv,hm⟩,hB,h8,h11⟩:=h;obtain rfl:=rM (fun e=>Bool.noConfusion (h11 e).2);refine(tQ a.2 y w pc hm.size).mono ?_;rintro r w' ⟨hr,hbx,hB'⟩;refine⟨hr,⟨sv,?_⟩,hB.trans (hB'.mono hm.size),fun _=>rfl,fun e=>Bool.noConfusion e⟩;have h1:=hm.addBox (e:=fj pc w.heap.size a y) hB' hbx (fun k hk=>by unfold ll fj at hk;simp only at hk;omega);refine h1.perm ?_;rw[DK];refine List.Perm.append_left X ?_;show List.Perm (([]++_)++[_]) ([_]++_);rw[D5];exact List.perm_append_comm
theorem EB.alloc (h:EB bZ w0 w G f pc a y st rg eos pr tr opv prv trv X d5 d8 false d11 M b5):EB bZ w0 (w.alloc (.cells #[.int .i64 0,.nilFunc] 396)) G f pc a y st rg eos pr tr opv prv trv X d5 d8 true d11 M w.heap.size:=by
 obtain⟨⟨sv,hm⟩,hB,h8,h11⟩:=h;obtain rfl:=rM (fun e=>Bool.noConfusion (h11 e).1);refine⟨⟨sv,?_⟩,hB.trans ((af _ _).mono hm.size),h8,fun e=>Bool.noConfusion e⟩
 have h1:MR bZ (w.alloc (.cells #[.int .i64 0,.nilFunc] 396)) G f (pc:Int) (bif d5 then st else a::st) rg eos pr tr sv opv prv trv ((X++lT bZ pc M b5 a y d8 false false)++[gS w.heap.size 396 [.int .i64 0,.nilFunc]]) :=
  ⟨hm.gb,hm.rl,hm.sep.snoc (af _ _) (gS w.heap.size 396 [.int .i64 0,.nilFunc]) ⟨hm.size,Blk.new w _ _⟩ (fun k hk=>by rw[show k=w.heap.size from hk];exact DC _)⟩
 have h2:(X++lT bZ pc M b5 a y d8 false false)++[gS w.heap.size 396 [.int .i64 0,.nilFunc]]=X++lT bZ pc M w.heap.size a y d8 true false:=by
  unfold lT
  cases d8<;>simp
 rw[h2]at h1;exact h1
theorem EB.store (h:EB bZ w0 w G f pc a y st rg eos pr tr opv prv trv X true true true false M b5):EB bZ w0 ((w.setCell ⟨b5,0,none⟩ (.int .i64 (pc:Int))).setCell ⟨b5,1,none⟩ (eoF (fj pc M a y))) G f pc a y st rg eos pr tr opv prv trv X true true true true M b5:=by
 obtain⟨⟨sv,hm⟩,hB,h8,h11⟩:=h;have hm:MR bZ w G f (pc:Int) st rg eos pr tr sv opv prv trv (X++[boxPt [fj pc M a y],gS b5 396 [.int .i64 0,.nilFunc]]):=hm;have hb:bZ≤b5∧Blk w b5 396 [.int .i64 0,.nilFunc]:=hm.loc (p:=gS b5 396 [.int .i64 0,.nilFunc]) (by simp);obtain⟨k1,k2⟩:=iQ hb.2 (.int .i64 (pc:Int)) (eoF (fj pc M a y));obtain⟨h1,h2⟩:=hm.updX (i:=X.length+1) (p:=gS b5 396 [.int .i64 0,.nilFunc]) (by simp) k2 (fun k hk=>hk) (gS b5 396 [.int .i64 (pc:Int),eoF (fj pc M a y)]) ⟨hb.1,k1⟩ (fun k hk=>hk);refine⟨⟨sv,?_⟩,hB.trans h2,h8,fun _=>⟨rfl,rfl⟩⟩;rw[List.set_append_right _ _ (by omega),show X.length+1-X.length=1 by omega]at h1;exact h1
theorem Fi {T:Prop} (h:T:=by
 exact⟨_,_,hb.2.cell (k:=0) rfl,hb.2.cell (k:=1) rfl,hb.2.free (k:=0) (by simp),hb.2.free (k:=1) (by simp)⟩
):T:=h
theorem EB.cells (h:EB bZ w0 w G f pc a y st rg eos pr tr opv prv trv X true true true d11 M b5):∃ v0 v1,w.cell? ⟨b5,0,none⟩=some v0∧w.cell? ⟨b5,1,none⟩=some v1∧w.frozen? ⟨b5,0,none⟩=false∧w.frozen? ⟨b5,1,none⟩=false:=by
 obtain⟨⟨sv,hm⟩,-⟩:=h
 cases d11
 ·have hb:bZ≤b5∧Blk w b5 396 [.int .i64 0,.nilFunc]:=hm.loc (p:=gS b5 396 [.int .i64 0,.nilFunc]) (by simp[lT])
  exact Fi
 ·have hb:bZ≤b5∧Blk w b5 396 [.int .i64 (pc:Int),eoF (fj pc M a y)]:=hm.loc (p:=gS b5 396 [.int .i64 (pc:Int),eoF (fj pc M a y)]) (by simp[lT])
  exact Fi
theorem vK (a:MV)(y:UInt8)(pc:Nat)(h:MR bZ w G ⟨tv,cv,iv,ev,lv,[],0⟩ (pc:Int) (a::st) rg eos pr tr stv opv prv trv X)(hl:st.length≤900)(he:eos.length≤900)(ha:a.2.length≤1024)(hG:∀ w',Below bZ w w'→cU w'){l:List Int}(ht:∀ w',Below bZ w w'→bf.Row w' ev l)(hp:pc<l.length)(hl2:l.length≤1000):Calls Tryz.prog 323 #[.pointer (some ⟨G,0,none⟩),.int .u8 (y.toNat:Int)] w fun r w'=>r=.returned (.int .i64 0) ∧((a.2=[]∧∃ stv',MR bZ w' G ⟨tv,cv,iv,ev,lv,[],0⟩ l[pc] st rg eos pr tr stv' opv prv trv X) ∨ (∃ p ps,bN a.2 y=p::ps∧∃ stv' opv' e',fQ e'=ps∧e'.at_=pc∧e'.rest.length≤1024∧MR bZ w' G ⟨tv,cv,iv,ev,lv,[],0⟩ (pc:Int) ((0,p)::st) rg (eos++[e']) pr tr stv' opv' prv trv X))∧Below bZ w w':=by
 have hd:EB bZ w w.drew G ⟨tv,cv,iv,ev,lv,[],0⟩ pc a y st rg eos pr tr opv prv trv X false false false false 0 0:=⟨⟨stv,by
  have:=h.below (b_drew w);unfold lT;simpa using this⟩,(b_drew w).mono h.size,fun e=>Bool.noConfusion e,fun e=>Bool.noConfusion e⟩
 have HD:=zH hd;have HG:=zH hG;have HT:=zH ht;have HL:=zH hl;clear h hd hG ht;go_enter Tryz.func323,Tryz.ntmps323;go_wp2_with fail;have hI0:∃ I:Array Bool→Act→World→Prop,I=(fun listed ax wx=>∃ d0 d1 d2 d3 d4 d5 d6 d7 d8 d9 d10 d11:Bool,∃ M b5:Nat,listed=#[d0,d1,d2,d3,d4,d5,d6,d7,d8,d9,d10,d11]∧ax={ tmps:=List.toArray ((.pointer (some ⟨G,0,none⟩))::(.int .u8 (y.toNat:Int))::undef::undef::(.int .i64 0)::(sm d10 (.pointer (some ⟨b5,0,none⟩)) undef)::undef::undef::(sm d0 (.pointer (some ⟨G,0,none⟩)) undef)::(sm d1 (.pointer (some ⟨G,0,none⟩)) undef)::(sm d2 (.pointer (some ⟨G,5,none⟩)) undef)::(sm d3 (.int .i64 (pc:Int)) undef)::(sm d4 (.pointer (some ⟨G,0,none⟩)) undef)::(sm d5 (.agg #[.int .i64 a.1,.string (bs a.2)]) undef)::(sm d6 (.string (bs a.2)) undef)::(sm d7 (.int .u8 (y.toNat:Int)) undef)::(sm d8 (eoF (fj pc M a y)) undef)::(sm d9 (.agg #[.int .i64 (pc:Int),eoF (fj pc M a y)]) undef)::undef::undef::undef::undef::undef::undef::undef::undef::undef::undef::undef::undef::undef::undef::undef::undef::undef::undef::undef::undef::undef::undef::undef::undef::undef::undef::undef::undef::undef::undef::undef::undef::undef::undef::undef::[]),defers:=[] }∧Hid (EB bZ w wx G ⟨tv,cv,iv,ev,lv,[],0⟩ pc a y st rg eos pr tr opv prv trv X d5 d8 d10 d11 M b5)∧(d9=true→d8=true)):=⟨_,rfl⟩
 obtain⟨INV,hINV⟩:=hI0;have HINV:=zH hINV;clear hINV;refine mL INV (by kernel_rfl) (by kernel_rfl) (by rw[HINV.o];exact⟨false,false,false,false,false,false,false,false,false,false,false,false,0,0,rfl,rfl,HD.o,fun e=>Bool.noConfusion e⟩) ?_ ?_
 ·intro listed ax wx hI hs hall
  rw[HINV.o]at hI;clear HINV HD;obtain⟨d0,d1,d2,d3,d4,d5,d6,d7,d8,d9,d10,d11,M,b5,rfl,rfl,hBI,h9⟩:=hI;have e0:d0=true:=by simpa using hall 0 (by decide)
  have e1:d1=true:=by simpa using hall 1 (by decide)
  have e2:d2=true:=by simpa using hall 2 (by decide)
  have e3:d3=true:=by simpa using hall 3 (by decide)
  have e4:d4=true:=by simpa using hall 4 (by decide)
  have e5:d5=true:=by simpa using hall 5 (by decide)
  have e6:d6=true:=by simpa using hall 6 (by decide)
  have e7:d7=true:=by simpa using hall 7 (by decide)
  have e8:d8=true:=by simpa using hall 8 (by decide)
  have e9:d9=true:=by simpa using hall 9 (by decide)
  have e10:d10=true:=by simpa using hall 10 (by decide)
  have e11:d11=true:=by simpa using hall 11 (by decide)
  simp only[e0,e1,e2,e3,e4,e5,e6,e7,e8,e9,e10,e11,Ad]at hBI⊢;clear e0 e1 e2 e3 e4 e5 e6 e7 e8 e9 e10 e11 hall hs h9;clear d0 d1 d2 d3 d4 d5 d6 d7 d8 d9 d10 d11;obtain⟨⟨sv,hm0⟩,hB,-,-⟩:=hBI.o
  have hm:MR bZ wx G ⟨tv,cv,iv,ev,lv,[],0⟩ (pc:Int) st rg eos pr tr sv opv prv trv ((X++[gS b5 396 [.int .i64 (pc:Int),eoF (fj pc M a y)]])++[boxPt [fj pc M a y]]):=by
   refine MR.perm hm0 ?_;rw[DK];exact List.Perm.append_left X (List.Perm.swap _ _ _)
  have hLE:fQ (fj pc M a y)=bN a.2 y:=rU pc M a.2 y;obtain⟨bm,hbm⟩:=ex_ (M+2);obtain⟨bt',hbt⟩:∃ bt',bt'=M:=⟨_,rfl⟩
  obtain⟨bc,hbc⟩:=ex_ (M+1);have hE:fj pc M a y=⟨pc,bm,bt',bc,!a.2.isEmpty,a.2,y⟩:=by subst hbm hbt hbc;rfl
  rw[hE]at hm hLE⊢;clear hbm hbt hbc hE hBI hm0;have hbx:iy bZ wx ⟨pc,bm,bt',bc,!a.2.isEmpty,a.2,y⟩:=(hm.loc (p:=boxPt [⟨pc,bm,bt',bc,!a.2.isEmpty,a.2,y⟩]) (by simp)).1 _ (DZ.2 rfl);have hb5:bZ≤b5∧Blk wx b5 396 [.int .i64 (pc:Int),eoF ⟨pc,bm,bt',bc,!a.2.isEmpty,a.2,y⟩]:=hm.loc (p:=gS b5 396 [.int .i64 (pc:Int),eoF ⟨pc,bm,bt',bc,!a.2.isEmpty,a.2,y⟩]) (by simp);have x1:=hb5.2.cell (k:=1) rfl;unfold eoF at x1⊢;dsimp only at x1⊢;have HM:=zH hm;have HB:=zH hB;have HLE:=zH hLE;have HX:=zH hbx;have HA:=zH ha;clear hm hB hLE hb5 hbx ha
  by_cases hne:a.2=[]
  ·have HN:=zH hne
   have hmo:(!a.2.isEmpty)=false:=by rw[hne];rfl
   go_wp2_with (go_at_call 329;refine(rN HX.o hmo).mono ?_;rintro r w2 ⟨rfl,rfl⟩);have i0:=nn_ pc;have i1:(pc:Int)<(l.length:Int):=by omega
   have i2:(l.length:Int)≤1000:=by omega
   obtain⟨a',n,hev,hc⟩:=db (HT.o _ HB.o);obtain⟨b,off,rfl,d0⟩:=hc pc hp;subst hev;obtain⟨v,hv'⟩:∃ v,v=l[pc]:=⟨_,rfl⟩
   rw[←hv']at d0;have HV:=zH hv';have c3:=HM.o.cell (k:=3) rfl;have c5:=HM.o.cell (k:=5) rfl;have f5:=HM.o.free (k:=5) (by decide);have HD:=zH (HM.o.below (b_drew w2));clear hc hv' hmo hne x1;go_region
   all_goals
    go_wp2_with fail;go_ret;obtain⟨m5,b6⟩:=HD.o.setAt v;exact⟨rfl,.inl ⟨HN.o,_,by rw[←HV.o];exact(m5.drop).drop⟩,(HB.o.trans ((b_drew w2).mono HM.o.size)).trans b6⟩
  ·have hmo:(!a.2.isEmpty)=true:=by cases h2:a.2 with|nil=>exact absurd h2 hne|cons _ _=>rfl
   obtain⟨hl1,-,hl3⟩:=nw (e:=⟨pc,bm,bt',bc,!a.2.isEmpty,a.2,y⟩) hmo;rw[HLE.o]at hl1;dsimp only at hl1;obtain⟨p,hp'⟩:∃ p,p=(Lib.cut a.2 [y]).1:=⟨_,rfl⟩
   rw[←hp']at hl1;have HY:=zH (pi HX.o hmo HA.o (HG.o _ HB.o).mx);rw[←hp']at HY;obtain⟨mo,hmo'⟩:∃ mo,mo=(Lib.cut a.2 [y]).2.2:=⟨_,rfl⟩
   obtain⟨re,hre'⟩:∃ re,re=(Lib.cut a.2 [y]).2.1:=⟨_,rfl⟩
   have he':fN ⟨pc,bm,bt',bc,!a.2.isEmpty,a.2,y⟩=⟨pc,bm,bt',bc,mo,re,y⟩:=by rw[hmo',hre'];rfl
   rw[he']at HY hl1 hl3;have HL1:=zH hl1;have HL3:=zH hl3;clear hl1 hl3 hp' he' hmo' hre' hne;go_wp2_with (go_at_call 329;refine HY.o.mono ?_;rintro r w2 ⟨rfl,hbx2,hc2⟩;obtain⟨hm2,hb2⟩:=HM.o.turnBox hc2 hbx2 rfl rfl rfl;have HM2:=zH hm2;have HB2:=zH (HB.o.trans hb2);clear hm2 hb2 hc2 hbx2);obtain⟨_,⟨oa,oc,rfl⟩,_,_⟩:=HM2.o.slices;have hb5:bZ≤b5∧Blk w2 b5 396 [.int .i64 (pc:Int),eoF ⟨pc,bm,bt',bc,!a.2.isEmpty,a.2,y⟩]:=HM2.o.loc (p:=gS b5 396 [.int .i64 (pc:Int),eoF ⟨pc,bm,bt',bc,!a.2.isEmpty,a.2,y⟩]) (by simp);obtain⟨z0,z1⟩:=cl2 hb5.2;have z2:=hb5.2.lt;unfold eoF at z1;dsimp only at z1;have c23:w2.cell? ⟨G,23,none⟩=some (.slice oa eos.length oc):=HM2.o.cellR (k:=0) rfl;have hGl:G<w2.heap.size:=HM2.o.blk.lt;have h3d:=HM2.o.below (b_drew w2);have hgb:bZ≤w2.drew.heap.size:=h3d.size;have hby:(eos.length+1)*16≤140737488355328:=by omega
   have hoo:=h3d.oo;have H3D:=zH h3d;have he9:(eos.length:Int)≤900:=by omega
   clear h3d hb5 x1 hmo;go_region_law (refine eu.step_append1V w2.drew ⟨pc,bm,bt',bc,mo,re,y⟩ rfl _ _ 290 rfl Tryz.underlying290 bZ (.slice oa eos.length oc) eos rfl hoo _ rfl _ rfl _ rfl hby hgb ?_;intro g gc w4 hown hc hg;have hn:=H3D.o.newO2 (opv':=.slice (some ⟨g,0,none⟩) (eos.length+1) gc) hc (fun k hk=>by cases hk;exact hg) hown;have f23:=hn.2.2.1;have c23':=hn.2.2.2;have HN:=zH hn;clear hn hown hc hg)
   all_goals
    (try simp only[Ec,DH,DN])
    (try go_frame)
    go_wp2_with (go_at_call 325;refine(bL (0,p) HN.o.1 (by have:=HL.o;omega)).mono ?_;rintro r w6 ⟨rfl,⟨sv6,hm6⟩,hB6⟩);go_ret;exact⟨rfl,.inr ⟨p,_,HL1.o,sv6,_,⟨pc,bm,bt',bc,mo,re,y⟩,rfl,rfl,DG HL3.o HA.o,hm6.drop⟩,((HB2.o.trans ((b_drew w2).mono HM2.o.size)).trans HN.o.2.1).trans hB6⟩
 refine⟨fun listed ax wx hI hd hdep=>?_,fun listed ax wx hI hd hdep=>?_,fun listed ax wx hI hd hdep=>?_,fun listed ax wx hI hd hdep=>?_,fun listed ax wx hI hd hdep=>?_,fun listed ax wx hI hd hdep=>?_,fun listed ax wx hI hd hdep=>?_,fun listed ax wx hI hd hdep=>?_,fun listed ax wx hI hd hdep=>?_,fun listed ax wx hI hd hdep=>?_,fun listed ax wx hI hd hdep=>?_,fun listed ax wx hI hd hdep=>?_,True.intro⟩
 ·rw[HINV.o]at hI
  obtain⟨d0,d1,d2,d3,d4,d5,d6,d7,d8,d9,d10,d11,M,b5,rfl,rfl,hBI,h9⟩:=hI;obtain rfl:d0=false:=by simpa using hd
  rw[if_pos (by rfl)];unfold Oper.wp;clear hd hdep;go_simp;rw[HINV.o];exact⟨true,d1,d2,d3,d4,d5,d6,d7,d8,d9,d10,d11,M,b5,rfl,rfl,hBI,h9⟩
 ·rw[HINV.o]at hI
  obtain⟨d0,d1,d2,d3,d4,d5,d6,d7,d8,d9,d10,d11,M,b5,rfl,rfl,hBI,h9⟩:=hI;obtain rfl:d1=false:=by simpa using hd
  simp[Region.binds]at hdep;have e0:d0=true:=by simp[hdep]
  clear hdep;simp only[e0]at hBI⊢;rw[if_pos (by rfl)];unfold Oper.wp;clear hd;go_simp;rw[HINV.o];exact⟨true,true,d2,d3,d4,d5,d6,d7,d8,d9,d10,d11,M,b5,rfl,rfl,hBI,h9⟩
 ·rw[HINV.o]at hI
  obtain⟨d0,d1,d2,d3,d4,d5,d6,d7,d8,d9,d10,d11,M,b5,rfl,rfl,hBI,h9⟩:=hI;obtain rfl:d2=false:=by simpa using hd
  simp[Region.binds]at hdep;have e1:d1=true:=by simp[hdep]
  clear hdep;simp only[e1]at hBI⊢;rw[if_pos (by rfl)];unfold Oper.wp;clear hd;go_simp;rw[HINV.o];exact⟨d0,true,true,d3,d4,d5,d6,d7,d8,d9,d10,d11,M,b5,rfl,rfl,hBI,h9⟩
 ·rw[HINV.o]at hI
  obtain⟨d0,d1,d2,d3,d4,d5,d6,d7,d8,d9,d10,d11,M,b5,rfl,rfl,hBI,h9⟩:=hI;obtain rfl:d3=false:=by simpa using hd
  simp[Region.binds]at hdep;have e2:d2=true:=by simp[hdep]
  clear hdep;simp only[e2]at hBI⊢;rw[if_pos (by rfl)];unfold Oper.wp;clear hd;have y0:=hBI.o.at5;go_simp;rw[HINV.o];exact⟨d0,d1,true,true,d4,d5,d6,d7,d8,d9,d10,d11,M,b5,rfl,rfl,hBI,h9⟩
 ·rw[HINV.o]at hI
  obtain⟨d0,d1,d2,d3,d4,d5,d6,d7,d8,d9,d10,d11,M,b5,rfl,rfl,hBI,h9⟩:=hI;obtain rfl:d4=false:=by simpa using hd
  rw[if_pos (by rfl)];unfold Oper.wp;clear hd hdep;go_simp;rw[HINV.o];exact⟨d0,d1,d2,d3,true,d5,d6,d7,d8,d9,d10,d11,M,b5,rfl,rfl,hBI,h9⟩
 ·rw[HINV.o]at hI
  obtain⟨d0,d1,d2,d3,d4,d5,d6,d7,d8,d9,d10,d11,M,b5,rfl,rfl,hBI,h9⟩:=hI;obtain rfl:d5=false:=by simpa using hd
  simp[Region.binds]at hdep;have e4:d4=true:=by simp[hdep]
  clear hdep;simp only[e4]at hBI⊢;rw[if_pos (by rfl)];unfold Oper.wp;clear hd;go_simp;refine(hBI.o.pop (by have:=HL.o;omega)).mono ?_;rintro r w2 ⟨rfl,hBI2⟩;rw[HINV.o];exact⟨d0,d1,d2,d3,true,true,d6,d7,d8,d9,d10,d11,M,b5,rfl,rfl,hBI2,h9⟩
 ·rw[HINV.o]at hI
  obtain⟨d0,d1,d2,d3,d4,d5,d6,d7,d8,d9,d10,d11,M,b5,rfl,rfl,hBI,h9⟩:=hI;obtain rfl:d6=false:=by simpa using hd
  simp[Region.binds]at hdep;have e5:d5=true:=by simp[hdep]
  clear hdep;simp only[e5]at hBI⊢;rw[if_pos (by rfl)];unfold Oper.wp;clear hd;go_simp;rw[HINV.o];exact⟨d0,d1,d2,d3,d4,true,true,d7,d8,d9,d10,d11,M,b5,rfl,rfl,hBI,h9⟩
 ·rw[HINV.o]at hI
  obtain⟨d0,d1,d2,d3,d4,d5,d6,d7,d8,d9,d10,d11,M,b5,rfl,rfl,hBI,h9⟩:=hI;obtain rfl:d7=false:=by simpa using hd
  rw[if_pos (by rfl)];unfold Oper.wp;clear hd hdep;go_simp;rw[HINV.o];exact⟨d0,d1,d2,d3,d4,d5,d6,true,d8,d9,d10,d11,M,b5,rfl,rfl,hBI,h9⟩
 ·rw[HINV.o]at hI
  obtain⟨d0,d1,d2,d3,d4,d5,d6,d7,d8,d9,d10,d11,M,b5,rfl,rfl,hBI,h9⟩:=hI;obtain rfl:d8=false:=by simpa using hd
  simp[Region.binds]at hdep;have e5:d5=true:=by simp[hdep]
  have e6:d6=true:=by simp[hdep]
  have e7:d7=true:=by simp[hdep]
  clear hdep;simp only[e5,e6,e7]at hBI⊢;have e9:d9=false:=rM (fun e=>Bool.noConfusion (h9 e));simp only[e9] at⊢;rw[if_pos (by rfl)];unfold Oper.wp;clear hd;go_simp;refine hBI.o.pieces.mono ?_;rintro r w2 ⟨rfl,hBI2⟩;rw[HINV.o];exact⟨d0,d1,d2,d3,d4,true,true,true,true,false,d10,d11,_,b5,rfl,rfl,hBI2,fun _=>rfl⟩
 ·rw[HINV.o]at hI
  obtain⟨d0,d1,d2,d3,d4,d5,d6,d7,d8,d9,d10,d11,M,b5,rfl,rfl,hBI,h9⟩:=hI;obtain rfl:d9=false:=by simpa using hd
  simp[Region.binds]at hdep;have e3:d3=true:=by simp[hdep]
  have e8:d8=true:=by simp[hdep]
  clear hdep;simp only[e3,e8]at hBI⊢;rw[if_pos (by rfl)];unfold Oper.wp;clear hd;go_simp;rw[HINV.o];exact⟨d0,d1,d2,true,d4,d5,d6,d7,true,true,d10,d11,M,b5,rfl,rfl,hBI,fun _=>rfl⟩
 ·rw[HINV.o]at hI
  obtain⟨d0,d1,d2,d3,d4,d5,d6,d7,d8,d9,d10,d11,M,b5,rfl,rfl,hBI,h9⟩:=hI;obtain rfl:d10=false:=by simpa using hd
  rw[if_pos (by rfl)];unfold Oper.wp;clear hd hdep;go_simp;rw[HINV.o];exact⟨d0,d1,d2,d3,d4,d5,d6,d7,d8,d9,true,d11,M,wx.heap.size,rfl,rfl,hBI.o.alloc,h9⟩
 ·rw[HINV.o]at hI
  obtain⟨d0,d1,d2,d3,d4,d5,d6,d7,d8,d9,d10,d11,M,b5,rfl,rfl,hBI,h9⟩:=hI;obtain rfl:d11=false:=by simpa using hd
  simp[Region.binds]at hdep;have e8:d8=true:=by simp[hdep]
  have e9:d9=true:=by simp[hdep]
  have e10:d10=true:=by simp[hdep]
  have e5:d5=true:=hBI.o.2.2.1 e8;clear hdep;simp only[e8,e9,e10,e5]at hBI⊢;rw[if_pos (by rfl)];unfold Oper.wp;clear hd;obtain⟨v0,v1,y0,y1,y2,y3⟩:=hBI.o.cells;unfold eoF;go_simp;rw[HINV.o];exact⟨d0,d1,d2,d3,d4,true,d6,d7,true,true,true,true,M,b5,rfl,rfl,hBI.o.store,fun _=>rfl⟩
end
end
section
def px:List FuncId:=[0,302,303,304,305,306,307,308,309,310,311,312,313,314,315,316,317,318,319,320,321,322,323,324]
theorem vd:∀ (l:List Nat) (a n:Nat),l.Pairwise (·<·)→(∀ x∈l,a≤x∧x<n)→l.length≤n-a
 | [],_,_,_,_=>D6 _
 | x::l,a,n,hp,h=>by
  obtain⟨h1,h2⟩:=List.pairwise_cons.1 hp;obtain⟨h3,h4⟩:=h x (D2 ..);have:=vd l (x+1) n h2 (fun y hy=>⟨h1 y hy,(h y (D4 _ hy)).2⟩);rw[Du];omega
theorem xx:∀ n,1≤n→n≤23→∀ (args:Array Value) (w:World),(callFunc (px.getD n 0) args).run Tryz.prog w=.ok (.enter (px.getD n 0) args) w:=by
 intro n h1 h2;rcases(show n=1∨n=2∨n=3∨n=4∨n=5∨n=6∨n=7∨n=8∨n=9∨n=10∨n=11∨n=12∨n=13∨n=14∨n=15∨n=16∨n=17∨n=18∨n=19∨n=20∨n=21∨n=22∨n=23 by omega) with rfl|rfl|rfl|rfl|rfl|rfl|rfl|rfl|rfl|rfl|rfl|rfl|rfl|rfl|rfl|rfl|rfl|rfl|rfl|rfl|rfl|rfl|rfl<;>(intro args w;kernel_rfl)
structure B0 (w:World) (E:Me) (tv cv iv ev:Value):Prop where
 t:aK.Row w tv E.tx
 c:bp.Row w cv E.code
 i:aK.Row w iv E.ins
 e:bf.Row w ev E.ends
 g:cU w
 d:∀ k,1≤k→k≤23→w.cell? ⟨0,k,none⟩=some (.func (.func (px.getD k 0)) #[] #[])
def rP {bZ:Nat}(M:Nat)(n:Nat)(c:Int→Nat):Pt bZ :=
 ⟨fun k=>k=M,fun w=>bZ≤M∧iE w M n c,fun h hc hX=>⟨h.1,h.2.block (hc.block _ h.2.lt (hX _ rfl))⟩,fun h k hk=>by subst hk;exact⟨h.1,h.2.lt⟩⟩
def MS (bZ:Nat)(w:World)(G M:Nat)(E:Me)(tv cv iv ev:Value)(tr:List Int)(at_:Int)(st rg:List MV)(op:List (Nat×LL_))(pr:List (LU_×LU_)):Prop :=
 ∃ eos stv opv prv trv,MR bZ w G ⟨tv,cv,iv,ev,.map (some M),[],0⟩ at_ st rg eos pr tr stv opv prv trv [rP M E.code.length (cT E.code E.ends E.code.length)]∧kA eos=op∧∀ e∈eos,e.rest.length≤1024
section
variable {nt inp:Nat}{role:UInt8}{E:Me}
theorem rT (G:ek nt inp role E){i:Nat}(hi:i≤E.code.length):(bq (sM nt inp role E i)).length≤i:=by
 have hr:=(G.run hi).inv;unfold bq;rw[List.length_reverse,Ed];refine DG (List.length_filter_le _ _) ?_
 have:=vd _ 0 i hr.st (fun x hx=>by
  obtain⟨b,hb,rfl⟩:=List.mem_map.1 hx;exact⟨D6 _,(hr.bl b hb).1⟩)
 rw[Ed]at this;omega
theorem nH (G:ek nt inp role E):E.ends.length=E.code.length:=by
 rw[G.ends];exact(G.run (DC _)).inv.el
theorem Fj {T:Prop} (h:T:=by
 rintro r w' ⟨rfl,⟨sv,hm'⟩,hB⟩;exact⟨rfl,fun _=>⟨eos,_,_,_,_,by show MR bZ w' Gb _ (((pc+1:Nat):Int)-1) _ _ eos pr tr _ _ _ _ _;rw[hp1];exact hm',hop,hre⟩,hB⟩
):T:=h
theorem yi {bZ Gb M:Nat}{w:World}{tv cv iv ev:Value}{tr:List Int}{pc:Nat}{st rg:List MV}{op:List (Nat×LL_)}{pr:List (LU_×LU_)}{n:Nat}{y:UInt8}(G:ek nt inp role E)(hnt:nt≤1000)(hinp:inp≤1000)(hcl:E.code.length≤256)(h:OkM (sM nt inp role E) E ⟨pc,st,rg,op,pr⟩)(hpc:pc<E.code.length)(hn:(E.code.getD pc (0,0)).1.toNat=n)(hy:(E.code.getD pc (0,0)).2=y)(hM:MS bZ w Gb M E tv cv iv ev tr (pc:Int) st rg op pr)(hE:∀ w',Below bZ w w'→B0 w' E tv cv iv ev):Calls Tryz.prog (px.getD n 0) #[.pointer (some ⟨Gb,0,none⟩),.int .u8 (y.toNat:Int)] w fun r w'=>r=.returned (.int .i64 ((doN E n y pc st rg op pr).1:Int)) ∧((doN E n y pc st rg op pr).1=0→MS bZ w' Gb M E tv cv iv ev tr (((doN E n y pc st rg op pr).2.pc:Int)-1) (doN E n y pc st rg op pr).2.st (doN E n y pc st rg op pr).2.rg (doN E n y pc st rg op pr).2.op (doN E n y pc st rg op pr).2.pr)∧Below bZ w w':=by
 have hst:st.length=(sM nt inp role E pc).kinds.length:=h.st;have hopl:op.map (·.1)=bq (sM nt inp role E pc):=h.op;have hsv:∀ v∈st,vOk v:=h.sv;have hpr:pr.length≤256:=h.pr;have hk16:=(G.run (DA hpc)).k;have hl16:st.length≤16:=by rw[hst];exact hk16
 have hel:=nH G;obtain⟨eos,stv,opv,prv,trv,hm,hop,hre⟩:=hM
 have heo:eos.length≤256:=by
  have h1:=rT G (DA hpc);rw[←hopl,Ed,←hop,p6]at h1;omega
 have hx:aZ (E.code.getD pc (0,0))=true:=iq (P:=fun x=>aZ x=true) G.may hpc _
 have hx1:1≤(E.code.getD pc (0,0)).1.toNat∧(E.code.getD pc (0,0)).1.toNat≤23:=by
  unfold aZ at hx;simp at hx;exact hx.1
 obtain⟨hs,ho⟩:=G.step hpc;obtain⟨g1,g3,g17,g23⟩:=jE ho.th;have hu:∀ k:UInt8,k.toNat=n→(E.code.getD pc (0,0)).1=k:=fun k hk=>UInt8.toNat_inj.1 (hn.trans hk.symm);have hpl:=fun (h19:n≠19) (h20:n≠20) (h21:n≠21) (h22:n≠22)=>jK G hpc hn (by omega) h19 h20 h21 h22;rw[hn]at hx1;rw[←hst]at hpl;rw[hy]at g1 g3 g17;have hp1:((pc+1:Nat):Int)-1=(pc:Int):=by omega
 have hEw:=hE w (DF _ _);have hGl:∀ w',Below bZ w w'→cU w':=fun w' hB=>(hE w' hB).g;have hJ:∀ w',Below bZ w w'→bf.Row w' ev E.ends:=fun w' hB=>(hE w' hB).e;clear hx hn;rcases(show n=1∨n=2∨n=3∨n=4∨n=5∨n=6∨n=7∨n=8∨n=9∨n=10∨n=11∨n=12∨n=13∨n=14∨n=15∨n=16∨n=17∨n=18∨n=19∨n=20∨n=21∨n=22∨n=23 by omega) with rfl|rfl|rfl|rfl|rfl|rfl|rfl|rfl|rfl|rfl|rfl|rfl|rfl|rfl|rfl|rfl|rfl|rfl|rfl|rfl|rfl|rfl|rfl
 ·obtain⟨l1,l2,l3⟩:=hpl (by decide) (by decide) (by decide) (by decide)
  have hd:doN E 1 y pc (st) rg op pr=(0,⟨pc+1,(0,E.tx.getD y.toNat [])::st,rg,op,pr⟩):=rfl;rw[hd];refine(vB y hm (by omega) hEw.t (by rw[G.txl];exact g1 (hu 1 rfl)) (by rw[G.txl];omega)).mono ?_;exact Fj
 ·obtain⟨l1,l2,l3⟩:=hpl (by decide) (by decide) (by decide) (by decide)
  have hd:doN E 2 y pc (st) rg op pr=(0,⟨pc+1,((y.toNat:Int),[])::st,rg,op,pr⟩):=rfl;rw[hd];refine(xV y hm (by omega)).mono ?_;exact Fj
 ·obtain⟨l1,l2,l3⟩:=hpl (by decide) (by decide) (by decide) (by decide)
  have hd:doN E 3 y pc (st) rg op pr=(0,⟨pc+1,(0,E.ins.getD y.toNat [])::st,rg,op,pr⟩):=rfl;rw[hd];refine(sY y hm (by omega) hEw.i (by rw[G.inl];exact g3 (hu 3 rfl)) (by rw[G.inl];omega)).mono ?_;exact Fj
 ·obtain⟨l1,l2,l3⟩:=hpl (by decide) (by decide) (by decide) (by decide)
  obtain⟨b,a,s,rfl⟩:=cI (show 2≤st.length from l1);have hd:doN E 4 y pc (b::a::s) rg op pr=if 1024<a.2.length+b.2.length then (5,⟨pc,b::a::s,rg,op,pr⟩) else (0,⟨pc+1,(0,a.2++b.2)::s,rg,op,pr⟩):=rfl;rw[hd];refine(x9 y a b hm (by simp at hl16;omega) (bU (aR hsv)).2.2 (bU hsv).2.2).mono ?_;rintro r w' ⟨(⟨hc,rfl⟩|⟨hc,rfl,sv,hm'⟩),hB⟩
  ·rw[if_pos hc]
   exact⟨rfl,fun h0=>absurd h0 (by simp),hB⟩
  ·rw[if_neg hc]
   exact⟨rfl,fun _=>⟨eos,_,_,_,_,by show MR bZ w' Gb _ (((pc+1:Nat):Int)-1) _ rg eos pr tr _ _ _ _ _;rw[hp1];exact hm',hop,hre⟩,hB⟩
 ·obtain⟨l1,l2,l3⟩:=hpl (by decide) (by decide) (by decide) (by decide)
  obtain⟨a,s,rfl⟩:=bQ (show 1≤st.length from l1);have hd:doN E 5 y pc (a::s) rg op pr=(0,⟨pc+1,((a.2.length:Int),[])::s,rg,op,pr⟩):=rfl;rw[hd];refine(vD y a hm (by simp at hl16;omega) (bU hsv).2.2).mono ?_;exact Fj
 ·obtain⟨l1,l2,l3⟩:=hpl (by decide) (by decide) (by decide) (by decide)
  obtain⟨n,a,t,s,rfl⟩:=mD (show 3≤st.length from l1);have hd:doN E 6 y pc (n::a::t::s) rg op pr=(0,⟨pc+1,(0,fM t.2 a.1 n.1)::s,rg,op,pr⟩):=rfl;rw[hd];refine(vG y n a t hm (by simp at hl16;omega) (bU hsv) (bU (aR hsv)) (bU (aR (aR hsv)))).mono ?_;exact Fj
 ·obtain⟨l1,l2,l3⟩:=hpl (by decide) (by decide) (by decide) (by decide)
  obtain⟨a,s,rfl⟩:=bQ (show 1≤st.length from l1);have hd:doN E 7 y pc (a::s) rg op pr=(0,⟨pc+1,(b_Z a.2,[])::s,rg,op,pr⟩):=rfl;rw[hd];refine(sX y a hm (by simp at hl16;omega) (bU hsv) hGl).mono ?_;exact Fj
 ·obtain⟨l1,l2,l3⟩:=hpl (by decide) (by decide) (by decide) (by decide)
  obtain⟨a,s,rfl⟩:=bQ (show 1≤st.length from l1);have hd:doN E 8 y pc (a::s) rg op pr=(0,⟨pc+1,(0,Lib.itoa a.1)::s,rg,op,pr⟩):=rfl;rw[hd];refine(vE y a hm (by simp at hl16;omega) (bU hsv) (fun w' hB=>(hGl w' hB).tab)).mono ?_;exact Fj
 ·obtain⟨l1,l2,l3⟩:=hpl (by decide) (by decide) (by decide) (by decide)
  obtain⟨b,a,s,rfl⟩:=cI (show 2≤st.length from l1);have hd:doN E 9 y pc (b::a::s) rg op pr=(0,⟨pc+1,(wrap64 (a.1+b.1),[])::s,rg,op,pr⟩):=rfl;rw[hd];refine(yc y a b hm (by simp at hl16;omega)).mono ?_;exact Fj
 ·obtain⟨l1,l2,l3⟩:=hpl (by decide) (by decide) (by decide) (by decide)
  obtain⟨b,a,s,rfl⟩:=cI (show 2≤st.length from l1);have hd:doN E 10 y pc (b::a::s) rg op pr=(0,⟨pc+1,(wrap64 (a.1*b.1),[])::s,rg,op,pr⟩):=rfl;rw[hd];refine(xX y a b hm (by simp at hl16;omega)).mono ?_;exact Fj
 ·obtain⟨l1,l2,l3⟩:=hpl (by decide) (by decide) (by decide) (by decide)
  obtain⟨b,a,s,rfl⟩:=cI (show 2≤st.length from l1);have hd:doN E 11 y pc (b::a::s) rg op pr=(0,⟨pc+1,bitM (decide (a.1<b.1))::s,rg,op,pr⟩):=rfl;rw[hd];refine(vH y a b hm (by simp at hl16;omega)).mono ?_;exact Fj
 ·obtain⟨l1,l2,l3⟩:=hpl (by decide) (by decide) (by decide) (by decide)
  obtain⟨b,a,s,rfl⟩:=cI (show 2≤st.length from l1);have hd:doN E 12 y pc (b::a::s) rg op pr=(0,⟨pc+1,bitM (a.2==b.2)::s,rg,op,pr⟩):=rfl;rw[hd];refine(vF y a b hm (by simp at hl16;omega)).mono ?_;exact Fj
 ·obtain⟨l1,l2,l3⟩:=hpl (by decide) (by decide) (by decide) (by decide)
  obtain⟨a,s,rfl⟩:=bQ (show 1≤st.length from l1);have hd:doN E 13 y pc (a::s) rg op pr=(0,⟨pc+1,bitM (a.1==0)::s,rg,op,pr⟩):=rfl;rw[hd];refine(xW y a hm (by simp at hl16;omega)).mono ?_;exact Fj
 ·obtain⟨l1,l2,l3⟩:=hpl (by decide) (by decide) (by decide) (by decide)
  obtain⟨a,s,rfl⟩:=bQ (show 1≤st.length from l1);have hd:doN E 14 y pc (a::s) rg op pr=(0,⟨pc+1,s,rg,op,pr⟩):=rfl;rw[hd];refine(vL y a hm (by simp at hl16;omega)).mono ?_;exact Fj
 ·obtain⟨l1,l2,l3⟩:=hpl (by decide) (by decide) (by decide) (by decide)
  obtain⟨a,s,rfl⟩:=bQ (show 1≤st.length from l1);have hd:doN E 15 y pc (a::s) rg op pr=(0,⟨pc+1,a::a::s,rg,op,pr⟩):=rfl;rw[hd];refine(x8 y a hm (by simp at hl16;omega)).mono ?_;exact Fj
 ·obtain⟨l1,l2,l3⟩:=hpl (by decide) (by decide) (by decide) (by decide)
  obtain⟨b,a,s,rfl⟩:=cI (show 2≤st.length from l1);have hd:doN E 16 y pc (b::a::s) rg op pr=(0,⟨pc+1,a::b::s,rg,op,pr⟩):=rfl;rw[hd];refine(vC y a b hm (by simp at hl16;omega)).mono ?_;exact Fj
 ·obtain⟨l1,l2,l3⟩:=hpl (by decide) (by decide) (by decide) (by decide)
  have hd:doN E 17 y pc (st) rg op pr=(0,⟨pc+1,rg.getD y.toNat (0,[])::st,rg,op,pr⟩):=rfl;rw[hd];refine(xY y (g17 (.inl (hu 17 rfl))) hm (by omega)).mono ?_;exact Fj
 ·obtain⟨l1,l2,l3⟩:=hpl (by decide) (by decide) (by decide) (by decide)
  obtain⟨a,s,rfl⟩:=bQ (show 1≤st.length from l1);have hd:doN E 18 y pc (a::s) rg op pr=(0,⟨pc+1,s,rg.set y.toNat a,op,pr⟩):=rfl;rw[hd];refine(xT y (g17 (.inr (hu 18 rfl))) a hm (by simp at hl16;omega)).mono ?_;exact Fj
 ·obtain⟨e,e1,e2,e3,e4,e5,e6,-⟩:=eh G hpc (.inl (hu 19 rfl))
  rw[←hst]at e5;obtain⟨a,s,rfl⟩:=bQ e5;have hd:doN E 19 y pc (a::s) rg op pr=(0,⟨if a.1=0 then (E.ends.getD pc 0).toNat+1 else pc+1,s,rg,op,pr⟩):=rfl;rw[hd];have hpe:pc<E.ends.length:=by rw[hel];exact hpc
  have hge:E.ends.getD pc 0=E.ends[pc]:=by rw[List.getD_eq_getElem?_getD,List.getElem?_eq_getElem hpe];rfl
  refine(qC y a pc hm (by simp at hl16;omega) hJ hpe (by omega)).mono ?_;rintro r w' ⟨rfl,⟨sv,hm'⟩,hB⟩;refine⟨rfl,fun _=>⟨eos,sv,opv,prv,trv,?_,hop,hre⟩,hB⟩
  have hv:((if a.1=0 then (E.ends.getD pc 0).toNat+1 else pc+1:Nat):Int)-1=if a.1=0 then E.ends[pc] else (pc:Int):=by
   split
   ·rw[e3]at hge⊢;rw[←hge];simp
   ·exact hp1
  show MR bZ w' Gb _ (((if a.1=0 then (E.ends.getD pc 0).toNat+1 else pc+1:Nat):Int)-1) s rg eos pr tr sv _ _ _ _;rw[hv];exact hm'
 ·obtain⟨e,e1,e2,e3,e4,e5⟩:=qo G hpc (hu 20 rfl)
  have hd:doN E 20 y pc st rg op pr=(0,⟨(E.ends.getD pc 0).toNat,st,rg,op,pr⟩):=rfl;rw[hd];have hpe:pc<E.ends.length:=by rw[hel];exact hpc
  have hge:E.ends.getD pc 0=E.ends[pc]:=by rw[List.getD_eq_getElem?_getD,List.getElem?_eq_getElem hpe];rfl
  rw[e3]at hge;refine(vA y pc hm hEw.e hpe (by omega) (by rw[←hge];omega)).mono ?_;rintro r w' ⟨rfl,hm',hB⟩;refine⟨rfl,fun _=>⟨eos,stv,opv,prv,trv,?_,hop,hre⟩,hB⟩;rw[←hge]at hm';show MR bZ w' Gb _ (((E.ends.getD pc 0).toNat:Int)-1) st rg eos pr tr _ _ _ _ _;rw[e3];exact hm'
 ·have hd:doN E 21 y pc st rg op pr=if ey E pc=true then (match op with|(a,p::ps)::o=>(0,⟨a+1,(0,p)::st,rg,(a,ps)::o,pr⟩)|(_,[])::o=>(0,⟨pc+1,st,rg,o,pr⟩)|[]=>(99,⟨pc,st,rg,op,pr⟩)) else (0,⟨pc+1,st,rg,op,pr⟩):=rfl
  rw[hd];have hmp:bZ≤M∧iE w M E.code.length (cT E.code E.ends E.code.length):=hm.loc (p:=rP M E.code.length (cT E.code E.ends E.code.length)) (by simp);have hz:=sx E pc
  cases hle:ey E pc with
  | false =>
   rw[if_neg (by simp)];refine(xZ y pc _ _ hm hmp.2 (hz.2 hle) (by omega)).mono ?_;rintro r w' ⟨rfl,hB⟩;exact⟨rfl,fun _=>⟨eos,_,_,_,_,by show MR bZ w' Gb _ (((pc+1:Nat):Int)-1) st rg eos pr tr _ _ _ _ _;rw[hp1];exact hm.below hB,hop,hre⟩,hB.mono hm.size⟩
  | true =>
   rw[if_pos rfl];have hne:cT E.code E.ends E.code.length (pc:Int)≠0:=fun h0=>by rw[hz.1 h0]at hle;cases hle
   obtain⟨j,b,e1,e2,e3,e4,e5,e6,e7,e8⟩:=qn G hpc (hu 21 rfl);have hle2:=il e5 (by omega) e4;rw[hle]at hle2;have h22:b.op=22:=e2.1 (by simpa using hle2.symm);rw[if_pos h22]at e6;rw[e6]at hopl
   match op,hop,hopl with
   | [],_,hopl=>cases hopl
   | (a,ps0)::o,hop,_ =>
    obtain⟨l,e,rfl,ha,hps,ho2⟩:=tS hop;subst ha hps;refine(vI y pc _ _ hm hmp.2 hne (by omega) (by omega) (by simp at heo;omega) (hre e (by simp)) hGl).mono ?_;rintro r w' ⟨rfl,(⟨hno,ov',hm'⟩|⟨p,ps,hps,sv',e',he1,he2,he3,hm'⟩),hB⟩
    ·rw[hno]
     exact⟨rfl,fun _=>⟨l,_,_,_,_,by show MR bZ w' Gb _ (((pc+1:Nat):Int)-1) st rg l pr tr _ _ _ _ _;rw[hp1];exact hm',ho2,fun x hx=>hre x (by simp[hx])⟩,hB⟩
    ·rw[hps]
     refine⟨rfl,fun _=>⟨l++[e'],_,_,_,_,by show MR bZ w' Gb _ (((e.at_+1:Nat):Int)-1) ((0,p)::st) rg (l++[e']) pr tr _ _ _ _ _;rw[show((e.at_+1:Nat):Int)-1=(e.at_:Int) by omega];exact hm',by rw[jO,he1,he2,ho2],fun x hx=>?_⟩,hB⟩;rcases DM.1 hx with hx|hx
     ·exact hre x (by simp[hx])
     ·rw[DZ]at hx;subst hx;exact he3
 ·obtain⟨e,e1,e2,e3,e4,e5,e6,-⟩:=eh G hpc (.inr (hu 22 rfl))
  rw[←hst]at e5;obtain⟨a,s,rfl⟩:=bQ e5;have hd:doN E 22 y pc (a::s) rg op pr=(match bN a.2 y with|[]=>(0,⟨(E.ends.getD pc 0).toNat+1,s,rg,op,pr⟩)|p::ps=>(0,⟨pc+1,(0,p)::s,rg,(pc,ps)::op,pr⟩)):=rfl;rw[hd];have hpe:pc<E.ends.length:=by rw[hel];exact hpc
  have hge:E.ends.getD pc 0=E.ends[pc]:=by rw[List.getD_eq_getElem?_getD,List.getElem?_eq_getElem hpe];rfl
  refine(vK a y pc hm (by simp at hl16;omega) (by omega) (bU hsv).2.2 hGl hJ hpe (by omega)).mono ?_;rintro r w' ⟨rfl,(⟨hno,sv',hm'⟩|⟨p,ps,hps,sv',ov',e',he1,he2,he3,hm'⟩),hB⟩
  ·have hpn:bN a.2 y=[]:=by rw[hno];rfl
   rw[hpn];refine⟨rfl,fun _=>⟨eos,sv',opv,prv,trv,?_,hop,hre⟩,hB⟩;show MR bZ w' Gb _ ((((E.ends.getD pc 0).toNat+1:Nat):Int)-1) s rg eos pr tr _ _ _ _ _;rw[←hge]at hm';rw[e3]at hm'⊢;rw[show(((e:Int).toNat+1:Nat):Int)-1=(e:Int) by omega];exact hm'
  ·rw[hps]
   refine⟨rfl,fun _=>⟨eos++[e'],_,_,_,_,by show MR bZ w' Gb _ (((pc+1:Nat):Int)-1) ((0,p)::s) rg (eos++[e']) pr tr _ _ _ _ _;rw[hp1];exact hm',by rw[jO,he1,he2,hop],fun x hx=>?_⟩,hB⟩;rcases DM.1 hx with hx|hx
   ·exact hre x hx
   ·rw[DZ]at hx;subst hx;exact he3
 ·obtain⟨l1,l2,l3⟩:=hpl (by decide) (by decide) (by decide) (by decide)
  obtain⟨b,a,s,rfl⟩:=cI (show 2≤st.length from l1);have hd:doN E 23 y pc (b::a::s) rg op pr=if 256≤pr.length then (4,⟨pc,b::a::s,rg,op,pr⟩) else (0,⟨pc+1,s,rg,op,pr++[(a.2,b.2)]⟩):=rfl;rw[hd];refine(vJ y a b hm (by simp at hl16;omega) hpr).mono ?_;rintro r w' ⟨(⟨hc,rfl⟩|⟨hc,rfl,sv,pv,hm'⟩),hB⟩
  ·rw[if_pos hc]
   exact⟨rfl,fun h0=>absurd h0 (by simp),hB⟩
  ·rw[if_neg hc]
   exact⟨rfl,fun _=>⟨eos,_,_,_,_,by show MR bZ w' Gb _ (((pc+1:Nat):Int)-1) _ rg eos _ tr _ _ _ _ _;rw[hp1];exact hm',hop,hre⟩,hB⟩
end
end
section
attribute [local irreducible] wpG
def Bb:Option Value→Nat
 | some (.slice _ n _)=>n
 | _=>0
section
variable {nt inp:Nat}{role:UInt8}{E:Me}
theorem MS.mr {bZ:Nat}{w:World}{Gb M:Nat}{tv cv iv ev:Value}{tr:List Int}{at_:Int}{st rg:List MV}{op:List (Nat×LL_)}{pr:List (LU_×LU_)}(h:MS bZ w Gb M E tv cv iv ev tr at_ st rg op pr):∃ eos stv opv prv a c,MR bZ w Gb ⟨tv,cv,iv,ev,.map (some M),[],0⟩ at_ st rg eos pr tr stv opv prv (.slice a tr.length c) [rP M E.code.length (cT E.code E.ends E.code.length)]∧kA eos=op∧∀ e∈eos,e.rest.length≤1024:=by
 obtain⟨eos,stv,opv,prv,trv,hm,h1,h2⟩:=h;obtain⟨_,_,_,a,c,rfl⟩:=hm.slices;exact⟨eos,stv,opv,prv,a,c,hm,h1,h2⟩
def Bl (nt inp:Nat)(role:UInt8)(bZ:Nat)(w0 w:World)(Gb M:Nat)(E:Me)(tv cv iv ev:Value)(F:Nat)(tr:List Int)(m:Mc):Prop :=
 tr.length≤F∧MS bZ w Gb M E tv cv iv ev tr (m.pc:Int) m.st m.rg m.op m.pr∧OkM (sM nt inp role E) E m∧cJ E (F-tr.length) m=cJ E F aY∧Below bZ w0 w
theorem xU {bZ Gb M:Nat}{w:World}{tv cv iv ev:Value}(G:ek nt inp role E)(hnt:nt≤1000)(hinp:inp≤1000)(hcl:E.code.length≤256)(F:Nat)(hF:F≤65536)(hM:MS bZ w Gb M E tv cv iv ev [] 0 [] (List.replicate 8 (0,[])) [] [])(hE:∀ w',Below bZ w w'→B0 w' E tv cv iv ev):Calls Tryz.prog 196 #[.pointer (some ⟨Gb,0,none⟩),.int .i64 (F:Int)] w fun r w'=>r=.returned (.int .i64 ((cJ E F aY).1:Int)) ∧((cJ E F aY).1=0→∃ tr,tr.length≤F∧MS bZ w' Gb M E tv cv iv ev tr (E.code.length:Int) (cJ E F aY).2.st (cJ E F aY).2.rg (cJ E F aY).2.op (cJ E F aY).2.pr)∧Below bZ w w':=by
 have hS:bZ≤w.heap.size:=by obtain⟨_,_,_,_,_,_,hm,_⟩:=hM.mr;exact hm.size
 have H0:Hid (∃ m tr,Bl nt inp role bZ w w Gb M E tv cv iv ev F tr m):=⟨aY,[],D6 _,hM,fA,rfl,DF _ _⟩
 obtain⟨ac,nc,rfl,-,-⟩:=ag (hE w (DF _ _)).c;have HE:=zH hE;have HG:=zH G;have HS:=zH hS;clear hM hE G hS;go_enter Tryz.func196,Tryz.ntmps196;go_wp2_with fail
 go_loopw [4] (fun r wr=>r=.int .i64 0∧Hid (∃ m tr,Bl nt inp role bZ w wr Gb M E tv (.slice ac E.code.length nc) iv ev F tr m)) (fun _ wr=>F-Bb (wr.cell? ⟨Gb,27,none⟩))
 case atStart=>exact⟨rfl,H0⟩
 case round =>
  obtain⟨rfl,hR⟩:=hrel;obtain⟨m,tr,htr,hMS,hok,hrun,hB⟩:=hR.o;obtain⟨pc,st,rg,op,pr⟩:=m;dsimp only at hMS;obtain⟨eos,stv,opv,prv,ta,tc,hm,hop,hre⟩:=hMS.mr;have c5:wr.cell? ⟨Gb,5,none⟩=some (.int .i64 (pc:Int)):=hm.cell (k:=5) rfl;have c1:wr.cell? ⟨Gb,1,none⟩=some (.slice ac E.code.length nc):=hm.cell (k:=1) rfl;have c27:wr.cell? ⟨Gb,27,none⟩=some (.slice ta tr.length tc):=hm.cellR (k:=4) rfl;have i1:(E.code.length:Int)≤256:=by omega
  have i2:(pc:Int)≤(E.code.length:Int):=by have:=hok.pc;show(pc:Int)≤_;simp at this;omega
  have i3:(tr.length:Int)≤65536:=by omega
  have HC270:=zH c27;have HM:=zH hm;have HMS:=zH hMS;have HOK:=zH hok;have HRUN:=zH hrun;have HB:=zH hB;have HOP:=zH hop;have HRE:=zH hre;have HTR:=zH htr;clear hm hMS hok hrun hB hop hre htr hR
  by_cases hpc:pc<E.code.length
  ·have i4:(pc:Int)<(E.code.length:Int):=by omega
   by_cases hf:F≤tr.length
   ·have i5:(F:Int)≤(tr.length:Int):=by omega
    have HD:=zH (show(cJ E F aY).1=140 by
     have:=HRUN.o;rw[show F-tr.length=0 by omega,kW _ hpc]at this;rw[←this])
    go_wp2_with fail;go_quiet (fail);go_wp2_with fail;go_ret;rw[HD.o];exact⟨rfl,fun h0=>absurd h0 (by decide),HB.o.trans ((C9 _ _).mono HM.o.size)⟩
   ·have i5:¬(F:Int)≤(tr.length:Int):=by omega
    go_wp2_with fail;go_quiet (fail);go_upto_region 5 with fail;obtain⟨W1,hW1⟩:=ex_ (wr.drewN nq);rw[←hW1];have hb1:Below wr.heap.size wr W1:=by rw[hW1];exact C9 _ _
    have hm1:=HM.o.below hb1;have HB1:=zH (hb1.mono HM.o.size);have HB0:=zH HB.o;have HSw:=zH HM.o.size;clear hW1 hb1 c5 c1 c27 HM HMS HB;have c5:W1.cell? ⟨Gb,5,none⟩=some (.int .i64 (pc:Int)):=hm1.cell (k:=5) rfl;have c27:W1.cell? ⟨Gb,27,none⟩=some (.slice ta tr.length tc):=hm1.cellR (k:=4) rfl;have hGl:Gb<W1.heap.size:=hm1.blk.lt;have h1d:=hm1.below (b_drew W1);have hgb:bZ≤W1.drew.heap.size:=h1d.size;have hby:(tr.length+1)*8≤140737488355328:=by omega
    have hot:=h1d.ot;have H1D:=zH h1d;have HM1:=zH hm1;clear h1d hm1
    go_cut [] (fun wx=>∃ g gc,Hid (MR bZ wx Gb ⟨tv,.slice ac E.code.length nc,iv,ev,.map (some M),[],0⟩ (pc:Int) st rg eos pr (tr++[(pc:Int)]) stv opv prv (.slice (some ⟨g,0,none⟩) (tr.length+1) gc) [rP M E.code.length (cT E.code E.ends E.code.length)])∧Hid (Below bZ wr wx))
    case first =>
     go_region_law (refine bf.step_append1V W1.drew (pc:Int) rfl _ _ 98 rfl Tryz.underlying98 bZ (.slice ta tr.length tc) tr rfl hot _ rfl _ rfl _ rfl hby hgb ?_;intro g gc w3 hown hc hg;have hn:=H1D.o.newT (trv':=.slice (some ⟨g,0,none⟩) (tr.length+1) gc) (l:=tr++[(pc:Int)]) hc (fun k hk=>by cases hk;exact hg) hown;have f27:=hn.2.2.1;have c27':=hn.2.2.2;have HN:=zH hn;clear hn hown hc hg)
     all_goals
      go_wp2_with fail
      go_meet
      case rel=>exact⟨_,_,HN.o.1,(HB1.o.trans ((b_drew W1).mono HM1.o.size)).trans HN.o.2.1⟩
    case rest =>
     obtain⟨g,gc,HMc,HBc⟩:=hcut;clear c5 c27 hGl hgb hby hot H1D HM1;obtain⟨a',n',hev,-,hc⟩:=ag (HE.o _ (HB0.o.trans HBc.o)).c;obtain⟨b,off,rfl,d0,d1⟩:=hc pc hpc;injection hev with e1 e2 e3
     subst e1 e3;have c5:wc.cell? ⟨Gb,5,none⟩=some (.int .i64 (pc:Int)):=HMc.o.cell (k:=5) rfl;have c1:wc.cell? ⟨Gb,1,none⟩=some (.slice (some ⟨b,off,none⟩) E.code.length nc):=HMc.o.cell (k:=1) rfl;have j0:=nn_ pc;have hGl:Gb<wc.heap.size:=HMc.o.blk.lt;have hbl:b<wc.heap.size:=aD d0;go_wp2_with fail;go_region;obtain⟨T,hT⟩:=ex_ wc.heap.size;obtain⟨V,hV⟩:=ex_ ((wc.alloc (.cells #[.int .u8 (E.code[pc].1.toNat:Int),.int .u8 (E.code[pc].2.toNat:Int)] 127)).drew);have hX:Blk V T 127 [.int .u8 (E.code[pc].1.toNat:Int),.int .u8 (E.code[pc].2.toNat:Int)]:=by subst hT;rw[hV];exact(Blk.new wc _ _).below (b_drew _)
     have hbV:Below wc.heap.size wc V:=by rw[hV];exact bt (af _ _) (b_drew _)
     obtain⟨x0,x1⟩:=cl2 hX;rw[←hV,←hT];clear hV hT hX d0 d1 c1 c5 hGl hbl;have hgd:E.code.getD pc (0,0)=E.code[pc]:=by rw[List.getD_eq_getElem?_getD,List.getElem?_eq_getElem hpc];rfl
     obtain⟨n,hn⟩:=ex_ (E.code[pc].1.toNat);obtain⟨y,hy⟩:=ex_ (E.code[pc].2);have hmV:=HMc.o.below hbV;have hBV:Below bZ w V:=(HB0.o.trans HBc.o).trans (hbV.mono HMc.o.size);have hMSd:MS bZ V.drew Gb M E tv (.slice (some ⟨b,off,none⟩) E.code.length nc) iv ev (tr++[(pc:Int)]) (pc:Int) st rg op pr:=⟨eos,_,_,_,_,hmV.below (b_drew V),HOP.o,HRE.o⟩
     have hBVd:Below bZ w V.drew:=hBV.trans ((b_drew V).mono hmV.size);have hST:=yi HG.o hnt hinp hcl HOK.o hpc (n:=n) (y:=y) (by rw[hgd];exact hn.symm) (by rw[hgd];exact hy.symm) hMSd (fun w' hB=>HE.o _ (hBVd.trans hB))
     have hn23:1≤n∧n≤23:=by
      have hx:aZ (E.code.getD pc (0,0))=true:=iq (P:=fun x=>aZ x=true) HG.o.may hpc _;unfold aZ at hx;simp only[DS,decide_eq_true_eq]at hx;rw[hgd,←hn]at hx;exact hx.1
     have hdM:doM E (xM E ⟨pc,st,rg,op,pr⟩) ⟨pc,st,rg,op,pr⟩=doN E n y pc st rg op pr:=by
      show doN E (E.code.getD pc (0,0)).1.toNat (E.code.getD pc (0,0)).2 pc st rg op pr=_;rw[hgd,←hn,←hy]
     have hdd:=(HE.o _ hBV).d n hn23.1 hn23.2;have hcf:=xx n hn23.1 hn23.2;obtain⟨F0,hF0⟩:=ex_ (px.getD n 0);rw[←hF0]at hST hdd hcf;rw[←hn]at x0;rw[←hy]at x1;have n0:=nn_ n;have n1:(n:Int)<24:=by omega
     have hTl:T<V.heap.size:=aD x0;have HST:=zH hST;have HBV:=zH hBVd;have HDM:=zH hdM;have hok2:=uu HG.o HOK.o hpc;rw[hdM]at hok2;have HOK2:=zH hok2;have hrun2:=HRUN.o;rw[show F-tr.length=(F-(tr.length+1))+1 by omega]at hrun2;obtain⟨R,hR⟩:=ex_ (doN E n y pc st rg op pr);rw[←hR]at HST HOK2 HDM;have HRUN2:=zH hrun2;clear hF0 hST hBVd hdM hok2 hrun2 hR hn hy hgd hmV hBV hMSd hbV hc
     by_cases h0:R.1=0
     ·have HOK3:=zH (HOK2.o.2 h0)
      have hpc3:=HOK3.o.pc;obtain⟨v,hv⟩:=ex_ ((R.2.pc:Int)-1);have v0:-1≤v:=by omega
      have v1:v≤256:=by omega
      have HV:=zH (show v+1=(R.2.pc:Int) by omega);rw[←hv,h0]at HST
      have HRUN3:=zH (show cJ E (F-(tr.length+1)) R.2=cJ E F aY by
       have:=HRUN2.o
       rwa [pS hpc (by rw[HDM.o];exact h0),HDM.o]at this)
      have hmeas:F-(tr.length+1)<F-tr.length:=by omega
      have HME:=zH hmeas;clear hv h0 HRUN2 HOK2 HDM hpc3 hmeas;go_wp2_with fail;go_region_law (refine aL rfl F0 #[.pointer (some ⟨Gb,0,none⟩),.int .u8 (y.toNat:Int)] (by go_simp) HST.o ?_;rintro r w7 ⟨rfl,hst7,hB7⟩;obtain⟨eos7,sv7,ov7,pv7,ta7,tc7,hm7,hop7,hre7⟩:=(hst7 (by trivial)).mr;have c5:=hm7.cell (k:=5) rfl;have f5:=hm7.free (k:=5) (by decide);have HM7:=zH hm7;have HOP7:=zH hop7;have HRE7:=zH hre7;have HB7:=zH hB7;clear hB7 hst7 hm7 hop7 hre7)
      all_goals
       (try simp only[Ec,DH,DN])
       (try go_frame)
       go_wp2_with fail;obtain⟨hm8,hb8⟩:=HM7.o.setAt (v+1);have c27:(w7.setCell ⟨Gb,5,none⟩ (.int .i64 (v+1))).cell? ⟨Gb,27,none⟩=some (.slice ta7 (tr++[(pc:Int)]).length tc7):=hm8.cellR (k:=4) rfl;have HM8:=zH hm8;have HB8:=zH ((HBV.o.trans HB7.o).trans hb8);have HC27:=zH c27;clear hm8 hb8 c27;go_roundw
       case rel=>exact⟨rfl,R.2,tr++[(pc:Int)],by rw[DL,Ea];omega,⟨eos7,_,_,_,_,by rw[←HV.o];exact HM8.o,HOP7.o,HRE7.o⟩,HOK3.o,by rw[DL,Ea];exact HRUN3.o,HB8.o⟩
       case measure=>rw[HC27.o,HC270.o];show F-(tr++[(pc:Int)]).length<F-tr.length;rw[DL,Ea];exact HME.o
     ·have h1:((R.1:Int) != 0)=true:=by rw[bne_iff_ne];omega
      obtain⟨c,hc⟩:=ex_ R.1
      have HD:=zH (show(cJ E F aY).1=c by
       have:=HRUN2.o;rw[mJ hpc (by rw[HDM.o];exact h0),HDM.o]at this;rw[←this,hc])
      rw[←hc]at h1 HST;have HC0:=zH (show ¬c=0 by rw[hc];exact h0);clear hc h0;go_wp2_with fail;go_region_law (refine aL rfl F0 #[.pointer (some ⟨Gb,0,none⟩),.int .u8 (y.toNat:Int)] (by go_simp) HST.o ?_;rintro r w7 ⟨rfl,-,hB7⟩;have HB7:=zH hB7;clear hB7)
      all_goals
       (try simp only[Ec,DH,DN])
       (try go_frame)
       go_wp2_with fail;go_ret;rw[HD.o];exact⟨rfl,fun h0=>absurd h0 HC0.o,HBV.o.trans HB7.o⟩
  ·have i4:¬(pc:Int)<(E.code.length:Int):=by omega
   have HD:=zH (show cJ E F aY=(0,⟨pc,st,rg,op,pr⟩) by rw[←HRUN.o];exact mI _ _ hpc);have HPC:=zH (show(pc:Int)=(E.code.length:Int) by omega);go_wp2_with fail;go_quiet (fail);go_wp2_with fail;go_ret;have hbd:Below wr.heap.size wr (wr.drewN nq):=C9 _ _;rw[HD.o];refine⟨rfl,fun _=>⟨tr,HTR.o,eos,stv,opv,prv,.slice ta tr.length tc,?_,HOP.o,HRE.o⟩,HB.o.trans (hbd.mono HM.o.size)⟩;rw[←HPC.o];exact HM.o.below hbd
end
end
