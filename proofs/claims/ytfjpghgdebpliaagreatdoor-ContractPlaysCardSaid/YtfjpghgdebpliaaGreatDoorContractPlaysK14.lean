/- Lemmas. -/
import Derived.Maps.OwnSet
import Derived.Test.YtfjpghgdebpliaaGreatDoorContractPlaysK10
import Derived.Test.YtfjpghgdebpliaaGreatDoorContractPlaysK13
set_option linter.unusedSimpArgs false
set_option linter.unusedVariables false
set_option maxRecDepth 100000
set_option maxHeartbeats 16000000
namespace Go.Proofs.YtfjpghgdebpliaaGreatDoor
attribute [local irreducible] wpG
open Go.Proofs.Tryz
open Go.RowKit Oct
section
open Go.RowKit Oct Go.WideMaps Go.Maps
def dQ (I:LJ_)(r:LI_)(k:Nat)(i:Int):Nat:=(List.range k).countP fun j=>(I.getD j (0,0)).1==22&&r.getD j 0==i
theorem wY (I:LJ_)(r:LI_)(k:Nat)(i:Int):dQ I r (k+1) i=dQ I r k i+(if (I.getD k (0,0)).1=22∧r.getD k 0=i then 1 else 0):=by
 unfold dQ;rw[List.range_succ,List.countP_append,List.countP_singleton]
 by_cases h1:(I.getD k (0,0)).1=22
 ·by_cases h2:r.getD k 0=i
  ·rw[if_pos (by rw[h1,h2];simp),if_pos ⟨h1,h2⟩]
  ·rw[if_neg (by rw[h1];simpa using h2),if_neg (fun h=>h2 h.2)]
 ·rw[if_neg (by rw[Jj,beq_iff_eq];exact fun h=>h1 h.1),if_neg (fun h=>h1 h.1)]
theorem B8 (I:LJ_)(r:LI_)(k:Nat)(i:Int):dQ I r k i≤k:=by
 unfold dQ;exact Jc List.countP_le_length i_
theorem wX (E:Me)(i:Nat):dQ E.code E.ends E.code.length (i:Int)=0↔fK E i=false:=by
 unfold dQ fK;rw[List.countP_eq_zero,List.any_eq_false]
def kj (w:Z)(M:Nat)(n:Nat)(c:Int→Nat):Prop:=∃ D:DataW Unit,w.ownsMap prog 3 (plainElem prog 3) M n D∧∀ i,D.atKey (.int .i64 i) (.lit (.int .i64 0))=.lit (.int .i64 ((c i:Nat):Int))
theorem kj.block {w w':Z}{M n:Nat}{c:Int→Nat}(h:kj w M n c)(hb:w'.heap[M]?=w.heap[M]?):kj w' M n c:=by
 obtain⟨D,⟨I,i,h1,h2⟩,h3⟩:=h;exact⟨D,⟨I,i,hb.trans h1,h2⟩,h3⟩
theorem kj.mono {w:Z}{M n S:Nat}{c:Int→Nat}(h:kj w M n c)(hn:n≤S):kj w M S c:=by
 obtain⟨D,h1,h2⟩:=h;exact⟨D,h1.mono hn,h2⟩
theorem kj.lt {w:Z}{M n:Nat}{c:Int→Nat}(h:kj w M n c):M<w.heap.size:=by
 obtain⟨D,h1,_⟩:=h;exact h1.lt
theorem Ia:Keyed prog 3:=int_keyed underlying3
theorem G8 (w:Z):(zeroValue 3).run prog w=.ok (F 0) w:=q_
theorem Ib {n:Int}(h1:-9223372036854775808≤n)(h2:n≤9223372036854775807):keyOf prog 3 (.int .i64 n)=some (.int .i64 n):=keyOf_int_mk underlying3 (WalkArith.wf_i64 Y)
theorem kj.look {w:Z}{M n:Nat}{c:Int→Nat}(h:kj w M n c){i:Int}(h1:-9223372036854775808≤i)(h2:i≤9223372036854775807):(Instr.lookup 264 (.map (some M)) (F i) false).run prog w=.ok (F ((c i:Nat):Int)) w:=by
 obtain⟨D,aw,aC⟩:=h;obtain⟨k,aO,hk,_⟩:=aw.lookup_int Ia underlying264 underlying3 (G8 w) (Ib h1 h2);have h3:=(aC i).symm.trans hk;injection h3 with h3
 injection h3 with _ h3
 rw[aO,h3]
end
section
variable {bZ G M:Nat}{w w' w3:Z}{f:Mf}{ak:Int}{st rg:LM_}{ad l:List Eo}{W:LX_}{tr:LI_}{tv cv iv ev lv ar an al J ao aQ:V_}{X:List (Pt bZ)}{e:Eo}
theorem yg (l:List Eo)(e:Eo):fH.cells (l++[io e])=fH.cells (l++[e]):=by
 rw[Rec.cells_append,Rec.cells_append];rfl
theorem MR.turnLast (h:MR bZ w G f ak st rg (l++[e]) W tr ar an J ao X)(hc:Chg (fun k=>k=e.bm∨k=e.bt) w w')(hb:kf bZ w' (io e)):MR bZ w' G f ak st rg (l++[io e]) W tr ar an J ao X∧B_ bZ w w':=by
 have hX:∀ k,(k=e.bm∨k=e.bt)→(boxPt (bZ:=bZ) (l++[e])).fp k:=fun k hk=>⟨e,by simp,by rcases hk with rfl|rfl;exact .inl rfl;exact .inr (.inl rfl)⟩
 have r:=(List.pairwise_append.1 h.ob.2).2.2
 have hP:(boxPt (bZ:=bZ) (l++[io e])).P w':=by
  refine⟨fun x hx=>?_,?_⟩
  ·rcases Jt.1 hx with hx|hx
   ·obtain⟨h1,h2,h3,h4⟩:=h.ob.1 x yzn
    have hn:∀ k,nW k x→¬(k=e.bm∨k=e.bt):=fun k hk H=>r x hx e i_ k hk (by rcases H with rfl|rfl;exact .inl rfl;exact .inr (.inl rfl));exact⟨h1.chg hc (hn _ (.inl rfl)),h2.chg hc (hn _ (.inr (.inl rfl))),h3.chg hc (hn _ (.inr (.inr rfl))),h4⟩
   ·rw[Jp]at hx
    subst hx;exact hb
  ·refine List.pairwise_append.2 ⟨(List.pairwise_append.1 h.ob.2).1,List.pairwise_singleton _ _,fun a ha b m k hk H=>?_⟩
   rw[Jp]at m;subst m;exact r a ha e i_ k hk H
 have hf:∀ k,(boxPt (bZ:=bZ) (l++[io e])).fp k→(boxPt (bZ:=bZ) (l++[e])).fp k:=by
  rintro k⟨x,hx,hk⟩;rcases Jt.1 hx with hx|hx
  ·exact⟨x,by simp[hx],hk⟩
  ·rw[Jp]at hx
   subst hx;exact⟨e,by simp,hk⟩
 have q:=h.sep.upd (i:=3) rfl hc hX (boxPt (l++[io e])) hP (fun k hk=>.inl (hf k hk))
 have ho:fH.Own w' bZ an (l++[io e]):=by
  have:=q.get (i:=2) (p:=ownPt fH an (l++[e])) rfl;have this:fH.Own w' bZ an (l++[e]):=this;unfold Rec.Own at this⊢;rw[yg];simpa using this
 have s2:=q.same (i:=2) (p:=ownPt fH an (l++[e])) rfl (ownPt fH an (l++[io e])) ho (fun k hk=>hk);exact⟨⟨h.gb,h.rl,s2⟩,h.sep.updB (i:=3) rfl hc hX h.size⟩
theorem CE (y:U8_)(pc n:Nat)(c:Int→Nat)(h:MR bZ w G ⟨tv,cv,iv,ev,.map (some M),[],0⟩ (pc:Int) st rg ad W tr ar an J ao X)(hm:kj w M n c)(hc:c (pc:Int)=0)(u:pc≤1000):R_ 282 #[p_ G,.int .u8 y.toNat] w (F 0):=by
 have bd:∀ nq,(Instr.lookup 264 (.map (some M)) (F pc) false).run prog (w.drewN nq)=.ok (F 0) (w.drewN nq):=fun nq=>by
  have:=(hm.block (w':=w.drewN nq) rfl).look (i:=(pc:Int)) Y Y;rw[hc]at this;exact this
 have c4:w.cell? ⟨G,4,none⟩=some (.map (some M)):=h.c 4;have c5:w.cell? ⟨G,5,none⟩=some (F pc):=h.c 5;clear h hm hc;go_enter func282,ntmps282;go_wp2_with fail;go_quiet (fail);go_wp2_with fail;go_ret;exact⟨rfl,II _ _⟩
theorem AF (y:U8_)(pc n:Nat)(c:Int→Nat)(h:MR bZ w G ⟨tv,cv,iv,ev,.map (some M),[],0⟩ (pc:Int) st rg (l++[e]) W tr ar an J ao X)(hm:kj w M n c)(hc:c (pc:Int)≠0)(u:pc≤1000)(hl:st.length≤900)(he:l.length≤900)(hr:e.rest.length≤1024)(hG:∀ w',B_ bZ w w'→dS w'):C_ 282 #[p_ G,.int .u8 y.toNat] w fun r w'=>r=.returned (F 0) ∧((iu e=[]∧∃ al,MR bZ w' G ⟨tv,cv,iv,ev,.map (some M),[],0⟩ (pc:Int) st rg l W tr ar al J ao X) ∨ (∃ p ps,iu e=p::ps∧∃ U e',iu e'=ps∧e'.at_=e.at_∧e'.rest.length≤1024∧MR bZ w' G ⟨tv,cv,iv,ev,.map (some M),[],0⟩ (e.at_:Int) ((0,p)::st) rg (l++[e']) W tr U an J ao X))∧B_ bZ w w':=by
 obtain⟨k,hk⟩:=H (c (pc:Int))
 have bd:∀ nq,(Instr.lookup 264 (.map (some M)) (F pc) false).run prog (w.drewN nq)=.ok (F k) (w.drewN nq):=fun nq=>by
  have:=(hm.block (w':=w.drewN nq) rfl).look (i:=(pc:Int)) Y Y;rw[←hk]at this;exact this
 rw[←hk]at hc;have k0:((k:Int)==0)=false:=by rw[beq_eq_false_iff_ne];omega
 have c4:w.cell? ⟨G,4,none⟩=some (.map (some M)):=h.c 4;have c5:w.cell? ⟨G,5,none⟩=some (F pc):=h.c 5;obtain⟨_,⟨oa,oc,ax⟩,_,_⟩:=h.slices;rw[Jh,JJ]at ax;subst ax;have HH:=O h;have HG:=O hG;clear h hm hc hk hG;go_enter func282,ntmps282;go_wp2_with fail;go_quiet (fail);go_upto_region 3 with fail;obtain⟨W1,aA⟩:=H (w.drewN nq);have a8:Bw_ w W1:=by rw[aA];exact II _ _
 rw[←aA];have az:=HH.o.below a8;have a_:=O (a8.mono HH.o.size);clear aA a8 bd c4 c5 k0;have P:W1.cell? ⟨G,23,none⟩=some (.slice oa (l.length+1) oc):=az.cellR (k:=0) rfl;obtain⟨a',ah,hv,-,bm⟩:=Rec.Row.open az.oo.row;obtain⟨b,aL,ha,hu⟩:=bm l.length i_;rw[Jh,JJ]at hv;injection hv with e1 e2 e3
 subst e1 e3 ha;have hg:(l++[e])[l.length]' i_=e:=by simp
 rw[hg]at hu;have d0:=hu 0 _ rfl;have d1:=hu 1 _ rfl
 change W1.cell? ⟨b,aL+l.length*2,none⟩=_ at d0
 change W1.cell? ⟨b,aL+l.length*2+1,none⟩=_ at d1
 have bq:G<W1.heap.size:=az.blk.lt;have bo:b<W1.heap.size:=aG d0;have be:((l.length:Int)+1)-1=(l.length:Int):=Y;have a0:0≤(l.length:Int):=Y;have a4:(l.length:Int)<(l.length:Int)+1:=Y;have b6:(l.length:Int)≤900:=Y;have aC:=O az;unfold eoF at d1;clear az hu bm hg;go_region;obtain⟨B,hB⟩:=H W1.heap.size;have s:bZ≤B:=by rw[hB];exact aC.o.size
 obtain⟨W2,ae⟩:=H ((W1.alloc (.cells #[F e.at_,eoF e] 364)).drew)
 have N:MR bZ W2 G ⟨tv,cv,iv,ev,.map (some M),[],0⟩ (pc:Int) st rg (l++[e]) W tr ar (.slice (some ⟨b,aL,none⟩) (l.length+1) oc) J ao (X++[aF B s 364 [F e.at_,eoF e]]):=by
  subst hB;rw[ae];exact(aC.o.add [F e.at_,eoF e] 364).below (b_drew _)
 have a9:=O (show B_ bZ w W2 by rw[ae];exact a_.o.trans ((bt (af _ _) (b_drew _)).mono aC.o.size));unfold eoF at ae;rw[←ae,←hB];clear ae hB aC a_ d0 d1 P bq bo;obtain⟨g,aV⟩:=N.oo.at0 i_;obtain rfl:aL=0:=by injection aV with h1;injection h1
 clear aV;have hX:=N.loc (p:=aF B s 364 [F e.at_,eoF e]) i_;have x1:=Blk.cell (k:=1) hX rfl;have x2:=Blk.lt hX;unfold eoF at x1;have HX:=O (N.ob.1 e i_);have HM:=O N;clear hX N
 cases ab:e.more with
 | false =>
  have bl:=O (show iu e=[] by unfold iu;rw[ab];rfl);go_wp2_with (go_at_call 289;refine(wg HX.o ab).mono ?_;rintro r w2⟨rfl,rfl⟩);have N:=HM.o;have P:w2.cell? ⟨G,23,none⟩=some (.slice (some ⟨b,0,none⟩) (l.length+1) oc):=N.cellR (k:=0) rfl;have f23:=N.free (k:=23) d_;have bq:G<w2.heap.size:=N.blk.lt;have ho:fH.Own w2 bZ (.slice (some ⟨b,0,none⟩) (l++[e]).length oc) (l++[e]):=by rw[Jh,JJ];exact N.oo
  have aO:=ho.shortRun 269 underlying269 yzg l.length i_;rw[Jh,JJ]at aO
  have ac:fH.Own w2.drew bZ (.slice (some ⟨b,0,none⟩) l.length oc) l:=by
   have:=(ho.below (b_drew w2)).short l.length i_
   rwa [List.take_append_of_le_length i_,I5 i_]at this
  have t:=(N.below (b_drew w2)).ob;have hn:=(N.below (b_drew w2)).newO (al:=.slice (some ⟨b,0,none⟩) l.length oc) (l:=l) (Chg.refl _ _) (fun k hk=>by cases hk;exact .inl rfl) ac ⟨fun x hx=>t.1 x yzn,(List.pairwise_append.1 t.2).1⟩ (fun x hx k hk=>⟨x,by simp[hx],hk⟩);have HN:=O hn;clear ho ac hn t N x1 x2 ab;go_region;go_wp2_with fail;go_ret;exact⟨rfl,.inl ⟨bl.o,_,HN.o.1.drop⟩,(a9.o.trans ((b_drew w2).mono HM.o.size)).trans HN.o.2.1⟩
 | true =>
  obtain⟨d,-,o⟩:=qA ab;obtain⟨p,hp⟩:=H ((Lib.cut e.rest [e.by_]).1);have HY:=O (sy HX.o ab hr (HG.o _ a9.o).mx);rw[←hp]at HY d;have bH:=O d;have aH:=O o;clear d o hp ab;go_wp2_with (first|(go_at_call 285;refine(cz (0,p) (j.o.setAt (e.at_:Int)).1 Y).mono ?_;rintro r w5⟨rfl,⟨bi,av⟩,aN⟩;have q:=O av;have aJ:=O ((aW.o.trans (j.o.setAt (e.at_:Int)).2).trans aN);clear av aN)|(go_at_call 289;refine HY.o.mono ?_;rintro r w2⟨rfl,m,aZ⟩;obtain⟨N,aY⟩:=HM.o.turnLast aZ m;have v:=N.loc (p:=aF B s 364 [F e.at_,eoF e]) i_;have x0:=Blk.cell (k:=0) v rfl;have c5:=N.c 5;have f5:=N.free (k:=5) d_;have j:=O N;have aW:=O (a9.o.trans aY);clear N aY aZ m v));go_ret;exact⟨rfl,.inr ⟨p,_,bH.o,bi,io e,rfl,rfl,Jc aH.o hr,q.o.drop⟩,aJ.o⟩
end
def sm (d:Bool)(v u:V_):V_:=bif d then v else u
@[go_sem] theorem ES (v u:V_):sm true v u=v:=rfl
@[go_sem] theorem Ho (v u:V_):sm false v u=u:=rfl
def jx {bZ:Nat}(b:Nat)(t:T_)(cs:LV_):Pt bZ :=
 ⟨fun k=>k=b,fun w=>bZ≤b∧Blk w b t cs,fun h hc hX=>⟨h.1,h.2.chg hc (hX _ rfl)⟩,fun h k hk=>by subst hk;exact⟨h.1,h.2.lt⟩⟩
def gL (pc M:Nat)(a:MV)(y:U8_):Eo:=⟨pc,M+2,M,M+1,!a.2.isEmpty,a.2,y⟩
section
variable {bZ G M pc b5:Nat}{w0 w w' w3:Z}{f:Mf}{ak:Int}{a:MV}{y:U8_}{st rg:LM_}{ad l:List Eo}{W:LX_}{tr:LI_}{tv cv iv ev lv ar an al J ao aQ:V_}{L L' X aa:List (Pt bZ)}{e:Eo}{d5 d8 d10 d11:Bool}
theorem Sep.perm (h:Sep bZ w L)(hp:L.Perm L'):Sep bZ w L':=⟨fun p A=>h.1 p (hp.mem_iff.2 A),hp.pairwise h.2 (fun s k hk H=>s k H hk)⟩
theorem MR.perm (h:MR bZ w G f ak st rg ad W tr ar an J ao X)(hp:X.Perm aa):MR bZ w G f ak st rg ad W tr ar an J ao aa :=
 ⟨h.gb,h.rl,h.sep.perm ((((((hp.cons _).cons _).cons _).cons _).cons _).cons _)⟩
def o5 (bZ pc M b5:Nat)(a:MV)(y:U8_)(d8 d10 d11:Bool):List (Pt bZ) :=
 (bif d8 then [boxPt [gL pc M a y]] else [])++(bif d10 then [jx b5 364 (bif d11 then [.int .i64 pc,eoF (gL pc M a y)] else [.int .i64 0,.nilFunc])] else [])
def EB (bZ:Nat)(w0 w:Z)(G:Nat)(f:Mf)(pc:Nat)(a:MV)(y:U8_)(st rg:LM_)(ad:List Eo)(W:LX_)(tr:LI_)(an J ao:V_)(X:List (Pt bZ))(d5 d8 d10 d11:Bool)(M b5:Nat):Prop :=
 (∃ ar,MR bZ w G f (pc:Int) (bif d5 then st else a::st) rg ad W tr ar an J ao (X++o5 bZ pc M b5 a y d8 d10 d11))∧B_ bZ w0 w∧(d8=true→d5=true)∧(d11=true→d10=true∧d8=true)
theorem we {d:Bool}(h:d=true→False):d=false:=by cases d<;>simp_all
theorem EB.at5 (h:EB bZ w0 w G f pc a y st rg ad W tr an J ao X d5 d8 d10 d11 M b5):w.cell? ⟨G,5,none⟩=some (F pc):=by
 obtain⟨⟨sv,h⟩,-⟩:=h;exact h.c 5
theorem EB.pop (h:EB bZ w0 w G f pc a y st rg ad W tr an J ao X false d8 d10 d11 M b5)(hl:st.length≤1000):C_ 176 #[p_ G] w fun r w'=>r=.returned (mvV a)∧EB bZ w0 w' G f pc a y st rg ad W tr an J ao X true d8 d10 d11 M b5:=by
 obtain⟨⟨sv,hm⟩,hB,q,b⟩:=h;obtain rfl:=we (fun e=>Bool.noConfusion (q e));obtain rfl:=we (fun e=>Bool.noConfusion (b e).2);refine(fg a hm hl).mono ?_;rintro r w'⟨hr,d,m⟩;exact⟨hr,d,hB.trans m,fun _=>rfl,b⟩
theorem EB.pieces (h:EB bZ w0 w G f pc a y st rg ad W tr an J ao X true false d10 d11 M b5):C_ 288 #[s_ a.2,.int .u8 y.toNat] w fun r w'=>r=.returned (eoF (gL pc w.heap.size a y))∧EB bZ w0 w' G f pc a y st rg ad W tr an J ao X true true d10 d11 w.heap.size b5:=by
 obtain⟨⟨sv,hm⟩,hB,q,b⟩:=h;obtain rfl:=we (fun e=>Bool.noConfusion (b e).2);refine(yu a.2 y w pc hm.size).mono ?_;rintro r w'⟨hr,a3,m⟩;refine⟨hr,⟨sv,?_⟩,hB.trans (m.mono hm.size),fun _=>rfl,fun e=>Bool.noConfusion e⟩;have h1:=hm.addBox (e:=gL pc w.heap.size a y) m a3 (fun k hk=>by unfold nW gL at hk;simp only at hk;omega);refine h1.perm ?_;rw[Jg];refine List.Perm.append_left X ?_;show List.Perm (([]++_)++[_]) ([_]++_);rw[JC];exact List.perm_append_comm
theorem EB.alloc (h:EB bZ w0 w G f pc a y st rg ad W tr an J ao X d5 d8 false d11 M b5):EB bZ w0 (w.alloc (.cells #[F 0,.nilFunc] 364)) G f pc a y st rg ad W tr an J ao X d5 d8 true d11 M w.heap.size:=by
 obtain⟨⟨sv,hm⟩,hB,q,b⟩:=h;obtain rfl:=we (fun e=>Bool.noConfusion (b e).1);refine⟨⟨sv,?_⟩,hB.trans ((af _ _).mono hm.size),q,fun e=>Bool.noConfusion e⟩
 have h1:MR bZ (w.alloc (.cells #[F 0,.nilFunc] 364)) G f (pc:Int) (bif d5 then st else a::st) rg ad W tr sv an J ao ((X++o5 bZ pc M b5 a y d8 false false)++[jx w.heap.size 364 [F 0,.nilFunc]]) :=
  ⟨hm.gb,hm.rl,hm.sep.snoc (af _ _) (jx w.heap.size 364 [F 0,.nilFunc]) ⟨hm.size,Blk.new w _ _⟩ (fun k hk=>by rw[show k=w.heap.size from hk];exact I6 _)⟩
 have h2:(X++o5 bZ pc M b5 a y d8 false false)++[jx w.heap.size 364 [F 0,.nilFunc]]=X++o5 bZ pc M w.heap.size a y d8 true false:=by
  unfold o5
  cases d8<;>simp
 rw[h2]at h1;exact h1
theorem EB.store (h:EB bZ w0 w G f pc a y st rg ad W tr an J ao X true true true false M b5):EB bZ w0 ((w.setCell ⟨b5,0,none⟩ (F pc)).setCell ⟨b5,1,none⟩ (eoF (gL pc M a y))) G f pc a y st rg ad W tr an J ao X true true true true M b5:=by
 obtain⟨⟨sv,hm⟩,hB,q,b⟩:=h;have hm:MR bZ w G f (pc:Int) st rg ad W tr sv an J ao (X++[boxPt [gL pc M a y],jx b5 364 [F 0,.nilFunc]]):=hm;have hb:bZ≤b5∧Blk w b5 364 [F 0,.nilFunc]:=hm.loc (p:=jx b5 364 [F 0,.nilFunc]) i_;obtain⟨k1,k2⟩:=kH hb.2 (F pc) (eoF (gL pc M a y));obtain⟨h1,h2⟩:=hm.updX (i:=X.length+1) (p:=jx b5 364 [F 0,.nilFunc]) i_ k2 (fun k hk=>hk) (jx b5 364 [F pc,eoF (gL pc M a y)]) ⟨hb.1,k1⟩ (fun k hk=>hk);refine⟨⟨sv,?_⟩,hB.trans h2,q,fun _=>⟨rfl,rfl⟩⟩;rw[List.set_append_right _ _ Y,show X.length+1-X.length=1 by omega]at h1;exact h1
theorem K8 {T:Prop} (h:T:=by
 exact⟨_,_,hb.2.c 0,hb.2.c 1,hb.2.free (k:=0) (by simp),hb.2.free (k:=1) (by simp)⟩
):T:=h
theorem EB.cells (h:EB bZ w0 w G f pc a y st rg ad W tr an J ao X true true true d11 M b5):∃ v0 v1,w.cell? ⟨b5,0,none⟩=some v0∧w.cell? ⟨b5,1,none⟩=some v1∧w.frozen? ⟨b5,0,none⟩=false∧w.frozen? ⟨b5,1,none⟩=false:=by
 obtain⟨⟨sv,hm⟩,-⟩:=h
 cases d11
 ·have hb:bZ≤b5∧Blk w b5 364 [F 0,.nilFunc]:=hm.loc (p:=jx b5 364 [F 0,.nilFunc]) (by simp[o5])
  exact K8
 ·have hb:bZ≤b5∧Blk w b5 364 [F pc,eoF (gL pc M a y)]:=hm.loc (p:=jx b5 364 [F pc,eoF (gL pc M a y)]) (by simp[o5])
  exact K8
theorem AH (a:MV)(y:U8_)(pc:Nat)(h:MR bZ w G ⟨tv,cv,iv,ev,lv,[],0⟩ (pc:Int) (a::st) rg ad W tr ar an J ao X)(hl:st.length≤900)(he:ad.length≤900)(ha:a.2.length≤1024)(hG:∀ w',B_ bZ w w'→dS w'){l:LI_}(ht:∀ w',B_ bZ w w'→bD.Row w' ev l)(hp:pc<l.length)(a0:l.length≤1000):C_ 283 #[p_ G,.int .u8 y.toNat] w fun r w'=>r=.returned (F 0) ∧((a.2=[]∧∃ U,MR bZ w' G ⟨tv,cv,iv,ev,lv,[],0⟩ l[pc] st rg ad W tr U an J ao X) ∨ (∃ p ps,cD a.2 y=p::ps∧∃ U al e',iu e'=ps∧e'.at_=pc∧e'.rest.length≤1024∧MR bZ w' G ⟨tv,cv,iv,ev,lv,[],0⟩ (pc:Int) ((0,p)::st) rg (ad++[e']) W tr U al J ao X))∧B_ bZ w w':=by
 have hd:EB bZ w w.drew G ⟨tv,cv,iv,ev,lv,[],0⟩ pc a y st rg ad W tr an J ao X false false false false 0 0:=⟨⟨ar,by
  have:=h.below (b_drew w);unfold o5;simpa using this⟩,(b_drew w).mono h.size,fun e=>Bool.noConfusion e,fun e=>Bool.noConfusion e⟩
 obtain⟨HD,HG,HT,HL⟩:=zH4 hd hG ht hl;clear h hd hG ht;go_enter func283,ntmps283;go_wp2_with fail;have dw:∃ I:Array Bool→Act→Z→Prop,I=(fun s ax wx=>∃ d0 d1 d2 d3 d4 d5 d6 d7 d8 d9 d10 d11:Bool,∃ M b5:Nat,s=#[d0,d1,d2,d3,d4,d5,d6,d7,d8,d9,d10,d11]∧ax={ tmps:=List.toArray ((p_ G)::(.int .u8 y.toNat)::undef::undef::(F 0)::(sm d10 (p_ b5) undef)::undef::undef::(sm d0 (p_ G) undef)::(sm d1 (p_ G) undef)::(sm d2 (.pointer (some ⟨G,5,none⟩)) undef)::(sm d3 (F pc) undef)::(sm d4 (p_ G) undef)::(sm d5 (.agg #[F a.1,s_ a.2]) undef)::(sm d6 (s_ a.2) undef)::(sm d7 (.int .u8 y.toNat) undef)::(sm d8 (eoF (gL pc M a y)) undef)::(sm d9 (.agg #[F pc,eoF (gL pc M a y)]) undef)::undef::undef::undef::undef::undef::undef::undef::undef::undef::undef::undef::undef::undef::undef::undef::undef::undef::undef::undef::undef::undef::undef::undef::undef::undef::undef::undef::undef::undef::undef::undef::undef::undef::undef::undef::[]),defers:=[] }∧Hid (EB bZ w wx G ⟨tv,cv,iv,ev,lv,[],0⟩ pc a y st rg ad W tr an J ao X d5 d8 d10 d11 M b5)∧(d9=true→d8=true)):=⟨_,rfl⟩
 obtain⟨V,x⟩:=dw;have c:=O x;clear x;refine pW V q_ q_ (by rw[c.o];exact⟨false,false,false,false,false,false,false,false,false,false,false,false,0,0,rfl,rfl,HD.o,fun e=>Bool.noConfusion e⟩) ?_ ?_
 ·intro s ax wx hI hs B
  rw[c.o]at hI;clear c HD;obtain⟨d0,d1,d2,d3,d4,d5,d6,d7,d8,d9,d10,d11,M,b5,rfl,rfl,i,h9⟩:=hI;have e0:d0=true:=by simpa using B 0 d_
  have e1:d1=true:=by simpa using B 1 d_
  have e2:d2=true:=by simpa using B 2 d_
  have e3:d3=true:=by simpa using B 3 d_
  have e4:d4=true:=by simpa using B 4 d_
  have e5:d5=true:=by simpa using B 5 d_
  have e6:d6=true:=by simpa using B 6 d_
  have e7:d7=true:=by simpa using B 7 d_
  have e8:d8=true:=by simpa using B 8 d_
  have e9:d9=true:=by simpa using B 9 d_
  have af:d10=true:=by simpa using B 10 d_
  have D:d11=true:=by simpa using B 11 d_
  simp only[e0,e1,e2,e3,e4,e5,e6,e7,e8,e9,af,D,ES]at i⊢;clear e0 e1 e2 e3 e4 e5 e6 e7 e8 e9 af D B hs h9;clear d0 d1 d2 d3 d4 d5 d6 d7 d8 d9 d10 d11;obtain⟨⟨sv,a5⟩,hB,-,-⟩:=i.o
  have hm:MR bZ wx G ⟨tv,cv,iv,ev,lv,[],0⟩ (pc:Int) st rg ad W tr sv an J ao ((X++[jx b5 364 [F pc,eoF (gL pc M a y)]])++[boxPt [gL pc M a y]]):=by
   refine MR.perm a5 ?_;rw[Jg];exact List.Perm.append_left X (List.Perm.swap _ _ _)
  have Q:iu (gL pc M a y)=cD a.2 y:=wt pc M a.2 y;obtain⟨t,aj⟩:=H (M+2);obtain⟨bt',cy⟩:∃ bt',bt'=M:=⟨_,rfl⟩
  obtain⟨bc,R⟩:=H (M+1);have hE:gL pc M a y=⟨pc,t,bt',bc,!a.2.isEmpty,a.2,y⟩:=by subst aj cy R;rfl
  rw[hE]at hm Q⊢;clear aj cy R hE i a5;have a3:kf bZ wx ⟨pc,t,bt',bc,!a.2.isEmpty,a.2,y⟩:=(hm.loc (p:=boxPt [⟨pc,t,bt',bc,!a.2.isEmpty,a.2,y⟩]) i_).1 _ (Jp.2 rfl);have z:bZ≤b5∧Blk wx b5 364 [F pc,eoF ⟨pc,t,bt',bc,!a.2.isEmpty,a.2,y⟩]:=hm.loc (p:=jx b5 364 [F pc,eoF ⟨pc,t,bt',bc,!a.2.isEmpty,a.2,y⟩]) i_;have x1:=z.2.c 1;unfold eoF at x1⊢;dsimp only at x1⊢;obtain⟨HM,HB,bl,HX,HA⟩:=zH5 hm hB Q a3 ha;clear hm hB Q z a3 ha
  by_cases aI:a.2=[]
  ·have HN:=O aI
   have ab:(!a.2.isEmpty)=false:=by rw[aI];rfl
   go_wp2_with (go_at_call 289;refine(wg HX.o ab).mono ?_;rintro r w2⟨rfl,rfl⟩);have i0:=nn_ pc;have i1:(pc:Int)<l.length:=Y;have i2:(l.length:Int)≤1000:=Y;obtain⟨a',n,aV,hc⟩:=eb (HT.o _ HB.o);obtain⟨b,aL,rfl,d0⟩:=hc pc hp;subst aV;obtain⟨v,a2⟩:∃ v,v=l[pc]:=⟨_,rfl⟩
   rw[←a2]at d0;have HV:=O a2;have c3:=HM.o.c 3;have c5:=HM.o.c 5;have f5:=HM.o.free (k:=5) d_;have HD:=O (HM.o.below (b_drew w2));clear hc a2 ab aI x1;go_region
   all_goals
    go_wp2_with fail;go_ret;obtain⟨m5,b6⟩:=HD.o.setAt v;exact⟨rfl,.inl ⟨HN.o,_,by rw[←HV.o];exact(m5.drop).drop⟩,(HB.o.trans ((b_drew w2).mono HM.o.size)).trans b6⟩
  ·have ab:(!a.2.isEmpty)=true:=by cases h2:a.2 with|nil=>exact absurd h2 aI|cons _ _=>rfl
   obtain⟨be,-,a4⟩:=qA (e:=⟨pc,t,bt',bc,!a.2.isEmpty,a.2,y⟩) ab;rw[bl.o]at be;dsimp only at be;obtain⟨p,A⟩:∃ p,p=(Lib.cut a.2 [y]).1:=⟨_,rfl⟩
   rw[←A]at be;have HY:=O (sy HX.o ab HA.o (HG.o _ HB.o).mx);rw[←A]at HY;obtain⟨S,C⟩:∃ S,S=(Lib.cut a.2 [y]).2.2:=⟨_,rfl⟩
   obtain⟨T,K⟩:∃ T,T=(Lib.cut a.2 [y]).2.1:=⟨_,rfl⟩
   have aJ:io ⟨pc,t,bt',bc,!a.2.isEmpty,a.2,y⟩=⟨pc,t,bt',bc,S,T,y⟩:=by rw[C,K];rfl
   rw[aJ]at HY be a4;have bH:=O be;have aH:=O a4;clear be a4 A aJ C K aI;go_wp2_with (go_at_call 289;refine HY.o.mono ?_;rintro r w2⟨rfl,m,aZ⟩;obtain⟨N,aY⟩:=HM.o.turnBox aZ m rfl rfl rfl;have j:=O N;have a9:=O (HB.o.trans aY);clear N aY aZ m);obtain⟨_,⟨oa,oc,rfl⟩,_,_⟩:=j.o.slices;have z:bZ≤b5∧Blk w2 b5 364 [F pc,eoF ⟨pc,t,bt',bc,!a.2.isEmpty,a.2,y⟩]:=j.o.loc (p:=jx b5 364 [F pc,eoF ⟨pc,t,bt',bc,!a.2.isEmpty,a.2,y⟩]) i_;obtain⟨z0,z1⟩:=cl2 z.2;have z2:=z.2.lt;unfold eoF at z1;dsimp only at z1;have P:w2.cell? ⟨G,23,none⟩=some (.slice oa ad.length oc):=j.o.cellR (k:=0) rfl;have bq:G<w2.heap.size:=j.o.blk.lt;have o:=j.o.below (b_drew w2);have bB:bZ≤w2.drew.heap.size:=o.size;have aS:(ad.length+1)*16≤140737488355328:=Y;have ae:=o.oo;have q:=O o;have bo:(ad.length:Int)≤900:=Y;clear o z x1 ab;go_region_law (refine fH.step_append1V w2.drew ⟨pc,t,bt',bc,S,T,y⟩ rfl _ _ 269 rfl underlying269 bZ (.slice oa ad.length oc) ad rfl ae _ rfl _ rfl _ rfl aS bB ?_;intro g gc w4 aw hc hg;have hn:=q.o.newO2 (al:=.slice (some ⟨g,0,none⟩) (ad.length+1) gc) hc (fun k hk=>by cases hk;exact hg) aw;have f23:=hn.2.2.1;have ah:=hn.2.2.2;have HN:=O hn;clear hn aw hc hg)
   all_goals
    (try simp only[JM,Jd,Jm])
    (try go_frame)
    go_wp2_with (go_at_call 285;refine(cz (0,p) HN.o.1 yzr).mono ?_;rintro r w6⟨rfl,⟨aC,aB⟩,bx⟩);go_ret;exact⟨rfl,.inr ⟨p,_,bH.o,aC,_,⟨pc,t,bt',bc,S,T,y⟩,rfl,rfl,Jc aH.o HA.o,aB.drop⟩,((a9.o.trans ((b_drew w2).mono j.o.size)).trans HN.o.2.1).trans bx⟩
 refine⟨fun s ax wx hI hd d=>?_,fun s ax wx hI hd d=>?_,fun s ax wx hI hd d=>?_,fun s ax wx hI hd d=>?_,fun s ax wx hI hd d=>?_,fun s ax wx hI hd d=>?_,fun s ax wx hI hd d=>?_,fun s ax wx hI hd d=>?_,fun s ax wx hI hd d=>?_,fun s ax wx hI hd d=>?_,fun s ax wx hI hd d=>?_,fun s ax wx hI hd d=>?_,True.intro⟩
 ·rw[c.o]at hI
  obtain⟨d0,d1,d2,d3,d4,d5,d6,d7,d8,d9,d10,d11,M,b5,rfl,rfl,i,h9⟩:=hI;obtain rfl:d0=false:=by simpa using hd
  rw[if_pos yzf];unfold Oper.wp;clear hd d;go_simp;rw[c.o];exact⟨true,d1,d2,d3,d4,d5,d6,d7,d8,d9,d10,d11,M,b5,rfl,rfl,i,h9⟩
 ·rw[c.o]at hI
  obtain⟨d0,d1,d2,d3,d4,d5,d6,d7,d8,d9,d10,d11,M,b5,rfl,rfl,i,h9⟩:=hI;obtain rfl:d1=false:=by simpa using hd
  simp[Region.binds]at d;have e0:d0=true:=by simp[d]
  clear d;simp only[e0]at i⊢;rw[if_pos yzf];unfold Oper.wp;clear hd;go_simp;rw[c.o];exact⟨true,true,d2,d3,d4,d5,d6,d7,d8,d9,d10,d11,M,b5,rfl,rfl,i,h9⟩
 ·rw[c.o]at hI
  obtain⟨d0,d1,d2,d3,d4,d5,d6,d7,d8,d9,d10,d11,M,b5,rfl,rfl,i,h9⟩:=hI;obtain rfl:d2=false:=by simpa using hd
  simp[Region.binds]at d;have e1:d1=true:=by simp[d]
  clear d;simp only[e1]at i⊢;rw[if_pos yzf];unfold Oper.wp;clear hd;go_simp;rw[c.o];exact⟨d0,true,true,d3,d4,d5,d6,d7,d8,d9,d10,d11,M,b5,rfl,rfl,i,h9⟩
 ·rw[c.o]at hI
  obtain⟨d0,d1,d2,d3,d4,d5,d6,d7,d8,d9,d10,d11,M,b5,rfl,rfl,i,h9⟩:=hI;obtain rfl:d3=false:=by simpa using hd
  simp[Region.binds]at d;have e2:d2=true:=by simp[d]
  clear d;simp only[e2]at i⊢;rw[if_pos yzf];unfold Oper.wp;clear hd;have y0:=i.o.at5;go_simp;rw[c.o];exact⟨d0,d1,true,true,d4,d5,d6,d7,d8,d9,d10,d11,M,b5,rfl,rfl,i,h9⟩
 ·rw[c.o]at hI
  obtain⟨d0,d1,d2,d3,d4,d5,d6,d7,d8,d9,d10,d11,M,b5,rfl,rfl,i,h9⟩:=hI;obtain rfl:d4=false:=by simpa using hd
  rw[if_pos yzf];unfold Oper.wp;clear hd d;go_simp;rw[c.o];exact⟨d0,d1,d2,d3,true,d5,d6,d7,d8,d9,d10,d11,M,b5,rfl,rfl,i,h9⟩
 ·rw[c.o]at hI
  obtain⟨d0,d1,d2,d3,d4,d5,d6,d7,d8,d9,d10,d11,M,b5,rfl,rfl,i,h9⟩:=hI;obtain rfl:d5=false:=by simpa using hd
  simp[Region.binds]at d;have e4:d4=true:=by simp[d]
  clear d;simp only[e4]at i⊢;rw[if_pos yzf];unfold Oper.wp;clear hd;go_simp;refine(i.o.pop yzr).mono ?_;rintro r w2⟨rfl,u⟩;rw[c.o];exact⟨d0,d1,d2,d3,true,true,d6,d7,d8,d9,d10,d11,M,b5,rfl,rfl,u,h9⟩
 ·rw[c.o]at hI
  obtain⟨d0,d1,d2,d3,d4,d5,d6,d7,d8,d9,d10,d11,M,b5,rfl,rfl,i,h9⟩:=hI;obtain rfl:d6=false:=by simpa using hd
  simp[Region.binds]at d;have e5:d5=true:=by simp[d]
  clear d;simp only[e5]at i⊢;rw[if_pos yzf];unfold Oper.wp;clear hd;go_simp;rw[c.o];exact⟨d0,d1,d2,d3,d4,true,true,d7,d8,d9,d10,d11,M,b5,rfl,rfl,i,h9⟩
 ·rw[c.o]at hI
  obtain⟨d0,d1,d2,d3,d4,d5,d6,d7,d8,d9,d10,d11,M,b5,rfl,rfl,i,h9⟩:=hI;obtain rfl:d7=false:=by simpa using hd
  rw[if_pos yzf];unfold Oper.wp;clear hd d;go_simp;rw[c.o];exact⟨d0,d1,d2,d3,d4,d5,d6,true,d8,d9,d10,d11,M,b5,rfl,rfl,i,h9⟩
 ·rw[c.o]at hI
  obtain⟨d0,d1,d2,d3,d4,d5,d6,d7,d8,d9,d10,d11,M,b5,rfl,rfl,i,h9⟩:=hI;obtain rfl:d8=false:=by simpa using hd
  simp[Region.binds]at d;have e5:d5=true:=by simp[d]
  have e6:d6=true:=by simp[d]
  have e7:d7=true:=by simp[d]
  clear d;simp only[e5,e6,e7]at i⊢;have e9:d9=false:=we (fun e=>Bool.noConfusion (h9 e));simp only[e9] at⊢;rw[if_pos yzf];unfold Oper.wp;clear hd;go_simp;refine i.o.pieces.mono ?_;rintro r w2⟨rfl,u⟩;rw[c.o];exact⟨d0,d1,d2,d3,d4,true,true,true,true,false,d10,d11,_,b5,rfl,rfl,u,fun _=>rfl⟩
 ·rw[c.o]at hI
  obtain⟨d0,d1,d2,d3,d4,d5,d6,d7,d8,d9,d10,d11,M,b5,rfl,rfl,i,h9⟩:=hI;obtain rfl:d9=false:=by simpa using hd
  simp[Region.binds]at d;have e3:d3=true:=by simp[d]
  have e8:d8=true:=by simp[d]
  clear d;simp only[e3,e8]at i⊢;rw[if_pos yzf];unfold Oper.wp;clear hd;go_simp;rw[c.o];exact⟨d0,d1,d2,true,d4,d5,d6,d7,true,true,d10,d11,M,b5,rfl,rfl,i,fun _=>rfl⟩
 ·rw[c.o]at hI
  obtain⟨d0,d1,d2,d3,d4,d5,d6,d7,d8,d9,d10,d11,M,b5,rfl,rfl,i,h9⟩:=hI;obtain rfl:d10=false:=by simpa using hd
  rw[if_pos yzf];unfold Oper.wp;clear hd d;go_simp;rw[c.o];exact⟨d0,d1,d2,d3,d4,d5,d6,d7,d8,d9,true,d11,M,wx.heap.size,rfl,rfl,i.o.alloc,h9⟩
 ·rw[c.o]at hI
  obtain⟨d0,d1,d2,d3,d4,d5,d6,d7,d8,d9,d10,d11,M,b5,rfl,rfl,i,h9⟩:=hI;obtain rfl:d11=false:=by simpa using hd
  simp[Region.binds]at d;have e8:d8=true:=by simp[d]
  have e9:d9=true:=by simp[d]
  have af:d10=true:=by simp[d]
  have e5:d5=true:=i.o.2.2.1 e8;clear d;simp only[e8,e9,af,e5]at i⊢;rw[if_pos yzf];unfold Oper.wp;clear hd;obtain⟨v0,v1,y0,y1,y2,y3⟩:=i.o.cells;unfold eoF;go_simp;rw[c.o];exact⟨d0,d1,d2,d3,d4,true,d6,d7,true,true,true,true,M,b5,rfl,rfl,i.o.store,fun _=>rfl⟩
end
def sW:List FuncId:=[0,262,263,264,265,266,267,268,269,270,271,272,273,274,275,276,277,278,279,280,281,282,283,284]
theorem Am:∀ (l:List Nat) (a n:Nat),l.Pairwise (·<·)→(∀ x∈l,a≤x∧x<n)→l.length≤n-a
 | [],_,_,_,_=>Jl _
 | x::l,a,n,hp,h=>by
  obtain⟨h1,h2⟩:=List.pairwise_cons.1 hp;obtain⟨h3,h4⟩:=h x (Jn ..);have:=Am l (x+1) n h2 (fun y hy=>⟨h1 y hy,(h y (Jo _ hy)).2⟩);rw[Jq];omega
theorem B0:∀ n,1≤n→n≤23→∀ (az:AV_) (w:Z),(callFunc (sW.getD n 0) az).run prog w=.ok (.enter (sW.getD n 0) az) w:=by
 intro n h1 h2;rcases(show n=1∨n=2∨n=3∨n=4∨n=5∨n=6∨n=7∨n=8∨n=9∨n=10∨n=11∨n=12∨n=13∨n=14∨n=15∨n=16∨n=17∨n=18∨n=19∨n=20∨n=21∨n=22∨n=23 by omega) with rfl|rfl|rfl|rfl|rfl|rfl|rfl|rfl|rfl|rfl|rfl|rfl|rfl|rfl|rfl|rfl|rfl|rfl|rfl|rfl|rfl|rfl|rfl<;>(intro az w;kernel_rfl)
structure GV (w:Z) (E:Me) (tv cv iv ev:V_):Prop where
 t:aP.Row w tv E.tx
 c:bH.Row w cv E.code
 i:aP.Row w iv E.ins
 e:bD.Row w ev E.ends
 g:dS w
 d:∀ k,1≤k→k≤23→w.cell? ⟨1,k,none⟩=some (.func (.func (sW.getD k 0)) #[] #[])
def wj {bZ:Nat}(M:Nat)(n:Nat)(c:Int→Nat):Pt bZ :=
 ⟨fun k=>k=M,fun w=>bZ≤M∧kj w M n c,fun h hc hX=>⟨h.1,h.2.block (hc.block _ h.2.lt (hX _ rfl))⟩,fun h k hk=>by subst hk;exact⟨h.1,h.2.lt⟩⟩
def MS (bZ:Nat)(w:Z)(G M:Nat)(E:Me)(tv cv iv ev:V_)(tr:LI_)(ak:Int)(st rg:LM_)(op:List (Nat×LL_))(W:LX_):Prop :=
 ∃ ad ar an J ao,MR bZ w G ⟨tv,cv,iv,ev,.map (some M),[],0⟩ ak st rg ad W tr ar an J ao [wj M E.code.length (dQ E.code E.ends E.code.length)]∧mM ad=op∧∀ e∈ad,e.rest.length≤1024
section
variable {nt ai:Nat}{ag:U8_}{E:Me}
theorem ws (G:fA nt ai ag E){i:Nat}(hi:i≤E.code.length):(bL (sM nt ai ag E i)).length≤i:=by
 have hr:=(G.run hi).inv;unfold bL;rw[List.length_reverse,Js];refine Jc (List.length_filter_le _ _) ?_
 have:=Am _ 0 i hr.st (fun x hx=>by
  obtain⟨b,hb,rfl⟩:=List.mem_map.1 hx;exact⟨Jl _,(hr.bl b hb).1⟩)
 rw[Js]at this;omega
theorem qR (G:fA nt ai ag E):E.ends.length=E.code.length:=by
 rw[G.ends];exact(G.run (I6 _)).inv.el
theorem K9 {T:Prop} (h:T:=by
 rintro r w'⟨rfl,⟨sv,d⟩,hB⟩;exact⟨rfl,fun _=>⟨ad,_,_,_,_,by show MR bZ w' N _ (((pc+1:Nat):Int)-1) _ _ ad W tr _ _ _ _ _;rw[ae];exact d,aE,Q⟩,hB⟩
):T:=h
theorem CR {bZ N M:Nat}{w:Z}{tv cv iv ev:V_}{tr:LI_}{pc:Nat}{st rg:LM_}{op:List (Nat×LL_)}{W:LX_}{n:Nat}{y:U8_}(G:fA nt ai ag E)(a4:nt≤1000)(ay:ai≤1000)(bx:E.code.length≤256)(h:OkM (sM nt ai ag E) E ⟨pc,st,rg,op,W⟩)(u:pc<E.code.length)(hn:(E.code.getD pc (0,0)).1.toNat=n)(hy:(E.code.getD pc (0,0)).2=y)(hM:MS bZ w N M E tv cv iv ev tr (pc:Int) st rg op W)(hE:∀ w',B_ bZ w w'→GV w' E tv cv iv ev):Calls prog (sW.getD n 0) #[p_ N,.int .u8 y.toNat] w fun r w'=>r=.returned (F ((doN E n y pc st rg op W).1:Int)) ∧((doN E n y pc st rg op W).1=0→MS bZ w' N M E tv cv iv ev tr (((doN E n y pc st rg op W).2.pc:Int)-1) (doN E n y pc st rg op W).2.st (doN E n y pc st rg op W).2.rg (doN E n y pc st rg op W).2.op (doN E n y pc st rg op W).2.pr)∧B_ bZ w w':=by
 have ab:st.length=(sM nt ai ag E pc).kinds.length:=h.st;have R:op.map (·.1)=bL (sM nt ai ag E pc):=h.op;have z:∀ v∈st,vOk v:=h.sv;have aj:W.length≤256:=h.pr;have aA:=(G.run (JA u)).k;have aN:st.length≤16:=by rw[ab];exact aA
 have aS:=qR G;obtain⟨ad,ar,an,J,ao,hm,aE,Q⟩:=hM
 have aL:ad.length≤256:=by
  have h1:=ws G (JA u);rw[←R,Js,←aE,tW]at h1;omega
 have hx:bw (E.code.getD pc (0,0))=true:=jX (P:=fun x=>bw x=true) G.may u _
 have bN:1≤(E.code.getD pc (0,0)).1.toNat∧(E.code.getD pc (0,0)).1.toNat≤23:=by
  unfold bw at hx;simp at hx;exact hx.1
 obtain⟨hs,ho⟩:=G.step u;obtain⟨g1,g3,aH,aR⟩:=lU ho.th;have hu:∀ k:U8_,k.toNat=n→(E.code.getD pc (0,0)).1=k:=fun k hk=>UInt8.toNat_inj.1 (hn.trans hk.symm);have I:=fun (ah:n≠19) (ac:n≠20) (D:n≠21) (B:n≠22)=>lY G u hn Y ah ac D B;rw[hn]at bN;rw[←ab]at I;rw[hy]at g1 g3 aH;have ae:((pc+1:Nat):Int)-1=(pc:Int):=Y;have ap:=hE w (Ja _ _);have bq:∀ w',B_ bZ w w'→dS w':=fun w' hB=>(hE w' hB).g;have hJ:∀ w',B_ bZ w w'→bD.Row w' ev E.ends:=fun w' hB=>(hE w' hB).e;clear hx hn;rcases(show n=1∨n=2∨n=3∨n=4∨n=5∨n=6∨n=7∨n=8∨n=9∨n=10∨n=11∨n=12∨n=13∨n=14∨n=15∨n=16∨n=17∨n=18∨n=19∨n=20∨n=21∨n=22∨n=23 by omega) with rfl|rfl|rfl|rfl|rfl|rfl|rfl|rfl|rfl|rfl|rfl|rfl|rfl|rfl|rfl|rfl|rfl|rfl|rfl|rfl|rfl|rfl|rfl
 ·obtain⟨l1,l2,l3⟩:=I d_ d_ d_ d_
  have hd:doN E 1 y pc (st) rg op W=(0,⟨pc+1,(0,E.tx.getD y.toNat [])::st,rg,op,W⟩):=rfl;rw[hd];refine(Ay y hm Y ap.t (by rw[G.txl];exact g1 (hu 1 rfl)) (by rw[G.txl];omega)).mono ?_;exact K9
 ·obtain⟨l1,l2,l3⟩:=I d_ d_ d_ d_
  have hd:doN E 2 y pc (st) rg op W=(0,⟨pc+1,((y.toNat:Int),[])::st,rg,op,W⟩):=rfl;rw[hd];refine(Cz y hm Y).mono ?_;exact K9
 ·obtain⟨l1,l2,l3⟩:=I d_ d_ d_ d_
  have hd:doN E 3 y pc (st) rg op W=(0,⟨pc+1,(0,E.ins.getD y.toNat [])::st,rg,op,W⟩):=rfl;rw[hd];refine(xG y hm Y ap.i (by rw[G.inl];exact g3 (hu 3 rfl)) (by rw[G.inl];omega)).mono ?_;exact K9
 ·obtain⟨l1,l2,l3⟩:=I d_ d_ d_ d_
  obtain⟨b,a,s,rfl⟩:=dE (show 2≤st.length from l1);have hd:doN E 4 y pc (b::a::s) rg op W=if 1024<a.2.length+b.2.length then (5,⟨pc,b::a::s,rg,op,W⟩) else (0,⟨pc+1,(0,a.2++b.2)::s,rg,op,W⟩):=rfl;rw[hd];refine(CG y a b hm z9 (cQ (ba z)).2.2 (cQ z).2.2).mono ?_;rintro r w'⟨(⟨hc,rfl⟩|⟨hc,rfl,sv,d⟩),hB⟩
  ·rw[if_pos hc]
   exact⟨rfl,fun h0=>absurd h0 i_,hB⟩
  ·rw[if_neg hc]
   exact⟨rfl,fun _=>⟨ad,_,_,_,_,by show MR bZ w' N _ (((pc+1:Nat):Int)-1) _ rg ad W tr _ _ _ _ _;rw[ae];exact d,aE,Q⟩,hB⟩
 ·obtain⟨l1,l2,l3⟩:=I d_ d_ d_ d_
  obtain⟨a,s,rfl⟩:=cH (show 1≤st.length from l1);have hd:doN E 5 y pc (a::s) rg op W=(0,⟨pc+1,((a.2.length:Int),[])::s,rg,op,W⟩):=rfl;rw[hd];refine(AA y a hm z9 (cQ z).2.2).mono ?_;exact K9
 ·obtain⟨l1,l2,l3⟩:=I d_ d_ d_ d_
  obtain⟨n,a,t,s,rfl⟩:=pG (show 3≤st.length from l1);have hd:doN E 6 y pc (n::a::t::s) rg op W=(0,⟨pc+1,(0,im t.2 a.1 n.1)::s,rg,op,W⟩):=rfl;rw[hd];refine(AD y n a t hm z9 (cQ z) (cQ (ba z)) (cQ (ba (ba z)))).mono ?_;exact K9
 ·obtain⟨l1,l2,l3⟩:=I d_ d_ d_ d_
  obtain⟨a,s,rfl⟩:=cH (show 1≤st.length from l1);have hd:doN E 7 y pc (a::s) rg op W=(0,⟨pc+1,(da a.2,[])::s,rg,op,W⟩):=rfl;rw[hd];refine(xE y a hm z9 (cQ z) bq).mono ?_;exact K9
 ·obtain⟨l1,l2,l3⟩:=I d_ d_ d_ d_
  obtain⟨a,s,rfl⟩:=cH (show 1≤st.length from l1);have hd:doN E 8 y pc (a::s) rg op W=(0,⟨pc+1,(0,Lib.itoa a.1)::s,rg,op,W⟩):=rfl;rw[hd];refine(AB y a hm z9 (cQ z) (fun w' hB=>(bq w' hB).tab)).mono ?_;exact K9
 ·obtain⟨l1,l2,l3⟩:=I d_ d_ d_ d_
  obtain⟨b,a,s,rfl⟩:=dE (show 2≤st.length from l1);have hd:doN E 9 y pc (b::a::s) rg op W=(0,⟨pc+1,(wrap64 (a.1+b.1),[])::s,rg,op,W⟩):=rfl;rw[hd];refine(CI y a b hm z9).mono ?_;exact K9
 ·obtain⟨l1,l2,l3⟩:=I d_ d_ d_ d_
  obtain⟨b,a,s,rfl⟩:=dE (show 2≤st.length from l1);have hd:doN E 10 y pc (b::a::s) rg op W=(0,⟨pc+1,(wrap64 (a.1*b.1),[])::s,rg,op,W⟩):=rfl;rw[hd];refine(CB y a b hm z9).mono ?_;exact K9
 ·obtain⟨l1,l2,l3⟩:=I d_ d_ d_ d_
  obtain⟨b,a,s,rfl⟩:=dE (show 2≤st.length from l1);have hd:doN E 11 y pc (b::a::s) rg op W=(0,⟨pc+1,bitM (decide (a.1<b.1))::s,rg,op,W⟩):=rfl;rw[hd];refine(AE y a b hm z9).mono ?_;exact K9
 ·obtain⟨l1,l2,l3⟩:=I d_ d_ d_ d_
  obtain⟨b,a,s,rfl⟩:=dE (show 2≤st.length from l1);have hd:doN E 12 y pc (b::a::s) rg op W=(0,⟨pc+1,bitM (a.2==b.2)::s,rg,op,W⟩):=rfl;rw[hd];refine(AC y a b hm z9).mono ?_;exact K9
 ·obtain⟨l1,l2,l3⟩:=I d_ d_ d_ d_
  obtain⟨a,s,rfl⟩:=cH (show 1≤st.length from l1);have hd:doN E 13 y pc (a::s) rg op W=(0,⟨pc+1,bitM (a.1==0)::s,rg,op,W⟩):=rfl;rw[hd];refine(CA y a hm z9).mono ?_;exact K9
 ·obtain⟨l1,l2,l3⟩:=I d_ d_ d_ d_
  obtain⟨a,s,rfl⟩:=cH (show 1≤st.length from l1);have hd:doN E 14 y pc (a::s) rg op W=(0,⟨pc+1,s,rg,op,W⟩):=rfl;rw[hd];refine(AI y a hm z9).mono ?_;exact K9
 ·obtain⟨l1,l2,l3⟩:=I d_ d_ d_ d_
  obtain⟨a,s,rfl⟩:=cH (show 1≤st.length from l1);have hd:doN E 15 y pc (a::s) rg op W=(0,⟨pc+1,a::a::s,rg,op,W⟩):=rfl;rw[hd];refine(CF y a hm z9).mono ?_;exact K9
 ·obtain⟨l1,l2,l3⟩:=I d_ d_ d_ d_
  obtain⟨b,a,s,rfl⟩:=dE (show 2≤st.length from l1);have hd:doN E 16 y pc (b::a::s) rg op W=(0,⟨pc+1,a::b::s,rg,op,W⟩):=rfl;rw[hd];refine(Az y a b hm z9).mono ?_;exact K9
 ·obtain⟨l1,l2,l3⟩:=I d_ d_ d_ d_
  have hd:doN E 17 y pc (st) rg op W=(0,⟨pc+1,rg.getD y.toNat (0,[])::st,rg,op,W⟩):=rfl;rw[hd];refine(CD y (aH (.inl (hu 17 rfl))) hm Y).mono ?_;exact K9
 ·obtain⟨l1,l2,l3⟩:=I d_ d_ d_ d_
  obtain⟨a,s,rfl⟩:=cH (show 1≤st.length from l1);have hd:doN E 18 y pc (a::s) rg op W=(0,⟨pc+1,s,rg.set y.toNat a,op,W⟩):=rfl;rw[hd];refine(Cx y (aH (.inr (hu 18 rfl))) a hm z9).mono ?_;exact K9
 ·obtain⟨e,e1,e2,e3,e4,e5,e6,-⟩:=fy G u (.inl (hu 19 rfl))
  rw[←ab]at e5;obtain⟨a,s,rfl⟩:=cH e5;have hd:doN E 19 y pc (a::s) rg op W=(0,⟨if a.1=0 then (E.ends.getD pc 0).toNat+1 else pc+1,s,rg,op,W⟩):=rfl;rw[hd];have S:pc<E.ends.length:=by rw[aS];exact u
  have aJ:E.ends.getD pc 0=E.ends[pc]:=by rw[List.getD_eq_getElem?_getD,List.getElem?_eq_getElem S];rfl
  refine(uI y a pc hm z9 hJ S Y).mono ?_;rintro r w'⟨rfl,⟨sv,d⟩,hB⟩;refine⟨rfl,fun _=>⟨ad,sv,an,J,ao,?_,aE,Q⟩,hB⟩
  have hv:((if a.1=0 then (E.ends.getD pc 0).toNat+1 else pc+1:Nat):Int)-1=if a.1=0 then E.ends[pc] else (pc:Int):=by
   split
   ·rw[e3]at aJ⊢;rw[←aJ];simp
   ·exact ae
  show MR bZ w' N _ (((if a.1=0 then (E.ends.getD pc 0).toNat+1 else pc+1:Nat):Int)-1) s rg ad W tr sv _ _ _ _;rw[hv];exact d
 ·obtain⟨e,e1,e2,e3,e4,e5⟩:=us G u (hu 20 rfl)
  have hd:doN E 20 y pc st rg op W=(0,⟨(E.ends.getD pc 0).toNat,st,rg,op,W⟩):=rfl;rw[hd];have S:pc<E.ends.length:=by rw[aS];exact u
  have aJ:E.ends.getD pc 0=E.ends[pc]:=by rw[List.getD_eq_getElem?_getD,List.getElem?_eq_getElem S];rfl
  rw[e3]at aJ;refine(Ax y pc hm ap.e S Y (by rw[←aJ];omega)).mono ?_;rintro r w'⟨rfl,d,hB⟩;refine⟨rfl,fun _=>⟨ad,ar,an,J,ao,?_,aE,Q⟩,hB⟩;rw[←aJ]at d;show MR bZ w' N _ (((E.ends.getD pc 0).toNat:Int)-1) st rg ad W tr _ _ _ _ _;rw[e3];exact d
 ·have hd:doN E 21 y pc st rg op W=if fK E pc=true then (match op with|(a,p::ps)::o=>(0,⟨a+1,(0,p)::st,rg,(a,ps)::o,W⟩)|(_,[])::o=>(0,⟨pc+1,st,rg,o,W⟩)|[]=>(99,⟨pc,st,rg,op,W⟩)) else (0,⟨pc+1,st,rg,op,W⟩):=rfl
  rw[hd];have g:bZ≤M∧kj w M E.code.length (dQ E.code E.ends E.code.length):=hm.loc (p:=wj M E.code.length (dQ E.code E.ends E.code.length)) i_;have hz:=wX E pc
  cases aq:fK E pc with
  | false =>
   rw[if_neg i_];refine(CE y pc _ _ hm g.2 (hz.2 aq) Y).mono ?_;rintro r w'⟨rfl,hB⟩;exact⟨rfl,fun _=>⟨ad,_,_,_,_,by show MR bZ w' N _ (((pc+1:Nat):Int)-1) st rg ad W tr _ _ _ _ _;rw[ae];exact hm.below hB,aE,Q⟩,hB.mono hm.size⟩
  | true =>
   rw[if_pos rfl];have aI:dQ E.code E.ends E.code.length (pc:Int)≠0:=fun h0=>by rw[hz.1 h0]at aq;cases aq
   obtain⟨j,b,e1,e2,e3,e4,e5,e6,e7,e8⟩:=ur G u (hu 21 rfl);have bz:=jT e5 Y e4;rw[aq]at bz;have B:b.op=22:=e2.1 (by simpa using bz.symm);rw[if_pos B]at e6;rw[e6]at R
   match op,aE,R with
   | [],_,R=>cases R
   | (a,aB)::o,aE,_ =>
    obtain⟨l,e,rfl,ha,aK,az⟩:=yv aE;subst ha aK;refine(AF y pc _ _ hm g.2 aI Y Y (by simp at aL;omega) (Q e i_) bq).mono ?_;rintro r w'⟨rfl,(⟨a0,i,d⟩|⟨p,ps,aK,V,e',am,af,c,d⟩),hB⟩
    ·rw[a0]
     exact⟨rfl,fun _=>⟨l,_,_,_,_,by show MR bZ w' N _ (((pc+1:Nat):Int)-1) st rg l W tr _ _ _ _ _;rw[ae];exact d,az,fun x hx=>Q x yzn⟩,hB⟩
    ·rw[aK]
     refine⟨rfl,fun _=>⟨l++[e'],_,_,_,_,by show MR bZ w' N _ (((e.at_+1:Nat):Int)-1) ((0,p)::st) rg (l++[e']) W tr _ _ _ _ _;rw[show((e.at_+1:Nat):Int)-1=(e.at_:Int) by omega];exact d,by rw[l9,am,af,az],fun x hx=>?_⟩,hB⟩;rcases Jt.1 hx with hx|hx
     ·exact Q x yzn
     ·rw[Jp]at hx;subst hx;exact c
 ·obtain⟨e,e1,e2,e3,e4,e5,e6,-⟩:=fy G u (.inr (hu 22 rfl))
  rw[←ab]at e5;obtain⟨a,s,rfl⟩:=cH e5;have hd:doN E 22 y pc (a::s) rg op W=(match cD a.2 y with|[]=>(0,⟨(E.ends.getD pc 0).toNat+1,s,rg,op,W⟩)|p::ps=>(0,⟨pc+1,(0,p)::s,rg,(pc,ps)::op,W⟩)):=rfl;rw[hd];have S:pc<E.ends.length:=by rw[aS];exact u
  have aJ:E.ends.getD pc 0=E.ends[pc]:=by rw[List.getD_eq_getElem?_getD,List.getElem?_eq_getElem S];rfl
  refine(AH a y pc hm z9 Y (cQ z).2.2 bq hJ S Y).mono ?_;rintro r w'⟨rfl,(⟨a0,V,d⟩|⟨p,ps,aK,V,i,e',am,af,c,d⟩),hB⟩
  ·have m:cD a.2 y=[]:=by rw[a0];rfl
   rw[m];refine⟨rfl,fun _=>⟨ad,V,an,J,ao,?_,aE,Q⟩,hB⟩;show MR bZ w' N _ ((((E.ends.getD pc 0).toNat+1:Nat):Int)-1) s rg ad W tr _ _ _ _ _;rw[←aJ]at d;rw[e3]at d⊢;rw[show(((e:Int).toNat+1:Nat):Int)-1=(e:Int) by omega];exact d
  ·rw[aK]
   refine⟨rfl,fun _=>⟨ad++[e'],_,_,_,_,by show MR bZ w' N _ (((pc+1:Nat):Int)-1) ((0,p)::s) rg (ad++[e']) W tr _ _ _ _ _;rw[ae];exact d,by rw[l9,am,af,aE],fun x hx=>?_⟩,hB⟩;rcases Jt.1 hx with hx|hx
   ·exact Q x hx
   ·rw[Jp]at hx;subst hx;exact c
 ·obtain⟨l1,l2,l3⟩:=I d_ d_ d_ d_
  obtain⟨b,a,s,rfl⟩:=dE (show 2≤st.length from l1);have hd:doN E 23 y pc (b::a::s) rg op W=if 256≤W.length then (4,⟨pc,b::a::s,rg,op,W⟩) else (0,⟨pc+1,s,rg,op,W++[(a.2,b.2)]⟩):=rfl;rw[hd];refine(AG y a b hm z9 aj).mono ?_;rintro r w'⟨(⟨hc,rfl⟩|⟨hc,rfl,sv,pv,d⟩),hB⟩
  ·rw[if_pos hc]
   exact⟨rfl,fun h0=>absurd h0 i_,hB⟩
  ·rw[if_neg hc]
   exact⟨rfl,fun _=>⟨ad,_,_,_,_,by show MR bZ w' N _ (((pc+1:Nat):Int)-1) _ rg ad _ tr _ _ _ _ _;rw[ae];exact d,aE,Q⟩,hB⟩
end
def FU:Option V_→Nat
 | some (.slice _ n _)=>n
 | _=>0
section
variable {nt ai:Nat}{ag:U8_}{E:Me}
theorem MS.mr {bZ:Nat}{w:Z}{N M:Nat}{tv cv iv ev:V_}{tr:LI_}{ak:Int}{st rg:LM_}{op:List (Nat×LL_)}{W:LX_}(h:MS bZ w N M E tv cv iv ev tr ak st rg op W):∃ ad ar an J a c,MR bZ w N ⟨tv,cv,iv,ev,.map (some M),[],0⟩ ak st rg ad W tr ar an J (.slice a tr.length c) [wj M E.code.length (dQ E.code E.ends E.code.length)]∧mM ad=op∧∀ e∈ad,e.rest.length≤1024:=by
 obtain⟨ad,ar,an,J,ao,hm,h1,h2⟩:=h;obtain⟨_,_,_,a,c,rfl⟩:=hm.slices;exact⟨ad,ar,an,J,a,c,hm,h1,h2⟩
def Gh (nt ai:Nat)(ag:U8_)(bZ:Nat)(w0 w:Z)(N M:Nat)(E:Me)(tv cv iv ev:V_)(am:Nat)(tr:LI_)(m:Mc):Prop :=
 tr.length≤am∧MS bZ w N M E tv cv iv ev tr (m.pc:Int) m.st m.rg m.op m.pr∧OkM (sM nt ai ag E) E m∧dG E (am-tr.length) m=dG E am bF∧B_ bZ w0 w
theorem Cy {bZ N M:Nat}{w:Z}{tv cv iv ev:V_}(G:fA nt ai ag E)(a4:nt≤1000)(ay:ai≤1000)(bx:E.code.length≤256)(am:Nat)(hF:am≤65536)(hM:MS bZ w N M E tv cv iv ev [] 0 [] (List.replicate 8 (0,[])) [] [])(hE:∀ w',B_ bZ w w'→GV w' E tv cv iv ev):C_ 175 #[p_ N,F am] w fun r w'=>r=.returned (F ((dG E am bF).1:Int)) ∧((dG E am bF).1=0→∃ tr,tr.length≤am∧MS bZ w' N M E tv cv iv ev tr (E.code.length:Int) (dG E am bF).2.st (dG E am bF).2.rg (dG E am bF).2.op (dG E am bF).2.pr)∧B_ bZ w w':=by
 have hS:bZ≤w.heap.size:=by obtain⟨_,_,_,_,_,_,hm,_⟩:=hM.mr;exact hm.size
 have H0:Hid (∃ m tr,Gh nt ai ag bZ w w N M E tv cv iv ev am tr m):=⟨bF,[],Jl _,hM,lg,rfl,Ja _ _⟩
 obtain⟨ac,nc,rfl,-,-⟩:=aj (hE w (Ja _ _)).c;obtain⟨HE,HG,HS⟩:=zH3 hE G hS;clear hM hE G hS;go_enter func175,ntmps175;go_wp2_with fail
 go_loopw [4] (fun r wr=>r=F 0∧Hid (∃ m tr,Gh nt ai ag bZ w wr N M E tv (.slice ac E.code.length nc) iv ev am tr m)) (fun _ wr=>am-FU (wr.cell? ⟨N,27,none⟩))
 case atStart=>exact⟨rfl,H0⟩
 case round =>
  obtain⟨rfl,hR⟩:=hrel;obtain⟨m,tr,i,U,bb,aO,hB⟩:=hR.o;obtain⟨pc,st,rg,op,W⟩:=m;dsimp only at U;obtain⟨ad,ar,an,J,ta,tc,hm,aE,Q⟩:=U.mr;have c5:wr.cell? ⟨N,5,none⟩=some (F pc):=hm.c 5;have c1:wr.cell? ⟨N,1,none⟩=some (.slice ac E.code.length nc):=hm.c 1;have ab:wr.cell? ⟨N,27,none⟩=some (.slice ta tr.length tc):=hm.cellR (k:=4) rfl;have i1:(E.code.length:Int)≤256:=Y;have i2:(pc:Int)≤E.code.length:=by have:=bb.pc;show(pc:Int)≤_;simp at this;omega
  have i3:(tr.length:Int)≤65536:=Y;obtain⟨aB,HM,a2,br,d,HB,ae,bA,bL⟩:=zH9 ab hm U bb aO hB aE Q i;clear hm U bb aO hB aE Q i hR
  by_cases u:pc<E.code.length
  ·have i4:(pc:Int)<E.code.length:=Y
   by_cases hf:am≤tr.length
   ·have i5:(am:Int)≤tr.length:=Y
    have HD:=O (show(dG E am bF).1=140 by
     have:=d.o;rw[show am-tr.length=0 by omega,nH _ u]at this;rw[←this])
    go_wp2_with fail;go_quiet (fail);go_wp2_with fail;go_ret;rw[HD.o];exact⟨rfl,fun h0=>absurd h0 d_,HB.o.trans ((II _ _).mono HM.o.size)⟩
   ·have i5:¬(am:Int)≤tr.length:=Y
    go_wp2_with fail;go_quiet (fail);go_upto_region 5 with fail;obtain⟨W1,aA⟩:=H (wr.drewN nq);rw[←aA];have a8:Bw_ wr W1:=by rw[aA];exact II _ _
    have az:=HM.o.below a8;obtain⟨a_,o,bj⟩:=zH3 (a8.mono HM.o.size) HB.o HM.o.size;clear aA a8 c5 c1 ab HM a2 HB;have c5:W1.cell? ⟨N,5,none⟩=some (F pc):=az.c 5;have ab:W1.cell? ⟨N,27,none⟩=some (.slice ta tr.length tc):=az.cellR (k:=4) rfl;have bq:N<W1.heap.size:=az.blk.lt;have j:=az.below (b_drew W1);have bB:bZ≤W1.drew.heap.size:=j.size;have aS:(tr.length+1)*8≤140737488355328:=Y;have be:=j.ot;have t:=O j;have aC:=O az;clear j az
    go_cut [] (fun wx=>∃ g gc,Hid (MR bZ wx N ⟨tv,.slice ac E.code.length nc,iv,ev,.map (some M),[],0⟩ (pc:Int) st rg ad W (tr++[(pc:Int)]) ar an J (.slice (some ⟨g,0,none⟩) (tr.length+1) gc) [wj M E.code.length (dQ E.code E.ends E.code.length)])∧Hid (B_ bZ wr wx))
    case first =>
     go_region_law (refine bD.step_append1V W1.drew (pc:Int) rfl _ _ 92 rfl underlying92 bZ (.slice ta tr.length tc) tr rfl be _ rfl _ rfl _ rfl aS bB ?_;intro g gc w3 aw hc hg;have hn:=t.o.newT (aQ:=.slice (some ⟨g,0,none⟩) (tr.length+1) gc) (l:=tr++[(pc:Int)]) hc (fun k hk=>by cases hk;exact hg) aw;have f27:=hn.2.2.1;have bi:=hn.2.2.2;have HN:=O hn;clear hn aw hc hg)
     all_goals
      go_wp2_with fail
      go_meet
      case rel=>exact⟨_,_,HN.o.1,(a_.o.trans ((b_drew W1).mono aC.o.size)).trans HN.o.2.1⟩
    case rest =>
     obtain⟨g,gc,s,b4⟩:=hcut;clear c5 ab bq bB aS be t aC;obtain⟨a',S,aV,-,hc⟩:=aj (HE.o _ (o.o.trans b4.o)).c;obtain⟨b,aL,rfl,d0,d1⟩:=hc pc u;injection aV with e1 e2 e3
     subst e1 e3;have c5:wc.cell? ⟨N,5,none⟩=some (F pc):=s.o.c 5;have c1:wc.cell? ⟨N,1,none⟩=some (.slice (some ⟨b,aL,none⟩) E.code.length nc):=s.o.c 1;have j0:=nn_ pc;have bq:N<wc.heap.size:=s.o.blk.lt;have bo:b<wc.heap.size:=aG d0;go_wp2_with fail;go_region;obtain⟨T,hT⟩:=H wc.heap.size;obtain⟨V,hV⟩:=H ((wc.alloc (.cells #[.int .u8 (E.code[pc].1.toNat:Int),.int .u8 (E.code[pc].2.toNat:Int)] 109)).drew);have hX:Blk V T 109 [.int .u8 (E.code[pc].1.toNat:Int),.int .u8 (E.code[pc].2.toNat:Int)]:=by subst hT;rw[hV];exact(Blk.new wc _ _).below (b_drew _)
     have aD:Bw_ wc V:=by rw[hV];exact bt (af _ _) (b_drew _)
     obtain⟨x0,x1⟩:=cl2 hX;rw[←hV,←hT];clear hV hT hX d0 d1 c1 c5 bq bo;have av:E.code.getD pc (0,0)=E.code[pc]:=by rw[List.getD_eq_getElem?_getD,List.getElem?_eq_getElem u];rfl
     obtain⟨n,hn⟩:=H (E.code[pc].1.toNat);obtain⟨y,hy⟩:=H (E.code[pc].2);have aF:=s.o.below aD;have bz:B_ bZ w V:=(o.o.trans b4.o).trans (aD.mono s.o.size);have ap:MS bZ V.drew N M E tv (.slice (some ⟨b,aL,none⟩) E.code.length nc) iv ev (tr++[(pc:Int)]) (pc:Int) st rg op W:=⟨ad,_,_,_,_,aF.below (b_drew V),ae.o,bA.o⟩
     have C:B_ bZ w V.drew:=bz.trans ((b_drew V).mono aF.size);have aW:=CR HG.o a4 ay bx br.o u (n:=n) (y:=y) (by rw[av];exact hn.symm) (by rw[av];exact hy.symm) ap (fun w' hB=>HE.o _ (C.trans hB))
     have q:1≤n∧n≤23:=by
      have hx:bw (E.code.getD pc (0,0))=true:=jX (P:=fun x=>bw x=true) HG.o.may u _;unfold bw at hx;simp only[Jj,decide_eq_true_eq]at hx;rw[av,←hn]at hx;exact hx.1
     have aM:doM E (xM E ⟨pc,st,rg,op,W⟩) ⟨pc,st,rg,op,W⟩=doN E n y pc st rg op W:=by
      show doN E (E.code.getD pc (0,0)).1.toNat (E.code.getD pc (0,0)).2 pc st rg op W=_;rw[av,←hn,←hy]
     have a9:=(HE.o _ bz).d n q.1 q.2;have ba:=B0 n q.1 q.2;obtain⟨F0,aI⟩:=H (sW.getD n 0);rw[←aI]at aW a9 ba;rw[←hn]at x0;rw[←hy]at x1;have n0:=nn_ n;have n1:(n:Int)<24:=Y;have a3:T<V.heap.size:=aG x0;obtain⟨aY,aJ,B⟩:=zH3 aW C aM;have A:=zl HG.o br.o u;rw[aM]at A;have bg:=O A;have bh:=d.o;rw[show am-tr.length=(am-(tr.length+1))+1 by omega]at bh;obtain⟨R,hR⟩:=H (doN E n y pc st rg op W);rw[←hR]at aY bg B;have z:=O bh;clear aI aW C aM A bh hR hn hy av aF bz ap aD hc
     by_cases h0:R.1=0
     ·have bc:=O (bg.o.2 h0)
      have aR:=bc.o.pc;obtain⟨v,hv⟩:=H ((R.2.pc:Int)-1);have v0:-1≤v:=Y;have v1:v≤256:=Y;have HV:=O (show v+1=(R.2.pc:Int) by omega);rw[←hv,h0]at aY
      have a0:=O (show dG E (am-(tr.length+1)) R.2=dG E am bF by
       have:=z.o
       rwa [tI u (by rw[B.o];exact h0),B.o]at this)
      have I:am-(tr.length+1)<am-tr.length:=Y;have bu:=O I;clear hv h0 z bg B aR I;go_wp2_with fail;go_region_law (refine aN rfl F0 #[p_ N,.int .u8 y.toNat] yzc aY.o ?_;rintro r w7⟨rfl,aT,aH⟩;obtain⟨aX,a7,bk,bl,bd,bf,ah,aq,ax⟩:=(aT (by trivial)).mr;have c5:=ah.c 5;have f5:=ah.free (k:=5) d_;obtain⟨aZ,a1,a5,aK⟩:=zH4 ah aq ax aH;clear aH aT ah aq ax)
      all_goals
       (try simp only[JM,Jd,Jm])
       (try go_frame)
       go_wp2_with fail;obtain⟨aP,K⟩:=aZ.o.setAt (v+1);have ab:(w7.setCell ⟨N,5,none⟩ (F (v+1))).cell? ⟨N,27,none⟩=some (.slice bd (tr++[(pc:Int)]).length bf):=aP.cellR (k:=4) rfl;obtain⟨au,aU,a6⟩:=zH3 aP ((aJ.o.trans aK.o).trans K) ab;clear aP K ab;go_roundw
       case rel=>exact⟨rfl,R.2,tr++[(pc:Int)],by rw[Jh,JJ];omega,⟨aX,_,_,_,_,by rw[←HV.o];exact au.o,a1.o,a5.o⟩,bc.o,by rw[Jh,JJ];exact a0.o,aU.o⟩
       case measure=>rw[a6.o,aB.o];show am-(tr++[(pc:Int)]).length<am-tr.length;rw[Jh,JJ];exact bu.o
     ·have h1:((R.1:Int) != 0)=true:=by rw[bne_iff_ne];omega
      obtain⟨c,hc⟩:=H R.1
      have HD:=O (show(dG E am bF).1=c by
       have:=z.o;rw[pS u (by rw[B.o];exact h0),B.o]at this;rw[←this,hc])
      rw[←hc]at h1 aY;have cG:=O (show ¬c=0 by rw[hc];exact h0);clear hc h0;go_wp2_with fail;go_region_law (refine aN rfl F0 #[p_ N,.int .u8 y.toNat] yzc aY.o ?_;rintro r w7⟨rfl,-,aH⟩;have aK:=O aH;clear aH)
      all_goals
       (try simp only[JM,Jd,Jm])
       (try go_frame)
       go_wp2_with fail;go_ret;rw[HD.o];exact⟨rfl,fun h0=>absurd h0 cG.o,aJ.o.trans aK.o⟩
  ·have i4:¬(pc:Int)<E.code.length:=Y
   have HD:=O (show dG E am bF=(0,⟨pc,st,rg,op,W⟩) by rw[←d.o];exact pR _ _ u);have b1:=O (show(pc:Int)=(E.code.length:Int) by omega);go_wp2_with fail;go_quiet (fail);go_wp2_with fail;go_ret;have D:Bw_ wr (wr.drewN nq):=II _ _;rw[HD.o];refine⟨rfl,fun _=>⟨tr,bL.o,ad,ar,an,J,.slice ta tr.length tc,?_,ae.o,bA.o⟩,HB.o.trans (D.mono HM.o.size)⟩;rw[←b1.o];exact HM.o.below D
end